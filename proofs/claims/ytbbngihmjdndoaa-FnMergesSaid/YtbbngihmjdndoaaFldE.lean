/-
  Proved: the contracts of EncodeRecord, of the program and of the reference. Conditions: the slices read as lists.
  By an AI agent; no person has read it.
-/
import Derived.Test.YtbbngihmjdndoaaFldI
import Derived.Test.YtbbngihmjdndoaaRecP
import Derived.Test.YtbbngihmjdndoaaStepS
namespace Go.Proofs.Ytbbngihmjdndoaa
open Go.RowKit

/-- The encoding of the first k fields. -/
def encFK (l : List Fld) (k : Nat) : List UInt8 := (l.take k).foldl encF1 (appU [] (l.length : Int))
theorem encFK_snoc {l : List Fld} {k : Nat} {s : ByteArray} {x : Int} (hx : l[k]? = some (s, x)) : encFK l (k + 1) = appU (appB (encFK l k) s.data.toList) x := by
  unfold encFK
  rw [take_snoc hx, List.foldl_append]
  rfl
theorem encFK_all (l : List Fld) : encFK l l.length = encG l := by
  unfold encFK
  rw [List.take_length]
  rfl
theorem encFK_len {l : List Fld} (h : ∀ f ∈ l, f.1.size ≤ 8) (k : Nat) : (encFK l k).length ≤ 6 + 20 * k := by
  induction k with
  | zero => exact appU_len [] _
  | succ k ih =>
    cases hx : l[k]? with
    | none =>
      have : l.take (k + 1) = l.take k := by
        have := List.getElem?_eq_none_iff.1 hx
        rw [List.take_of_length_le (by omega), List.take_of_length_le (by omega)]
      unfold encFK at ih ⊢
      rw [this]
      omega
    | some f =>
      obtain ⟨s, x⟩ := f
      rw [encFK_snoc hx]
      have h1 := appU_len (appB (encFK l k) s.data.toList) x
      have h2 := appB_len (encFK l k) s.data.toList
      have h3 := h _ (List.mem_of_getElem? hx)
      rw [str_len'] at h2
      simp only at h3
      omega
theorem own_nilB {w : World} {base : Nat} {e : TypeId} : w.ownsRow base e 1 (.slice none 0 0) 0 (([] : List UInt8).map bv) := ⟨by simp, .inl ⟨rfl, rfl⟩⟩

set_option maxRecDepth 100000 in
set_option maxHeartbeats 1000000 in
theorem implEncodeRecord_any (A : Option Addr) (n c : Nat) (l : List Fld) (w : World) (hn : n ≤ 1099511627776) (ha : Rd w 2 A n (fl l)) (hok : okF l) :
    Calls Try.prog 42 #[.agg #[.slice A n c]] w (MkB w (encR l)) := by
  have LX := Lib.hid ha.lenF
  cases hr : recB l
  · have HR := Lib.hid hr
    have HE := Lib.hid (encR_no hr)
    clear hr
    go_enter Try.func42, Try.ntmps42
    go_wp2_with fail
    refine (implIsRecord_any A n c l false _ (by unfold maxLen; omega) (ha.alloc _) hok HR.out.symm).mono ?_
    rintro e w1 ⟨rfl, b1⟩
    have B1 : Below w.heap.size w w1 := Below.trans (al (Below.refl _ _)) (b1.mono (by simp))
    have B2 := Lib.hid (al (o := .cells #[] 5) B1)
    have O2 := Lib.hid (own_base (own_new (w := w1) (e := 5) (base := w1.heap.size) (size := 1) (Nat.le_refl _)) B1.size)
    go_wp2
    go_ret
    exact ⟨_, _, _, rfl, by rw [HE.out]; exact O2.out, B2.out⟩
  · have HR := Lib.hid hr
    have HE : Hid (encR l = encG l) := by
      have : encR l = encG l := by unfold encR; rw [hr]; rfl
      exact Lib.hid this
    have h6 : n ≤ 6 := by have := recB_len hr; have := LX.out; omega
    have H8 : Hid (∀ f ∈ l, f.1.size ≤ 8) := Lib.hid (fun f hf => by have := nameB_len ((recB_iff.1 hr).2.1 f hf).1; rw [str_len'] at this; omega)
    clear hr
    go_enter Try.func42, Try.ntmps42
    go_wp2_with fail
    refine (implIsRecord_any A n c l true _ (by unfold maxLen; omega) (ha.alloc _) hok HR.out.symm).mono ?_
    rintro e w1 ⟨rfl, b1⟩
    have B1 : Below w.heap.size w w1 := Below.trans (al (Below.refl _ _)) (b1.mono (by simp))
    have d0 : w1.cell? ⟨w.heap.size, 0, none⟩ = some (.slice A n c) := kcell b1 (by simp)
    go_wp2_with fail
    refine (implAppendUvarint_any none 0 0 [] (n : Int) _ (by omega) (Rd.of_own (own_nilB (base := 0) (e := 5)))).mono ?_
    rintro e w2 ⟨A2, n2, c2, rfl, o2, b2⟩
    have B2 := B1.trans (b2.mono B1.size)
    replace d0 := kcell b2 d0
    have O2 := Lib.hid (own_base o2 B1.size)
    clear o2 b1 b2
    go_wp2
    go_loopw [3, 5, 17] (fun v _ i wr => ∃ (k : Nat) (B : Option Addr) (m d : Nat), k ≤ n ∧ i = .int .i64 k ∧ v = .slice B m d ∧ wr.ownsRow w.heap.size 5 1 (.slice B m d) m ((encFK l k).map bv) ∧ Below w.heap.size w wr) (fun _ _ i _ => n - (intOf i).toNat)
    case atStart => exact ⟨0, _, _, _, Nat.zero_le _, rfl, rfl, by (have := O2.out; unfold encFK; rw [LX.out]; exact this), B2⟩
    case round =>
      obtain ⟨k, B, m, d, hk, rfl, rfl, ho, hbel⟩ := hrel
      clear B2 B1 d0
      by_cases hlt : k < n
      · obtain ⟨b, o, s, x, rfl, _hb1, hx, hc0, hc1⟩ := (ha.below hbel).fld hlt
        have i0 : (0 : Int) ≤ (k : Int) := by omega
        have i1 : (k : Int) < (n : Int) := by omega
        have hs8 : s.size ≤ 8 := H8.out _ (List.mem_of_getElem? hx)
        have hm : m ≤ 6 + 20 * k := by have := own_lenB ho; have := encFK_len H8.out k; omega
        have HX := Lib.hid (encFK_snoc hx)
        clear hx
        have hB1 : Below wr.heap.size wr (wr.alloc (.cells #[.string s, .int .i64 x] 91)) := al (Below.refl _ _)
        have hf0 : (wr.alloc (.cells #[.string s, .int .i64 x] 91)).cell? ⟨wr.heap.size, 0, none⟩ = some (.string s) := by simp
        have hf1 : (wr.alloc (.cells #[.string s, .int .i64 x] 91)).cell? ⟨wr.heap.size, 1, none⟩ = some (.int .i64 x) := by simp
        go_wp2
        refine wp_region_held_drew (S := fun W => Below wr.heap.size wr W ∧ W.cell? ⟨wr.heap.size, 0, none⟩ = some (.string s) ∧ W.cell? ⟨wr.heap.size, 1, none⟩ = some (.int .i64 x)) (by kernel_rfl) ?_ (fun hHeld => ?_)
        · exact ⟨hB1.drew, hf0, hf1⟩
        refine takeD (i := 0) (d := some 21) (v := ?_) _ rfl rfl (by kernel_rfl) (by kernel_rfl) (by kernel_rfl) (fun _ _ _ h => h) (Or.inl ⟨by rfl, ?_⟩) (by assumption) ?_
        rotate_left
        · (intro W hSw; (try dsimp only at hSw); go_simp; try with_reducible rfl)
        try simp only [Act.put, List.setIfInBounds_toArray, List.set_cons_zero, List.set_cons_succ]
        refine takeD (i := 1) (d := some 22) (v := ?_) _ rfl rfl (by kernel_rfl) (by kernel_rfl) (by kernel_rfl) (fun _ _ _ h => h) (Or.inl ⟨by rfl, ?_⟩) (by assumption) ?_
        rotate_left
        · (intro W hSw; (try dsimp only at hSw); go_simp; try with_reducible rfl)
        try simp only [Act.put, List.setIfInBounds_toArray, List.set_cons_zero, List.set_cons_succ]
        refine takeD (i := 2) (d := some 23) (v := ?_) _ rfl rfl (by kernel_rfl) (by kernel_rfl) (by kernel_rfl) (fun _ _ _ h => h) (Or.inl ⟨by rfl, ?_⟩) (by assumption) ?_
        rotate_left
        · (intro W hSw; (try dsimp only at hSw); go_simp; try with_reducible rfl)
        try simp only [Act.put, List.setIfInBounds_toArray, List.set_cons_zero, List.set_cons_succ]
        refine takeD (i := 5) (d := some 26) (v := ?_) _ rfl rfl (by kernel_rfl) (by kernel_rfl) (by kernel_rfl) (fun _ _ _ h => h) (Or.inl ⟨by rfl, ?_⟩) (by assumption) ?_
        rotate_left
        · (intro W hSw; (try dsimp only at hSw); go_simp; try with_reducible rfl)
        try simp only [Act.put, List.setIfInBounds_toArray, List.set_cons_zero, List.set_cons_succ]
        refine takeD (i := 6) (d := some 27) (v := ?_) _ rfl rfl (by kernel_rfl) (by kernel_rfl) (by kernel_rfl) (fun _ _ _ h => h) (Or.inl ⟨by rfl, ?_⟩) (by assumption) ?_
        rotate_left
        · (intro W hSw; (try dsimp only at hSw); go_simp; try with_reducible rfl)
        try simp only [Act.put, List.setIfInBounds_toArray, List.set_cons_zero, List.set_cons_succ]
        refine wpAnyH_ready (rs := [3]) (by kernel_rfl) (by simp) ?_
        refine AllReadyH.cons rfl (fun K hK => ?_) AllReadyH.nil
        refine step_sb (by rfl) (some 24) 9 58 5 _ s (by rfl) (by rfl) (by rfl) Try.underlying9 Try.underlying58 Try.underlying5 ?_; intro g cap W0 hq hrd
        refine hK.out _ _ ?_ (fun hHeld3 => ?_)
        · try dsimp only
          first | assumption | (refine sz2 ?_ hq rfl; assumption)
        clear hK K
        try simp only [Act.put, List.setIfInBounds_toArray, List.set_cons_zero, List.set_cons_succ]
        refine wpAnyH_ready (rs := [4]) (by kernel_rfl) (by simp) ?_
        refine AllReadyH.cons rfl (fun K hK => ?_) AllReadyH.nil
        go_simp
        refine (implAppendBytes_any B _ m s.size d _ (encFK l k) s.data.toList _ (by omega) (by omega) ((Rd.of_own ho).below (And.left hHeld3)) hrd).mono ?_; rintro e W1 ⟨A3, n3, c3, rfl, oB, hq⟩
        try go_wp2_with fail
        refine hK.out _ _ ?_ (fun hHeld4 => ?_)
        · try dsimp only
          first | assumption | (refine sz2 ?_ hq rfl; assumption)
        clear hK K
        try simp only [Act.put, List.setIfInBounds_toArray, List.set_cons_zero, List.set_cons_succ]
        refine wpAnyH_ready (rs := [7]) (by kernel_rfl) (by simp) ?_
        refine AllReadyH.cons rfl (fun K hK => ?_) AllReadyH.nil
        go_simp
        have hn3 : n3 ≤ 1000 := by (have h1 := own_lenB oB; have h2 := appB_len (encFK l k) s.data.toList; rw [str_len'] at h2; have h3 := own_lenB ho; omega)
        refine (implAppendUvarint_any A3 n3 c3 (appB (encFK l k) s.data.toList) x _ (by omega) (Rd.of_own oB)).mono ?_; rintro e W2 ⟨A4, n4, c4, rfl, oU, hq⟩
        try go_wp2_with fail
        refine hK.out _ _ ?_ (fun hHeld7 => ?_)
        · try dsimp only
          first | assumption | (refine sz2 ?_ hq rfl; assumption)
        clear hK K
        try simp only [Act.put, List.setIfInBounds_toArray, List.set_cons_zero, List.set_cons_succ]
        refine takeD (i := 8) (d := some 3) (v := ?_) _ rfl rfl (by kernel_rfl) (by kernel_rfl) (by kernel_rfl) (fun _ _ _ h => h) (Or.inl ⟨by rfl, ?_⟩) (by assumption) ?_
        rotate_left
        · (intro W hSw; (try dsimp only at hSw); go_simp; try with_reducible rfl)
        try simp only [Act.put, List.setIfInBounds_toArray, List.set_cons_zero, List.set_cons_succ]
        refine wpAnyH_done (by kernel_rfl) ?_ _
        have BZ := Lib.hid (hbel.trans (hHeld7.1.mono hbel.size))
        have OZ : Hid (W2.ownsRow w.heap.size 5 1 (.slice A4 n4 c4) n4 ((encFK l (k + 1)).map bv)) := by
          rw [HX.out]
          exact Lib.hid (own_base oU (Nat.le_trans hbel.size hHeld4.1.size))
        
        clear ho oB oU hHeld hHeld3 hHeld4 hrd
        go_wp2
        go_roundw
        case rel => exact ⟨k + 1, _, _, _, by omega, by go_num, rfl, OZ.out, BZ.out⟩
        case measure => simp [intOf]; omega
      · obtain rfl : k = n := by omega
        have OZ : Hid (wr.ownsRow w.heap.size 5 1 (.slice B m d) m ((encR l).map bv)) := by
          rw [HE.out, ← encFK_all, LX.out]
          exact Lib.hid ho
        clear ho
        go_wp2
        go_ret
        exact ⟨_, _, _, rfl, OZ.out, hbel⟩

set_option maxRecDepth 100000 in
set_option maxHeartbeats 1000000 in
theorem specEncodeRecord_any (A : Option Addr) (n c : Nat) (l : List Fld) (w : World) (hn : n ≤ 1099511627776) (ha : Rd w 2 A n (fl l)) (hok : okF l) :
    Calls Try.prog 41 #[.agg #[.slice A n c]] w (MkB w (encR l)) := by
  have LX := Lib.hid ha.lenF
  cases hr : recB l
  · have HR := Lib.hid hr
    have HE := Lib.hid (encR_no hr)
    clear hr
    go_enter Try.func41, Try.ntmps41
    go_wp2_with fail
    refine (specIsRecord_any A n c l false _ (by unfold maxLen; omega) (ha.alloc _) hok HR.out.symm).mono ?_
    rintro e w1 ⟨rfl, b1⟩
    have B1 : Below w.heap.size w w1 := Below.trans (al (Below.refl _ _)) (b1.mono (by simp))
    have B2 := Lib.hid (al (o := .cells #[] 5) B1)
    have O2 := Lib.hid (own_base (own_new (w := w1) (e := 5) (base := w1.heap.size) (size := 1) (Nat.le_refl _)) B1.size)
    go_wp2
    go_ret
    exact ⟨_, _, _, rfl, by rw [HE.out]; exact O2.out, B2.out⟩
  · have HR := Lib.hid hr
    have HE : Hid (encR l = encG l) := by
      have : encR l = encG l := by unfold encR; rw [hr]; rfl
      exact Lib.hid this
    have h6 : n ≤ 6 := by have := recB_len hr; have := LX.out; omega
    have H8 : Hid (∀ f ∈ l, f.1.size ≤ 8) := Lib.hid (fun f hf => by have := nameB_len ((recB_iff.1 hr).2.1 f hf).1; rw [str_len'] at this; omega)
    clear hr
    go_enter Try.func41, Try.ntmps41
    go_wp2_with fail
    refine (specIsRecord_any A n c l true _ (by unfold maxLen; omega) (ha.alloc _) hok HR.out.symm).mono ?_
    rintro e w1 ⟨rfl, b1⟩
    have B1 : Below w.heap.size w w1 := Below.trans (al (Below.refl _ _)) (b1.mono (by simp))
    have d0 : w1.cell? ⟨w.heap.size, 0, none⟩ = some (.slice A n c) := kcell b1 (by simp)
    have d0' : (w1.alloc (.cells #[] 5)).cell? ⟨w.heap.size, 0, none⟩ = some (.slice A n c) := kcell (al (Below.refl _ _)) d0
    go_wp2_with fail
    refine (specAppendUvarint_any (some ⟨w1.heap.size, 0, none⟩) 0 0 [] (n : Int) _ (by omega) (Rd.of_own (own_new (base := 0) (e := 5) (Nat.zero_le _)))).mono ?_
    rintro e w2 ⟨A2, n2, c2, rfl, o2, b2⟩
    have B2 : Below w.heap.size w w2 := Below.trans (al B1) (b2.mono (by have := B1.size; simp; omega))
    replace d0 := kcell b2 d0'
    clear d0'
    have O2 := Lib.hid (own_base o2 (by have := B1.size; simp; omega : w.heap.size ≤ _))
    clear o2 b1 b2
    go_wp2
    go_loopw [3, 4] (fun v i wr => ∃ (k : Nat) (B : Option Addr) (m d : Nat), k ≤ n ∧ i = .int .i64 k ∧ v = .slice B m d ∧ wr.ownsRow w.heap.size 5 1 (.slice B m d) m ((encFK l k).map bv) ∧ Below w.heap.size w wr ∧ wr.cell? ⟨w.heap.size, 0, none⟩ = some (.slice A n c)) (fun _ i _ => n - (intOf i).toNat)
    case atStart => exact ⟨0, _, _, _, Nat.zero_le _, rfl, rfl, by (have := O2.out; unfold encFK; rw [LX.out]; exact this), B2, d0⟩
    case round =>
      obtain ⟨k, B, m, d, hk, rfl, rfl, ho, hbel, hp0⟩ := hrel
      clear B2 B1 d0
      by_cases hlt : k < n
      · obtain ⟨b, o, s, x, rfl, _hb1, hx, hc0, hc1⟩ := (ha.below hbel).fld hlt
        have i0 : (0 : Int) ≤ (k : Int) := by omega
        have i1 : (k : Int) < (n : Int) := by omega
        have hs8 : s.size ≤ 8 := H8.out _ (List.mem_of_getElem? hx)
        have hm : m ≤ 6 + 20 * k := by have := own_lenB ho; have := encFK_len H8.out k; omega
        have HX := Lib.hid (encFK_snoc hx)
        clear hx
        go_wp2
        refine wp_region_held_drew (S := fun W => Below wr.heap.size wr W ∧ W.cell? ⟨w.heap.size, 0, none⟩ = some (.slice (some ⟨b, o, none⟩) n c) ∧ W.cell? ⟨b, o + k * 2, none⟩ = some (.string s) ∧ W.cell? ⟨b, o + k * 2 + 1, none⟩ = some (.int .i64 x)) (by kernel_rfl) ?_ (fun hHeld => ?_)
        · exact ⟨(Below.refl _ _).drew, hp0, hc0, hc1⟩
        refine takeD (i := 0) (d := some 21) (v := ?_) _ rfl rfl (by kernel_rfl) (by kernel_rfl) (by kernel_rfl) (fun _ _ _ h => h) (Or.inl ⟨by rfl, ?_⟩) (by assumption) ?_
        rotate_left
        · (intro W hSw; (try dsimp only at hSw); go_simp; try with_reducible rfl)
        try simp only [Act.put, List.setIfInBounds_toArray, List.set_cons_zero, List.set_cons_succ]
        refine takeD (i := 1) (d := some 22) (v := ?_) _ rfl rfl (by kernel_rfl) (by kernel_rfl) (by kernel_rfl) (fun _ _ _ h => h) (Or.inl ⟨by rfl, ?_⟩) (by assumption) ?_
        rotate_left
        · (intro W hSw; (try dsimp only at hSw); go_simp; try with_reducible rfl)
        try simp only [Act.put, List.setIfInBounds_toArray, List.set_cons_zero, List.set_cons_succ]
        refine takeD (i := 2) (d := some 23) (v := ?_) _ rfl rfl (by kernel_rfl) (by kernel_rfl) (by kernel_rfl) (fun _ _ _ h => h) (Or.inl ⟨by rfl, ?_⟩) (by assumption) ?_
        rotate_left
        · (intro W hSw; (try dsimp only at hSw); go_simp; try with_reducible rfl)
        try simp only [Act.put, List.setIfInBounds_toArray, List.set_cons_zero, List.set_cons_succ]
        refine takeD (i := 3) (d := some 24) (v := ?_) _ rfl rfl (by kernel_rfl) (by kernel_rfl) (by kernel_rfl) (fun _ _ _ h => h) (Or.inl ⟨by rfl, ?_⟩) (by assumption) ?_
        rotate_left
        · (intro W hSw; (try dsimp only at hSw); go_simp; try with_reducible rfl)
        try simp only [Act.put, List.setIfInBounds_toArray, List.set_cons_zero, List.set_cons_succ]
        refine takeD (i := 4) (d := some 25) (v := ?_) _ rfl rfl (by kernel_rfl) (by kernel_rfl) (by kernel_rfl) (fun _ _ _ h => h) (Or.inl ⟨by rfl, ?_⟩) (by assumption) ?_
        rotate_left
        · (intro W hSw; (try dsimp only at hSw); go_simp; try with_reducible rfl)
        try simp only [Act.put, List.setIfInBounds_toArray, List.set_cons_zero, List.set_cons_succ]
        refine takeD (i := 5) (d := some 26) (v := ?_) _ rfl rfl (by kernel_rfl) (by kernel_rfl) (by kernel_rfl) (fun _ _ _ h => h) (Or.inl ⟨by rfl, ?_⟩) (by assumption) ?_
        rotate_left
        · (intro W hSw; (try dsimp only at hSw); go_simp; try with_reducible rfl)
        try simp only [Act.put, List.setIfInBounds_toArray, List.set_cons_zero, List.set_cons_succ]
        refine takeD (i := 6) (d := some 27) (v := ?_) _ rfl rfl (by kernel_rfl) (by kernel_rfl) (by kernel_rfl) (fun _ _ _ h => h) (Or.inl ⟨by rfl, ?_⟩) (by assumption) ?_
        rotate_left
        · (intro W hSw; (try dsimp only at hSw); go_simp; try with_reducible rfl)
        try simp only [Act.put, List.setIfInBounds_toArray, List.set_cons_zero, List.set_cons_succ]
        refine takeD (i := 9) (d := some 30) (v := ?_) _ rfl rfl (by kernel_rfl) (by kernel_rfl) (by kernel_rfl) (fun _ _ _ h => h) (Or.inl ⟨by rfl, ?_⟩) (by assumption) ?_
        rotate_left
        · (intro W hSw; (try dsimp only at hSw); go_simp; try with_reducible rfl)
        try simp only [Act.put, List.setIfInBounds_toArray, List.set_cons_zero, List.set_cons_succ]
        refine takeD (i := 10) (d := some 31) (v := ?_) _ rfl rfl (by kernel_rfl) (by kernel_rfl) (by kernel_rfl) (fun _ _ _ h => h) (Or.inl ⟨by rfl, ?_⟩) (by assumption) ?_
        rotate_left
        · (intro W hSw; (try dsimp only at hSw); go_simp; try with_reducible rfl)
        try simp only [Act.put, List.setIfInBounds_toArray, List.set_cons_zero, List.set_cons_succ]
        refine takeD (i := 11) (d := some 32) (v := ?_) _ rfl rfl (by kernel_rfl) (by kernel_rfl) (by kernel_rfl) (fun _ _ _ h => h) (Or.inl ⟨by rfl, ?_⟩) (by assumption) ?_
        rotate_left
        · (intro W hSw; (try dsimp only at hSw); go_simp; try with_reducible rfl)
        try simp only [Act.put, List.setIfInBounds_toArray, List.set_cons_zero, List.set_cons_succ]
        refine takeD (i := 12) (d := some 33) (v := ?_) _ rfl rfl (by kernel_rfl) (by kernel_rfl) (by kernel_rfl) (fun _ _ _ h => h) (Or.inl ⟨by rfl, ?_⟩) (by assumption) ?_
        rotate_left
        · (intro W hSw; (try dsimp only at hSw); go_simp; try with_reducible rfl)
        try simp only [Act.put, List.setIfInBounds_toArray, List.set_cons_zero, List.set_cons_succ]
        refine takeD (i := 13) (d := some 34) (v := ?_) _ rfl rfl (by kernel_rfl) (by kernel_rfl) (by kernel_rfl) (fun _ _ _ h => h) (Or.inl ⟨by rfl, ?_⟩) (by assumption) ?_
        rotate_left
        · (intro W hSw; (try dsimp only at hSw); go_simp; try with_reducible rfl)
        try simp only [Act.put, List.setIfInBounds_toArray, List.set_cons_zero, List.set_cons_succ]
        refine takeD (i := 14) (d := some 35) (v := ?_) _ rfl rfl (by kernel_rfl) (by kernel_rfl) (by kernel_rfl) (fun _ _ _ h => h) (Or.inl ⟨by rfl, ?_⟩) (by assumption) ?_
        rotate_left
        · (intro W hSw; (try dsimp only at hSw); go_simp; try with_reducible rfl)
        try simp only [Act.put, List.setIfInBounds_toArray, List.set_cons_zero, List.set_cons_succ]
        refine wpAnyH_ready (rs := [7]) (by kernel_rfl) (by simp) ?_
        refine AllReadyH.cons rfl (fun K hK => ?_) AllReadyH.nil
        refine step_sb (by rfl) (some 28) 9 58 5 _ s (by rfl) (by rfl) (by rfl) Try.underlying9 Try.underlying58 Try.underlying5 ?_; intro g cap W0 hq hrd
        refine hK.out _ _ ?_ (fun hHeld7 => ?_)
        · try dsimp only
          first | assumption | (refine sz3 ?_ hq rfl; assumption)
        clear hK K
        try simp only [Act.put, List.setIfInBounds_toArray, List.set_cons_zero, List.set_cons_succ]
        refine wpAnyH_ready (rs := [8]) (by kernel_rfl) (by simp) ?_
        refine AllReadyH.cons rfl (fun K hK => ?_) AllReadyH.nil
        go_simp
        refine (specAppendBytes_any B _ m s.size d _ (encFK l k) s.data.toList _ (by omega) (by omega) ((Rd.of_own ho).below (And.left hHeld7)) hrd).mono ?_; rintro e W1 ⟨A3, n3, c3, rfl, oB, hq⟩
        try go_wp2_with fail
        refine hK.out _ _ ?_ (fun hHeld8 => ?_)
        · try dsimp only
          first | assumption | (refine sz3 ?_ hq rfl; assumption)
        clear hK K
        try simp only [Act.put, List.setIfInBounds_toArray, List.set_cons_zero, List.set_cons_succ]
        refine wpAnyH_ready (rs := [15]) (by kernel_rfl) (by simp) ?_
        refine AllReadyH.cons rfl (fun K hK => ?_) AllReadyH.nil
        go_simp
        have hn3 : n3 ≤ 1000 := by (have h1 := own_lenB oB; have h2 := appB_len (encFK l k) s.data.toList; rw [str_len'] at h2; have h3 := own_lenB ho; omega)
        refine (specAppendUvarint_any A3 n3 c3 (appB (encFK l k) s.data.toList) x _ (by omega) (Rd.of_own oB)).mono ?_; rintro e W2 ⟨A4, n4, c4, rfl, oU, hq⟩
        try go_wp2_with fail
        refine hK.out _ _ ?_ (fun hHeld15 => ?_)
        · try dsimp only
          first | assumption | (refine sz3 ?_ hq rfl; assumption)
        clear hK K
        try simp only [Act.put, List.setIfInBounds_toArray, List.set_cons_zero, List.set_cons_succ]
        refine takeD (i := 16) (d := some 3) (v := ?_) _ rfl rfl (by kernel_rfl) (by kernel_rfl) (by kernel_rfl) (fun _ _ _ h => h) (Or.inl ⟨by rfl, ?_⟩) (by assumption) ?_
        rotate_left
        · (intro W hSw; (try dsimp only at hSw); go_simp; try with_reducible rfl)
        try simp only [Act.put, List.setIfInBounds_toArray, List.set_cons_zero, List.set_cons_succ]
        refine wpAnyH_done (by kernel_rfl) ?_ _
        have BZ := Lib.hid (hbel.trans (hHeld15.1.mono hbel.size))
        have OZ : Hid (W2.ownsRow w.heap.size 5 1 (.slice A4 n4 c4) n4 ((encFK l (k + 1)).map bv)) := by
          rw [HX.out]
          exact Lib.hid (own_base oU (Nat.le_trans hbel.size hHeld8.1.size))
        have dZ := hHeld15.2.1
        clear ho oB oU hHeld hHeld7 hHeld8 hrd
        go_wp2
        go_roundw
        case rel => exact ⟨k + 1, _, _, _, by omega, by go_num, rfl, OZ.out, BZ.out, dZ⟩
        case measure => simp [intOf]; omega
      · obtain rfl : k = n := by omega
        have OZ : Hid (wr.ownsRow w.heap.size 5 1 (.slice B m d) m ((encR l).map bv)) := by
          rw [HE.out, ← encFK_all, LX.out]
          exact Lib.hid ho
        clear ho
        go_wp2
        go_ret
        exact ⟨_, _, _, rfl, OZ.out, hbel⟩

theorem encR_len (l : List Fld) : (encR l).length ≤ 2097152 := by
  unfold encR
  cases hr : recB l
  · simp
  · have h6 := recB_len hr
    have := encFK_len (l := l) (fun f hf => by have := nameB_len ((recB_iff.1 hr).2.1 f hf).1; rw [str_len'] at this; omega) l.length
    rw [encFK_all] at this
    simp only [if_true]
    omega
end Go.Proofs.Ytbbngihmjdndoaa
