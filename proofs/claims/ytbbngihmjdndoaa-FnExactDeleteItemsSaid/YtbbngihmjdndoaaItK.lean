/-
  Proved: the contracts of the copies of a store, of the program and of the reference. Conditions: the slices read as lists.
  By an AI agent; no person has read it.
-/
import Derived.Test.YtbbngihmjdndoaaItI
import Derived.Test.YtbbngihmjdndoaaCatR
namespace Go.Proofs.Ytbbngihmjdndoaa
open Go.RowKit
set_option linter.unusedSimpArgs false
set_option linter.unusedVariables false

theorem ne_some {a b : Nat} (h : a ≠ b) : some a ≠ some b := fun e => h (by injection e)
theorem gcellI {W0 wr : World} {G b o : Nat} {v : Value} (hg : W0.grownBy wr (some G)) (h : W0.cell? ⟨b, o, none⟩ = some v) (hne : b ≠ G) : wr.cell? ⟨b, o, none⟩ = some v := hg.cell h (ne_some hne)
theorem grown_belowI {W0 U w5 : World} {r : Option Nat} (h : W0.grownBy U r) (hb : Below W0.heap.size U w5) : W0.grownBy w5 r :=
  ⟨hb.os.trans h.os, hb.tape.trans h.tape, hb.output.trans h.output, Nat.le_trans h.size hb.size, fun k hk hne => (hb.block k hk).trans (h.block k hk hne)⟩
theorem grown_setI {W0 w5 : World} {G : Nat} (h : W0.grownBy w5 (some G)) (o : Nat) (v : Value) : W0.grownBy (w5.setCell ⟨G, o, none⟩ v) (some G) :=
  ⟨h.os, h.tape, h.output, by simpa [World.setCell] using h.size, fun k hk hne => (Below.heap_setCell _ _ _ _ (fun e => hne (by rw [e]))).trans (h.block k hk hne)⟩
theorem below_grownI {b0 G : Nat} {w W0 wr : World} (hB : Below b0 w W0) (hg : W0.grownBy wr (some G)) (h1 : b0 ≤ W0.heap.size) (h2 : b0 ≤ G) : Below b0 w wr :=
  ⟨hg.os.trans hB.os, hg.tape.trans hB.tape, hg.output.trans hB.output, Nat.le_trans hB.size hg.size, fun k hk => (hg.block k (by omega) (fun e => by injection e with e; omega)).trans (hB.block k hk)⟩
theorem grownFroz {w w' : World} {r : Option Nat} {b o : Nat} (hg : w.grownBy w' r) (hlt : b < w.heap.size) (hne : some b ≠ r) : w'.frozen? ⟨b, o, none⟩ = w.frozen? ⟨b, o, none⟩ := World.frozen?_of_block (hg.block b hlt hne)
theorem OwnI.none_ {w : World} {base : Nat} : OwnI w base none 0 0 [] := OwnI.nil_ ⟨rfl, .inl ⟨rfl, rfl⟩⟩

set_option maxRecDepth 100000 in
set_option maxHeartbeats 8000000 in
theorem copyStore_any (s : ByteArray) (A : Option Addr) (n c : Nat) (au : Int) (l : List Itm) (w : World) (hn : n ≤ 1048576) (hm : ∀ x ∈ l, x.m ≤ 1099511627776) (ha : RdI w A n l) :
    Calls Try.prog 125 #[.agg #[.string s, .slice A n c, .int .i64 au]] w (MkSt w s (l.map Itm.l) au) := by
  obtain ⟨i0, hi, hz0, hz1, hz2⟩ := info_parts infoIt
  have la := Lib.hid ha.lenI
  obtain ⟨W0, hW0⟩ : ∃ W, W = ((w.alloc (.cells #[.string s, .slice A n c, .int .i64 au] 52)).alloc (.cells #[.string ⟨#[]⟩, .slice none 0 0, .int .i64 0] 52)).alloc (.cells #[.string s, .slice none 0 0, .int .i64 au] 52) := ⟨_, rfl⟩
  have hz : W0.heap.size = w.heap.size + 1 + 1 + 1 := by rw [hW0]; simp
  have B0 : Below w.heap.size w W0 := by rw [hW0]; exact al (al (al (Below.refl _ _)))
  have p1 : W0.cell? ⟨w.heap.size, 1, none⟩ = some (.slice A n c) := by rw [hW0]; simp [go_sem]
  have r0 : W0.cell? ⟨w.heap.size + 1, 0, none⟩ = some (.string ⟨#[]⟩) := by rw [hW0]; simp [go_sem]
  have r1 : W0.cell? ⟨w.heap.size + 1, 1, none⟩ = some (.slice none 0 0) := by rw [hW0]; simp [go_sem]
  have r2 : W0.cell? ⟨w.heap.size + 1, 2, none⟩ = some (.int .i64 0) := by rw [hW0]; simp [go_sem]
  have fr : ∀ j, W0.frozen? ⟨w.heap.size + 1, j, none⟩ = false := fun j => by rw [hW0]; simp [go_sem]
  have o0 : W0.cell? ⟨w.heap.size + 1 + 1, 0, none⟩ = some (.string s) := by rw [hW0]; simp [go_sem]
  have o1 : W0.cell? ⟨w.heap.size + 1 + 1, 1, none⟩ = some (.slice none 0 0) := by rw [hW0]; simp [go_sem]
  have o2 : W0.cell? ⟨w.heap.size + 1 + 1, 2, none⟩ = some (.int .i64 au) := by rw [hW0]; simp [go_sem]
  have fo : ∀ j, W0.frozen? ⟨w.heap.size + 1 + 1, j, none⟩ = false := fun j => by rw [hW0]; simp [go_sem]
  have HZ := Lib.hid hz
  have hG : w.heap.size + 1 + 1 + 1 ≤ W0.heap.size := by omega
  have hG2 : W0.heap.size ≤ w.heap.size + 1 + 1 + 1 := by omega
  clear hz
  go_enter Try.func125, Try.ntmps125
  go_wp2
  rw [← hW0]
  clear hW0
  go_loopw [5, 14] (fun _ i wr => ∃ (k : Nat) (B : Option Addr) (m d : Nat) (ys : List Itm), k ≤ n ∧ i = .int .i64 k ∧ m ≤ k ∧ ys.map Itm.l = (l.map Itm.l).take k ∧ OwnI wr W0.heap.size B m d ys ∧ (wr.cell? ⟨w.heap.size + 1 + 1, 0, none⟩ = some (.string s) ∧ wr.cell? ⟨w.heap.size + 1 + 1, 1, none⟩ = some (.slice B m d) ∧ wr.cell? ⟨w.heap.size + 1 + 1, 2, none⟩ = some (.int .i64 au)) ∧ (∀ j, wr.frozen? ⟨w.heap.size + 1 + 1, j, none⟩ = false) ∧ W0.grownBy wr (some (w.heap.size + 1 + 1))) (fun _ i _ => n - (intOf i).toNat)
  case atStart => exact ⟨0, none, 0, 0, [], Nat.zero_le _, rfl, Nat.le_refl _, rfl, OwnI.none_, ⟨o0, o1, o2⟩, fo, World.grownBy.refl _ _⟩
  case round =>
    clear o0 o1 o2 fo
    obtain ⟨k, B, m, d, ys, hk, rfl, hmk, hys, ho, ⟨o0, o1, o2⟩, fo, hg⟩ := hrel
    have HY := Lib.hid hys
    have hbel : Below w.heap.size w wr := below_grownI B0 hg B0.size (by omega)
    have hsz : w.heap.size + 1 + 1 + 1 ≤ wr.heap.size := Nat.le_trans hG hg.size
    replace p1 := gcellI hg p1 (by omega)
    clear hys
    by_cases hlt : k < n
    · obtain ⟨b_, o_, x, rfl, _hb1, hx, hc0, hc1, hc2, hc3, hrx⟩ := (ha.below hbel).itm hlt
      have hxm := hm x (List.mem_of_getElem? hx)
      have HX := Lib.hid (map_get hx)
      have i0_ : (0 : Int) ≤ (k : Int) := by omega
      have i1_ : (k : Int) < (n : Int) := by omega
      clear hx
      have b : Below wr.heap.size wr (wr.alloc (.cells #[.int .i64 x.k, .int .i64 x.n, .string x.s, .slice x.A x.m x.c] 106)) := al (Below.refl _ _)
      have x0 : (wr.alloc (.cells #[.int .i64 x.k, .int .i64 x.n, .string x.s, .slice x.A x.m x.c] 106)).cell? ⟨wr.heap.size, 0, none⟩ = some (.int .i64 x.k) := by simp
      have x1 : (wr.alloc (.cells #[.int .i64 x.k, .int .i64 x.n, .string x.s, .slice x.A x.m x.c] 106)).cell? ⟨wr.heap.size, 1, none⟩ = some (.int .i64 x.n) := by simp
      have x2 : (wr.alloc (.cells #[.int .i64 x.k, .int .i64 x.n, .string x.s, .slice x.A x.m x.c] 106)).cell? ⟨wr.heap.size, 2, none⟩ = some (.string x.s) := by simp
      have x3 : (wr.alloc (.cells #[.int .i64 x.k, .int .i64 x.n, .string x.s, .slice x.A x.m x.c] 106)).cell? ⟨wr.heap.size, 3, none⟩ = some (.slice x.A x.m x.c) := by simp
      go_wp2
      replace hrx := hrx.below b
      replace ho := ho.below b
      replace o0 := kcell b o0
      replace o1 := kcell b o1
      replace o2 := kcell b o2
      replace fo : ∀ j, (wr.alloc (.cells #[.int .i64 x.k, .int .i64 x.n, .string x.s, .slice x.A x.m x.c] 106)).frozen? ⟨w.heap.size + 1 + 1, j, none⟩ = false := fun j => (b.frozen (p := ⟨w.heap.size + 1 + 1, j, none⟩) (by show w.heap.size + 1 + 1 < _; omega)).trans (fo j)
      replace hg := hg.trans (grown_of b _)
      replace hsz := Nat.le_trans hsz b.size
      clear b
      clear hc0 hc1 hc2 hc3
      refine wp_region_held_drew (S := fun _ => True) (by kernel_rfl) trivial (fun hHeld => ?_)
      clear hHeld
      replace ho := (show OwnI (wr.alloc (.cells #[.int .i64 x.k, .int .i64 x.n, .string x.s, .slice x.A x.m x.c] 106)).drew _ _ _ _ _ from ho)
      replace hrx := (show Rd (wr.alloc (.cells #[.int .i64 x.k, .int .i64 x.n, .string x.s, .slice x.A x.m x.c] 106)).drew _ _ _ _ from hrx)
      replace hg : World.grownBy W0 (wr.alloc (.cells #[.int .i64 x.k, .int .i64 x.n, .string x.s, .slice x.A x.m x.c] 106)).drew (some (w.heap.size + 1 + 1)) := ⟨hg.os, hg.tape, hg.output, hg.size, hg.block⟩
      replace hsz := (show _ ≤ (wr.alloc (.cells #[.int .i64 x.k, .int .i64 x.n, .string x.s, .slice x.A x.m x.c] 106)).drew.heap.size from hsz)
      replace fo := (show ∀ j, (wr.alloc (.cells #[.int .i64 x.k, .int .i64 x.n, .string x.s, .slice x.A x.m x.c] 106)).drew.frozen? ⟨w.heap.size + 1 + 1, j, none⟩ = _ from fo)
      replace o0 := (show (wr.alloc (.cells #[.int .i64 x.k, .int .i64 x.n, .string x.s, .slice x.A x.m x.c] 106)).drew.cell? ⟨w.heap.size + 1 + 1, 0, none⟩ = _ from o0)
      replace o1 := (show (wr.alloc (.cells #[.int .i64 x.k, .int .i64 x.n, .string x.s, .slice x.A x.m x.c] 106)).drew.cell? ⟨w.heap.size + 1 + 1, 1, none⟩ = _ from o1)
      replace o2 := (show (wr.alloc (.cells #[.int .i64 x.k, .int .i64 x.n, .string x.s, .slice x.A x.m x.c] 106)).drew.cell? ⟨w.heap.size + 1 + 1, 2, none⟩ = _ from o2)
      replace x0 := (show (wr.alloc (.cells #[.int .i64 x.k, .int .i64 x.n, .string x.s, .slice x.A x.m x.c] 106)).drew.cell? ⟨wr.heap.size, 0, none⟩ = _ from x0)
      replace x1 := (show (wr.alloc (.cells #[.int .i64 x.k, .int .i64 x.n, .string x.s, .slice x.A x.m x.c] 106)).drew.cell? ⟨wr.heap.size, 1, none⟩ = _ from x1)
      replace x2 := (show (wr.alloc (.cells #[.int .i64 x.k, .int .i64 x.n, .string x.s, .slice x.A x.m x.c] 106)).drew.cell? ⟨wr.heap.size, 2, none⟩ = _ from x2)
      replace x3 := (show (wr.alloc (.cells #[.int .i64 x.k, .int .i64 x.n, .string x.s, .slice x.A x.m x.c] 106)).drew.cell? ⟨wr.heap.size, 3, none⟩ = _ from x3)
      generalize (wr.alloc (.cells #[.int .i64 x.k, .int .i64 x.n, .string x.s, .slice x.A x.m x.c] 106)).drew = wd at ho hrx hg hsz fo o0 o1 o2 x0 x1 x2 x3 ⊢
      refine takeD (i := 0) (d := some 18) (v := ?_) _ rfl rfl (by kernel_rfl) (by kernel_rfl) (by kernel_rfl) (fun _ _ _ h => h) (Or.inl ⟨by rfl, ?_⟩) trivial ?_
      rotate_left
      · (intro W hSw; clear hSw; go_simp; try with_reducible rfl)
      try simp only [Act.put, List.setIfInBounds_toArray, List.set_cons_zero, List.set_cons_succ]
      refine wpAnyH_ready (rs := [1, 2]) (by kernel_rfl) (by simp) ?_
      refine AllReadyH.cons rfl (fun K hK => ?_) (AllReadyH.cons rfl (fun K hK => ?_) AllReadyH.nil)
      · go_simp
        refine hK.out _ _ trivial (fun hHeld => ?_)
        clear hHeld hK K
        try simp only [Act.put, List.setIfInBounds_toArray, List.set_cons_zero, List.set_cons_succ]
        refine wpAnyH_ready (rs := [2]) (by kernel_rfl) (by simp) ?_
        refine AllReadyH.cons rfl (fun K hK => ?_) AllReadyH.nil
        go_simp
        refine hK.out _ _ trivial (fun hHeld => ?_)
        clear hHeld hK K
        try simp only [Act.put, List.setIfInBounds_toArray, List.set_cons_zero, List.set_cons_succ]
        refine wpAnyH_ready (rs := [3]) (by kernel_rfl) (by simp) ?_
        refine AllReadyH.cons rfl (fun K hK => ?_) AllReadyH.nil
        go_simp
        refine (copyItem_any x _ hxm hrx).mono ?_; rintro e W3 ⟨A2, n2, c2, rfl, oy, b⟩
        try go_wp2_with fail
        have hold := ho
        have hle := hg.size
        have hmn : m + 1 ≤ 1048577 := by omega
        replace ho := ho.below b
        replace o0 := kcell b o0
        replace o1 := kcell b o1
        replace o2 := kcell b o2
        replace fo : ∀ j, W3.frozen? ⟨w.heap.size + 1 + 1, j, none⟩ = false := fun j => (b.frozen (p := ⟨w.heap.size + 1 + 1, j, none⟩) (by show w.heap.size + 1 + 1 < _; omega)).trans (fo j)
        replace hg := hg.trans (grown_of b _)
        replace hsz := Nat.le_trans hsz b.size
        clear b
        refine hK.out _ _ trivial (fun hHeld => ?_)
        clear hHeld hK K
        try simp only [Act.put, List.setIfInBounds_toArray, List.set_cons_zero, List.set_cons_succ]
        refine wpAnyH_ready (rs := [4]) (by kernel_rfl) (by simp) ?_
        refine AllReadyH.cons rfl (fun K hK => ?_) AllReadyH.nil
        go_simp
        obtain ⟨U4, hU⟩ : ∃ U, U = W3.alloc (.cells #[.int .i64 x.k, .int .i64 x.n, .string x.s, .slice A2 n2 c2] 106) := ⟨_, rfl⟩
        have b : Below W3.heap.size W3 U4 := by rw [hU]; exact al (Below.refl _ _)
        have r4 : Rd U4 4 (some ⟨W3.heap.size, 0, none⟩) 1 [.int .i64 x.k, .int .i64 x.n, .string x.s, .slice A2 n2 c2] := by rw [hU]; exact rd_new4
        replace oy := own_below oy b
        replace ho := ho.below b
        replace o0 := kcell b o0
        replace o1 := kcell b o1
        replace o2 := kcell b o2
        replace fo : ∀ j, U4.frozen? ⟨w.heap.size + 1 + 1, j, none⟩ = false := fun j => (b.frozen (p := ⟨w.heap.size + 1 + 1, j, none⟩) (by show w.heap.size + 1 + 1 < _; omega)).trans (fo j)
        replace hg := hg.trans (grown_of b _)
        replace hsz := Nat.le_trans hsz b.size
        clear b
        rw [← hU]
        clear hU
        refine hK.out _ _ trivial (fun hHeld => ?_)
        clear hHeld hK K
        try simp only [Act.put, List.setIfInBounds_toArray, List.set_cons_zero, List.set_cons_succ]
        refine wpAnyH_ready (rs := [5]) (by kernel_rfl) (by simp) ?_
        refine AllReadyH.cons rfl (fun K hK => ?_) AllReadyH.nil
        refine step_catD (by rfl) (some 23) (by rfl) (.tmp 19) (.tmp 22) 50 (by rfl) (W0.heap.size) 106 i0 (.agg #[.int .i64 0, .int .i64 0, .string ⟨#[]⟩, .slice none 0 0]) 4 56 Try.underlying50 hi hz0 hz1 hz2 rfl (by decide) B m d (itl ys) (by rfl) (by exact ho.1) _ 1 _ [.int .i64 x.k, .int .i64 x.n, .string x.s, .slice A2 n2 c2] (by rfl) (by exact r4) (ones_itv (Itm.mk x.k x.n x.s A2 n2 c2 x.fs)) (by unfold maxLen; omega) (by omega) (by omega) ?_
        intro A3 m3 d3 w5 hm3 o5 b5 g5
        have HM3 := Lib.hid hm3
        have hm9 : m3 ≤ k + 1 := by omega
        clear hm3
        have OI : OwnI w5 W0.heap.size A3 m3 d3 (ys ++ [(Itm.mk x.k x.n x.s A2 n2 c2 x.fs)]) := OwnI.push (y := (Itm.mk x.k x.n x.s A2 n2 c2 x.fs)) ho hold (Nat.le_refl _) hle oy o5 g5
        replace hg := grown_belowI hg b5
        replace o0 := (b5.cell (p := ⟨w.heap.size + 1 + 1, 0, none⟩) (by show w.heap.size + 1 + 1 < W0.heap.size; omega)).trans o0
        replace o1 := (b5.cell (p := ⟨w.heap.size + 1 + 1, 1, none⟩) (by show w.heap.size + 1 + 1 < W0.heap.size; omega)).trans o1
        replace o2 := (b5.cell (p := ⟨w.heap.size + 1 + 1, 2, none⟩) (by show w.heap.size + 1 + 1 < W0.heap.size; omega)).trans o2
        replace fo : ∀ j, w5.frozen? ⟨w.heap.size + 1 + 1, j, none⟩ = false := fun j => (b5.frozen (p := ⟨w.heap.size + 1 + 1, j, none⟩) (by show w.heap.size + 1 + 1 < W0.heap.size; omega)).trans (fo j)
        replace hsz := Nat.le_trans hsz b5.size
        clear o5 b5 g5 oy r4 hold ho
        refine hK.out _ _ trivial (fun hHeld => ?_)
        clear hHeld hK K
        try simp only [Act.put, List.setIfInBounds_toArray, List.set_cons_zero, List.set_cons_succ]
        refine takeD (i := 6) (d := some 24) (v := ?_) _ rfl rfl (by kernel_rfl) (by kernel_rfl) (by kernel_rfl) (fun _ _ _ h => h) (Or.inl ⟨by rfl, ?_⟩) trivial ?_
        rotate_left
        · (intro W hSw; clear hSw; go_simp; try with_reducible rfl)
        try simp only [Act.put, List.setIfInBounds_toArray, List.set_cons_zero, List.set_cons_succ]
        refine wpAnyH_ready (rs := [7]) (by kernel_rfl) (by simp) ?_
        refine AllReadyH.cons rfl (fun K hK => ?_) AllReadyH.nil
        go_simp
        refine hK.out _ _ trivial (fun hHeld => ?_)
        clear hHeld hK K
        try simp only [Act.put, List.setIfInBounds_toArray, List.set_cons_zero, List.set_cons_succ]
        refine wpAnyH_done (by kernel_rfl) ?_ _
        have O8 : Hid (OwnI (w5.setCell ⟨w.heap.size + 1 + 1, 1, none⟩ (.slice A3 m3 d3)) W0.heap.size A3 m3 d3 (ys ++ [(Itm.mk x.k x.n x.s A2 n2 c2 x.fs)])) := Lib.hid (OwnI.setB OI (a := ⟨w.heap.size + 1 + 1, 1, none⟩) (by show w.heap.size + 1 + 1 < W0.heap.size; omega) _)
        have c0 : Hid ((w5.setCell ⟨w.heap.size + 1 + 1, 1, none⟩ (.slice A3 m3 d3)).cell? ⟨w.heap.size + 1 + 1, 0, none⟩ = some (.string s)) := Lib.hid (by simp [go_sem, o0])
        have c1 : Hid ((w5.setCell ⟨w.heap.size + 1 + 1, 1, none⟩ (.slice A3 m3 d3)).cell? ⟨w.heap.size + 1 + 1, 1, none⟩ = some (.slice A3 m3 d3)) := Lib.hid (by simp [go_sem, o1])
        have c2_ : Hid ((w5.setCell ⟨w.heap.size + 1 + 1, 1, none⟩ (.slice A3 m3 d3)).cell? ⟨w.heap.size + 1 + 1, 2, none⟩ = some (.int .i64 au)) := Lib.hid (by simp [go_sem, o2])
        have cf : Hid (∀ j, (w5.setCell ⟨w.heap.size + 1 + 1, 1, none⟩ (.slice A3 m3 d3)).frozen? ⟨w.heap.size + 1 + 1, j, none⟩ = false) := Lib.hid (fun j => by simp [fo])
        have G8 : Hid (W0.grownBy (w5.setCell ⟨w.heap.size + 1 + 1, 1, none⟩ (.slice A3 m3 d3)) (some (w.heap.size + 1 + 1))) := Lib.hid (grown_setI hg _ _)
        clear OI hg
        go_wp2
        go_roundw
        case rel => exact ⟨k + 1, A3, m3, d3, _, by omega, by go_num, hm9, by (rw [List.map_append, HY.out, take_snoc HX.out]; rfl), O8.out, ⟨c0.out, c1.out, c2_.out⟩, cf.out, G8.out⟩
        case measure => simp [intOf]; omega
      · go_simp
        refine hK.out _ _ trivial (fun hHeld => ?_)
        clear hHeld hK K
        try simp only [Act.put, List.setIfInBounds_toArray, List.set_cons_zero, List.set_cons_succ]
        refine wpAnyH_ready (rs := [1, 3]) (by kernel_rfl) (by simp) ?_
        refine AllReadyH.cons rfl (fun K hK => ?_) (AllReadyH.cons rfl (fun K hK => ?_) AllReadyH.nil)
        · go_simp
          refine hK.out _ _ trivial (fun hHeld => ?_)
          clear hHeld hK K
          try simp only [Act.put, List.setIfInBounds_toArray, List.set_cons_zero, List.set_cons_succ]
          refine wpAnyH_ready (rs := [3]) (by kernel_rfl) (by simp) ?_
          refine AllReadyH.cons rfl (fun K hK => ?_) AllReadyH.nil
          go_simp
          refine (copyItem_any x _ hxm hrx).mono ?_; rintro e W3 ⟨A2, n2, c2, rfl, oy, b⟩
          try go_wp2_with fail
          have hold := ho
          have hle := hg.size
          have hmn : m + 1 ≤ 1048577 := by omega
          replace ho := ho.below b
          replace o0 := kcell b o0
          replace o1 := kcell b o1
          replace o2 := kcell b o2
          replace fo : ∀ j, W3.frozen? ⟨w.heap.size + 1 + 1, j, none⟩ = false := fun j => (b.frozen (p := ⟨w.heap.size + 1 + 1, j, none⟩) (by show w.heap.size + 1 + 1 < _; omega)).trans (fo j)
          replace hg := hg.trans (grown_of b _)
          replace hsz := Nat.le_trans hsz b.size
          clear b
          refine hK.out _ _ trivial (fun hHeld => ?_)
          clear hHeld hK K
          try simp only [Act.put, List.setIfInBounds_toArray, List.set_cons_zero, List.set_cons_succ]
          refine wpAnyH_ready (rs := [4]) (by kernel_rfl) (by simp) ?_
          refine AllReadyH.cons rfl (fun K hK => ?_) AllReadyH.nil
          go_simp
          obtain ⟨U4, hU⟩ : ∃ U, U = W3.alloc (.cells #[.int .i64 x.k, .int .i64 x.n, .string x.s, .slice A2 n2 c2] 106) := ⟨_, rfl⟩
          have b : Below W3.heap.size W3 U4 := by rw [hU]; exact al (Below.refl _ _)
          have r4 : Rd U4 4 (some ⟨W3.heap.size, 0, none⟩) 1 [.int .i64 x.k, .int .i64 x.n, .string x.s, .slice A2 n2 c2] := by rw [hU]; exact rd_new4
          replace oy := own_below oy b
          replace ho := ho.below b
          replace o0 := kcell b o0
          replace o1 := kcell b o1
          replace o2 := kcell b o2
          replace fo : ∀ j, U4.frozen? ⟨w.heap.size + 1 + 1, j, none⟩ = false := fun j => (b.frozen (p := ⟨w.heap.size + 1 + 1, j, none⟩) (by show w.heap.size + 1 + 1 < _; omega)).trans (fo j)
          replace hg := hg.trans (grown_of b _)
          replace hsz := Nat.le_trans hsz b.size
          clear b
          rw [← hU]
          clear hU
          refine hK.out _ _ trivial (fun hHeld => ?_)
          clear hHeld hK K
          try simp only [Act.put, List.setIfInBounds_toArray, List.set_cons_zero, List.set_cons_succ]
          refine wpAnyH_ready (rs := [5]) (by kernel_rfl) (by simp) ?_
          refine AllReadyH.cons rfl (fun K hK => ?_) AllReadyH.nil
          refine step_catD (by rfl) (some 23) (by rfl) (.tmp 19) (.tmp 22) 50 (by rfl) (W0.heap.size) 106 i0 (.agg #[.int .i64 0, .int .i64 0, .string ⟨#[]⟩, .slice none 0 0]) 4 56 Try.underlying50 hi hz0 hz1 hz2 rfl (by decide) B m d (itl ys) (by rfl) (by exact ho.1) _ 1 _ [.int .i64 x.k, .int .i64 x.n, .string x.s, .slice A2 n2 c2] (by rfl) (by exact r4) (ones_itv (Itm.mk x.k x.n x.s A2 n2 c2 x.fs)) (by unfold maxLen; omega) (by omega) (by omega) ?_
          intro A3 m3 d3 w5 hm3 o5 b5 g5
          have HM3 := Lib.hid hm3
          have hm9 : m3 ≤ k + 1 := by omega
          clear hm3
          have OI : OwnI w5 W0.heap.size A3 m3 d3 (ys ++ [(Itm.mk x.k x.n x.s A2 n2 c2 x.fs)]) := OwnI.push (y := (Itm.mk x.k x.n x.s A2 n2 c2 x.fs)) ho hold (Nat.le_refl _) hle oy o5 g5
          replace hg := grown_belowI hg b5
          replace o0 := (b5.cell (p := ⟨w.heap.size + 1 + 1, 0, none⟩) (by show w.heap.size + 1 + 1 < W0.heap.size; omega)).trans o0
          replace o1 := (b5.cell (p := ⟨w.heap.size + 1 + 1, 1, none⟩) (by show w.heap.size + 1 + 1 < W0.heap.size; omega)).trans o1
          replace o2 := (b5.cell (p := ⟨w.heap.size + 1 + 1, 2, none⟩) (by show w.heap.size + 1 + 1 < W0.heap.size; omega)).trans o2
          replace fo : ∀ j, w5.frozen? ⟨w.heap.size + 1 + 1, j, none⟩ = false := fun j => (b5.frozen (p := ⟨w.heap.size + 1 + 1, j, none⟩) (by show w.heap.size + 1 + 1 < W0.heap.size; omega)).trans (fo j)
          replace hsz := Nat.le_trans hsz b5.size
          clear o5 b5 g5 oy r4 hold ho
          refine hK.out _ _ trivial (fun hHeld => ?_)
          clear hHeld hK K
          try simp only [Act.put, List.setIfInBounds_toArray, List.set_cons_zero, List.set_cons_succ]
          refine takeD (i := 6) (d := some 24) (v := ?_) _ rfl rfl (by kernel_rfl) (by kernel_rfl) (by kernel_rfl) (fun _ _ _ h => h) (Or.inl ⟨by rfl, ?_⟩) trivial ?_
          rotate_left
          · (intro W hSw; clear hSw; go_simp; try with_reducible rfl)
          try simp only [Act.put, List.setIfInBounds_toArray, List.set_cons_zero, List.set_cons_succ]
          refine wpAnyH_ready (rs := [7]) (by kernel_rfl) (by simp) ?_
          refine AllReadyH.cons rfl (fun K hK => ?_) AllReadyH.nil
          go_simp
          refine hK.out _ _ trivial (fun hHeld => ?_)
          clear hHeld hK K
          try simp only [Act.put, List.setIfInBounds_toArray, List.set_cons_zero, List.set_cons_succ]
          refine wpAnyH_done (by kernel_rfl) ?_ _
          have O8 : Hid (OwnI (w5.setCell ⟨w.heap.size + 1 + 1, 1, none⟩ (.slice A3 m3 d3)) W0.heap.size A3 m3 d3 (ys ++ [(Itm.mk x.k x.n x.s A2 n2 c2 x.fs)])) := Lib.hid (OwnI.setB OI (a := ⟨w.heap.size + 1 + 1, 1, none⟩) (by show w.heap.size + 1 + 1 < W0.heap.size; omega) _)
          have c0 : Hid ((w5.setCell ⟨w.heap.size + 1 + 1, 1, none⟩ (.slice A3 m3 d3)).cell? ⟨w.heap.size + 1 + 1, 0, none⟩ = some (.string s)) := Lib.hid (by simp [go_sem, o0])
          have c1 : Hid ((w5.setCell ⟨w.heap.size + 1 + 1, 1, none⟩ (.slice A3 m3 d3)).cell? ⟨w.heap.size + 1 + 1, 1, none⟩ = some (.slice A3 m3 d3)) := Lib.hid (by simp [go_sem, o1])
          have c2_ : Hid ((w5.setCell ⟨w.heap.size + 1 + 1, 1, none⟩ (.slice A3 m3 d3)).cell? ⟨w.heap.size + 1 + 1, 2, none⟩ = some (.int .i64 au)) := Lib.hid (by simp [go_sem, o2])
          have cf : Hid (∀ j, (w5.setCell ⟨w.heap.size + 1 + 1, 1, none⟩ (.slice A3 m3 d3)).frozen? ⟨w.heap.size + 1 + 1, j, none⟩ = false) := Lib.hid (fun j => by simp [fo])
          have G8 : Hid (W0.grownBy (w5.setCell ⟨w.heap.size + 1 + 1, 1, none⟩ (.slice A3 m3 d3)) (some (w.heap.size + 1 + 1))) := Lib.hid (grown_setI hg _ _)
          clear OI hg
          go_wp2
          go_roundw
          case rel => exact ⟨k + 1, A3, m3, d3, _, by omega, by go_num, hm9, by (rw [List.map_append, HY.out, take_snoc HX.out]; rfl), O8.out, ⟨c0.out, c1.out, c2_.out⟩, cf.out, G8.out⟩
          case measure => simp [intOf]; omega
        · go_simp
          refine (copyItem_any x _ hxm hrx).mono ?_; rintro e W3 ⟨A2, n2, c2, rfl, oy, b⟩
          try go_wp2_with fail
          have hold := ho
          have hle := hg.size
          have hmn : m + 1 ≤ 1048577 := by omega
          replace ho := ho.below b
          replace o0 := kcell b o0
          replace o1 := kcell b o1
          replace o2 := kcell b o2
          replace fo : ∀ j, W3.frozen? ⟨w.heap.size + 1 + 1, j, none⟩ = false := fun j => (b.frozen (p := ⟨w.heap.size + 1 + 1, j, none⟩) (by show w.heap.size + 1 + 1 < _; omega)).trans (fo j)
          replace hg := hg.trans (grown_of b _)
          replace hsz := Nat.le_trans hsz b.size
          clear b
          refine hK.out _ _ trivial (fun hHeld => ?_)
          clear hHeld hK K
          try simp only [Act.put, List.setIfInBounds_toArray, List.set_cons_zero, List.set_cons_succ]
          refine wpAnyH_ready (rs := [1, 4]) (by kernel_rfl) (by simp) ?_
          refine AllReadyH.cons rfl (fun K hK => ?_) (AllReadyH.cons rfl (fun K hK => ?_) AllReadyH.nil)
          · go_simp
            refine hK.out _ _ trivial (fun hHeld => ?_)
            clear hHeld hK K
            try simp only [Act.put, List.setIfInBounds_toArray, List.set_cons_zero, List.set_cons_succ]
            refine wpAnyH_ready (rs := [4]) (by kernel_rfl) (by simp) ?_
            refine AllReadyH.cons rfl (fun K hK => ?_) AllReadyH.nil
            go_simp
            obtain ⟨U4, hU⟩ : ∃ U, U = W3.alloc (.cells #[.int .i64 x.k, .int .i64 x.n, .string x.s, .slice A2 n2 c2] 106) := ⟨_, rfl⟩
            have b : Below W3.heap.size W3 U4 := by rw [hU]; exact al (Below.refl _ _)
            have r4 : Rd U4 4 (some ⟨W3.heap.size, 0, none⟩) 1 [.int .i64 x.k, .int .i64 x.n, .string x.s, .slice A2 n2 c2] := by rw [hU]; exact rd_new4
            replace oy := own_below oy b
            replace ho := ho.below b
            replace o0 := kcell b o0
            replace o1 := kcell b o1
            replace o2 := kcell b o2
            replace fo : ∀ j, U4.frozen? ⟨w.heap.size + 1 + 1, j, none⟩ = false := fun j => (b.frozen (p := ⟨w.heap.size + 1 + 1, j, none⟩) (by show w.heap.size + 1 + 1 < _; omega)).trans (fo j)
            replace hg := hg.trans (grown_of b _)
            replace hsz := Nat.le_trans hsz b.size
            clear b
            rw [← hU]
            clear hU
            refine hK.out _ _ trivial (fun hHeld => ?_)
            clear hHeld hK K
            try simp only [Act.put, List.setIfInBounds_toArray, List.set_cons_zero, List.set_cons_succ]
            refine wpAnyH_ready (rs := [5]) (by kernel_rfl) (by simp) ?_
            refine AllReadyH.cons rfl (fun K hK => ?_) AllReadyH.nil
            refine step_catD (by rfl) (some 23) (by rfl) (.tmp 19) (.tmp 22) 50 (by rfl) (W0.heap.size) 106 i0 (.agg #[.int .i64 0, .int .i64 0, .string ⟨#[]⟩, .slice none 0 0]) 4 56 Try.underlying50 hi hz0 hz1 hz2 rfl (by decide) B m d (itl ys) (by rfl) (by exact ho.1) _ 1 _ [.int .i64 x.k, .int .i64 x.n, .string x.s, .slice A2 n2 c2] (by rfl) (by exact r4) (ones_itv (Itm.mk x.k x.n x.s A2 n2 c2 x.fs)) (by unfold maxLen; omega) (by omega) (by omega) ?_
            intro A3 m3 d3 w5 hm3 o5 b5 g5
            have HM3 := Lib.hid hm3
            have hm9 : m3 ≤ k + 1 := by omega
            clear hm3
            have OI : OwnI w5 W0.heap.size A3 m3 d3 (ys ++ [(Itm.mk x.k x.n x.s A2 n2 c2 x.fs)]) := OwnI.push (y := (Itm.mk x.k x.n x.s A2 n2 c2 x.fs)) ho hold (Nat.le_refl _) hle oy o5 g5
            replace hg := grown_belowI hg b5
            replace o0 := (b5.cell (p := ⟨w.heap.size + 1 + 1, 0, none⟩) (by show w.heap.size + 1 + 1 < W0.heap.size; omega)).trans o0
            replace o1 := (b5.cell (p := ⟨w.heap.size + 1 + 1, 1, none⟩) (by show w.heap.size + 1 + 1 < W0.heap.size; omega)).trans o1
            replace o2 := (b5.cell (p := ⟨w.heap.size + 1 + 1, 2, none⟩) (by show w.heap.size + 1 + 1 < W0.heap.size; omega)).trans o2
            replace fo : ∀ j, w5.frozen? ⟨w.heap.size + 1 + 1, j, none⟩ = false := fun j => (b5.frozen (p := ⟨w.heap.size + 1 + 1, j, none⟩) (by show w.heap.size + 1 + 1 < W0.heap.size; omega)).trans (fo j)
            replace hsz := Nat.le_trans hsz b5.size
            clear o5 b5 g5 oy r4 hold ho
            refine hK.out _ _ trivial (fun hHeld => ?_)
            clear hHeld hK K
            try simp only [Act.put, List.setIfInBounds_toArray, List.set_cons_zero, List.set_cons_succ]
            refine takeD (i := 6) (d := some 24) (v := ?_) _ rfl rfl (by kernel_rfl) (by kernel_rfl) (by kernel_rfl) (fun _ _ _ h => h) (Or.inl ⟨by rfl, ?_⟩) trivial ?_
            rotate_left
            · (intro W hSw; clear hSw; go_simp; try with_reducible rfl)
            try simp only [Act.put, List.setIfInBounds_toArray, List.set_cons_zero, List.set_cons_succ]
            refine wpAnyH_ready (rs := [7]) (by kernel_rfl) (by simp) ?_
            refine AllReadyH.cons rfl (fun K hK => ?_) AllReadyH.nil
            go_simp
            refine hK.out _ _ trivial (fun hHeld => ?_)
            clear hHeld hK K
            try simp only [Act.put, List.setIfInBounds_toArray, List.set_cons_zero, List.set_cons_succ]
            refine wpAnyH_done (by kernel_rfl) ?_ _
            have O8 : Hid (OwnI (w5.setCell ⟨w.heap.size + 1 + 1, 1, none⟩ (.slice A3 m3 d3)) W0.heap.size A3 m3 d3 (ys ++ [(Itm.mk x.k x.n x.s A2 n2 c2 x.fs)])) := Lib.hid (OwnI.setB OI (a := ⟨w.heap.size + 1 + 1, 1, none⟩) (by show w.heap.size + 1 + 1 < W0.heap.size; omega) _)
            have c0 : Hid ((w5.setCell ⟨w.heap.size + 1 + 1, 1, none⟩ (.slice A3 m3 d3)).cell? ⟨w.heap.size + 1 + 1, 0, none⟩ = some (.string s)) := Lib.hid (by simp [go_sem, o0])
            have c1 : Hid ((w5.setCell ⟨w.heap.size + 1 + 1, 1, none⟩ (.slice A3 m3 d3)).cell? ⟨w.heap.size + 1 + 1, 1, none⟩ = some (.slice A3 m3 d3)) := Lib.hid (by simp [go_sem, o1])
            have c2_ : Hid ((w5.setCell ⟨w.heap.size + 1 + 1, 1, none⟩ (.slice A3 m3 d3)).cell? ⟨w.heap.size + 1 + 1, 2, none⟩ = some (.int .i64 au)) := Lib.hid (by simp [go_sem, o2])
            have cf : Hid (∀ j, (w5.setCell ⟨w.heap.size + 1 + 1, 1, none⟩ (.slice A3 m3 d3)).frozen? ⟨w.heap.size + 1 + 1, j, none⟩ = false) := Lib.hid (fun j => by simp [fo])
            have G8 : Hid (W0.grownBy (w5.setCell ⟨w.heap.size + 1 + 1, 1, none⟩ (.slice A3 m3 d3)) (some (w.heap.size + 1 + 1))) := Lib.hid (grown_setI hg _ _)
            clear OI hg
            go_wp2
            go_roundw
            case rel => exact ⟨k + 1, A3, m3, d3, _, by omega, by go_num, hm9, by (rw [List.map_append, HY.out, take_snoc HX.out]; rfl), O8.out, ⟨c0.out, c1.out, c2_.out⟩, cf.out, G8.out⟩
            case measure => simp [intOf]; omega
          · go_simp
            obtain ⟨U4, hU⟩ : ∃ U, U = W3.alloc (.cells #[.int .i64 x.k, .int .i64 x.n, .string x.s, .slice A2 n2 c2] 106) := ⟨_, rfl⟩
            have b : Below W3.heap.size W3 U4 := by rw [hU]; exact al (Below.refl _ _)
            have r4 : Rd U4 4 (some ⟨W3.heap.size, 0, none⟩) 1 [.int .i64 x.k, .int .i64 x.n, .string x.s, .slice A2 n2 c2] := by rw [hU]; exact rd_new4
            replace oy := own_below oy b
            replace ho := ho.below b
            replace o0 := kcell b o0
            replace o1 := kcell b o1
            replace o2 := kcell b o2
            replace fo : ∀ j, U4.frozen? ⟨w.heap.size + 1 + 1, j, none⟩ = false := fun j => (b.frozen (p := ⟨w.heap.size + 1 + 1, j, none⟩) (by show w.heap.size + 1 + 1 < _; omega)).trans (fo j)
            replace hg := hg.trans (grown_of b _)
            replace hsz := Nat.le_trans hsz b.size
            clear b
            rw [← hU]
            clear hU
            refine hK.out _ _ trivial (fun hHeld => ?_)
            clear hHeld hK K
            try simp only [Act.put, List.setIfInBounds_toArray, List.set_cons_zero, List.set_cons_succ]
            refine wpAnyH_ready (rs := [1]) (by kernel_rfl) (by simp) ?_
            refine AllReadyH.cons rfl (fun K hK => ?_) AllReadyH.nil
            go_simp
            refine hK.out _ _ trivial (fun hHeld => ?_)
            clear hHeld hK K
            try simp only [Act.put, List.setIfInBounds_toArray, List.set_cons_zero, List.set_cons_succ]
            refine wpAnyH_ready (rs := [5]) (by kernel_rfl) (by simp) ?_
            refine AllReadyH.cons rfl (fun K hK => ?_) AllReadyH.nil
            refine step_catD (by rfl) (some 23) (by rfl) (.tmp 19) (.tmp 22) 50 (by rfl) (W0.heap.size) 106 i0 (.agg #[.int .i64 0, .int .i64 0, .string ⟨#[]⟩, .slice none 0 0]) 4 56 Try.underlying50 hi hz0 hz1 hz2 rfl (by decide) B m d (itl ys) (by rfl) (by exact ho.1) _ 1 _ [.int .i64 x.k, .int .i64 x.n, .string x.s, .slice A2 n2 c2] (by rfl) (by exact r4) (ones_itv (Itm.mk x.k x.n x.s A2 n2 c2 x.fs)) (by unfold maxLen; omega) (by omega) (by omega) ?_
            intro A3 m3 d3 w5 hm3 o5 b5 g5
            have HM3 := Lib.hid hm3
            have hm9 : m3 ≤ k + 1 := by omega
            clear hm3
            have OI : OwnI w5 W0.heap.size A3 m3 d3 (ys ++ [(Itm.mk x.k x.n x.s A2 n2 c2 x.fs)]) := OwnI.push (y := (Itm.mk x.k x.n x.s A2 n2 c2 x.fs)) ho hold (Nat.le_refl _) hle oy o5 g5
            replace hg := grown_belowI hg b5
            replace o0 := (b5.cell (p := ⟨w.heap.size + 1 + 1, 0, none⟩) (by show w.heap.size + 1 + 1 < W0.heap.size; omega)).trans o0
            replace o1 := (b5.cell (p := ⟨w.heap.size + 1 + 1, 1, none⟩) (by show w.heap.size + 1 + 1 < W0.heap.size; omega)).trans o1
            replace o2 := (b5.cell (p := ⟨w.heap.size + 1 + 1, 2, none⟩) (by show w.heap.size + 1 + 1 < W0.heap.size; omega)).trans o2
            replace fo : ∀ j, w5.frozen? ⟨w.heap.size + 1 + 1, j, none⟩ = false := fun j => (b5.frozen (p := ⟨w.heap.size + 1 + 1, j, none⟩) (by show w.heap.size + 1 + 1 < W0.heap.size; omega)).trans (fo j)
            replace hsz := Nat.le_trans hsz b5.size
            clear o5 b5 g5 oy r4 hold ho
            refine hK.out _ _ trivial (fun hHeld => ?_)
            clear hHeld hK K
            try simp only [Act.put, List.setIfInBounds_toArray, List.set_cons_zero, List.set_cons_succ]
            refine takeD (i := 6) (d := some 24) (v := ?_) _ rfl rfl (by kernel_rfl) (by kernel_rfl) (by kernel_rfl) (fun _ _ _ h => h) (Or.inl ⟨by rfl, ?_⟩) trivial ?_
            rotate_left
            · (intro W hSw; clear hSw; go_simp; try with_reducible rfl)
            try simp only [Act.put, List.setIfInBounds_toArray, List.set_cons_zero, List.set_cons_succ]
            refine wpAnyH_ready (rs := [7]) (by kernel_rfl) (by simp) ?_
            refine AllReadyH.cons rfl (fun K hK => ?_) AllReadyH.nil
            go_simp
            refine hK.out _ _ trivial (fun hHeld => ?_)
            clear hHeld hK K
            try simp only [Act.put, List.setIfInBounds_toArray, List.set_cons_zero, List.set_cons_succ]
            refine wpAnyH_done (by kernel_rfl) ?_ _
            have O8 : Hid (OwnI (w5.setCell ⟨w.heap.size + 1 + 1, 1, none⟩ (.slice A3 m3 d3)) W0.heap.size A3 m3 d3 (ys ++ [(Itm.mk x.k x.n x.s A2 n2 c2 x.fs)])) := Lib.hid (OwnI.setB OI (a := ⟨w.heap.size + 1 + 1, 1, none⟩) (by show w.heap.size + 1 + 1 < W0.heap.size; omega) _)
            have c0 : Hid ((w5.setCell ⟨w.heap.size + 1 + 1, 1, none⟩ (.slice A3 m3 d3)).cell? ⟨w.heap.size + 1 + 1, 0, none⟩ = some (.string s)) := Lib.hid (by simp [go_sem, o0])
            have c1 : Hid ((w5.setCell ⟨w.heap.size + 1 + 1, 1, none⟩ (.slice A3 m3 d3)).cell? ⟨w.heap.size + 1 + 1, 1, none⟩ = some (.slice A3 m3 d3)) := Lib.hid (by simp [go_sem, o1])
            have c2_ : Hid ((w5.setCell ⟨w.heap.size + 1 + 1, 1, none⟩ (.slice A3 m3 d3)).cell? ⟨w.heap.size + 1 + 1, 2, none⟩ = some (.int .i64 au)) := Lib.hid (by simp [go_sem, o2])
            have cf : Hid (∀ j, (w5.setCell ⟨w.heap.size + 1 + 1, 1, none⟩ (.slice A3 m3 d3)).frozen? ⟨w.heap.size + 1 + 1, j, none⟩ = false) := Lib.hid (fun j => by simp [fo])
            have G8 : Hid (W0.grownBy (w5.setCell ⟨w.heap.size + 1 + 1, 1, none⟩ (.slice A3 m3 d3)) (some (w.heap.size + 1 + 1))) := Lib.hid (grown_setI hg _ _)
            clear OI hg
            go_wp2
            go_roundw
            case rel => exact ⟨k + 1, A3, m3, d3, _, by omega, by go_num, hm9, by (rw [List.map_append, HY.out, take_snoc HX.out]; rfl), O8.out, ⟨c0.out, c1.out, c2_.out⟩, cf.out, G8.out⟩
            case measure => simp [intOf]; omega
    · obtain rfl : k = n := by omega
      have HT : Hid (ys.map Itm.l = l.map Itm.l) := by
        have := HY.out
        rwa [List.take_of_length_le (by rw [List.length_map]; exact Nat.le_of_eq la.out)] at this
      replace r0 := gcellI hg r0 (by omega)
      replace r1 := gcellI hg r1 (by omega)
      replace r2 := gcellI hg r2 (by omega)
      replace fr : ∀ j, wr.frozen? ⟨w.heap.size + 1, j, none⟩ = false := fun j => (grownFroz hg (by omega) (ne_some (by omega))).trans (fr j)
      have O9 : Hid (OwnI (((wr.setCell ⟨w.heap.size + 1, 0, none⟩ (.string s)).setCell ⟨w.heap.size + 1, 1, none⟩ (.slice B m d)).setCell ⟨w.heap.size + 1, 2, none⟩ (.int .i64 au)) w.heap.size B m d ys) := Lib.hid ((OwnI.setB (OwnI.setB (OwnI.setB ho (a := ⟨w.heap.size + 1, 0, none⟩) (by show w.heap.size + 1 < W0.heap.size; omega) _) (a := ⟨w.heap.size + 1, 1, none⟩) (by show w.heap.size + 1 < W0.heap.size; omega) _) (a := ⟨w.heap.size + 1, 2, none⟩) (by show w.heap.size + 1 < W0.heap.size; omega) _).base (by omega))
      have B9 : Hid (Below w.heap.size w (((wr.setCell ⟨w.heap.size + 1, 0, none⟩ (.string s)).setCell ⟨w.heap.size + 1, 1, none⟩ (.slice B m d)).setCell ⟨w.heap.size + 1, 2, none⟩ (.int .i64 au))) := Lib.hid (((hbel.setCell (p := ⟨w.heap.size + 1, 0, none⟩) (by simp) _).setCell (p := ⟨w.heap.size + 1, 1, none⟩) (by simp) _).setCell (p := ⟨w.heap.size + 1, 2, none⟩) (by simp) _)
      clear ho hg hbel
      go_wp2
      exact bodyPost_ret (v := .agg #[.string s, .slice B m d, .int .i64 au]) (by simp [results, Try.results125, go_sem, r0, r1, r2]) rfl ⟨_, _, _, ys, rfl, HT.out, O9.out, B9.out⟩

set_option maxRecDepth 100000 in
set_option maxHeartbeats 8000000 in
theorem l6Copy_any (s : ByteArray) (A : Option Addr) (n c : Nat) (au : Int) (l : List Itm) (w : World) (hn : n ≤ 1048576) (hm : ∀ x ∈ l, x.m ≤ 1099511627776) (ha : RdI w A n l) :
    Calls Try.prog 124 #[.agg #[.string s, .slice A n c, .int .i64 au]] w (MkSt w s (l.map Itm.l) au) := by
  obtain ⟨i0, hi, hz0, hz1, hz2⟩ := info_parts infoIt
  have la := Lib.hid ha.lenI
  obtain ⟨W0, hW0⟩ : ∃ W, W = ((w.alloc (.cells #[.string s, .slice A n c, .int .i64 au] 52)).alloc (.cells #[.string ⟨#[]⟩, .slice none 0 0, .int .i64 0] 52)).alloc (.cells #[.string s, .slice none 0 0, .int .i64 au] 52) := ⟨_, rfl⟩
  have hz : W0.heap.size = w.heap.size + 1 + 1 + 1 := by rw [hW0]; simp
  have B0 : Below w.heap.size w W0 := by rw [hW0]; exact al (al (al (Below.refl _ _)))
  have p1 : W0.cell? ⟨w.heap.size, 1, none⟩ = some (.slice A n c) := by rw [hW0]; simp [go_sem]
  have r0 : W0.cell? ⟨w.heap.size + 1, 0, none⟩ = some (.string ⟨#[]⟩) := by rw [hW0]; simp [go_sem]
  have r1 : W0.cell? ⟨w.heap.size + 1, 1, none⟩ = some (.slice none 0 0) := by rw [hW0]; simp [go_sem]
  have r2 : W0.cell? ⟨w.heap.size + 1, 2, none⟩ = some (.int .i64 0) := by rw [hW0]; simp [go_sem]
  have fr : ∀ j, W0.frozen? ⟨w.heap.size + 1, j, none⟩ = false := fun j => by rw [hW0]; simp [go_sem]
  have o0 : W0.cell? ⟨w.heap.size + 1 + 1, 0, none⟩ = some (.string s) := by rw [hW0]; simp [go_sem]
  have o1 : W0.cell? ⟨w.heap.size + 1 + 1, 1, none⟩ = some (.slice none 0 0) := by rw [hW0]; simp [go_sem]
  have o2 : W0.cell? ⟨w.heap.size + 1 + 1, 2, none⟩ = some (.int .i64 au) := by rw [hW0]; simp [go_sem]
  have fo : ∀ j, W0.frozen? ⟨w.heap.size + 1 + 1, j, none⟩ = false := fun j => by rw [hW0]; simp [go_sem]
  have HZ := Lib.hid hz
  have hG : w.heap.size + 1 + 1 + 1 ≤ W0.heap.size := by omega
  have hG2 : W0.heap.size ≤ w.heap.size + 1 + 1 + 1 := by omega
  clear hz
  go_enter Try.func124, Try.ntmps124
  go_wp2
  rw [← hW0]
  clear hW0
  go_loopw [4] (fun i wr => ∃ (k : Nat) (B : Option Addr) (m d : Nat) (ys : List Itm), k ≤ n ∧ i = .int .i64 k ∧ m ≤ k ∧ ys.map Itm.l = (l.map Itm.l).take k ∧ OwnI wr W0.heap.size B m d ys ∧ (wr.cell? ⟨w.heap.size + 1 + 1, 0, none⟩ = some (.string s) ∧ wr.cell? ⟨w.heap.size + 1 + 1, 1, none⟩ = some (.slice B m d) ∧ wr.cell? ⟨w.heap.size + 1 + 1, 2, none⟩ = some (.int .i64 au)) ∧ (∀ j, wr.frozen? ⟨w.heap.size + 1 + 1, j, none⟩ = false) ∧ W0.grownBy wr (some (w.heap.size + 1 + 1))) (fun i _ => n - (intOf i).toNat)
  case atStart => exact ⟨0, none, 0, 0, [], Nat.zero_le _, rfl, Nat.le_refl _, rfl, OwnI.none_, ⟨o0, o1, o2⟩, fo, World.grownBy.refl _ _⟩
  case round =>
    clear o0 o1 o2 fo
    obtain ⟨k, B, m, d, ys, hk, rfl, hmk, hys, ho, ⟨o0, o1, o2⟩, fo, hg⟩ := hrel
    have HY := Lib.hid hys
    have hbel : Below w.heap.size w wr := below_grownI B0 hg B0.size (by omega)
    have hsz : w.heap.size + 1 + 1 + 1 ≤ wr.heap.size := Nat.le_trans hG hg.size
    replace p1 := gcellI hg p1 (by omega)
    clear hys
    by_cases hlt : k < n
    · obtain ⟨b_, o_, x, rfl, _hb1, hx, hc0, hc1, hc2, hc3, hrx⟩ := (ha.below hbel).itm hlt
      have hxm := hm x (List.mem_of_getElem? hx)
      have HX := Lib.hid (map_get hx)
      have i0_ : (0 : Int) ≤ (k : Int) := by omega
      have i1_ : (k : Int) < (n : Int) := by omega
      clear hx
      go_wp2
      refine wp_region_held_drew (S := fun _ => True) (by kernel_rfl) trivial (fun hHeld => ?_)
      clear hHeld
      replace ho := (show OwnI wr.drew _ _ _ _ _ from ho)
      replace hrx := (show Rd wr.drew _ _ _ _ from hrx)
      replace hg : World.grownBy W0 wr.drew (some (w.heap.size + 1 + 1)) := ⟨hg.os, hg.tape, hg.output, hg.size, hg.block⟩
      replace hsz := (show _ ≤ wr.drew.heap.size from hsz)
      replace fo := (show ∀ j, wr.drew.frozen? ⟨w.heap.size + 1 + 1, j, none⟩ = _ from fo)
      replace o0 := (show wr.drew.cell? ⟨w.heap.size + 1 + 1, 0, none⟩ = _ from o0)
      replace o1 := (show wr.drew.cell? ⟨w.heap.size + 1 + 1, 1, none⟩ = _ from o1)
      replace o2 := (show wr.drew.cell? ⟨w.heap.size + 1 + 1, 2, none⟩ = _ from o2)
      replace p1 := (show wr.drew.cell? ⟨w.heap.size, 1, none⟩ = _ from p1)
      replace hc0 := (show wr.drew.cell? ⟨b_, o_ + k * 4, none⟩ = _ from hc0)
      replace hc1 := (show wr.drew.cell? ⟨b_, o_ + k * 4 + 1, none⟩ = _ from hc1)
      replace hc2 := (show wr.drew.cell? ⟨b_, o_ + k * 4 + 2, none⟩ = _ from hc2)
      replace hc3 := (show wr.drew.cell? ⟨b_, o_ + k * 4 + 3, none⟩ = _ from hc3)
      generalize wr.drew = wd at ho hrx hg hsz fo o0 o1 o2 p1 hc0 hc1 hc2 hc3 ⊢
      refine takeD (i := 0) (d := some 17) (v := ?_) _ rfl rfl (by kernel_rfl) (by kernel_rfl) (by kernel_rfl) (fun _ _ _ h => h) (Or.inl ⟨by rfl, ?_⟩) trivial ?_
      rotate_left
      · (intro W hSw; clear hSw; go_simp; try with_reducible rfl)
      try simp only [Act.put, List.setIfInBounds_toArray, List.set_cons_zero, List.set_cons_succ]
      refine takeD (i := 2) (d := some 19) (v := ?_) _ rfl rfl (by kernel_rfl) (by kernel_rfl) (by kernel_rfl) (fun _ _ _ h => h) (Or.inl ⟨by rfl, ?_⟩) trivial ?_
      rotate_left
      · (intro W hSw; clear hSw; go_simp; try with_reducible rfl)
      try simp only [Act.put, List.setIfInBounds_toArray, List.set_cons_zero, List.set_cons_succ]
      refine takeD (i := 4) (d := some 21) (v := ?_) _ rfl rfl (by kernel_rfl) (by kernel_rfl) (by kernel_rfl) (fun _ _ _ h => h) (Or.inl ⟨by rfl, ?_⟩) trivial ?_
      rotate_left
      · (intro W hSw; clear hSw; go_simp; try with_reducible rfl)
      try simp only [Act.put, List.setIfInBounds_toArray, List.set_cons_zero, List.set_cons_succ]
      refine wpAnyH_ready (rs := [1, 3]) (by kernel_rfl) (by simp) ?_
      refine AllReadyH.cons rfl (fun K hK => ?_) (AllReadyH.cons rfl (fun K hK => ?_) AllReadyH.nil)
      · go_simp
        refine hK.out _ _ trivial (fun hHeld => ?_)
        clear hHeld hK K
        try simp only [Act.put, List.setIfInBounds_toArray, List.set_cons_zero, List.set_cons_succ]
        refine wpAnyH_ready (rs := [3]) (by kernel_rfl) (by simp) ?_
        refine AllReadyH.cons rfl (fun K hK => ?_) AllReadyH.nil
        go_simp
        refine hK.out _ _ trivial (fun hHeld => ?_)
        clear hHeld hK K
        try simp only [Act.put, List.setIfInBounds_toArray, List.set_cons_zero, List.set_cons_succ]
        refine takeD (i := 5) (d := some 22) (v := ?_) _ rfl rfl (by kernel_rfl) (by kernel_rfl) (by kernel_rfl) (fun _ _ _ h => h) (Or.inl ⟨by rfl, ?_⟩) trivial ?_
        rotate_left
        · (intro W hSw; clear hSw; go_simp; try with_reducible rfl)
        try simp only [Act.put, List.setIfInBounds_toArray, List.set_cons_zero, List.set_cons_succ]
        refine wpAnyH_ready (rs := [6]) (by kernel_rfl) (by simp) ?_
        refine AllReadyH.cons rfl (fun K hK => ?_) AllReadyH.nil
        go_simp
        refine hK.out _ _ trivial (fun hHeld => ?_)
        clear hHeld hK K
        try simp only [Act.put, List.setIfInBounds_toArray, List.set_cons_zero, List.set_cons_succ]
        refine wpAnyH_ready (rs := [7]) (by kernel_rfl) (by simp) ?_
        refine AllReadyH.cons rfl (fun K hK => ?_) AllReadyH.nil
        go_simp
        refine (l6Item_any x _ hxm hrx).mono ?_; rintro e W7 ⟨A2, n2, c2, rfl, oy, b⟩
        try go_wp2_with fail
        have hold := ho
        have hle := hg.size
        have hmn : m + 1 ≤ 1048577 := by omega
        replace ho := ho.below b
        replace o0 := kcell b o0
        replace o1 := kcell b o1
        replace o2 := kcell b o2
        replace fo : ∀ j, W7.frozen? ⟨w.heap.size + 1 + 1, j, none⟩ = false := fun j => (b.frozen (p := ⟨w.heap.size + 1 + 1, j, none⟩) (by show w.heap.size + 1 + 1 < _; omega)).trans (fo j)
        replace hg := hg.trans (grown_of b _)
        replace hsz := Nat.le_trans hsz b.size
        clear b
        refine hK.out _ _ trivial (fun hHeld => ?_)
        clear hHeld hK K
        try simp only [Act.put, List.setIfInBounds_toArray, List.set_cons_zero, List.set_cons_succ]
        refine wpAnyH_ready (rs := [8]) (by kernel_rfl) (by simp) ?_
        refine AllReadyH.cons rfl (fun K hK => ?_) AllReadyH.nil
        go_simp
        obtain ⟨U8, hU⟩ : ∃ U, U = W7.alloc (.cells #[.int .i64 x.k, .int .i64 x.n, .string x.s, .slice A2 n2 c2] 106) := ⟨_, rfl⟩
        have b : Below W7.heap.size W7 U8 := by rw [hU]; exact al (Below.refl _ _)
        have r4 : Rd U8 4 (some ⟨W7.heap.size, 0, none⟩) 1 [.int .i64 x.k, .int .i64 x.n, .string x.s, .slice A2 n2 c2] := by rw [hU]; exact rd_new4
        replace oy := own_below oy b
        replace ho := ho.below b
        replace o0 := kcell b o0
        replace o1 := kcell b o1
        replace o2 := kcell b o2
        replace fo : ∀ j, U8.frozen? ⟨w.heap.size + 1 + 1, j, none⟩ = false := fun j => (b.frozen (p := ⟨w.heap.size + 1 + 1, j, none⟩) (by show w.heap.size + 1 + 1 < _; omega)).trans (fo j)
        replace hg := hg.trans (grown_of b _)
        replace hsz := Nat.le_trans hsz b.size
        clear b
        rw [← hU]
        clear hU
        refine hK.out _ _ trivial (fun hHeld => ?_)
        clear hHeld hK K
        try simp only [Act.put, List.setIfInBounds_toArray, List.set_cons_zero, List.set_cons_succ]
        refine wpAnyH_ready (rs := [9]) (by kernel_rfl) (by simp) ?_
        refine AllReadyH.cons rfl (fun K hK => ?_) AllReadyH.nil
        refine step_catD (by rfl) (some 26) (by rfl) (.tmp 18) (.tmp 25) 50 (by rfl) (W0.heap.size) 106 i0 (.agg #[.int .i64 0, .int .i64 0, .string ⟨#[]⟩, .slice none 0 0]) 4 56 Try.underlying50 hi hz0 hz1 hz2 rfl (by decide) B m d (itl ys) (by rfl) (by exact ho.1) _ 1 _ [.int .i64 x.k, .int .i64 x.n, .string x.s, .slice A2 n2 c2] (by rfl) (by exact r4) (ones_itv (Itm.mk x.k x.n x.s A2 n2 c2 x.fs)) (by unfold maxLen; omega) (by omega) (by omega) ?_
        intro A3 m3 d3 w5 hm3 o5 b5 g5
        have HM3 := Lib.hid hm3
        have hm9 : m3 ≤ k + 1 := by omega
        clear hm3
        have OI : OwnI w5 W0.heap.size A3 m3 d3 (ys ++ [(Itm.mk x.k x.n x.s A2 n2 c2 x.fs)]) := OwnI.push (y := (Itm.mk x.k x.n x.s A2 n2 c2 x.fs)) ho hold (Nat.le_refl _) hle oy o5 g5
        replace hg := grown_belowI hg b5
        replace o0 := (b5.cell (p := ⟨w.heap.size + 1 + 1, 0, none⟩) (by show w.heap.size + 1 + 1 < W0.heap.size; omega)).trans o0
        replace o1 := (b5.cell (p := ⟨w.heap.size + 1 + 1, 1, none⟩) (by show w.heap.size + 1 + 1 < W0.heap.size; omega)).trans o1
        replace o2 := (b5.cell (p := ⟨w.heap.size + 1 + 1, 2, none⟩) (by show w.heap.size + 1 + 1 < W0.heap.size; omega)).trans o2
        replace fo : ∀ j, w5.frozen? ⟨w.heap.size + 1 + 1, j, none⟩ = false := fun j => (b5.frozen (p := ⟨w.heap.size + 1 + 1, j, none⟩) (by show w.heap.size + 1 + 1 < W0.heap.size; omega)).trans (fo j)
        replace hsz := Nat.le_trans hsz b5.size
        clear o5 b5 g5 oy r4 hold ho
        refine hK.out _ _ trivial (fun hHeld => ?_)
        clear hHeld hK K
        try simp only [Act.put, List.setIfInBounds_toArray, List.set_cons_zero, List.set_cons_succ]
        refine takeD (i := 10) (d := some 27) (v := ?_) _ rfl rfl (by kernel_rfl) (by kernel_rfl) (by kernel_rfl) (fun _ _ _ h => h) (Or.inl ⟨by rfl, ?_⟩) trivial ?_
        rotate_left
        · (intro W hSw; clear hSw; go_simp; try with_reducible rfl)
        try simp only [Act.put, List.setIfInBounds_toArray, List.set_cons_zero, List.set_cons_succ]
        refine wpAnyH_ready (rs := [11]) (by kernel_rfl) (by simp) ?_
        refine AllReadyH.cons rfl (fun K hK => ?_) AllReadyH.nil
        go_simp
        refine hK.out _ _ trivial (fun hHeld => ?_)
        clear hHeld hK K
        try simp only [Act.put, List.setIfInBounds_toArray, List.set_cons_zero, List.set_cons_succ]
        refine wpAnyH_done (by kernel_rfl) ?_ _
        have O8 : Hid (OwnI (w5.setCell ⟨w.heap.size + 1 + 1, 1, none⟩ (.slice A3 m3 d3)) W0.heap.size A3 m3 d3 (ys ++ [(Itm.mk x.k x.n x.s A2 n2 c2 x.fs)])) := Lib.hid (OwnI.setB OI (a := ⟨w.heap.size + 1 + 1, 1, none⟩) (by show w.heap.size + 1 + 1 < W0.heap.size; omega) _)
        have c0 : Hid ((w5.setCell ⟨w.heap.size + 1 + 1, 1, none⟩ (.slice A3 m3 d3)).cell? ⟨w.heap.size + 1 + 1, 0, none⟩ = some (.string s)) := Lib.hid (by simp [go_sem, o0])
        have c1 : Hid ((w5.setCell ⟨w.heap.size + 1 + 1, 1, none⟩ (.slice A3 m3 d3)).cell? ⟨w.heap.size + 1 + 1, 1, none⟩ = some (.slice A3 m3 d3)) := Lib.hid (by simp [go_sem, o1])
        have c2_ : Hid ((w5.setCell ⟨w.heap.size + 1 + 1, 1, none⟩ (.slice A3 m3 d3)).cell? ⟨w.heap.size + 1 + 1, 2, none⟩ = some (.int .i64 au)) := Lib.hid (by simp [go_sem, o2])
        have cf : Hid (∀ j, (w5.setCell ⟨w.heap.size + 1 + 1, 1, none⟩ (.slice A3 m3 d3)).frozen? ⟨w.heap.size + 1 + 1, j, none⟩ = false) := Lib.hid (fun j => by simp [fo])
        have G8 : Hid (W0.grownBy (w5.setCell ⟨w.heap.size + 1 + 1, 1, none⟩ (.slice A3 m3 d3)) (some (w.heap.size + 1 + 1))) := Lib.hid (grown_setI hg _ _)
        clear OI hg
        go_wp2
        go_roundw
        case rel => exact ⟨k + 1, A3, m3, d3, _, by omega, by go_num, hm9, by (rw [List.map_append, HY.out, take_snoc HX.out]; rfl), O8.out, ⟨c0.out, c1.out, c2_.out⟩, cf.out, G8.out⟩
        case measure => simp [intOf]; omega
      · go_simp
        refine hK.out _ _ trivial (fun hHeld => ?_)
        clear hHeld hK K
        try simp only [Act.put, List.setIfInBounds_toArray, List.set_cons_zero, List.set_cons_succ]
        refine takeD (i := 5) (d := some 22) (v := ?_) _ rfl rfl (by kernel_rfl) (by kernel_rfl) (by kernel_rfl) (fun _ _ _ h => h) (Or.inl ⟨by rfl, ?_⟩) trivial ?_
        rotate_left
        · (intro W hSw; clear hSw; go_simp; try with_reducible rfl)
        try simp only [Act.put, List.setIfInBounds_toArray, List.set_cons_zero, List.set_cons_succ]
        refine wpAnyH_ready (rs := [1, 6]) (by kernel_rfl) (by simp) ?_
        refine AllReadyH.cons rfl (fun K hK => ?_) (AllReadyH.cons rfl (fun K hK => ?_) AllReadyH.nil)
        · go_simp
          refine hK.out _ _ trivial (fun hHeld => ?_)
          clear hHeld hK K
          try simp only [Act.put, List.setIfInBounds_toArray, List.set_cons_zero, List.set_cons_succ]
          refine wpAnyH_ready (rs := [6]) (by kernel_rfl) (by simp) ?_
          refine AllReadyH.cons rfl (fun K hK => ?_) AllReadyH.nil
          go_simp
          refine hK.out _ _ trivial (fun hHeld => ?_)
          clear hHeld hK K
          try simp only [Act.put, List.setIfInBounds_toArray, List.set_cons_zero, List.set_cons_succ]
          refine wpAnyH_ready (rs := [7]) (by kernel_rfl) (by simp) ?_
          refine AllReadyH.cons rfl (fun K hK => ?_) AllReadyH.nil
          go_simp
          refine (l6Item_any x _ hxm hrx).mono ?_; rintro e W7 ⟨A2, n2, c2, rfl, oy, b⟩
          try go_wp2_with fail
          have hold := ho
          have hle := hg.size
          have hmn : m + 1 ≤ 1048577 := by omega
          replace ho := ho.below b
          replace o0 := kcell b o0
          replace o1 := kcell b o1
          replace o2 := kcell b o2
          replace fo : ∀ j, W7.frozen? ⟨w.heap.size + 1 + 1, j, none⟩ = false := fun j => (b.frozen (p := ⟨w.heap.size + 1 + 1, j, none⟩) (by show w.heap.size + 1 + 1 < _; omega)).trans (fo j)
          replace hg := hg.trans (grown_of b _)
          replace hsz := Nat.le_trans hsz b.size
          clear b
          refine hK.out _ _ trivial (fun hHeld => ?_)
          clear hHeld hK K
          try simp only [Act.put, List.setIfInBounds_toArray, List.set_cons_zero, List.set_cons_succ]
          refine wpAnyH_ready (rs := [8]) (by kernel_rfl) (by simp) ?_
          refine AllReadyH.cons rfl (fun K hK => ?_) AllReadyH.nil
          go_simp
          obtain ⟨U8, hU⟩ : ∃ U, U = W7.alloc (.cells #[.int .i64 x.k, .int .i64 x.n, .string x.s, .slice A2 n2 c2] 106) := ⟨_, rfl⟩
          have b : Below W7.heap.size W7 U8 := by rw [hU]; exact al (Below.refl _ _)
          have r4 : Rd U8 4 (some ⟨W7.heap.size, 0, none⟩) 1 [.int .i64 x.k, .int .i64 x.n, .string x.s, .slice A2 n2 c2] := by rw [hU]; exact rd_new4
          replace oy := own_below oy b
          replace ho := ho.below b
          replace o0 := kcell b o0
          replace o1 := kcell b o1
          replace o2 := kcell b o2
          replace fo : ∀ j, U8.frozen? ⟨w.heap.size + 1 + 1, j, none⟩ = false := fun j => (b.frozen (p := ⟨w.heap.size + 1 + 1, j, none⟩) (by show w.heap.size + 1 + 1 < _; omega)).trans (fo j)
          replace hg := hg.trans (grown_of b _)
          replace hsz := Nat.le_trans hsz b.size
          clear b
          rw [← hU]
          clear hU
          refine hK.out _ _ trivial (fun hHeld => ?_)
          clear hHeld hK K
          try simp only [Act.put, List.setIfInBounds_toArray, List.set_cons_zero, List.set_cons_succ]
          refine wpAnyH_ready (rs := [9]) (by kernel_rfl) (by simp) ?_
          refine AllReadyH.cons rfl (fun K hK => ?_) AllReadyH.nil
          refine step_catD (by rfl) (some 26) (by rfl) (.tmp 18) (.tmp 25) 50 (by rfl) (W0.heap.size) 106 i0 (.agg #[.int .i64 0, .int .i64 0, .string ⟨#[]⟩, .slice none 0 0]) 4 56 Try.underlying50 hi hz0 hz1 hz2 rfl (by decide) B m d (itl ys) (by rfl) (by exact ho.1) _ 1 _ [.int .i64 x.k, .int .i64 x.n, .string x.s, .slice A2 n2 c2] (by rfl) (by exact r4) (ones_itv (Itm.mk x.k x.n x.s A2 n2 c2 x.fs)) (by unfold maxLen; omega) (by omega) (by omega) ?_
          intro A3 m3 d3 w5 hm3 o5 b5 g5
          have HM3 := Lib.hid hm3
          have hm9 : m3 ≤ k + 1 := by omega
          clear hm3
          have OI : OwnI w5 W0.heap.size A3 m3 d3 (ys ++ [(Itm.mk x.k x.n x.s A2 n2 c2 x.fs)]) := OwnI.push (y := (Itm.mk x.k x.n x.s A2 n2 c2 x.fs)) ho hold (Nat.le_refl _) hle oy o5 g5
          replace hg := grown_belowI hg b5
          replace o0 := (b5.cell (p := ⟨w.heap.size + 1 + 1, 0, none⟩) (by show w.heap.size + 1 + 1 < W0.heap.size; omega)).trans o0
          replace o1 := (b5.cell (p := ⟨w.heap.size + 1 + 1, 1, none⟩) (by show w.heap.size + 1 + 1 < W0.heap.size; omega)).trans o1
          replace o2 := (b5.cell (p := ⟨w.heap.size + 1 + 1, 2, none⟩) (by show w.heap.size + 1 + 1 < W0.heap.size; omega)).trans o2
          replace fo : ∀ j, w5.frozen? ⟨w.heap.size + 1 + 1, j, none⟩ = false := fun j => (b5.frozen (p := ⟨w.heap.size + 1 + 1, j, none⟩) (by show w.heap.size + 1 + 1 < W0.heap.size; omega)).trans (fo j)
          replace hsz := Nat.le_trans hsz b5.size
          clear o5 b5 g5 oy r4 hold ho
          refine hK.out _ _ trivial (fun hHeld => ?_)
          clear hHeld hK K
          try simp only [Act.put, List.setIfInBounds_toArray, List.set_cons_zero, List.set_cons_succ]
          refine takeD (i := 10) (d := some 27) (v := ?_) _ rfl rfl (by kernel_rfl) (by kernel_rfl) (by kernel_rfl) (fun _ _ _ h => h) (Or.inl ⟨by rfl, ?_⟩) trivial ?_
          rotate_left
          · (intro W hSw; clear hSw; go_simp; try with_reducible rfl)
          try simp only [Act.put, List.setIfInBounds_toArray, List.set_cons_zero, List.set_cons_succ]
          refine wpAnyH_ready (rs := [11]) (by kernel_rfl) (by simp) ?_
          refine AllReadyH.cons rfl (fun K hK => ?_) AllReadyH.nil
          go_simp
          refine hK.out _ _ trivial (fun hHeld => ?_)
          clear hHeld hK K
          try simp only [Act.put, List.setIfInBounds_toArray, List.set_cons_zero, List.set_cons_succ]
          refine wpAnyH_done (by kernel_rfl) ?_ _
          have O8 : Hid (OwnI (w5.setCell ⟨w.heap.size + 1 + 1, 1, none⟩ (.slice A3 m3 d3)) W0.heap.size A3 m3 d3 (ys ++ [(Itm.mk x.k x.n x.s A2 n2 c2 x.fs)])) := Lib.hid (OwnI.setB OI (a := ⟨w.heap.size + 1 + 1, 1, none⟩) (by show w.heap.size + 1 + 1 < W0.heap.size; omega) _)
          have c0 : Hid ((w5.setCell ⟨w.heap.size + 1 + 1, 1, none⟩ (.slice A3 m3 d3)).cell? ⟨w.heap.size + 1 + 1, 0, none⟩ = some (.string s)) := Lib.hid (by simp [go_sem, o0])
          have c1 : Hid ((w5.setCell ⟨w.heap.size + 1 + 1, 1, none⟩ (.slice A3 m3 d3)).cell? ⟨w.heap.size + 1 + 1, 1, none⟩ = some (.slice A3 m3 d3)) := Lib.hid (by simp [go_sem, o1])
          have c2_ : Hid ((w5.setCell ⟨w.heap.size + 1 + 1, 1, none⟩ (.slice A3 m3 d3)).cell? ⟨w.heap.size + 1 + 1, 2, none⟩ = some (.int .i64 au)) := Lib.hid (by simp [go_sem, o2])
          have cf : Hid (∀ j, (w5.setCell ⟨w.heap.size + 1 + 1, 1, none⟩ (.slice A3 m3 d3)).frozen? ⟨w.heap.size + 1 + 1, j, none⟩ = false) := Lib.hid (fun j => by simp [fo])
          have G8 : Hid (W0.grownBy (w5.setCell ⟨w.heap.size + 1 + 1, 1, none⟩ (.slice A3 m3 d3)) (some (w.heap.size + 1 + 1))) := Lib.hid (grown_setI hg _ _)
          clear OI hg
          go_wp2
          go_roundw
          case rel => exact ⟨k + 1, A3, m3, d3, _, by omega, by go_num, hm9, by (rw [List.map_append, HY.out, take_snoc HX.out]; rfl), O8.out, ⟨c0.out, c1.out, c2_.out⟩, cf.out, G8.out⟩
          case measure => simp [intOf]; omega
        · go_simp
          refine hK.out _ _ trivial (fun hHeld => ?_)
          clear hHeld hK K
          try simp only [Act.put, List.setIfInBounds_toArray, List.set_cons_zero, List.set_cons_succ]
          refine wpAnyH_ready (rs := [1, 7]) (by kernel_rfl) (by simp) ?_
          refine AllReadyH.cons rfl (fun K hK => ?_) (AllReadyH.cons rfl (fun K hK => ?_) AllReadyH.nil)
          · go_simp
            refine hK.out _ _ trivial (fun hHeld => ?_)
            clear hHeld hK K
            try simp only [Act.put, List.setIfInBounds_toArray, List.set_cons_zero, List.set_cons_succ]
            refine wpAnyH_ready (rs := [7]) (by kernel_rfl) (by simp) ?_
            refine AllReadyH.cons rfl (fun K hK => ?_) AllReadyH.nil
            go_simp
            refine (l6Item_any x _ hxm hrx).mono ?_; rintro e W7 ⟨A2, n2, c2, rfl, oy, b⟩
            try go_wp2_with fail
            have hold := ho
            have hle := hg.size
            have hmn : m + 1 ≤ 1048577 := by omega
            replace ho := ho.below b
            replace o0 := kcell b o0
            replace o1 := kcell b o1
            replace o2 := kcell b o2
            replace fo : ∀ j, W7.frozen? ⟨w.heap.size + 1 + 1, j, none⟩ = false := fun j => (b.frozen (p := ⟨w.heap.size + 1 + 1, j, none⟩) (by show w.heap.size + 1 + 1 < _; omega)).trans (fo j)
            replace hg := hg.trans (grown_of b _)
            replace hsz := Nat.le_trans hsz b.size
            clear b
            refine hK.out _ _ trivial (fun hHeld => ?_)
            clear hHeld hK K
            try simp only [Act.put, List.setIfInBounds_toArray, List.set_cons_zero, List.set_cons_succ]
            refine wpAnyH_ready (rs := [8]) (by kernel_rfl) (by simp) ?_
            refine AllReadyH.cons rfl (fun K hK => ?_) AllReadyH.nil
            go_simp
            obtain ⟨U8, hU⟩ : ∃ U, U = W7.alloc (.cells #[.int .i64 x.k, .int .i64 x.n, .string x.s, .slice A2 n2 c2] 106) := ⟨_, rfl⟩
            have b : Below W7.heap.size W7 U8 := by rw [hU]; exact al (Below.refl _ _)
            have r4 : Rd U8 4 (some ⟨W7.heap.size, 0, none⟩) 1 [.int .i64 x.k, .int .i64 x.n, .string x.s, .slice A2 n2 c2] := by rw [hU]; exact rd_new4
            replace oy := own_below oy b
            replace ho := ho.below b
            replace o0 := kcell b o0
            replace o1 := kcell b o1
            replace o2 := kcell b o2
            replace fo : ∀ j, U8.frozen? ⟨w.heap.size + 1 + 1, j, none⟩ = false := fun j => (b.frozen (p := ⟨w.heap.size + 1 + 1, j, none⟩) (by show w.heap.size + 1 + 1 < _; omega)).trans (fo j)
            replace hg := hg.trans (grown_of b _)
            replace hsz := Nat.le_trans hsz b.size
            clear b
            rw [← hU]
            clear hU
            refine hK.out _ _ trivial (fun hHeld => ?_)
            clear hHeld hK K
            try simp only [Act.put, List.setIfInBounds_toArray, List.set_cons_zero, List.set_cons_succ]
            refine wpAnyH_ready (rs := [9]) (by kernel_rfl) (by simp) ?_
            refine AllReadyH.cons rfl (fun K hK => ?_) AllReadyH.nil
            refine step_catD (by rfl) (some 26) (by rfl) (.tmp 18) (.tmp 25) 50 (by rfl) (W0.heap.size) 106 i0 (.agg #[.int .i64 0, .int .i64 0, .string ⟨#[]⟩, .slice none 0 0]) 4 56 Try.underlying50 hi hz0 hz1 hz2 rfl (by decide) B m d (itl ys) (by rfl) (by exact ho.1) _ 1 _ [.int .i64 x.k, .int .i64 x.n, .string x.s, .slice A2 n2 c2] (by rfl) (by exact r4) (ones_itv (Itm.mk x.k x.n x.s A2 n2 c2 x.fs)) (by unfold maxLen; omega) (by omega) (by omega) ?_
            intro A3 m3 d3 w5 hm3 o5 b5 g5
            have HM3 := Lib.hid hm3
            have hm9 : m3 ≤ k + 1 := by omega
            clear hm3
            have OI : OwnI w5 W0.heap.size A3 m3 d3 (ys ++ [(Itm.mk x.k x.n x.s A2 n2 c2 x.fs)]) := OwnI.push (y := (Itm.mk x.k x.n x.s A2 n2 c2 x.fs)) ho hold (Nat.le_refl _) hle oy o5 g5
            replace hg := grown_belowI hg b5
            replace o0 := (b5.cell (p := ⟨w.heap.size + 1 + 1, 0, none⟩) (by show w.heap.size + 1 + 1 < W0.heap.size; omega)).trans o0
            replace o1 := (b5.cell (p := ⟨w.heap.size + 1 + 1, 1, none⟩) (by show w.heap.size + 1 + 1 < W0.heap.size; omega)).trans o1
            replace o2 := (b5.cell (p := ⟨w.heap.size + 1 + 1, 2, none⟩) (by show w.heap.size + 1 + 1 < W0.heap.size; omega)).trans o2
            replace fo : ∀ j, w5.frozen? ⟨w.heap.size + 1 + 1, j, none⟩ = false := fun j => (b5.frozen (p := ⟨w.heap.size + 1 + 1, j, none⟩) (by show w.heap.size + 1 + 1 < W0.heap.size; omega)).trans (fo j)
            replace hsz := Nat.le_trans hsz b5.size
            clear o5 b5 g5 oy r4 hold ho
            refine hK.out _ _ trivial (fun hHeld => ?_)
            clear hHeld hK K
            try simp only [Act.put, List.setIfInBounds_toArray, List.set_cons_zero, List.set_cons_succ]
            refine takeD (i := 10) (d := some 27) (v := ?_) _ rfl rfl (by kernel_rfl) (by kernel_rfl) (by kernel_rfl) (fun _ _ _ h => h) (Or.inl ⟨by rfl, ?_⟩) trivial ?_
            rotate_left
            · (intro W hSw; clear hSw; go_simp; try with_reducible rfl)
            try simp only [Act.put, List.setIfInBounds_toArray, List.set_cons_zero, List.set_cons_succ]
            refine wpAnyH_ready (rs := [11]) (by kernel_rfl) (by simp) ?_
            refine AllReadyH.cons rfl (fun K hK => ?_) AllReadyH.nil
            go_simp
            refine hK.out _ _ trivial (fun hHeld => ?_)
            clear hHeld hK K
            try simp only [Act.put, List.setIfInBounds_toArray, List.set_cons_zero, List.set_cons_succ]
            refine wpAnyH_done (by kernel_rfl) ?_ _
            have O8 : Hid (OwnI (w5.setCell ⟨w.heap.size + 1 + 1, 1, none⟩ (.slice A3 m3 d3)) W0.heap.size A3 m3 d3 (ys ++ [(Itm.mk x.k x.n x.s A2 n2 c2 x.fs)])) := Lib.hid (OwnI.setB OI (a := ⟨w.heap.size + 1 + 1, 1, none⟩) (by show w.heap.size + 1 + 1 < W0.heap.size; omega) _)
            have c0 : Hid ((w5.setCell ⟨w.heap.size + 1 + 1, 1, none⟩ (.slice A3 m3 d3)).cell? ⟨w.heap.size + 1 + 1, 0, none⟩ = some (.string s)) := Lib.hid (by simp [go_sem, o0])
            have c1 : Hid ((w5.setCell ⟨w.heap.size + 1 + 1, 1, none⟩ (.slice A3 m3 d3)).cell? ⟨w.heap.size + 1 + 1, 1, none⟩ = some (.slice A3 m3 d3)) := Lib.hid (by simp [go_sem, o1])
            have c2_ : Hid ((w5.setCell ⟨w.heap.size + 1 + 1, 1, none⟩ (.slice A3 m3 d3)).cell? ⟨w.heap.size + 1 + 1, 2, none⟩ = some (.int .i64 au)) := Lib.hid (by simp [go_sem, o2])
            have cf : Hid (∀ j, (w5.setCell ⟨w.heap.size + 1 + 1, 1, none⟩ (.slice A3 m3 d3)).frozen? ⟨w.heap.size + 1 + 1, j, none⟩ = false) := Lib.hid (fun j => by simp [fo])
            have G8 : Hid (W0.grownBy (w5.setCell ⟨w.heap.size + 1 + 1, 1, none⟩ (.slice A3 m3 d3)) (some (w.heap.size + 1 + 1))) := Lib.hid (grown_setI hg _ _)
            clear OI hg
            go_wp2
            go_roundw
            case rel => exact ⟨k + 1, A3, m3, d3, _, by omega, by go_num, hm9, by (rw [List.map_append, HY.out, take_snoc HX.out]; rfl), O8.out, ⟨c0.out, c1.out, c2_.out⟩, cf.out, G8.out⟩
            case measure => simp [intOf]; omega
          · go_simp
            refine (l6Item_any x _ hxm hrx).mono ?_; rintro e W7 ⟨A2, n2, c2, rfl, oy, b⟩
            try go_wp2_with fail
            have hold := ho
            have hle := hg.size
            have hmn : m + 1 ≤ 1048577 := by omega
            replace ho := ho.below b
            replace o0 := kcell b o0
            replace o1 := kcell b o1
            replace o2 := kcell b o2
            replace fo : ∀ j, W7.frozen? ⟨w.heap.size + 1 + 1, j, none⟩ = false := fun j => (b.frozen (p := ⟨w.heap.size + 1 + 1, j, none⟩) (by show w.heap.size + 1 + 1 < _; omega)).trans (fo j)
            replace hg := hg.trans (grown_of b _)
            replace hsz := Nat.le_trans hsz b.size
            clear b
            refine hK.out _ _ trivial (fun hHeld => ?_)
            clear hHeld hK K
            try simp only [Act.put, List.setIfInBounds_toArray, List.set_cons_zero, List.set_cons_succ]
            refine wpAnyH_ready (rs := [1, 8]) (by kernel_rfl) (by simp) ?_
            refine AllReadyH.cons rfl (fun K hK => ?_) (AllReadyH.cons rfl (fun K hK => ?_) AllReadyH.nil)
            · go_simp
              refine hK.out _ _ trivial (fun hHeld => ?_)
              clear hHeld hK K
              try simp only [Act.put, List.setIfInBounds_toArray, List.set_cons_zero, List.set_cons_succ]
              refine wpAnyH_ready (rs := [8]) (by kernel_rfl) (by simp) ?_
              refine AllReadyH.cons rfl (fun K hK => ?_) AllReadyH.nil
              go_simp
              obtain ⟨U8, hU⟩ : ∃ U, U = W7.alloc (.cells #[.int .i64 x.k, .int .i64 x.n, .string x.s, .slice A2 n2 c2] 106) := ⟨_, rfl⟩
              have b : Below W7.heap.size W7 U8 := by rw [hU]; exact al (Below.refl _ _)
              have r4 : Rd U8 4 (some ⟨W7.heap.size, 0, none⟩) 1 [.int .i64 x.k, .int .i64 x.n, .string x.s, .slice A2 n2 c2] := by rw [hU]; exact rd_new4
              replace oy := own_below oy b
              replace ho := ho.below b
              replace o0 := kcell b o0
              replace o1 := kcell b o1
              replace o2 := kcell b o2
              replace fo : ∀ j, U8.frozen? ⟨w.heap.size + 1 + 1, j, none⟩ = false := fun j => (b.frozen (p := ⟨w.heap.size + 1 + 1, j, none⟩) (by show w.heap.size + 1 + 1 < _; omega)).trans (fo j)
              replace hg := hg.trans (grown_of b _)
              replace hsz := Nat.le_trans hsz b.size
              clear b
              rw [← hU]
              clear hU
              refine hK.out _ _ trivial (fun hHeld => ?_)
              clear hHeld hK K
              try simp only [Act.put, List.setIfInBounds_toArray, List.set_cons_zero, List.set_cons_succ]
              refine wpAnyH_ready (rs := [9]) (by kernel_rfl) (by simp) ?_
              refine AllReadyH.cons rfl (fun K hK => ?_) AllReadyH.nil
              refine step_catD (by rfl) (some 26) (by rfl) (.tmp 18) (.tmp 25) 50 (by rfl) (W0.heap.size) 106 i0 (.agg #[.int .i64 0, .int .i64 0, .string ⟨#[]⟩, .slice none 0 0]) 4 56 Try.underlying50 hi hz0 hz1 hz2 rfl (by decide) B m d (itl ys) (by rfl) (by exact ho.1) _ 1 _ [.int .i64 x.k, .int .i64 x.n, .string x.s, .slice A2 n2 c2] (by rfl) (by exact r4) (ones_itv (Itm.mk x.k x.n x.s A2 n2 c2 x.fs)) (by unfold maxLen; omega) (by omega) (by omega) ?_
              intro A3 m3 d3 w5 hm3 o5 b5 g5
              have HM3 := Lib.hid hm3
              have hm9 : m3 ≤ k + 1 := by omega
              clear hm3
              have OI : OwnI w5 W0.heap.size A3 m3 d3 (ys ++ [(Itm.mk x.k x.n x.s A2 n2 c2 x.fs)]) := OwnI.push (y := (Itm.mk x.k x.n x.s A2 n2 c2 x.fs)) ho hold (Nat.le_refl _) hle oy o5 g5
              replace hg := grown_belowI hg b5
              replace o0 := (b5.cell (p := ⟨w.heap.size + 1 + 1, 0, none⟩) (by show w.heap.size + 1 + 1 < W0.heap.size; omega)).trans o0
              replace o1 := (b5.cell (p := ⟨w.heap.size + 1 + 1, 1, none⟩) (by show w.heap.size + 1 + 1 < W0.heap.size; omega)).trans o1
              replace o2 := (b5.cell (p := ⟨w.heap.size + 1 + 1, 2, none⟩) (by show w.heap.size + 1 + 1 < W0.heap.size; omega)).trans o2
              replace fo : ∀ j, w5.frozen? ⟨w.heap.size + 1 + 1, j, none⟩ = false := fun j => (b5.frozen (p := ⟨w.heap.size + 1 + 1, j, none⟩) (by show w.heap.size + 1 + 1 < W0.heap.size; omega)).trans (fo j)
              replace hsz := Nat.le_trans hsz b5.size
              clear o5 b5 g5 oy r4 hold ho
              refine hK.out _ _ trivial (fun hHeld => ?_)
              clear hHeld hK K
              try simp only [Act.put, List.setIfInBounds_toArray, List.set_cons_zero, List.set_cons_succ]
              refine takeD (i := 10) (d := some 27) (v := ?_) _ rfl rfl (by kernel_rfl) (by kernel_rfl) (by kernel_rfl) (fun _ _ _ h => h) (Or.inl ⟨by rfl, ?_⟩) trivial ?_
              rotate_left
              · (intro W hSw; clear hSw; go_simp; try with_reducible rfl)
              try simp only [Act.put, List.setIfInBounds_toArray, List.set_cons_zero, List.set_cons_succ]
              refine wpAnyH_ready (rs := [11]) (by kernel_rfl) (by simp) ?_
              refine AllReadyH.cons rfl (fun K hK => ?_) AllReadyH.nil
              go_simp
              refine hK.out _ _ trivial (fun hHeld => ?_)
              clear hHeld hK K
              try simp only [Act.put, List.setIfInBounds_toArray, List.set_cons_zero, List.set_cons_succ]
              refine wpAnyH_done (by kernel_rfl) ?_ _
              have O8 : Hid (OwnI (w5.setCell ⟨w.heap.size + 1 + 1, 1, none⟩ (.slice A3 m3 d3)) W0.heap.size A3 m3 d3 (ys ++ [(Itm.mk x.k x.n x.s A2 n2 c2 x.fs)])) := Lib.hid (OwnI.setB OI (a := ⟨w.heap.size + 1 + 1, 1, none⟩) (by show w.heap.size + 1 + 1 < W0.heap.size; omega) _)
              have c0 : Hid ((w5.setCell ⟨w.heap.size + 1 + 1, 1, none⟩ (.slice A3 m3 d3)).cell? ⟨w.heap.size + 1 + 1, 0, none⟩ = some (.string s)) := Lib.hid (by simp [go_sem, o0])
              have c1 : Hid ((w5.setCell ⟨w.heap.size + 1 + 1, 1, none⟩ (.slice A3 m3 d3)).cell? ⟨w.heap.size + 1 + 1, 1, none⟩ = some (.slice A3 m3 d3)) := Lib.hid (by simp [go_sem, o1])
              have c2_ : Hid ((w5.setCell ⟨w.heap.size + 1 + 1, 1, none⟩ (.slice A3 m3 d3)).cell? ⟨w.heap.size + 1 + 1, 2, none⟩ = some (.int .i64 au)) := Lib.hid (by simp [go_sem, o2])
              have cf : Hid (∀ j, (w5.setCell ⟨w.heap.size + 1 + 1, 1, none⟩ (.slice A3 m3 d3)).frozen? ⟨w.heap.size + 1 + 1, j, none⟩ = false) := Lib.hid (fun j => by simp [fo])
              have G8 : Hid (W0.grownBy (w5.setCell ⟨w.heap.size + 1 + 1, 1, none⟩ (.slice A3 m3 d3)) (some (w.heap.size + 1 + 1))) := Lib.hid (grown_setI hg _ _)
              clear OI hg
              go_wp2
              go_roundw
              case rel => exact ⟨k + 1, A3, m3, d3, _, by omega, by go_num, hm9, by (rw [List.map_append, HY.out, take_snoc HX.out]; rfl), O8.out, ⟨c0.out, c1.out, c2_.out⟩, cf.out, G8.out⟩
              case measure => simp [intOf]; omega
            · go_simp
              obtain ⟨U8, hU⟩ : ∃ U, U = W7.alloc (.cells #[.int .i64 x.k, .int .i64 x.n, .string x.s, .slice A2 n2 c2] 106) := ⟨_, rfl⟩
              have b : Below W7.heap.size W7 U8 := by rw [hU]; exact al (Below.refl _ _)
              have r4 : Rd U8 4 (some ⟨W7.heap.size, 0, none⟩) 1 [.int .i64 x.k, .int .i64 x.n, .string x.s, .slice A2 n2 c2] := by rw [hU]; exact rd_new4
              replace oy := own_below oy b
              replace ho := ho.below b
              replace o0 := kcell b o0
              replace o1 := kcell b o1
              replace o2 := kcell b o2
              replace fo : ∀ j, U8.frozen? ⟨w.heap.size + 1 + 1, j, none⟩ = false := fun j => (b.frozen (p := ⟨w.heap.size + 1 + 1, j, none⟩) (by show w.heap.size + 1 + 1 < _; omega)).trans (fo j)
              replace hg := hg.trans (grown_of b _)
              replace hsz := Nat.le_trans hsz b.size
              clear b
              rw [← hU]
              clear hU
              refine hK.out _ _ trivial (fun hHeld => ?_)
              clear hHeld hK K
              try simp only [Act.put, List.setIfInBounds_toArray, List.set_cons_zero, List.set_cons_succ]
              refine wpAnyH_ready (rs := [1]) (by kernel_rfl) (by simp) ?_
              refine AllReadyH.cons rfl (fun K hK => ?_) AllReadyH.nil
              go_simp
              refine hK.out _ _ trivial (fun hHeld => ?_)
              clear hHeld hK K
              try simp only [Act.put, List.setIfInBounds_toArray, List.set_cons_zero, List.set_cons_succ]
              refine wpAnyH_ready (rs := [9]) (by kernel_rfl) (by simp) ?_
              refine AllReadyH.cons rfl (fun K hK => ?_) AllReadyH.nil
              refine step_catD (by rfl) (some 26) (by rfl) (.tmp 18) (.tmp 25) 50 (by rfl) (W0.heap.size) 106 i0 (.agg #[.int .i64 0, .int .i64 0, .string ⟨#[]⟩, .slice none 0 0]) 4 56 Try.underlying50 hi hz0 hz1 hz2 rfl (by decide) B m d (itl ys) (by rfl) (by exact ho.1) _ 1 _ [.int .i64 x.k, .int .i64 x.n, .string x.s, .slice A2 n2 c2] (by rfl) (by exact r4) (ones_itv (Itm.mk x.k x.n x.s A2 n2 c2 x.fs)) (by unfold maxLen; omega) (by omega) (by omega) ?_
              intro A3 m3 d3 w5 hm3 o5 b5 g5
              have HM3 := Lib.hid hm3
              have hm9 : m3 ≤ k + 1 := by omega
              clear hm3
              have OI : OwnI w5 W0.heap.size A3 m3 d3 (ys ++ [(Itm.mk x.k x.n x.s A2 n2 c2 x.fs)]) := OwnI.push (y := (Itm.mk x.k x.n x.s A2 n2 c2 x.fs)) ho hold (Nat.le_refl _) hle oy o5 g5
              replace hg := grown_belowI hg b5
              replace o0 := (b5.cell (p := ⟨w.heap.size + 1 + 1, 0, none⟩) (by show w.heap.size + 1 + 1 < W0.heap.size; omega)).trans o0
              replace o1 := (b5.cell (p := ⟨w.heap.size + 1 + 1, 1, none⟩) (by show w.heap.size + 1 + 1 < W0.heap.size; omega)).trans o1
              replace o2 := (b5.cell (p := ⟨w.heap.size + 1 + 1, 2, none⟩) (by show w.heap.size + 1 + 1 < W0.heap.size; omega)).trans o2
              replace fo : ∀ j, w5.frozen? ⟨w.heap.size + 1 + 1, j, none⟩ = false := fun j => (b5.frozen (p := ⟨w.heap.size + 1 + 1, j, none⟩) (by show w.heap.size + 1 + 1 < W0.heap.size; omega)).trans (fo j)
              replace hsz := Nat.le_trans hsz b5.size
              clear o5 b5 g5 oy r4 hold ho
              refine hK.out _ _ trivial (fun hHeld => ?_)
              clear hHeld hK K
              try simp only [Act.put, List.setIfInBounds_toArray, List.set_cons_zero, List.set_cons_succ]
              refine takeD (i := 10) (d := some 27) (v := ?_) _ rfl rfl (by kernel_rfl) (by kernel_rfl) (by kernel_rfl) (fun _ _ _ h => h) (Or.inl ⟨by rfl, ?_⟩) trivial ?_
              rotate_left
              · (intro W hSw; clear hSw; go_simp; try with_reducible rfl)
              try simp only [Act.put, List.setIfInBounds_toArray, List.set_cons_zero, List.set_cons_succ]
              refine wpAnyH_ready (rs := [11]) (by kernel_rfl) (by simp) ?_
              refine AllReadyH.cons rfl (fun K hK => ?_) AllReadyH.nil
              go_simp
              refine hK.out _ _ trivial (fun hHeld => ?_)
              clear hHeld hK K
              try simp only [Act.put, List.setIfInBounds_toArray, List.set_cons_zero, List.set_cons_succ]
              refine wpAnyH_done (by kernel_rfl) ?_ _
              have O8 : Hid (OwnI (w5.setCell ⟨w.heap.size + 1 + 1, 1, none⟩ (.slice A3 m3 d3)) W0.heap.size A3 m3 d3 (ys ++ [(Itm.mk x.k x.n x.s A2 n2 c2 x.fs)])) := Lib.hid (OwnI.setB OI (a := ⟨w.heap.size + 1 + 1, 1, none⟩) (by show w.heap.size + 1 + 1 < W0.heap.size; omega) _)
              have c0 : Hid ((w5.setCell ⟨w.heap.size + 1 + 1, 1, none⟩ (.slice A3 m3 d3)).cell? ⟨w.heap.size + 1 + 1, 0, none⟩ = some (.string s)) := Lib.hid (by simp [go_sem, o0])
              have c1 : Hid ((w5.setCell ⟨w.heap.size + 1 + 1, 1, none⟩ (.slice A3 m3 d3)).cell? ⟨w.heap.size + 1 + 1, 1, none⟩ = some (.slice A3 m3 d3)) := Lib.hid (by simp [go_sem, o1])
              have c2_ : Hid ((w5.setCell ⟨w.heap.size + 1 + 1, 1, none⟩ (.slice A3 m3 d3)).cell? ⟨w.heap.size + 1 + 1, 2, none⟩ = some (.int .i64 au)) := Lib.hid (by simp [go_sem, o2])
              have cf : Hid (∀ j, (w5.setCell ⟨w.heap.size + 1 + 1, 1, none⟩ (.slice A3 m3 d3)).frozen? ⟨w.heap.size + 1 + 1, j, none⟩ = false) := Lib.hid (fun j => by simp [fo])
              have G8 : Hid (W0.grownBy (w5.setCell ⟨w.heap.size + 1 + 1, 1, none⟩ (.slice A3 m3 d3)) (some (w.heap.size + 1 + 1))) := Lib.hid (grown_setI hg _ _)
              clear OI hg
              go_wp2
              go_roundw
              case rel => exact ⟨k + 1, A3, m3, d3, _, by omega, by go_num, hm9, by (rw [List.map_append, HY.out, take_snoc HX.out]; rfl), O8.out, ⟨c0.out, c1.out, c2_.out⟩, cf.out, G8.out⟩
              case measure => simp [intOf]; omega
    · obtain rfl : k = n := by omega
      have HT : Hid (ys.map Itm.l = l.map Itm.l) := by
        have := HY.out
        rwa [List.take_of_length_le (by rw [List.length_map]; exact Nat.le_of_eq la.out)] at this
      replace r0 := gcellI hg r0 (by omega)
      replace r1 := gcellI hg r1 (by omega)
      replace r2 := gcellI hg r2 (by omega)
      replace fr : ∀ j, wr.frozen? ⟨w.heap.size + 1, j, none⟩ = false := fun j => (grownFroz hg (by omega) (ne_some (by omega))).trans (fr j)
      have O9 : Hid (OwnI (((wr.setCell ⟨w.heap.size + 1, 0, none⟩ (.string s)).setCell ⟨w.heap.size + 1, 1, none⟩ (.slice B m d)).setCell ⟨w.heap.size + 1, 2, none⟩ (.int .i64 au)) w.heap.size B m d ys) := Lib.hid ((OwnI.setB (OwnI.setB (OwnI.setB ho (a := ⟨w.heap.size + 1, 0, none⟩) (by show w.heap.size + 1 < W0.heap.size; omega) _) (a := ⟨w.heap.size + 1, 1, none⟩) (by show w.heap.size + 1 < W0.heap.size; omega) _) (a := ⟨w.heap.size + 1, 2, none⟩) (by show w.heap.size + 1 < W0.heap.size; omega) _).base (by omega))
      have B9 : Hid (Below w.heap.size w (((wr.setCell ⟨w.heap.size + 1, 0, none⟩ (.string s)).setCell ⟨w.heap.size + 1, 1, none⟩ (.slice B m d)).setCell ⟨w.heap.size + 1, 2, none⟩ (.int .i64 au))) := Lib.hid (((hbel.setCell (p := ⟨w.heap.size + 1, 0, none⟩) (by simp) _).setCell (p := ⟨w.heap.size + 1, 1, none⟩) (by simp) _).setCell (p := ⟨w.heap.size + 1, 2, none⟩) (by simp) _)
      clear ho hg hbel
      go_wp2
      exact bodyPost_ret (v := .agg #[.string s, .slice B m d, .int .i64 au]) (by simp [results, Try.results124, go_sem, r0, r1, r2]) rfl ⟨_, _, _, ys, rfl, HT.out, O9.out, B9.out⟩
end Go.Proofs.Ytbbngihmjdndoaa
