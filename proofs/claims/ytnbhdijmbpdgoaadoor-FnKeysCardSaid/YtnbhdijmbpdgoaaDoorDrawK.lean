/-
  Proved: the contracts of the reference's draws of keys and ranges. Only what is needed of what is drawn is said. Conditions: the pointer's block is a cursor over bytes of an older block.
  By an AI agent; no person has read it.
-/
import Derived.Test.YtnbhdijmbpdgoaaDoorDrawA
import Derived.Test.YtnbhdijmbpdgoaaDoorKeyC
namespace Go.Proofs.YtnbhdijmbpdgoaaDoor
open Go.RowKit
set_option linter.unusedSimpArgs false

/-- A draw of a key. -/
def DK (w : World) (p : Nat) (P : Int → Int → ByteArray → Prop) (e : Ending) (w' : World) : Prop :=
  ∃ k n s, e = .returned (.agg #[.int .i64 k, .int .i64 n, .string s]) ∧ P k n s ∧ Cur w' p ∧ w.grownBy w' (some p)
theorem rd_lit2 (w : World) (H : Nat) (xs : List Value) (t : TypeId) (hH : w.heap.size = H) : Rd (w.alloc (.cells xs.toArray t)) 1 (some ⟨H, 0, none⟩) xs.length xs := by
  subst hH
  exact rd_lit w xs t
theorem lit_ne2 {H p : Nat} (h : p < H) : ∀ ad, some (⟨H, 0, none⟩ : Addr) = some ad → ad.block ≠ p := by
  intro ad e
  injection e with e
  rw [← e]
  show H ≠ p
  omega
/-- Three cells of block b, to be written. -/
def RB (w : World) (b : Nat) (x y z : Value) : Prop := (w.cell? ⟨b, 0, none⟩ = some x ∧ w.cell? ⟨b, 1, none⟩ = some y ∧ w.cell? ⟨b, 2, none⟩ = some z) ∧ w.frozen? ⟨b, 0, none⟩ = false ∧ w.frozen? ⟨b, 1, none⟩ = false ∧ w.frozen? ⟨b, 2, none⟩ = false
theorem RB.lt {w : World} {b : Nat} {x y z : Value} (h : RB w b x y z) : b < w.heap.size := World.block_lt_of_cell? w _ h.1.1
theorem RB.grown {w w' : World} {b p : Nat} {x y z : Value} (h : RB w b x y z) (hg : w.grownBy w' (some p)) (hne : b ≠ p) : RB w' b x y z := by
  have hb : w'.heap[b]? = w.heap[b]? := hg.block b h.lt (fun e => hne (by injection e))
  have hc : ∀ o, w'.cell? ⟨b, o, none⟩ = w.cell? ⟨b, o, none⟩ := fun o => World.cell?_of_block hb
  have hf : ∀ o, w'.frozen? ⟨b, o, none⟩ = w.frozen? ⟨b, o, none⟩ := fun o => World.frozen?_of_block hb
  obtain ⟨⟨a0, a1, a2⟩, f0, f1, f2⟩ := h
  exact ⟨⟨(hc 0).trans a0, (hc 1).trans a1, (hc 2).trans a2⟩, (hf 0).trans f0, (hf 1).trans f1, (hf 2).trans f2⟩
theorem RB.new (w : World) (x y z : Value) (t : TypeId) : RB (w.alloc (.cells #[x, y, z] t)) w.heap.size x y z := ⟨⟨by simp, by simp, by simp⟩, by simp, by simp, by simp⟩
theorem RB.alloc {w : World} {b : Nat} {x y z : Value} (h : RB w b x y z) (o : Obj) : RB (w.alloc o) b x y z :=
  h.grown (p := w.heap.size) (only_alloc (World.grownBy.refl w _) o) (by have := h.lt; omega)
/-- The result is stored. -/
theorem res3 {w w1 : World} {p : Nat} {x y z : Value} (hc : Cur w1 p) (hg : w.grownBy w1 (some p)) (hp : p < w.heap.size) :
    Cur (((w1.setCell ⟨w.heap.size, 0, none⟩ x).setCell ⟨w.heap.size, 1, none⟩ y).setCell ⟨w.heap.size, 2, none⟩ z) p ∧ w.grownBy (((w1.setCell ⟨w.heap.size, 0, none⟩ x).setCell ⟨w.heap.size, 1, none⟩ y).setCell ⟨w.heap.size, 2, none⟩ z) (some p) := by
  have h : ∀ (W : World) (o : Nat) (v : Value), Cur W p → Cur (W.setCell ⟨w.heap.size, o, none⟩ v) p := fun W o v h => h.grown (row := some w.heap.size) (only_setCell (World.grownBy.refl W _) (.inl rfl) v) (fun k e => by injection e with e; omega)
  have k : ∀ (W : World) (o : Nat) (v : Value), w.grownBy W (some p) → w.grownBy (W.setCell ⟨w.heap.size, o, none⟩ v) (some p) := fun W o v h => only_setCell h (.inr (Nat.le_refl _)) v
  exact ⟨h _ _ _ (h _ _ _ (h _ _ _ hc)), k _ _ _ (k _ _ _ (k _ _ _ hg))⟩

theorem l4Number_any (p : Nat) (w : World) (hc : Cur w p) : Calls Tryd.prog 58 #[.pointer (some ⟨p, 0, none⟩)] w (DI w p fun x => -1000000000000 ≤ x ∧ x ≤ 1000000000000) := by
  go_enter Tryd.func58, Tryd.ntmps58
  go_wp2_with fail
  refine (l1Below_any p 9 _ (by omega) (by omega) hc).mono ?_
  rintro e w1 ⟨x, rfl, hx, c1, g1⟩
  have hp := c1.lt
  go_wp2_with fail
  refine (l1Int_any p _ 9 9 [0, 1, 2, -1, 255, 256, -1000000000000, 1000000000000, x] _ (by decide) (by decide) (rd_lit w1 _ _) (lit_ne hp) (c1.below (al' _))).mono ?_
  rintro e w2 ⟨y, rfl, hy, c2, g2⟩
  go_wp2
  go_ret
  refine ⟨y, rfl, ?_, c2, only_trans g1 (only_trans (only_alloc (World.grownBy.refl _ _) _) g2)⟩
  simp only [List.mem_cons, List.not_mem_nil, or_false] at hy
  omega

/-- The texts that are drawn. -/
def kTexts : List ByteArray := [⟨#[]⟩, ⟨#[97]⟩, ⟨#[97, 98]⟩, ⟨#[98]⟩, ⟨#[122, 57]⟩, ⟨#[97, 98, 99, 100, 101, 102, 103, 104, 105, 106, 107, 108]⟩]
theorem kTexts_ok : ∀ s ∈ kTexts, textB s.data.toList = true := by decide

theorem keyB_num {n : Int} (h1 : -1000000000000 ≤ n) (h2 : n ≤ 1000000000000) : keyB 1 n ⟨#[]⟩ = true := by
  have e : inR n (-1000000000000) 1000000000000 = true := inR_true h1 h2
  unfold keyB
  rw [e]
  rfl
theorem keyB_pair {n : Int} {s : ByteArray} (h1 : -1000000000000 ≤ n) (h2 : n ≤ 1000000000000) (h3 : textB s.data.toList = true) : keyB 3 n s = true := by
  have e : inR n (-1000000000000) 1000000000000 = true := inR_true h1 h2
  unfold keyB
  rw [e, h3]
  rfl
theorem keyB_text {s : ByteArray} (h3 : textB s.data.toList = true) : keyB 2 0 s = true := by
  unfold keyB
  rw [h3]
  rfl
set_option maxRecDepth 100000 in
theorem l4Key_any (p : Nat) (w : World) (hc : Cur w p) : Calls Tryd.prog 38 #[.pointer (some ⟨p, 0, none⟩)] w (DK w p fun k n s => keyB k n s = true) := by
  have hp := hc.lt
  go_enter Tryd.func38, Tryd.ntmps38
  go_wp2_with fail
  refine (l1Str_any p _ 6 6 [⟨#[]⟩, ⟨#[97]⟩, ⟨#[97, 98]⟩, ⟨#[98]⟩, ⟨#[122, 57]⟩, ⟨#[97, 98, 99, 100, 101, 102, 103, 104, 105, 106, 107, 108]⟩] _ (by decide) (by decide) (rd_lit2 (w.alloc _) (w.heap.size + 1) _ _ (by simp)) (lit_ne2 (by omega)) ((hc.below (al' _)).below (al' _))).mono ?_
  rintro e w1 ⟨s, rfl, hs, c1, g1⟩
  have ht := Lib.hid (kTexts_ok s hs)
  clear hs
  have r1 := ((RB.new w (.int .i64 0) (.int .i64 0) (.string ⟨#[]⟩) 23).alloc _).grown g1 (by omega)
  have G1 := only_trans (only_trans (only_alloc (World.grownBy.refl w (some p)) _) (only_alloc (World.grownBy.refl _ _) _)) g1
  go_wp2_with fail
  refine (l1Below_any p 3 _ (by omega) (by omega) c1).mono ?_
  rintro e w2 ⟨x, rfl, hx, c2, g2⟩
  have r2 := r1.grown g2 (by omega)
  have G2 := only_trans G1 g2
  clear r1 G1 g1 g2 c1
  rcases (by omega : x = 0 ∨ x = 1 ∨ x = 2) with rfl | rfl | rfl
  · obtain ⟨⟨d0, d1, d2⟩, f0, f1, f2⟩ := r2
    go_wp2
    exact bodyPost_ret (v := .agg #[.int .i64 2, .int .i64 0, .string s]) (by simp [results, Tryd.results38, go_sem, d0, d1, d2]) rfl ⟨_, _, _, rfl, keyB_text ht.out, res3 c2 G2 hp⟩
  · go_wp2_with fail
    refine (l4Number_any p _ c2).mono ?_
    rintro e w3 ⟨n, rfl, hn, c3, g3⟩
    have r3 := r2.grown g3 (by omega)
    have G3 := only_trans G2 g3
    clear r2 G2 g3 c2
    obtain ⟨⟨d0, d1, d2⟩, f0, f1, f2⟩ := r3
    go_wp2
    exact bodyPost_ret (v := .agg #[.int .i64 3, .int .i64 n, .string s]) (by simp [results, Tryd.results38, go_sem, d0, d1, d2]) rfl ⟨_, _, _, rfl, keyB_pair hn.1 hn.2 ht.out, res3 c3 G3 hp⟩
  · go_wp2_with fail
    refine (l4Number_any p _ c2).mono ?_
    rintro e w3 ⟨n, rfl, hn, c3, g3⟩
    have r3 := r2.grown g3 (by omega)
    have G3 := only_trans G2 g3
    clear r2 G2 g3 c2
    obtain ⟨⟨d0, d1, d2⟩, f0, f1, f2⟩ := r3
    go_wp2
    exact bodyPost_ret (v := .agg #[.int .i64 1, .int .i64 n, .string ⟨#[]⟩]) (by simp [results, Tryd.results38, go_sem, d0, d1, d2]) rfl ⟨_, _, _, rfl, keyB_num hn.1 hn.2, res3 c3 G3 hp⟩

/-- What is needed of any key that is drawn. -/
def anyK (k n : Int) (s : ByteArray) : Prop := (-4 ≤ k ∧ k ≤ 5) ∧ (-1000000000001 ≤ n ∧ n ≤ 1000000000001) ∧ s.size ≤ 13
theorem anyK_of {k n : Int} {s : ByteArray} (h : keyB k n s = true) : anyK k n s := by
  obtain ⟨h1, h2, _, _, _⟩ := keyB_parts h
  have h3 := keyB_len h
  exact ⟨by omega, by omega, by omega⟩
/-- A cell is stored in a row that is not the cursor. -/
theorem cur_set {w : World} {p b o : Nat} {v : Value} (h : Cur w p) (hb : p < b) : Cur (w.setCell ⟨b, o, none⟩ v) p := h.grown (row := some b) (only_setCell (World.grownBy.refl w _) (.inl rfl) v) (fun k e => by injection e with e; omega)
theorem gro_set {a w : World} {p b o : Nat} {v : Value} (h : a.grownBy w (some p)) (hb : a.heap.size ≤ b) : a.grownBy (w.setCell ⟨b, o, none⟩ v) (some p) := only_setCell h (.inr hb) v

set_option maxRecDepth 100000 in
set_option maxHeartbeats 800000 in
theorem l4Any_any (p : Nat) (w : World) (hc : Cur w p) : Calls Tryd.prog 45 #[.pointer (some ⟨p, 0, none⟩)] w (DK w p anyK) := by
  have hp := hc.lt
  go_enter Tryd.func45, Tryd.ntmps45
  go_wp2_with fail
  refine (l4Key_any p _ (hc.below (al' _))).mono ?_
  rintro e w1 ⟨k, n, s, rfl, hk0, c1, g1⟩
  have hk := anyK_of hk0
  have r1 := (RB.new w (.int .i64 0) (.int .i64 0) (.string ⟨#[]⟩) 23).grown g1 (by omega)
  have G1 := only_trans (only_alloc (World.grownBy.refl w (some p)) _) g1
  have hp1 := c1.lt
  have hs1 : w.heap.size < w1.heap.size := r1.lt
  clear hk0 g1
  have rk := RB.new w1 (.int .i64 k) (.int .i64 n) (.string s) 23
  have r2 := r1.alloc (.cells #[.int .i64 k, .int .i64 n, .string s] 23)
  have G2 := only_alloc G1 (.cells #[.int .i64 k, .int .i64 n, .string s] 23)
  go_wp2_with fail
  refine (l1Below_any p 10 _ (by omega) (by omega) (c1.below (al' _))).mono ?_
  rintro e w2 ⟨x, rfl, hx, c2, g2⟩
  replace rk := rk.grown g2 (by omega)
  replace r2 := r2.grown g2 (by omega)
  replace G2 := only_trans G2 g2
  clear r1 G1 g2 c1
  have hne : ¬ w1.heap.size = w.heap.size := by omega
  have hne2 : ¬ w.heap.size = w1.heap.size := by omega
  rcases (by omega : x = 0 ∨ x = 1 ∨ x = 2 ∨ 2 < x) with rfl | rfl | rfl | hx3
  · go_wp2_with fail
    refine (l1Below_any p 5 _ (by omega) (by omega) c2).mono ?_
    rintro e w3 ⟨y, rfl, hy, c3, g3⟩
    replace rk := rk.grown g3 (by omega)
    replace r2 := r2.grown g3 (by omega)
    replace G2 := only_trans G2 g3
    clear g3 c2
    obtain ⟨⟨d0, d1, d2⟩, f0, f1, f2⟩ := r2
    obtain ⟨⟨k0, k1, k2⟩, h0, h1, h2⟩ := rk
    have hv : anyK y n s := ⟨by omega, hk.2⟩
    go_wp2
    exact bodyPost_ret (v := .agg #[.int .i64 y, .int .i64 n, .string s]) (by simp [results, Tryd.results45, go_sem, d0, d1, d2, hne, hne2]) rfl ⟨_, _, _, rfl, hv, res3 (cur_set c3 hp1) (gro_set G2 (by omega)) hp⟩
  · have hp2 := c2.lt
    go_wp2_with fail
    refine (l1Int_any p _ 3 3 [-1000000000001, 1000000000001, 5] _ (by decide) (by decide) (rd_lit w2 _ _) (lit_ne hp2) (c2.below (al' _))).mono ?_
    rintro e w3 ⟨y, rfl, hy, c3, g3⟩
    replace rk := (rk.alloc _).grown g3 (by omega)
    replace r2 := (r2.alloc _).grown g3 (by omega)
    replace G2 := only_trans (only_alloc G2 _) g3
    clear g3 c2
    obtain ⟨⟨d0, d1, d2⟩, f0, f1, f2⟩ := r2
    obtain ⟨⟨k0, k1, k2⟩, h0, h1, h2⟩ := rk
    have hv : anyK k y s := ⟨hk.1, (by decide : ∀ x ∈ [-1000000000001, 1000000000001, (5 : Int)], -1000000000001 ≤ x ∧ x ≤ 1000000000001) y hy, hk.2.2⟩
    clear hy
    go_wp2
    exact bodyPost_ret (v := .agg #[.int .i64 k, .int .i64 y, .string s]) (by simp [results, Tryd.results45, go_sem, d0, d1, d2, hne, hne2]) rfl ⟨_, _, _, rfl, hv, res3 (cur_set c3 hp1) (gro_set G2 (by omega)) hp⟩
  · have hp2 := c2.lt
    go_wp2_with fail
    refine (l1Str_any p _ 4 4 [⟨#[65]⟩, ⟨#[97, 32, 98]⟩, ⟨#[97, 98, 99, 100, 101, 102, 103, 104, 105, 106, 107, 108, 109]⟩, ⟨#[120, 39]⟩] _ (by decide) (by decide) (rd_lit w2 _ _) (lit_ne hp2) (c2.below (al' _))).mono ?_
    rintro e w3 ⟨y, rfl, hy, c3, g3⟩
    replace rk := (rk.alloc _).grown g3 (by omega)
    replace r2 := (r2.alloc _).grown g3 (by omega)
    replace G2 := only_trans (only_alloc G2 _) g3
    clear g3 c2
    obtain ⟨⟨d0, d1, d2⟩, f0, f1, f2⟩ := r2
    obtain ⟨⟨k0, k1, k2⟩, h0, h1, h2⟩ := rk
    have hv : anyK k n y := ⟨hk.1, hk.2.1, (by decide : ∀ x ∈ [(⟨#[65]⟩ : ByteArray), ⟨#[97, 32, 98]⟩, ⟨#[97, 98, 99, 100, 101, 102, 103, 104, 105, 106, 107, 108, 109]⟩, ⟨#[120, 39]⟩], x.size ≤ 13) y hy⟩
    clear hy
    go_wp2
    exact bodyPost_ret (v := .agg #[.int .i64 k, .int .i64 n, .string y]) (by simp [results, Tryd.results45, go_sem, d0, d1, d2, hne, hne2]) rfl ⟨_, _, _, rfl, hv, res3 (cur_set c3 hp1) (gro_set G2 (by omega)) hp⟩
  · obtain ⟨⟨d0, d1, d2⟩, f0, f1, f2⟩ := r2
    obtain ⟨⟨k0, k1, k2⟩, h0, h1, h2⟩ := rk
    have e0 : (x == 0) = false := by simp; omega
    have e1 : (x == 1) = false := by simp; omega
    have e2 : (x == 2) = false := by simp; omega
    go_wp2
    exact bodyPost_ret (v := .agg #[.int .i64 k, .int .i64 n, .string s]) (by simp [results, Tryd.results45, go_sem, d0, d1, d2, hne, hne2]) rfl ⟨_, _, _, rfl, hk, res3 c2 G2 hp⟩
end Go.Proofs.YtnbhdijmbpdgoaaDoor
