/-
  Proved: the contracts of DeleteItems, of the program and of the reference. Conditions: the slices read as lists.
  By an AI agent; no person has read it.
-/
import Derived.Test.YtbbngihmjdndoaaItK
import Derived.Test.YtbbngihmjdndoaaItJ
import Derived.Test.YtbbngihmjdndoaaItS
import Derived.Deep.CutBlock
import Derived.Deep.CutRange
import Derived.Deep.DeepCutAuto
namespace Go.Proofs.Ytbbngihmjdndoaa
open Go.RowKit
set_option linter.unusedSimpArgs false
set_option linter.unusedVariables false

/-- What DeleteItems leaves, and how many it takes away. -/
def delL (p : LIt → Bool) (s : ByteArray) (u : Int) (L : List LIt) : List LIt := if storeB s L u then L.filter (fun x => !p x) else L
def delN (p : LIt → Bool) (s : ByteArray) (u : Int) (L : List LIt) : Int := if storeB s L u then (L.length : Int) - ((L.filter (fun x => !p x)).length : Int) else 0
theorem del_no {p : LIt → Bool} {s : ByteArray} {u : Int} {L : List LIt} (h : storeB s L u = false) : delL p s u L = L ∧ delN p s u L = 0 := by
  unfold delL delN
  rw [h]
  exact ⟨rfl, rfl⟩
theorem del_yes {p : LIt → Bool} {s : ByteArray} {u : Int} {L : List LIt} (h : storeB s L u = true) : delL p s u L = L.filter (fun x => !p x) ∧ delN p s u L = (L.length : Int) - ((L.filter (fun x => !p x)).length : Int) := by
  unfold delL delN
  rw [h]
  exact ⟨rfl, rfl⟩
def MkSD (w : World) (s : ByteArray) (l : List LIt) (au z : Int) (e : Ending) (w' : World) : Prop := ∃ A n c l', e = .returned (.tuple #[.agg #[.string s, .slice A n c, .int .i64 au], .int .i64 z]) ∧ l'.map Itm.l = l ∧ OwnI w' w.heap.size A n c l' ∧ Below w.heap.size w w'
theorem setS4 {W : World} {b0 b3 o0 o1 o2 o3 : Nat} {v0 v1 v2 v3 : Value} (h : W.cell? ⟨b0, o0, none⟩ = some v0 ∧ W.cell? ⟨b0, o1, none⟩ = some v1 ∧ W.cell? ⟨b0, o2, none⟩ = some v2 ∧ W.cell? ⟨b3, o3, none⟩ = some v3) {r : Nat} (x y z : Value) (n0 : r ≠ b0) (n3 : r ≠ b3) :
    (((W.setCell ⟨r, 0, none⟩ x).setCell ⟨r, 1, none⟩ y).setCell ⟨r, 2, none⟩ z).cell? ⟨b0, o0, none⟩ = some v0 ∧ (((W.setCell ⟨r, 0, none⟩ x).setCell ⟨r, 1, none⟩ y).setCell ⟨r, 2, none⟩ z).cell? ⟨b0, o1, none⟩ = some v1 ∧ (((W.setCell ⟨r, 0, none⟩ x).setCell ⟨r, 1, none⟩ y).setCell ⟨r, 2, none⟩ z).cell? ⟨b0, o2, none⟩ = some v2 ∧ (((W.setCell ⟨r, 0, none⟩ x).setCell ⟨r, 1, none⟩ y).setCell ⟨r, 2, none⟩ z).cell? ⟨b3, o3, none⟩ = some v3 := by
  have key : ∀ {b o : Nat} {v : Value}, r ≠ b → W.cell? ⟨b, o, none⟩ = some v → (((W.setCell ⟨r, 0, none⟩ x).setCell ⟨r, 1, none⟩ y).setCell ⟨r, 2, none⟩ z).cell? ⟨b, o, none⟩ = some v := by
    intro b o v hne hc
    rw [World.cell?_setCell_far _ ⟨r, 2, none⟩ ⟨b, o, none⟩ _ hne, World.cell?_setCell_far _ ⟨r, 1, none⟩ ⟨b, o, none⟩ _ hne, World.cell?_setCell_far _ ⟨r, 0, none⟩ ⟨b, o, none⟩ _ hne]
    exact hc
  exact ⟨key n0 h.1, key n0 h.2.1, key n0 h.2.2.1, key n3 h.2.2.2⟩
theorem cell_apartI {w w' : World} {A : Option Addr} {b o : Nat} {v : Value} (hg : w.grownBy w' (A.map (·.block))) (h : w.cell? ⟨b, o, none⟩ = some v) (hA : ∀ ad, A = some ad → ad.block ≠ b) : w'.cell? ⟨b, o, none⟩ = some v :=
  hg.cell h (fun e => by
    cases A with
    | none => cases e
    | some ad =>
      have := hA ad rfl
      simp at e
      omega)
theorem froz_apartI {w w' : World} {A : Option Addr} {b o : Nat} (hg : w.grownBy w' (A.map (·.block))) (hlt : b < w.heap.size) (hA : ∀ ad, A = some ad → ad.block ≠ b) : w'.frozen? ⟨b, o, none⟩ = w.frozen? ⟨b, o, none⟩ :=
  grownFroz hg hlt (fun e => by
    cases A with
    | none => cases e
    | some ad =>
      have := hA ad rfl
      simp at e
      omega)
theorem own_setNeI {w : World} {base : Nat} {e : TypeId} {size : Nat} {A : Option Addr} {n c : Nat} {xs : List Value} (h : w.ownsRow base e size (.slice A n c) n xs) {a : Addr} (v : Value) (hne : ∀ ad, A = some ad → ad.block ≠ a.block) : (w.setCell a v).ownsRow base e size (.slice A n c) n xs :=
  (Mid.set (Mid.refl a.block (a.block + 1) w) (Nat.le_refl _) (Nat.lt_succ_self _) v).own h (fun ad h2 => by have := hne ad h2; omega)

set_option maxRecDepth 100000 in
set_option maxHeartbeats 20000000 in
theorem specDeleteItems_any (s : ByteArray) (A : Option Addr) (n c : Nat) (au : Int) (l : List Itm) (a b : Bool) (k1 q1 : Int) (s1 : ByteArray) (k2 q2 : Int) (s2 : ByteArray) (w : World) (hs : s.size ≤ maxLen) (hn : n ≤ 1048576) (hm : ∀ x ∈ l, x.m ≤ 1099511627776) (hxs : ∀ x ∈ l, x.s.size ≤ maxLen) (hs1 : s1.size ≤ maxLen) (hs2 : s2.size ≤ maxLen) (ok : okI (l.map Itm.l)) (ha : RdI w A n l) :
    Calls Try.prog 69 #[.agg #[.string s, .slice A n c, .int .i64 au], .agg #[.bool a, .bool b, .int .i64 k1, .int .i64 q1, .string s1, .int .i64 k2, .int .i64 q2, .string s2]] w (MkSD w s (delL (inL a b k1 q1 s1 k2 q2 s2) s au (l.map Itm.l)) au (delN (inL a b k1 q1 s1 k2 q2 s2) s au (l.map Itm.l))) := by
  obtain ⟨i0, hi, hz0, hz1, hz2⟩ := info_parts infoIt
  have la := Lib.hid ha.lenI
  obtain ⟨W1, hW1⟩ : ∃ W, W = ((w.alloc (.cells #[.string s, .slice A n c, .int .i64 au] 52)).alloc (.cells #[.bool a, .bool b, .int .i64 k1, .int .i64 q1, .string s1, .int .i64 k2, .int .i64 q2, .string s2] 76)).alloc (.cells #[.string ⟨#[]⟩, .slice none 0 0, .int .i64 0] 52) := ⟨_, rfl⟩
  have hz : W1.heap.size = w.heap.size + 1 + 1 + 1 := by rw [hW1]; simp
  have hzw : w.heap.size + 1 + 1 + 1 ≤ W1.heap.size := by omega
  have B1 : Below w.heap.size w W1 := by rw [hW1]; exact al (al (al (Below.refl _ _)))
  have p0 : W1.cell? ⟨w.heap.size, 0, none⟩ = some (.string s) := by rw [hW1]; simp [go_sem]
  have p1 : W1.cell? ⟨w.heap.size, 1, none⟩ = some (.slice A n c) := by rw [hW1]; simp [go_sem]
  have p2 : W1.cell? ⟨w.heap.size, 2, none⟩ = some (.int .i64 au) := by rw [hW1]; simp [go_sem]
  have k0_ : W1.cell? ⟨w.heap.size + 1, 0, none⟩ = some (.bool a) := by rw [hW1]; simp [go_sem]
  have k1_ : W1.cell? ⟨w.heap.size + 1, 1, none⟩ = some (.bool b) := by rw [hW1]; simp [go_sem]
  have k2_ : W1.cell? ⟨w.heap.size + 1, 2, none⟩ = some (.int .i64 k1) := by rw [hW1]; simp [go_sem]
  have k3_ : W1.cell? ⟨w.heap.size + 1, 3, none⟩ = some (.int .i64 q1) := by rw [hW1]; simp [go_sem]
  have k4_ : W1.cell? ⟨w.heap.size + 1, 4, none⟩ = some (.string s1) := by rw [hW1]; simp [go_sem]
  have k5_ : W1.cell? ⟨w.heap.size + 1, 5, none⟩ = some (.int .i64 k2) := by rw [hW1]; simp [go_sem]
  have k6_ : W1.cell? ⟨w.heap.size + 1, 6, none⟩ = some (.int .i64 q2) := by rw [hW1]; simp [go_sem]
  have k7_ : W1.cell? ⟨w.heap.size + 1, 7, none⟩ = some (.string s2) := by rw [hW1]; simp [go_sem]
  have r0 : W1.cell? ⟨w.heap.size + 1 + 1, 0, none⟩ = some (.string ⟨#[]⟩) := by rw [hW1]; simp [go_sem]
  have r1 : W1.cell? ⟨w.heap.size + 1 + 1, 1, none⟩ = some (.slice none 0 0) := by rw [hW1]; simp [go_sem]
  have r2 : W1.cell? ⟨w.heap.size + 1 + 1, 2, none⟩ = some (.int .i64 0) := by rw [hW1]; simp [go_sem]
  have fr : ∀ j, W1.frozen? ⟨w.heap.size + 1 + 1, j, none⟩ = false := fun j => by rw [hW1]; simp [go_sem]
  clear hz
  obtain ⟨rb, hrb⟩ : ∃ rb, rb = storeB s (l.map Itm.l) au := ⟨_, rfl⟩
  have HB := Lib.hid hrb
  clear hrb
  go_enter Try.func69, Try.ntmps69
  go_wp2_with fail
  rw [← hW1]
  refine (specIsStore_any s A n c au l _ rb _ hs (by unfold maxLen; omega) (ha.below B1) rfl ok HB.out).mono ?_
  rintro e w1 ⟨rfl, b1⟩
  have hs1_ := b1.size
  replace p0 := kcell b1 p0
  replace p1 := kcell b1 p1
  replace p2 := kcell b1 p2
  replace k0_ := kcell b1 k0_
  replace k1_ := kcell b1 k1_
  replace k2_ := kcell b1 k2_
  replace k3_ := kcell b1 k3_
  replace k4_ := kcell b1 k4_
  replace k5_ := kcell b1 k5_
  replace k6_ := kcell b1 k6_
  replace k7_ := kcell b1 k7_
  replace r0 := kcell b1 r0
  replace r1 := kcell b1 r1
  replace r2 := kcell b1 r2
  replace fr : ∀ j, w1.frozen? ⟨w.heap.size + 1 + 1, j, none⟩ = false := fun j => (b1.frozen (p := ⟨w.heap.size + 1 + 1, j, none⟩) (by show w.heap.size + 1 + 1 < _; omega)).trans (fr j)
  have BB : Below w.heap.size w w1 := B1.trans (b1.mono B1.size)
  have hw1 : w.heap.size + 1 + 1 + 1 ≤ w1.heap.size := Nat.le_trans hzw hs1_
  clear b1 hW1 B1 hs1_ hzw
  cases rb
  · have HL := Lib.hid (del_no (p := (inL a b k1 q1 s1 k2 q2 s2)) HB.out.symm)
    go_wp2_with fail
    refine (l6Copy_any s A n c au l _ hn hm (ha.below BB)).mono ?_
    rintro e w2 ⟨A2, n2, c2, l2, rfl, e2, o2, b2⟩
    have hs2_ := b2.size
    replace p0 := kcell b2 p0
    replace p1 := kcell b2 p1
    replace p2 := kcell b2 p2
    replace k0_ := kcell b2 k0_
    replace k1_ := kcell b2 k1_
    replace k2_ := kcell b2 k2_
    replace k3_ := kcell b2 k3_
    replace k4_ := kcell b2 k4_
    replace k5_ := kcell b2 k5_
    replace k6_ := kcell b2 k6_
    replace k7_ := kcell b2 k7_
    replace r0 := kcell b2 r0
    replace r1 := kcell b2 r1
    replace r2 := kcell b2 r2
    replace fr : ∀ j, w2.frozen? ⟨w.heap.size + 1 + 1, j, none⟩ = false := fun j => (b2.frozen (p := ⟨w.heap.size + 1 + 1, j, none⟩) (by show w.heap.size + 1 + 1 < _; omega)).trans (fr j)
    have B2 : Below w.heap.size w w2 := BB.trans (b2.mono BB.size)
    have E2 : Hid (l2.map Itm.l = delL (inL a b k1 q1 s1 k2 q2 s2) s au (l.map Itm.l)) := by rw [HL.out.1]; exact e2
    clear b2 e2
    have O9 : Hid (OwnI (((w2.setCell ⟨w.heap.size + 1 + 1, 0, none⟩ (.string s)).setCell ⟨w.heap.size + 1 + 1, 1, none⟩ (.slice A2 n2 c2)).setCell ⟨w.heap.size + 1 + 1, 2, none⟩ (.int .i64 au)) w.heap.size A2 n2 c2 l2) := Lib.hid ((OwnI.setB (OwnI.setB (OwnI.setB o2 (a := ⟨w.heap.size + 1 + 1, 0, none⟩) (by show w.heap.size + 1 + 1 < w1.heap.size; omega) _) (a := ⟨w.heap.size + 1 + 1, 1, none⟩) (by show w.heap.size + 1 + 1 < w1.heap.size; omega) _) (a := ⟨w.heap.size + 1 + 1, 2, none⟩) (by show w.heap.size + 1 + 1 < w1.heap.size; omega) _).base (by omega))
    have B9 : Hid (Below w.heap.size w (((w2.setCell ⟨w.heap.size + 1 + 1, 0, none⟩ (.string s)).setCell ⟨w.heap.size + 1 + 1, 1, none⟩ (.slice A2 n2 c2)).setCell ⟨w.heap.size + 1 + 1, 2, none⟩ (.int .i64 au))) := Lib.hid (((B2.setCell (p := ⟨w.heap.size + 1 + 1, 0, none⟩) (by simp; omega) _).setCell (p := ⟨w.heap.size + 1 + 1, 1, none⟩) (by simp; omega) _).setCell (p := ⟨w.heap.size + 1 + 1, 2, none⟩) (by simp; omega) _)
    clear o2 B2
    go_wp2
    exact bodyPost_ret (v := .tuple #[.agg #[.string s, .slice A2 n2 c2, .int .i64 au], .int .i64 0]) (by simp [results, Try.results69, go_sem, r0, r1, r2]) rfl ⟨_, _, _, l2, (by rw [HL.out.2]), E2.out, O9.out, B9.out⟩
  · have HL := Lib.hid (del_yes (p := (inL a b k1 q1 s1 k2 q2 s2)) HB.out.symm)
    go_wp2
    obtain ⟨W0, hW0⟩ : ∃ W, W = w1.alloc (.cells #[.string s, .slice none 0 0, .int .i64 au] 52) := ⟨_, rfl⟩
    rw [← hW0]
    have b0 : Below w1.heap.size w1 W0 := by rw [hW0]; exact al (Below.refl _ _)
    have hz : W0.heap.size = w1.heap.size + 1 := by rw [hW0]; simp
    have hG : w1.heap.size + 1 ≤ W0.heap.size := by omega
    have hG2 : W0.heap.size ≤ w1.heap.size + 1 := by omega
    have o0 : W0.cell? ⟨w1.heap.size, 0, none⟩ = some (.string s) := by rw [hW0]; simp
    have o1 : W0.cell? ⟨w1.heap.size, 1, none⟩ = some (.slice none 0 0) := by rw [hW0]; simp
    have o2 : W0.cell? ⟨w1.heap.size, 2, none⟩ = some (.int .i64 au) := by rw [hW0]; simp
    have fo : ∀ j, W0.frozen? ⟨w1.heap.size, j, none⟩ = false := fun j => by rw [hW0]; simp
    replace p0 := kcell b0 p0
    replace p1 := kcell b0 p1
    replace p2 := kcell b0 p2
    replace k0_ := kcell b0 k0_
    replace k1_ := kcell b0 k1_
    replace k2_ := kcell b0 k2_
    replace k3_ := kcell b0 k3_
    replace k4_ := kcell b0 k4_
    replace k5_ := kcell b0 k5_
    replace k6_ := kcell b0 k6_
    replace k7_ := kcell b0 k7_
    replace r0 := kcell b0 r0
    replace r1 := kcell b0 r1
    replace r2 := kcell b0 r2
    replace fr : ∀ j, W0.frozen? ⟨w.heap.size + 1 + 1, j, none⟩ = false := fun j => (b0.frozen (p := ⟨w.heap.size + 1 + 1, j, none⟩) (by show w.heap.size + 1 + 1 < _; omega)).trans (fr j)
    have B0 : Below w.heap.size w W0 := BB.trans (b0.mono BB.size)
    clear hz b0 BB hW0
    go_loopw [7] (fun i wr => ∃ (k : Nat) (B : Option Addr) (m d : Nat) (ys : List Itm), k ≤ n ∧ i = .int .i64 k ∧ m ≤ k ∧ ys.map Itm.l = ((l.map Itm.l).take k).filter (fun x => !(inL a b k1 q1 s1 k2 q2 s2) x) ∧ OwnI wr W0.heap.size B m d ys ∧ (wr.cell? ⟨w1.heap.size, 0, none⟩ = some (.string s) ∧ wr.cell? ⟨w1.heap.size, 1, none⟩ = some (.slice B m d) ∧ wr.cell? ⟨w1.heap.size, 2, none⟩ = some (.int .i64 au)) ∧ (∀ j, wr.frozen? ⟨w1.heap.size, j, none⟩ = false) ∧ W0.grownBy wr (some (w1.heap.size))) (fun i _ => n - (intOf i).toNat)
    case atStart => exact ⟨0, none, 0, 0, [], Nat.zero_le _, rfl, Nat.le_refl _, rfl, OwnI.none_, ⟨o0, o1, o2⟩, fo, World.grownBy.refl _ _⟩
    case round =>
      clear o0 o1 o2 fo
      obtain ⟨k, B, m, d, ys, hk, rfl, hmk, hys, ho, ⟨o0, o1, o2⟩, fo, hg⟩ := hrel
      have HY := Lib.hid hys
      have hbel : Below w.heap.size w wr := below_grownI B0 hg B0.size (by omega)
      have hsz : w1.heap.size + 1 ≤ wr.heap.size := Nat.le_trans hG hg.size
      replace p0 := gcellI hg p0 (by omega)
      replace p1 := gcellI hg p1 (by omega)
      replace p2 := gcellI hg p2 (by omega)
      replace k0_ := gcellI hg k0_ (by omega)
      replace k1_ := gcellI hg k1_ (by omega)
      replace k2_ := gcellI hg k2_ (by omega)
      replace k3_ := gcellI hg k3_ (by omega)
      replace k4_ := gcellI hg k4_ (by omega)
      replace k5_ := gcellI hg k5_ (by omega)
      replace k6_ := gcellI hg k6_ (by omega)
      replace k7_ := gcellI hg k7_ (by omega)
      replace r0 := gcellI hg r0 (by omega)
      replace r1 := gcellI hg r1 (by omega)
      replace r2 := gcellI hg r2 (by omega)
      replace fr : ∀ j, wr.frozen? ⟨w.heap.size + 1 + 1, j, none⟩ = false := fun j => (grownFroz hg (by omega) (ne_some (by omega))).trans (fr j)
      clear hys
      by_cases hlt : k < n
      · obtain ⟨b_, o_, x, rfl, _hb1, hx, hc0, hc1, hc2, hc3, hrx⟩ := (ha.below hbel).itm hlt
        have hxm := hm x (List.mem_of_getElem? hx)
        have hxz := hxs x (List.mem_of_getElem? hx)
        have HX := Lib.hid (map_get hx)
        have i0_ : (0 : Int) ≤ (k : Int) := by omega
        have i1_ : (k : Int) < (n : Int) := by omega
        obtain ⟨r, hr⟩ : ∃ r, r = inRF x.k x.n x.s a b k1 q1 s1 k2 q2 s2 := ⟨_, rfl⟩
        have HR := Lib.hid hr
        clear hx hr
        go_wp2
        go_region_held3 (fun W => Below wr.heap.size wr W ∧ W.cell? ⟨w.heap.size, 1, none⟩ = some (.slice (some ⟨b_, o_, none⟩) n c) ∧ W.cell? ⟨w.heap.size + 1, 0, none⟩ = some (.bool a) ∧ W.cell? ⟨w.heap.size + 1, 1, none⟩ = some (.bool b) ∧ W.cell? ⟨w.heap.size + 1, 2, none⟩ = some (.int .i64 k1) ∧ W.cell? ⟨w.heap.size + 1, 3, none⟩ = some (.int .i64 q1) ∧ W.cell? ⟨w.heap.size + 1, 4, none⟩ = some (.string s1) ∧ W.cell? ⟨w.heap.size + 1, 5, none⟩ = some (.int .i64 k2) ∧ W.cell? ⟨w.heap.size + 1, 6, none⟩ = some (.int .i64 q2) ∧ W.cell? ⟨w.heap.size + 1, 7, none⟩ = some (.string s2) ∧ W.cell? ⟨b_, o_ + k * 4, none⟩ = some (.int .i64 x.k) ∧ W.cell? ⟨b_, o_ + k * 4 + 1, none⟩ = some (.int .i64 x.n) ∧ W.cell? ⟨b_, o_ + k * 4 + 2, none⟩ = some (.string x.s))
          (first | assumption | (refine szN ?_ hq rfl; assumption) | exact ⟨(Below.refl _ _).drew, p1, k0_, k1_, k2_, k3_, k4_, k5_, k6_, k7_, hc0, hc1, hc2⟩)
          (first
            | (go_at_call 111; refine (specInRangeOf_any x.k x.n x.s a b k1 q1 s1 k2 q2 s2 r _ hxz hs1 hs2 HR.out).mono ?_; rintro e Wq ⟨rfl, hq⟩))
        obtain ⟨b, _⟩ := ‹Below wr.heap.size wr _ ∧ _›
        replace hrx := hrx.below b
        replace hc0 := kcell b hc0
        replace hc1 := kcell b hc1
        replace hc2 := kcell b hc2
        replace hc3 := kcell b hc3
        replace p1 := kcell b p1
        replace ho := ho.below b
        replace o0 := kcell b o0
        replace o1 := kcell b o1
        replace o2 := kcell b o2
        replace fo : ∀ j, Wq.frozen? ⟨w1.heap.size, j, none⟩ = false := fun j => (b.frozen (p := ⟨w1.heap.size, j, none⟩) (by show w1.heap.size < _; omega)).trans (fo j)
        replace hg := hg.trans (grown_of b _)
        replace hsz := Nat.le_trans hsz b.size
        clear b hbel p0 p2 k0_ k1_ k2_ k3_ k4_ k5_ k6_ k7_ r0 r1 r2 fr
        cases r
        · have HN := Lib.hid (filter_yes (p := fun x => !(inL a b k1 q1 s1 k2 q2 s2) x) HX.out (show (!inL a b k1 q1 s1 k2 q2 s2 x.l) = true by rw [show inL a b k1 q1 s1 k2 q2 s2 x.l = false from HR.out.symm]; rfl))
          go_wp2
          refine wp_region_held_drew (S := fun _ => True) (by kernel_rfl) trivial (fun hHeld => ?_)
          clear hHeld
          replace ho := (show OwnI Wq.drew _ _ _ _ _ from ho)
          replace hrx := (show Rd Wq.drew _ _ _ _ from hrx)
          replace hg : World.grownBy W0 Wq.drew (some (w1.heap.size)) := ⟨hg.os, hg.tape, hg.output, hg.size, hg.block⟩
          replace hsz := (show _ ≤ Wq.drew.heap.size from hsz)
          replace fo := (show ∀ j, Wq.drew.frozen? ⟨w1.heap.size, j, none⟩ = _ from fo)
          replace o0 := (show Wq.drew.cell? ⟨w1.heap.size, 0, none⟩ = _ from o0)
          replace o1 := (show Wq.drew.cell? ⟨w1.heap.size, 1, none⟩ = _ from o1)
          replace o2 := (show Wq.drew.cell? ⟨w1.heap.size, 2, none⟩ = _ from o2)
          replace p1 := (show Wq.drew.cell? ⟨w.heap.size, 1, none⟩ = _ from p1)
          replace hc0 := (show Wq.drew.cell? ⟨b_, o_ + k * 4, none⟩ = _ from hc0)
          replace hc1 := (show Wq.drew.cell? ⟨b_, o_ + k * 4 + 1, none⟩ = _ from hc1)
          replace hc2 := (show Wq.drew.cell? ⟨b_, o_ + k * 4 + 2, none⟩ = _ from hc2)
          replace hc3 := (show Wq.drew.cell? ⟨b_, o_ + k * 4 + 3, none⟩ = _ from hc3)
          generalize Wq.drew = wd at ho hrx hg hsz fo o0 o1 o2 p1 hc0 hc1 hc2 hc3 ⊢
          refine takeD (i := 0) (d := some 34) (v := ?_) _ rfl rfl (by kernel_rfl) (by kernel_rfl) (by kernel_rfl) (fun _ _ _ h => h) (Or.inl ⟨by rfl, ?_⟩) trivial ?_
          rotate_left
          · (intro W hSw; clear hSw; go_simp; try with_reducible rfl)
          try simp only [Act.put, List.setIfInBounds_toArray, List.set_cons_zero, List.set_cons_succ]
          refine takeD (i := 2) (d := some 36) (v := ?_) _ rfl rfl (by kernel_rfl) (by kernel_rfl) (by kernel_rfl) (fun _ _ _ h => h) (Or.inl ⟨by rfl, ?_⟩) trivial ?_
          rotate_left
          · (intro W hSw; clear hSw; go_simp; try with_reducible rfl)
          try simp only [Act.put, List.setIfInBounds_toArray, List.set_cons_zero, List.set_cons_succ]
          refine takeD (i := 4) (d := some 38) (v := ?_) _ rfl rfl (by kernel_rfl) (by kernel_rfl) (by kernel_rfl) (fun _ _ _ h => h) (Or.inl ⟨by rfl, ?_⟩) trivial ?_
          rotate_left
          · (intro W hSw; clear hSw; go_simp; try with_reducible rfl)
          try simp only [Act.put, List.setIfInBounds_toArray, List.set_cons_zero, List.set_cons_succ]
          refine wpAnyH_ready (rs := [1, 3]) (by kernel_rfl) (by simp) ?_
          refine AllReadyH.cons rfl (fun K hK => ?_) (AllReadyH.cons rfl (fun K hK => ?_) AllReadyH.nil)
          · go_simp
            refine hK.out _ _ trivial (fun hHeld => ?_)
            clear hHeld hK K
            try simp only [Act.put, List.setIfInBounds_toArray, List.set_cons_zero, List.set_cons_succ]
            refine wpAnyH_ready (rs := [3]) (by kernel_rfl) (by simp) ?_
            refine AllReadyH.cons rfl (fun K hK => ?_) AllReadyH.nil
            go_simp
            refine hK.out _ _ trivial (fun hHeld => ?_)
            clear hHeld hK K
            try simp only [Act.put, List.setIfInBounds_toArray, List.set_cons_zero, List.set_cons_succ]
            refine takeD (i := 5) (d := some 39) (v := ?_) _ rfl rfl (by kernel_rfl) (by kernel_rfl) (by kernel_rfl) (fun _ _ _ h => h) (Or.inl ⟨by rfl, ?_⟩) trivial ?_
            rotate_left
            · (intro W hSw; clear hSw; go_simp; try with_reducible rfl)
            try simp only [Act.put, List.setIfInBounds_toArray, List.set_cons_zero, List.set_cons_succ]
            refine wpAnyH_ready (rs := [6]) (by kernel_rfl) (by simp) ?_
            refine AllReadyH.cons rfl (fun K hK => ?_) AllReadyH.nil
            go_simp
            refine hK.out _ _ trivial (fun hHeld => ?_)
            clear hHeld hK K
            try simp only [Act.put, List.setIfInBounds_toArray, List.set_cons_zero, List.set_cons_succ]
            refine wpAnyH_ready (rs := [7]) (by kernel_rfl) (by simp) ?_
            refine AllReadyH.cons rfl (fun K hK => ?_) AllReadyH.nil
            go_simp
            refine (l6Item_any x _ hxm hrx).mono ?_; rintro e W7 ⟨A2, n2, c2, rfl, oy, b⟩
            try go_wp2_with fail
            have hold := ho
            have hle := hg.size
            have hmn : m + 1 ≤ 1048577 := by omega
            replace ho := ho.below b
            replace o0 := kcell b o0
            replace o1 := kcell b o1
            replace o2 := kcell b o2
            replace fo : ∀ j, W7.frozen? ⟨w1.heap.size, j, none⟩ = false := fun j => (b.frozen (p := ⟨w1.heap.size, j, none⟩) (by show w1.heap.size < _; omega)).trans (fo j)
            replace hg := hg.trans (grown_of b _)
            replace hsz := Nat.le_trans hsz b.size
            clear b
            refine hK.out _ _ trivial (fun hHeld => ?_)
            clear hHeld hK K
            try simp only [Act.put, List.setIfInBounds_toArray, List.set_cons_zero, List.set_cons_succ]
            refine wpAnyH_ready (rs := [8]) (by kernel_rfl) (by simp) ?_
            refine AllReadyH.cons rfl (fun K hK => ?_) AllReadyH.nil
            go_simp
            obtain ⟨U8, hU⟩ : ∃ U, U = W7.alloc (.cells #[.int .i64 x.k, .int .i64 x.n, .string x.s, .slice A2 n2 c2] 106) := ⟨_, rfl⟩
            have b : Below W7.heap.size W7 U8 := by rw [hU]; exact al (Below.refl _ _)
            have r4 : Rd U8 4 (some ⟨W7.heap.size, 0, none⟩) 1 [.int .i64 x.k, .int .i64 x.n, .string x.s, .slice A2 n2 c2] := by rw [hU]; exact rd_new4
            replace oy := own_below oy b
            replace ho := ho.below b
            replace o0 := kcell b o0
            replace o1 := kcell b o1
            replace o2 := kcell b o2
            replace fo : ∀ j, U8.frozen? ⟨w1.heap.size, j, none⟩ = false := fun j => (b.frozen (p := ⟨w1.heap.size, j, none⟩) (by show w1.heap.size < _; omega)).trans (fo j)
            replace hg := hg.trans (grown_of b _)
            replace hsz := Nat.le_trans hsz b.size
            clear b
            rw [← hU]
            clear hU
            refine hK.out _ _ trivial (fun hHeld => ?_)
            clear hHeld hK K
            try simp only [Act.put, List.setIfInBounds_toArray, List.set_cons_zero, List.set_cons_succ]
            refine wpAnyH_ready (rs := [9]) (by kernel_rfl) (by simp) ?_
            refine AllReadyH.cons rfl (fun K hK => ?_) AllReadyH.nil
            refine step_catD (by rfl) (some 43) (by rfl) (.tmp 35) (.tmp 42) 50 (by rfl) (W0.heap.size) 106 i0 (.agg #[.int .i64 0, .int .i64 0, .string ⟨#[]⟩, .slice none 0 0]) 4 56 Try.underlying50 hi hz0 hz1 hz2 rfl (by decide) B m d (itl ys) (by rfl) (by exact ho.1) _ 1 _ [.int .i64 x.k, .int .i64 x.n, .string x.s, .slice A2 n2 c2] (by rfl) (by exact r4) (ones_itv (Itm.mk x.k x.n x.s A2 n2 c2 x.fs)) (by unfold maxLen; omega) (by omega) (by omega) ?_
            intro A3 m3 d3 w5 hm3 o5 b5 g5
            have HM3 := Lib.hid hm3
            have hm9 : m3 ≤ k + 1 := by omega
            clear hm3
            have OI : OwnI w5 W0.heap.size A3 m3 d3 (ys ++ [(Itm.mk x.k x.n x.s A2 n2 c2 x.fs)]) := OwnI.push (y := (Itm.mk x.k x.n x.s A2 n2 c2 x.fs)) ho hold (Nat.le_refl _) hle oy o5 g5
            replace hg := grown_belowI hg b5
            replace o0 := (b5.cell (p := ⟨w1.heap.size, 0, none⟩) (by show w1.heap.size < W0.heap.size; omega)).trans o0
            replace o1 := (b5.cell (p := ⟨w1.heap.size, 1, none⟩) (by show w1.heap.size < W0.heap.size; omega)).trans o1
            replace o2 := (b5.cell (p := ⟨w1.heap.size, 2, none⟩) (by show w1.heap.size < W0.heap.size; omega)).trans o2
            replace fo : ∀ j, w5.frozen? ⟨w1.heap.size, j, none⟩ = false := fun j => (b5.frozen (p := ⟨w1.heap.size, j, none⟩) (by show w1.heap.size < W0.heap.size; omega)).trans (fo j)
            replace hsz := Nat.le_trans hsz b5.size
            clear o5 b5 g5 oy r4 hold ho
            refine hK.out _ _ trivial (fun hHeld => ?_)
            clear hHeld hK K
            try simp only [Act.put, List.setIfInBounds_toArray, List.set_cons_zero, List.set_cons_succ]
            refine takeD (i := 10) (d := some 44) (v := ?_) _ rfl rfl (by kernel_rfl) (by kernel_rfl) (by kernel_rfl) (fun _ _ _ h => h) (Or.inl ⟨by rfl, ?_⟩) trivial ?_
            rotate_left
            · (intro W hSw; clear hSw; go_simp; try with_reducible rfl)
            try simp only [Act.put, List.setIfInBounds_toArray, List.set_cons_zero, List.set_cons_succ]
            refine wpAnyH_ready (rs := [11]) (by kernel_rfl) (by simp) ?_
            refine AllReadyH.cons rfl (fun K hK => ?_) AllReadyH.nil
            go_simp
            refine hK.out _ _ trivial (fun hHeld => ?_)
            clear hHeld hK K
            try simp only [Act.put, List.setIfInBounds_toArray, List.set_cons_zero, List.set_cons_succ]
            refine wpAnyH_done (by kernel_rfl) ?_ _
            have O8 : Hid (OwnI (w5.setCell ⟨w1.heap.size, 1, none⟩ (.slice A3 m3 d3)) W0.heap.size A3 m3 d3 (ys ++ [(Itm.mk x.k x.n x.s A2 n2 c2 x.fs)])) := Lib.hid (OwnI.setB OI (a := ⟨w1.heap.size, 1, none⟩) (by show w1.heap.size < W0.heap.size; omega) _)
            have c0 : Hid ((w5.setCell ⟨w1.heap.size, 1, none⟩ (.slice A3 m3 d3)).cell? ⟨w1.heap.size, 0, none⟩ = some (.string s)) := Lib.hid (by simp [go_sem, o0])
            have c1 : Hid ((w5.setCell ⟨w1.heap.size, 1, none⟩ (.slice A3 m3 d3)).cell? ⟨w1.heap.size, 1, none⟩ = some (.slice A3 m3 d3)) := Lib.hid (by simp [go_sem, o1])
            have c2_ : Hid ((w5.setCell ⟨w1.heap.size, 1, none⟩ (.slice A3 m3 d3)).cell? ⟨w1.heap.size, 2, none⟩ = some (.int .i64 au)) := Lib.hid (by simp [go_sem, o2])
            have cf : Hid (∀ j, (w5.setCell ⟨w1.heap.size, 1, none⟩ (.slice A3 m3 d3)).frozen? ⟨w1.heap.size, j, none⟩ = false) := Lib.hid (fun j => by simp [fo])
            have G8 : Hid (W0.grownBy (w5.setCell ⟨w1.heap.size, 1, none⟩ (.slice A3 m3 d3)) (some (w1.heap.size))) := Lib.hid (grown_setI hg _ _)
            clear OI hg
            go_wp2
            go_roundw
            case rel => exact ⟨k + 1, A3, m3, d3, _, by omega, by go_num, hm9, by (rw [HN.out, List.map_append, HY.out]; rfl), O8.out, ⟨c0.out, c1.out, c2_.out⟩, cf.out, G8.out⟩
            case measure => simp [intOf]; omega
          · go_simp
            refine hK.out _ _ trivial (fun hHeld => ?_)
            clear hHeld hK K
            try simp only [Act.put, List.setIfInBounds_toArray, List.set_cons_zero, List.set_cons_succ]
            refine takeD (i := 5) (d := some 39) (v := ?_) _ rfl rfl (by kernel_rfl) (by kernel_rfl) (by kernel_rfl) (fun _ _ _ h => h) (Or.inl ⟨by rfl, ?_⟩) trivial ?_
            rotate_left
            · (intro W hSw; clear hSw; go_simp; try with_reducible rfl)
            try simp only [Act.put, List.setIfInBounds_toArray, List.set_cons_zero, List.set_cons_succ]
            refine wpAnyH_ready (rs := [1, 6]) (by kernel_rfl) (by simp) ?_
            refine AllReadyH.cons rfl (fun K hK => ?_) (AllReadyH.cons rfl (fun K hK => ?_) AllReadyH.nil)
            · go_simp
              refine hK.out _ _ trivial (fun hHeld => ?_)
              clear hHeld hK K
              try simp only [Act.put, List.setIfInBounds_toArray, List.set_cons_zero, List.set_cons_succ]
              refine wpAnyH_ready (rs := [6]) (by kernel_rfl) (by simp) ?_
              refine AllReadyH.cons rfl (fun K hK => ?_) AllReadyH.nil
              go_simp
              refine hK.out _ _ trivial (fun hHeld => ?_)
              clear hHeld hK K
              try simp only [Act.put, List.setIfInBounds_toArray, List.set_cons_zero, List.set_cons_succ]
              refine wpAnyH_ready (rs := [7]) (by kernel_rfl) (by simp) ?_
              refine AllReadyH.cons rfl (fun K hK => ?_) AllReadyH.nil
              go_simp
              refine (l6Item_any x _ hxm hrx).mono ?_; rintro e W7 ⟨A2, n2, c2, rfl, oy, b⟩
              try go_wp2_with fail
              have hold := ho
              have hle := hg.size
              have hmn : m + 1 ≤ 1048577 := by omega
              replace ho := ho.below b
              replace o0 := kcell b o0
              replace o1 := kcell b o1
              replace o2 := kcell b o2
              replace fo : ∀ j, W7.frozen? ⟨w1.heap.size, j, none⟩ = false := fun j => (b.frozen (p := ⟨w1.heap.size, j, none⟩) (by show w1.heap.size < _; omega)).trans (fo j)
              replace hg := hg.trans (grown_of b _)
              replace hsz := Nat.le_trans hsz b.size
              clear b
              refine hK.out _ _ trivial (fun hHeld => ?_)
              clear hHeld hK K
              try simp only [Act.put, List.setIfInBounds_toArray, List.set_cons_zero, List.set_cons_succ]
              refine wpAnyH_ready (rs := [8]) (by kernel_rfl) (by simp) ?_
              refine AllReadyH.cons rfl (fun K hK => ?_) AllReadyH.nil
              go_simp
              obtain ⟨U8, hU⟩ : ∃ U, U = W7.alloc (.cells #[.int .i64 x.k, .int .i64 x.n, .string x.s, .slice A2 n2 c2] 106) := ⟨_, rfl⟩
              have b : Below W7.heap.size W7 U8 := by rw [hU]; exact al (Below.refl _ _)
              have r4 : Rd U8 4 (some ⟨W7.heap.size, 0, none⟩) 1 [.int .i64 x.k, .int .i64 x.n, .string x.s, .slice A2 n2 c2] := by rw [hU]; exact rd_new4
              replace oy := own_below oy b
              replace ho := ho.below b
              replace o0 := kcell b o0
              replace o1 := kcell b o1
              replace o2 := kcell b o2
              replace fo : ∀ j, U8.frozen? ⟨w1.heap.size, j, none⟩ = false := fun j => (b.frozen (p := ⟨w1.heap.size, j, none⟩) (by show w1.heap.size < _; omega)).trans (fo j)
              replace hg := hg.trans (grown_of b _)
              replace hsz := Nat.le_trans hsz b.size
              clear b
              rw [← hU]
              clear hU
              refine hK.out _ _ trivial (fun hHeld => ?_)
              clear hHeld hK K
              try simp only [Act.put, List.setIfInBounds_toArray, List.set_cons_zero, List.set_cons_succ]
              refine wpAnyH_ready (rs := [9]) (by kernel_rfl) (by simp) ?_
              refine AllReadyH.cons rfl (fun K hK => ?_) AllReadyH.nil
              refine step_catD (by rfl) (some 43) (by rfl) (.tmp 35) (.tmp 42) 50 (by rfl) (W0.heap.size) 106 i0 (.agg #[.int .i64 0, .int .i64 0, .string ⟨#[]⟩, .slice none 0 0]) 4 56 Try.underlying50 hi hz0 hz1 hz2 rfl (by decide) B m d (itl ys) (by rfl) (by exact ho.1) _ 1 _ [.int .i64 x.k, .int .i64 x.n, .string x.s, .slice A2 n2 c2] (by rfl) (by exact r4) (ones_itv (Itm.mk x.k x.n x.s A2 n2 c2 x.fs)) (by unfold maxLen; omega) (by omega) (by omega) ?_
              intro A3 m3 d3 w5 hm3 o5 b5 g5
              have HM3 := Lib.hid hm3
              have hm9 : m3 ≤ k + 1 := by omega
              clear hm3
              have OI : OwnI w5 W0.heap.size A3 m3 d3 (ys ++ [(Itm.mk x.k x.n x.s A2 n2 c2 x.fs)]) := OwnI.push (y := (Itm.mk x.k x.n x.s A2 n2 c2 x.fs)) ho hold (Nat.le_refl _) hle oy o5 g5
              replace hg := grown_belowI hg b5
              replace o0 := (b5.cell (p := ⟨w1.heap.size, 0, none⟩) (by show w1.heap.size < W0.heap.size; omega)).trans o0
              replace o1 := (b5.cell (p := ⟨w1.heap.size, 1, none⟩) (by show w1.heap.size < W0.heap.size; omega)).trans o1
              replace o2 := (b5.cell (p := ⟨w1.heap.size, 2, none⟩) (by show w1.heap.size < W0.heap.size; omega)).trans o2
              replace fo : ∀ j, w5.frozen? ⟨w1.heap.size, j, none⟩ = false := fun j => (b5.frozen (p := ⟨w1.heap.size, j, none⟩) (by show w1.heap.size < W0.heap.size; omega)).trans (fo j)
              replace hsz := Nat.le_trans hsz b5.size
              clear o5 b5 g5 oy r4 hold ho
              refine hK.out _ _ trivial (fun hHeld => ?_)
              clear hHeld hK K
              try simp only [Act.put, List.setIfInBounds_toArray, List.set_cons_zero, List.set_cons_succ]
              refine takeD (i := 10) (d := some 44) (v := ?_) _ rfl rfl (by kernel_rfl) (by kernel_rfl) (by kernel_rfl) (fun _ _ _ h => h) (Or.inl ⟨by rfl, ?_⟩) trivial ?_
              rotate_left
              · (intro W hSw; clear hSw; go_simp; try with_reducible rfl)
              try simp only [Act.put, List.setIfInBounds_toArray, List.set_cons_zero, List.set_cons_succ]
              refine wpAnyH_ready (rs := [11]) (by kernel_rfl) (by simp) ?_
              refine AllReadyH.cons rfl (fun K hK => ?_) AllReadyH.nil
              go_simp
              refine hK.out _ _ trivial (fun hHeld => ?_)
              clear hHeld hK K
              try simp only [Act.put, List.setIfInBounds_toArray, List.set_cons_zero, List.set_cons_succ]
              refine wpAnyH_done (by kernel_rfl) ?_ _
              have O8 : Hid (OwnI (w5.setCell ⟨w1.heap.size, 1, none⟩ (.slice A3 m3 d3)) W0.heap.size A3 m3 d3 (ys ++ [(Itm.mk x.k x.n x.s A2 n2 c2 x.fs)])) := Lib.hid (OwnI.setB OI (a := ⟨w1.heap.size, 1, none⟩) (by show w1.heap.size < W0.heap.size; omega) _)
              have c0 : Hid ((w5.setCell ⟨w1.heap.size, 1, none⟩ (.slice A3 m3 d3)).cell? ⟨w1.heap.size, 0, none⟩ = some (.string s)) := Lib.hid (by simp [go_sem, o0])
              have c1 : Hid ((w5.setCell ⟨w1.heap.size, 1, none⟩ (.slice A3 m3 d3)).cell? ⟨w1.heap.size, 1, none⟩ = some (.slice A3 m3 d3)) := Lib.hid (by simp [go_sem, o1])
              have c2_ : Hid ((w5.setCell ⟨w1.heap.size, 1, none⟩ (.slice A3 m3 d3)).cell? ⟨w1.heap.size, 2, none⟩ = some (.int .i64 au)) := Lib.hid (by simp [go_sem, o2])
              have cf : Hid (∀ j, (w5.setCell ⟨w1.heap.size, 1, none⟩ (.slice A3 m3 d3)).frozen? ⟨w1.heap.size, j, none⟩ = false) := Lib.hid (fun j => by simp [fo])
              have G8 : Hid (W0.grownBy (w5.setCell ⟨w1.heap.size, 1, none⟩ (.slice A3 m3 d3)) (some (w1.heap.size))) := Lib.hid (grown_setI hg _ _)
              clear OI hg
              go_wp2
              go_roundw
              case rel => exact ⟨k + 1, A3, m3, d3, _, by omega, by go_num, hm9, by (rw [HN.out, List.map_append, HY.out]; rfl), O8.out, ⟨c0.out, c1.out, c2_.out⟩, cf.out, G8.out⟩
              case measure => simp [intOf]; omega
            · go_simp
              refine hK.out _ _ trivial (fun hHeld => ?_)
              clear hHeld hK K
              try simp only [Act.put, List.setIfInBounds_toArray, List.set_cons_zero, List.set_cons_succ]
              refine wpAnyH_ready (rs := [1, 7]) (by kernel_rfl) (by simp) ?_
              refine AllReadyH.cons rfl (fun K hK => ?_) (AllReadyH.cons rfl (fun K hK => ?_) AllReadyH.nil)
              · go_simp
                refine hK.out _ _ trivial (fun hHeld => ?_)
                clear hHeld hK K
                try simp only [Act.put, List.setIfInBounds_toArray, List.set_cons_zero, List.set_cons_succ]
                refine wpAnyH_ready (rs := [7]) (by kernel_rfl) (by simp) ?_
                refine AllReadyH.cons rfl (fun K hK => ?_) AllReadyH.nil
                go_simp
                refine (l6Item_any x _ hxm hrx).mono ?_; rintro e W7 ⟨A2, n2, c2, rfl, oy, b⟩
                try go_wp2_with fail
                have hold := ho
                have hle := hg.size
                have hmn : m + 1 ≤ 1048577 := by omega
                replace ho := ho.below b
                replace o0 := kcell b o0
                replace o1 := kcell b o1
                replace o2 := kcell b o2
                replace fo : ∀ j, W7.frozen? ⟨w1.heap.size, j, none⟩ = false := fun j => (b.frozen (p := ⟨w1.heap.size, j, none⟩) (by show w1.heap.size < _; omega)).trans (fo j)
                replace hg := hg.trans (grown_of b _)
                replace hsz := Nat.le_trans hsz b.size
                clear b
                refine hK.out _ _ trivial (fun hHeld => ?_)
                clear hHeld hK K
                try simp only [Act.put, List.setIfInBounds_toArray, List.set_cons_zero, List.set_cons_succ]
                refine wpAnyH_ready (rs := [8]) (by kernel_rfl) (by simp) ?_
                refine AllReadyH.cons rfl (fun K hK => ?_) AllReadyH.nil
                go_simp
                obtain ⟨U8, hU⟩ : ∃ U, U = W7.alloc (.cells #[.int .i64 x.k, .int .i64 x.n, .string x.s, .slice A2 n2 c2] 106) := ⟨_, rfl⟩
                have b : Below W7.heap.size W7 U8 := by rw [hU]; exact al (Below.refl _ _)
                have r4 : Rd U8 4 (some ⟨W7.heap.size, 0, none⟩) 1 [.int .i64 x.k, .int .i64 x.n, .string x.s, .slice A2 n2 c2] := by rw [hU]; exact rd_new4
                replace oy := own_below oy b
                replace ho := ho.below b
                replace o0 := kcell b o0
                replace o1 := kcell b o1
                replace o2 := kcell b o2
                replace fo : ∀ j, U8.frozen? ⟨w1.heap.size, j, none⟩ = false := fun j => (b.frozen (p := ⟨w1.heap.size, j, none⟩) (by show w1.heap.size < _; omega)).trans (fo j)
                replace hg := hg.trans (grown_of b _)
                replace hsz := Nat.le_trans hsz b.size
                clear b
                rw [← hU]
                clear hU
                refine hK.out _ _ trivial (fun hHeld => ?_)
                clear hHeld hK K
                try simp only [Act.put, List.setIfInBounds_toArray, List.set_cons_zero, List.set_cons_succ]
                refine wpAnyH_ready (rs := [9]) (by kernel_rfl) (by simp) ?_
                refine AllReadyH.cons rfl (fun K hK => ?_) AllReadyH.nil
                refine step_catD (by rfl) (some 43) (by rfl) (.tmp 35) (.tmp 42) 50 (by rfl) (W0.heap.size) 106 i0 (.agg #[.int .i64 0, .int .i64 0, .string ⟨#[]⟩, .slice none 0 0]) 4 56 Try.underlying50 hi hz0 hz1 hz2 rfl (by decide) B m d (itl ys) (by rfl) (by exact ho.1) _ 1 _ [.int .i64 x.k, .int .i64 x.n, .string x.s, .slice A2 n2 c2] (by rfl) (by exact r4) (ones_itv (Itm.mk x.k x.n x.s A2 n2 c2 x.fs)) (by unfold maxLen; omega) (by omega) (by omega) ?_
                intro A3 m3 d3 w5 hm3 o5 b5 g5
                have HM3 := Lib.hid hm3
                have hm9 : m3 ≤ k + 1 := by omega
                clear hm3
                have OI : OwnI w5 W0.heap.size A3 m3 d3 (ys ++ [(Itm.mk x.k x.n x.s A2 n2 c2 x.fs)]) := OwnI.push (y := (Itm.mk x.k x.n x.s A2 n2 c2 x.fs)) ho hold (Nat.le_refl _) hle oy o5 g5
                replace hg := grown_belowI hg b5
                replace o0 := (b5.cell (p := ⟨w1.heap.size, 0, none⟩) (by show w1.heap.size < W0.heap.size; omega)).trans o0
                replace o1 := (b5.cell (p := ⟨w1.heap.size, 1, none⟩) (by show w1.heap.size < W0.heap.size; omega)).trans o1
                replace o2 := (b5.cell (p := ⟨w1.heap.size, 2, none⟩) (by show w1.heap.size < W0.heap.size; omega)).trans o2
                replace fo : ∀ j, w5.frozen? ⟨w1.heap.size, j, none⟩ = false := fun j => (b5.frozen (p := ⟨w1.heap.size, j, none⟩) (by show w1.heap.size < W0.heap.size; omega)).trans (fo j)
                replace hsz := Nat.le_trans hsz b5.size
                clear o5 b5 g5 oy r4 hold ho
                refine hK.out _ _ trivial (fun hHeld => ?_)
                clear hHeld hK K
                try simp only [Act.put, List.setIfInBounds_toArray, List.set_cons_zero, List.set_cons_succ]
                refine takeD (i := 10) (d := some 44) (v := ?_) _ rfl rfl (by kernel_rfl) (by kernel_rfl) (by kernel_rfl) (fun _ _ _ h => h) (Or.inl ⟨by rfl, ?_⟩) trivial ?_
                rotate_left
                · (intro W hSw; clear hSw; go_simp; try with_reducible rfl)
                try simp only [Act.put, List.setIfInBounds_toArray, List.set_cons_zero, List.set_cons_succ]
                refine wpAnyH_ready (rs := [11]) (by kernel_rfl) (by simp) ?_
                refine AllReadyH.cons rfl (fun K hK => ?_) AllReadyH.nil
                go_simp
                refine hK.out _ _ trivial (fun hHeld => ?_)
                clear hHeld hK K
                try simp only [Act.put, List.setIfInBounds_toArray, List.set_cons_zero, List.set_cons_succ]
                refine wpAnyH_done (by kernel_rfl) ?_ _
                have O8 : Hid (OwnI (w5.setCell ⟨w1.heap.size, 1, none⟩ (.slice A3 m3 d3)) W0.heap.size A3 m3 d3 (ys ++ [(Itm.mk x.k x.n x.s A2 n2 c2 x.fs)])) := Lib.hid (OwnI.setB OI (a := ⟨w1.heap.size, 1, none⟩) (by show w1.heap.size < W0.heap.size; omega) _)
                have c0 : Hid ((w5.setCell ⟨w1.heap.size, 1, none⟩ (.slice A3 m3 d3)).cell? ⟨w1.heap.size, 0, none⟩ = some (.string s)) := Lib.hid (by simp [go_sem, o0])
                have c1 : Hid ((w5.setCell ⟨w1.heap.size, 1, none⟩ (.slice A3 m3 d3)).cell? ⟨w1.heap.size, 1, none⟩ = some (.slice A3 m3 d3)) := Lib.hid (by simp [go_sem, o1])
                have c2_ : Hid ((w5.setCell ⟨w1.heap.size, 1, none⟩ (.slice A3 m3 d3)).cell? ⟨w1.heap.size, 2, none⟩ = some (.int .i64 au)) := Lib.hid (by simp [go_sem, o2])
                have cf : Hid (∀ j, (w5.setCell ⟨w1.heap.size, 1, none⟩ (.slice A3 m3 d3)).frozen? ⟨w1.heap.size, j, none⟩ = false) := Lib.hid (fun j => by simp [fo])
                have G8 : Hid (W0.grownBy (w5.setCell ⟨w1.heap.size, 1, none⟩ (.slice A3 m3 d3)) (some (w1.heap.size))) := Lib.hid (grown_setI hg _ _)
                clear OI hg
                go_wp2
                go_roundw
                case rel => exact ⟨k + 1, A3, m3, d3, _, by omega, by go_num, hm9, by (rw [HN.out, List.map_append, HY.out]; rfl), O8.out, ⟨c0.out, c1.out, c2_.out⟩, cf.out, G8.out⟩
                case measure => simp [intOf]; omega
              · go_simp
                refine (l6Item_any x _ hxm hrx).mono ?_; rintro e W7 ⟨A2, n2, c2, rfl, oy, b⟩
                try go_wp2_with fail
                have hold := ho
                have hle := hg.size
                have hmn : m + 1 ≤ 1048577 := by omega
                replace ho := ho.below b
                replace o0 := kcell b o0
                replace o1 := kcell b o1
                replace o2 := kcell b o2
                replace fo : ∀ j, W7.frozen? ⟨w1.heap.size, j, none⟩ = false := fun j => (b.frozen (p := ⟨w1.heap.size, j, none⟩) (by show w1.heap.size < _; omega)).trans (fo j)
                replace hg := hg.trans (grown_of b _)
                replace hsz := Nat.le_trans hsz b.size
                clear b
                refine hK.out _ _ trivial (fun hHeld => ?_)
                clear hHeld hK K
                try simp only [Act.put, List.setIfInBounds_toArray, List.set_cons_zero, List.set_cons_succ]
                refine wpAnyH_ready (rs := [1, 8]) (by kernel_rfl) (by simp) ?_
                refine AllReadyH.cons rfl (fun K hK => ?_) (AllReadyH.cons rfl (fun K hK => ?_) AllReadyH.nil)
                · go_simp
                  refine hK.out _ _ trivial (fun hHeld => ?_)
                  clear hHeld hK K
                  try simp only [Act.put, List.setIfInBounds_toArray, List.set_cons_zero, List.set_cons_succ]
                  refine wpAnyH_ready (rs := [8]) (by kernel_rfl) (by simp) ?_
                  refine AllReadyH.cons rfl (fun K hK => ?_) AllReadyH.nil
                  go_simp
                  obtain ⟨U8, hU⟩ : ∃ U, U = W7.alloc (.cells #[.int .i64 x.k, .int .i64 x.n, .string x.s, .slice A2 n2 c2] 106) := ⟨_, rfl⟩
                  have b : Below W7.heap.size W7 U8 := by rw [hU]; exact al (Below.refl _ _)
                  have r4 : Rd U8 4 (some ⟨W7.heap.size, 0, none⟩) 1 [.int .i64 x.k, .int .i64 x.n, .string x.s, .slice A2 n2 c2] := by rw [hU]; exact rd_new4
                  replace oy := own_below oy b
                  replace ho := ho.below b
                  replace o0 := kcell b o0
                  replace o1 := kcell b o1
                  replace o2 := kcell b o2
                  replace fo : ∀ j, U8.frozen? ⟨w1.heap.size, j, none⟩ = false := fun j => (b.frozen (p := ⟨w1.heap.size, j, none⟩) (by show w1.heap.size < _; omega)).trans (fo j)
                  replace hg := hg.trans (grown_of b _)
                  replace hsz := Nat.le_trans hsz b.size
                  clear b
                  rw [← hU]
                  clear hU
                  refine hK.out _ _ trivial (fun hHeld => ?_)
                  clear hHeld hK K
                  try simp only [Act.put, List.setIfInBounds_toArray, List.set_cons_zero, List.set_cons_succ]
                  refine wpAnyH_ready (rs := [9]) (by kernel_rfl) (by simp) ?_
                  refine AllReadyH.cons rfl (fun K hK => ?_) AllReadyH.nil
                  refine step_catD (by rfl) (some 43) (by rfl) (.tmp 35) (.tmp 42) 50 (by rfl) (W0.heap.size) 106 i0 (.agg #[.int .i64 0, .int .i64 0, .string ⟨#[]⟩, .slice none 0 0]) 4 56 Try.underlying50 hi hz0 hz1 hz2 rfl (by decide) B m d (itl ys) (by rfl) (by exact ho.1) _ 1 _ [.int .i64 x.k, .int .i64 x.n, .string x.s, .slice A2 n2 c2] (by rfl) (by exact r4) (ones_itv (Itm.mk x.k x.n x.s A2 n2 c2 x.fs)) (by unfold maxLen; omega) (by omega) (by omega) ?_
                  intro A3 m3 d3 w5 hm3 o5 b5 g5
                  have HM3 := Lib.hid hm3
                  have hm9 : m3 ≤ k + 1 := by omega
                  clear hm3
                  have OI : OwnI w5 W0.heap.size A3 m3 d3 (ys ++ [(Itm.mk x.k x.n x.s A2 n2 c2 x.fs)]) := OwnI.push (y := (Itm.mk x.k x.n x.s A2 n2 c2 x.fs)) ho hold (Nat.le_refl _) hle oy o5 g5
                  replace hg := grown_belowI hg b5
                  replace o0 := (b5.cell (p := ⟨w1.heap.size, 0, none⟩) (by show w1.heap.size < W0.heap.size; omega)).trans o0
                  replace o1 := (b5.cell (p := ⟨w1.heap.size, 1, none⟩) (by show w1.heap.size < W0.heap.size; omega)).trans o1
                  replace o2 := (b5.cell (p := ⟨w1.heap.size, 2, none⟩) (by show w1.heap.size < W0.heap.size; omega)).trans o2
                  replace fo : ∀ j, w5.frozen? ⟨w1.heap.size, j, none⟩ = false := fun j => (b5.frozen (p := ⟨w1.heap.size, j, none⟩) (by show w1.heap.size < W0.heap.size; omega)).trans (fo j)
                  replace hsz := Nat.le_trans hsz b5.size
                  clear o5 b5 g5 oy r4 hold ho
                  refine hK.out _ _ trivial (fun hHeld => ?_)
                  clear hHeld hK K
                  try simp only [Act.put, List.setIfInBounds_toArray, List.set_cons_zero, List.set_cons_succ]
                  refine takeD (i := 10) (d := some 44) (v := ?_) _ rfl rfl (by kernel_rfl) (by kernel_rfl) (by kernel_rfl) (fun _ _ _ h => h) (Or.inl ⟨by rfl, ?_⟩) trivial ?_
                  rotate_left
                  · (intro W hSw; clear hSw; go_simp; try with_reducible rfl)
                  try simp only [Act.put, List.setIfInBounds_toArray, List.set_cons_zero, List.set_cons_succ]
                  refine wpAnyH_ready (rs := [11]) (by kernel_rfl) (by simp) ?_
                  refine AllReadyH.cons rfl (fun K hK => ?_) AllReadyH.nil
                  go_simp
                  refine hK.out _ _ trivial (fun hHeld => ?_)
                  clear hHeld hK K
                  try simp only [Act.put, List.setIfInBounds_toArray, List.set_cons_zero, List.set_cons_succ]
                  refine wpAnyH_done (by kernel_rfl) ?_ _
                  have O8 : Hid (OwnI (w5.setCell ⟨w1.heap.size, 1, none⟩ (.slice A3 m3 d3)) W0.heap.size A3 m3 d3 (ys ++ [(Itm.mk x.k x.n x.s A2 n2 c2 x.fs)])) := Lib.hid (OwnI.setB OI (a := ⟨w1.heap.size, 1, none⟩) (by show w1.heap.size < W0.heap.size; omega) _)
                  have c0 : Hid ((w5.setCell ⟨w1.heap.size, 1, none⟩ (.slice A3 m3 d3)).cell? ⟨w1.heap.size, 0, none⟩ = some (.string s)) := Lib.hid (by simp [go_sem, o0])
                  have c1 : Hid ((w5.setCell ⟨w1.heap.size, 1, none⟩ (.slice A3 m3 d3)).cell? ⟨w1.heap.size, 1, none⟩ = some (.slice A3 m3 d3)) := Lib.hid (by simp [go_sem, o1])
                  have c2_ : Hid ((w5.setCell ⟨w1.heap.size, 1, none⟩ (.slice A3 m3 d3)).cell? ⟨w1.heap.size, 2, none⟩ = some (.int .i64 au)) := Lib.hid (by simp [go_sem, o2])
                  have cf : Hid (∀ j, (w5.setCell ⟨w1.heap.size, 1, none⟩ (.slice A3 m3 d3)).frozen? ⟨w1.heap.size, j, none⟩ = false) := Lib.hid (fun j => by simp [fo])
                  have G8 : Hid (W0.grownBy (w5.setCell ⟨w1.heap.size, 1, none⟩ (.slice A3 m3 d3)) (some (w1.heap.size))) := Lib.hid (grown_setI hg _ _)
                  clear OI hg
                  go_wp2
                  go_roundw
                  case rel => exact ⟨k + 1, A3, m3, d3, _, by omega, by go_num, hm9, by (rw [HN.out, List.map_append, HY.out]; rfl), O8.out, ⟨c0.out, c1.out, c2_.out⟩, cf.out, G8.out⟩
                  case measure => simp [intOf]; omega
                · go_simp
                  obtain ⟨U8, hU⟩ : ∃ U, U = W7.alloc (.cells #[.int .i64 x.k, .int .i64 x.n, .string x.s, .slice A2 n2 c2] 106) := ⟨_, rfl⟩
                  have b : Below W7.heap.size W7 U8 := by rw [hU]; exact al (Below.refl _ _)
                  have r4 : Rd U8 4 (some ⟨W7.heap.size, 0, none⟩) 1 [.int .i64 x.k, .int .i64 x.n, .string x.s, .slice A2 n2 c2] := by rw [hU]; exact rd_new4
                  replace oy := own_below oy b
                  replace ho := ho.below b
                  replace o0 := kcell b o0
                  replace o1 := kcell b o1
                  replace o2 := kcell b o2
                  replace fo : ∀ j, U8.frozen? ⟨w1.heap.size, j, none⟩ = false := fun j => (b.frozen (p := ⟨w1.heap.size, j, none⟩) (by show w1.heap.size < _; omega)).trans (fo j)
                  replace hg := hg.trans (grown_of b _)
                  replace hsz := Nat.le_trans hsz b.size
                  clear b
                  rw [← hU]
                  clear hU
                  refine hK.out _ _ trivial (fun hHeld => ?_)
                  clear hHeld hK K
                  try simp only [Act.put, List.setIfInBounds_toArray, List.set_cons_zero, List.set_cons_succ]
                  refine wpAnyH_ready (rs := [1]) (by kernel_rfl) (by simp) ?_
                  refine AllReadyH.cons rfl (fun K hK => ?_) AllReadyH.nil
                  go_simp
                  refine hK.out _ _ trivial (fun hHeld => ?_)
                  clear hHeld hK K
                  try simp only [Act.put, List.setIfInBounds_toArray, List.set_cons_zero, List.set_cons_succ]
                  refine wpAnyH_ready (rs := [9]) (by kernel_rfl) (by simp) ?_
                  refine AllReadyH.cons rfl (fun K hK => ?_) AllReadyH.nil
                  refine step_catD (by rfl) (some 43) (by rfl) (.tmp 35) (.tmp 42) 50 (by rfl) (W0.heap.size) 106 i0 (.agg #[.int .i64 0, .int .i64 0, .string ⟨#[]⟩, .slice none 0 0]) 4 56 Try.underlying50 hi hz0 hz1 hz2 rfl (by decide) B m d (itl ys) (by rfl) (by exact ho.1) _ 1 _ [.int .i64 x.k, .int .i64 x.n, .string x.s, .slice A2 n2 c2] (by rfl) (by exact r4) (ones_itv (Itm.mk x.k x.n x.s A2 n2 c2 x.fs)) (by unfold maxLen; omega) (by omega) (by omega) ?_
                  intro A3 m3 d3 w5 hm3 o5 b5 g5
                  have HM3 := Lib.hid hm3
                  have hm9 : m3 ≤ k + 1 := by omega
                  clear hm3
                  have OI : OwnI w5 W0.heap.size A3 m3 d3 (ys ++ [(Itm.mk x.k x.n x.s A2 n2 c2 x.fs)]) := OwnI.push (y := (Itm.mk x.k x.n x.s A2 n2 c2 x.fs)) ho hold (Nat.le_refl _) hle oy o5 g5
                  replace hg := grown_belowI hg b5
                  replace o0 := (b5.cell (p := ⟨w1.heap.size, 0, none⟩) (by show w1.heap.size < W0.heap.size; omega)).trans o0
                  replace o1 := (b5.cell (p := ⟨w1.heap.size, 1, none⟩) (by show w1.heap.size < W0.heap.size; omega)).trans o1
                  replace o2 := (b5.cell (p := ⟨w1.heap.size, 2, none⟩) (by show w1.heap.size < W0.heap.size; omega)).trans o2
                  replace fo : ∀ j, w5.frozen? ⟨w1.heap.size, j, none⟩ = false := fun j => (b5.frozen (p := ⟨w1.heap.size, j, none⟩) (by show w1.heap.size < W0.heap.size; omega)).trans (fo j)
                  replace hsz := Nat.le_trans hsz b5.size
                  clear o5 b5 g5 oy r4 hold ho
                  refine hK.out _ _ trivial (fun hHeld => ?_)
                  clear hHeld hK K
                  try simp only [Act.put, List.setIfInBounds_toArray, List.set_cons_zero, List.set_cons_succ]
                  refine takeD (i := 10) (d := some 44) (v := ?_) _ rfl rfl (by kernel_rfl) (by kernel_rfl) (by kernel_rfl) (fun _ _ _ h => h) (Or.inl ⟨by rfl, ?_⟩) trivial ?_
                  rotate_left
                  · (intro W hSw; clear hSw; go_simp; try with_reducible rfl)
                  try simp only [Act.put, List.setIfInBounds_toArray, List.set_cons_zero, List.set_cons_succ]
                  refine wpAnyH_ready (rs := [11]) (by kernel_rfl) (by simp) ?_
                  refine AllReadyH.cons rfl (fun K hK => ?_) AllReadyH.nil
                  go_simp
                  refine hK.out _ _ trivial (fun hHeld => ?_)
                  clear hHeld hK K
                  try simp only [Act.put, List.setIfInBounds_toArray, List.set_cons_zero, List.set_cons_succ]
                  refine wpAnyH_done (by kernel_rfl) ?_ _
                  have O8 : Hid (OwnI (w5.setCell ⟨w1.heap.size, 1, none⟩ (.slice A3 m3 d3)) W0.heap.size A3 m3 d3 (ys ++ [(Itm.mk x.k x.n x.s A2 n2 c2 x.fs)])) := Lib.hid (OwnI.setB OI (a := ⟨w1.heap.size, 1, none⟩) (by show w1.heap.size < W0.heap.size; omega) _)
                  have c0 : Hid ((w5.setCell ⟨w1.heap.size, 1, none⟩ (.slice A3 m3 d3)).cell? ⟨w1.heap.size, 0, none⟩ = some (.string s)) := Lib.hid (by simp [go_sem, o0])
                  have c1 : Hid ((w5.setCell ⟨w1.heap.size, 1, none⟩ (.slice A3 m3 d3)).cell? ⟨w1.heap.size, 1, none⟩ = some (.slice A3 m3 d3)) := Lib.hid (by simp [go_sem, o1])
                  have c2_ : Hid ((w5.setCell ⟨w1.heap.size, 1, none⟩ (.slice A3 m3 d3)).cell? ⟨w1.heap.size, 2, none⟩ = some (.int .i64 au)) := Lib.hid (by simp [go_sem, o2])
                  have cf : Hid (∀ j, (w5.setCell ⟨w1.heap.size, 1, none⟩ (.slice A3 m3 d3)).frozen? ⟨w1.heap.size, j, none⟩ = false) := Lib.hid (fun j => by simp [fo])
                  have G8 : Hid (W0.grownBy (w5.setCell ⟨w1.heap.size, 1, none⟩ (.slice A3 m3 d3)) (some (w1.heap.size))) := Lib.hid (grown_setI hg _ _)
                  clear OI hg
                  go_wp2
                  go_roundw
                  case rel => exact ⟨k + 1, A3, m3, d3, _, by omega, by go_num, hm9, by (rw [HN.out, List.map_append, HY.out]; rfl), O8.out, ⟨c0.out, c1.out, c2_.out⟩, cf.out, G8.out⟩
                  case measure => simp [intOf]; omega
        · have HN := Lib.hid (filter_no (p := fun x => !(inL a b k1 q1 s1 k2 q2 s2) x) HX.out (show (!inL a b k1 q1 s1 k2 q2 s2 x.l) = false by rw [show inL a b k1 q1 s1 k2 q2 s2 x.l = true from HR.out.symm]; rfl))
          go_wp2
          go_roundw
          case rel => exact ⟨k + 1, B, m, d, ys, by omega, by go_num, by omega, by rw [HN.out]; exact HY.out, ho, ⟨o0, o1, o2⟩, fo, hg⟩
          case measure => simp [intOf]; omega
      · obtain rfl : k = n := by omega
        have HT : Hid (ys.map Itm.l = delL (inL a b k1 q1 s1 k2 q2 s2) s au (l.map Itm.l)) := by
          have := HY.out
          rw [List.take_of_length_le (by rw [List.length_map]; exact Nat.le_of_eq la.out)] at this
          exact this.trans HL.out.1.symm
        have HZ : Hid (delN (inL a b k1 q1 s1 k2 q2 s2) s au (l.map Itm.l) = (k : Int) - (m : Int)) := by
          have h1 := congrArg List.length HT.out
          have h2 := ho.rd.lenI
          have h3 := la.out
          show _ = _
          rw [HL.out.2, ← HL.out.1, ← h1, List.length_map, List.length_map, h2, h3]
        have hsub : -9223372036854775808 ≤ (k : Int) - (m : Int) ∧ (k : Int) - (m : Int) ≤ 9223372036854775807 := by omega
        go_wp2
        refine wp_region_held_drew (S := fun W => W.cell? ⟨w1.heap.size, 0, none⟩ = some (.string s) ∧ W.cell? ⟨w1.heap.size, 1, none⟩ = some (.slice B m d) ∧ W.cell? ⟨w1.heap.size, 2, none⟩ = some (.int .i64 au) ∧ W.cell? ⟨w.heap.size, 1, none⟩ = some (.slice A k c)) (by kernel_rfl) ?_ (fun hHeld => ?_)
        · exact ⟨o0, o1, o2, p1⟩
        replace ho := (show OwnI wr.drew _ _ _ _ _ from ho)
        replace hbel := (show Below w.heap.size w wr.drew from hbel.drew)
        replace r0 := (show wr.drew.cell? ⟨w.heap.size + 1 + 1, 0, none⟩ = _ from r0)
        replace r1 := (show wr.drew.cell? ⟨w.heap.size + 1 + 1, 1, none⟩ = _ from r1)
        replace r2 := (show wr.drew.cell? ⟨w.heap.size + 1 + 1, 2, none⟩ = _ from r2)
        replace fr := (show ∀ j, wr.drew.frozen? ⟨w.heap.size + 1 + 1, j, none⟩ = _ from fr)
        replace hHeld := (show (fun W => W.cell? ⟨w1.heap.size, 0, none⟩ = some (.string s) ∧ W.cell? ⟨w1.heap.size, 1, none⟩ = some (.slice B m d) ∧ W.cell? ⟨w1.heap.size, 2, none⟩ = some (.int .i64 au) ∧ W.cell? ⟨w.heap.size, 1, none⟩ = some (.slice A k c)) wr.drew from hHeld)
        clear o0 o1 o2 p1
        generalize wr.drew = wd at ho hbel r0 r1 r2 fr hHeld ⊢
        refine takeD (i := 0) (d := some 45) (v := ?_) _ rfl rfl (by kernel_rfl) (by kernel_rfl) (by kernel_rfl) (fun _ _ _ h => h) (Or.inl ⟨by rfl, ?_⟩) hHeld ?_
        rotate_left
        · (intro W hSw; (try dsimp only at hSw); go_simp; try with_reducible rfl)
        try simp only [Act.put, List.setIfInBounds_toArray, List.set_cons_zero, List.set_cons_succ]
        refine takeD (i := 1) (d := some 46) (v := ?_) _ rfl rfl (by kernel_rfl) (by kernel_rfl) (by kernel_rfl) (fun _ _ _ h => h) (Or.inl ⟨by rfl, ?_⟩) hHeld ?_
        rotate_left
        · (intro W hSw; (try dsimp only at hSw); go_simp; try with_reducible rfl)
        try simp only [Act.put, List.setIfInBounds_toArray, List.set_cons_zero, List.set_cons_succ]
        refine takeD (i := 2) (d := some 47) (v := ?_) _ rfl rfl (by kernel_rfl) (by kernel_rfl) (by kernel_rfl) (fun _ _ _ h => h) (Or.inl ⟨by rfl, ?_⟩) hHeld ?_
        rotate_left
        · (intro W hSw; (try dsimp only at hSw); go_simp; try with_reducible rfl)
        try simp only [Act.put, List.setIfInBounds_toArray, List.set_cons_zero, List.set_cons_succ]
        refine takeD (i := 3) (d := some 48) (v := ?_) _ rfl rfl (by kernel_rfl) (by kernel_rfl) (by kernel_rfl) (fun _ _ _ h => h) (Or.inl ⟨by rfl, ?_⟩) hHeld ?_
        rotate_left
        · (intro W hSw; (try dsimp only at hSw); go_simp; try with_reducible rfl)
        try simp only [Act.put, List.setIfInBounds_toArray, List.set_cons_zero, List.set_cons_succ]
        refine takeD (i := 4) (d := some 49) (v := ?_) _ rfl rfl (by kernel_rfl) (by kernel_rfl) (by kernel_rfl) (fun _ _ _ h => h) (Or.inl ⟨by rfl, ?_⟩) hHeld ?_
        rotate_left
        · (intro W hSw; (try dsimp only at hSw); go_simp; try with_reducible rfl)
        try simp only [Act.put, List.setIfInBounds_toArray, List.set_cons_zero, List.set_cons_succ]
        refine takeD (i := 5) (d := some 50) (v := ?_) _ rfl rfl (by kernel_rfl) (by kernel_rfl) (by kernel_rfl) (fun _ _ _ h => h) (Or.inl ⟨by rfl, ?_⟩) hHeld ?_
        rotate_left
        · (intro W hSw; (try dsimp only at hSw); go_simp; try with_reducible rfl)
        try simp only [Act.put, List.setIfInBounds_toArray, List.set_cons_zero, List.set_cons_succ]
        refine takeD (i := 6) (d := some 51) (v := ?_) _ rfl rfl (by kernel_rfl) (by kernel_rfl) (by kernel_rfl) (fun _ _ _ h => h) (Or.inl ⟨by rfl, ?_⟩) hHeld ?_
        rotate_left
        · (intro W hSw; (try dsimp only at hSw); go_simp; try with_reducible rfl)
        try simp only [Act.put, List.setIfInBounds_toArray, List.set_cons_zero, List.set_cons_succ]
        refine takeD (i := 7) (d := some 52) (v := ?_) _ rfl rfl (by kernel_rfl) (by kernel_rfl) (by kernel_rfl) (fun _ _ _ h => h) (Or.inl ⟨by rfl, ?_⟩) hHeld ?_
        rotate_left
        · (intro W hSw; (try dsimp only at hSw); go_simp; try with_reducible rfl)
        try simp only [Act.put, List.setIfInBounds_toArray, List.set_cons_zero, List.set_cons_succ]
        refine wpAnyH_ready (rs := [8]) (by kernel_rfl) (by simp) ?_
        refine AllReadyH.cons rfl (fun K hK => ?_) AllReadyH.nil
        go_simp
        have hS8 := setS4 hHeld (r := w.heap.size + 1 + 1) (.string s) (.slice B m d) (.int .i64 au) (by omega) (by omega)
        refine hK.out _ _ hS8 (fun _ => ?_)
        clear hK K
        try simp only [Act.put, List.setIfInBounds_toArray, List.set_cons_zero, List.set_cons_succ]
        refine takeD (i := 9) (d := some 5) (v := ?_) _ rfl rfl (by kernel_rfl) (by kernel_rfl) (by kernel_rfl) (fun _ _ _ h => h) (Or.inl ⟨by rfl, ?_⟩) hS8 ?_
        rotate_left
        · (intro W hSw; (try dsimp only at hSw); go_simp; try with_reducible rfl)
        try simp only [Act.put, List.setIfInBounds_toArray, List.set_cons_zero, List.set_cons_succ]
        refine wpAnyH_done (by kernel_rfl) ?_ _
        have hwr : IntKind.i64.wrap ((k : Int) - (m : Int)) = ((k : Int) - (m : Int)) := by rw [IntKind.wrap_i64]; omega
        have O9 : Hid (OwnI (((wd.setCell ⟨w.heap.size + 1 + 1, 0, none⟩ (.string s)).setCell ⟨w.heap.size + 1 + 1, 1, none⟩ (.slice B m d)).setCell ⟨w.heap.size + 1 + 1, 2, none⟩ (.int .i64 au)) w.heap.size B m d ys) := Lib.hid ((OwnI.setB (OwnI.setB (OwnI.setB ho (a := ⟨w.heap.size + 1 + 1, 0, none⟩) (by show w.heap.size + 1 + 1 < W0.heap.size; omega) _) (a := ⟨w.heap.size + 1 + 1, 1, none⟩) (by show w.heap.size + 1 + 1 < W0.heap.size; omega) _) (a := ⟨w.heap.size + 1 + 1, 2, none⟩) (by show w.heap.size + 1 + 1 < W0.heap.size; omega) _).base (by omega))
        have B9 : Hid (Below w.heap.size w (((wd.setCell ⟨w.heap.size + 1 + 1, 0, none⟩ (.string s)).setCell ⟨w.heap.size + 1 + 1, 1, none⟩ (.slice B m d)).setCell ⟨w.heap.size + 1 + 1, 2, none⟩ (.int .i64 au))) := Lib.hid (((hbel.setCell (p := ⟨w.heap.size + 1 + 1, 0, none⟩) (by simp; omega) _).setCell (p := ⟨w.heap.size + 1 + 1, 1, none⟩) (by simp; omega) _).setCell (p := ⟨w.heap.size + 1 + 1, 2, none⟩) (by simp; omega) _)
        clear ho hbel
        go_wp2
        exact bodyPost_ret (v := .tuple #[.agg #[.string s, .slice B m d, .int .i64 au], .int .i64 ((k : Int) - (m : Int))]) (by simp [results, Try.results69, go_sem, r0, r1, r2, hwr]) rfl ⟨_, _, _, ys, (by rw [HZ.out]), HT.out, O9.out, B9.out⟩

set_option maxRecDepth 100000 in
set_option maxHeartbeats 20000000 in
theorem implDeleteItems_any (s : ByteArray) (A : Option Addr) (n c : Nat) (au : Int) (l : List Itm) (a b : Bool) (k1 q1 : Int) (s1 : ByteArray) (k2 q2 : Int) (s2 : ByteArray) (w : World) (hs : s.size ≤ maxLen) (hn : n ≤ 1048576) (hm : ∀ x ∈ l, x.m ≤ 1099511627776) (hxs : ∀ x ∈ l, x.s.size ≤ maxLen) (hs1 : s1.size ≤ maxLen) (hs2 : s2.size ≤ maxLen) (ok : okI (l.map Itm.l)) (ha : RdI w A n l) :
    Calls Try.prog 70 #[.agg #[.string s, .slice A n c, .int .i64 au], .agg #[.bool a, .bool b, .int .i64 k1, .int .i64 q1, .string s1, .int .i64 k2, .int .i64 q2, .string s2]] w (MkSD w s (delL (inL a b k1 q1 s1 k2 q2 s2) s au (l.map Itm.l)) au (delN (inL a b k1 q1 s1 k2 q2 s2) s au (l.map Itm.l))) := by
  have hmf : ∀ (fn : Fn) (first cap : Array Value) (w : World), (Instr.makeFunc fn first cap).run Try.prog w = .ok (.func fn first cap) w := fun _ _ _ _ => rfl
  have la := Lib.hid ha.lenI
  obtain ⟨W1, hW1⟩ : ∃ W, W = ((w.alloc (.cells #[.string s, .slice A n c, .int .i64 au] 52)).alloc (.cells #[.bool a, .bool b, .int .i64 k1, .int .i64 q1, .string s1, .int .i64 k2, .int .i64 q2, .string s2] 76)).alloc (.cells #[.string ⟨#[]⟩, .slice none 0 0, .int .i64 0] 52) := ⟨_, rfl⟩
  have hz : W1.heap.size = w.heap.size + 1 + 1 + 1 := by rw [hW1]; simp
  have hzw : w.heap.size + 1 + 1 + 1 ≤ W1.heap.size := by omega
  have B1 : Below w.heap.size w W1 := by rw [hW1]; exact al (al (al (Below.refl _ _)))
  have p0 : W1.cell? ⟨w.heap.size, 0, none⟩ = some (.string s) := by rw [hW1]; simp [go_sem]
  have p1 : W1.cell? ⟨w.heap.size, 1, none⟩ = some (.slice A n c) := by rw [hW1]; simp [go_sem]
  have p2 : W1.cell? ⟨w.heap.size, 2, none⟩ = some (.int .i64 au) := by rw [hW1]; simp [go_sem]
  have k0_ : W1.cell? ⟨w.heap.size + 1, 0, none⟩ = some (.bool a) := by rw [hW1]; simp [go_sem]
  have k1_ : W1.cell? ⟨w.heap.size + 1, 1, none⟩ = some (.bool b) := by rw [hW1]; simp [go_sem]
  have k2_ : W1.cell? ⟨w.heap.size + 1, 2, none⟩ = some (.int .i64 k1) := by rw [hW1]; simp [go_sem]
  have k3_ : W1.cell? ⟨w.heap.size + 1, 3, none⟩ = some (.int .i64 q1) := by rw [hW1]; simp [go_sem]
  have k4_ : W1.cell? ⟨w.heap.size + 1, 4, none⟩ = some (.string s1) := by rw [hW1]; simp [go_sem]
  have k5_ : W1.cell? ⟨w.heap.size + 1, 5, none⟩ = some (.int .i64 k2) := by rw [hW1]; simp [go_sem]
  have k6_ : W1.cell? ⟨w.heap.size + 1, 6, none⟩ = some (.int .i64 q2) := by rw [hW1]; simp [go_sem]
  have k7_ : W1.cell? ⟨w.heap.size + 1, 7, none⟩ = some (.string s2) := by rw [hW1]; simp [go_sem]
  have r0 : W1.cell? ⟨w.heap.size + 1 + 1, 0, none⟩ = some (.string ⟨#[]⟩) := by rw [hW1]; simp [go_sem]
  have r1 : W1.cell? ⟨w.heap.size + 1 + 1, 1, none⟩ = some (.slice none 0 0) := by rw [hW1]; simp [go_sem]
  have r2 : W1.cell? ⟨w.heap.size + 1 + 1, 2, none⟩ = some (.int .i64 0) := by rw [hW1]; simp [go_sem]
  have fr : ∀ j, W1.frozen? ⟨w.heap.size + 1 + 1, j, none⟩ = false := fun j => by rw [hW1]; simp [go_sem]
  clear hz
  obtain ⟨rb, hrb⟩ : ∃ rb, rb = storeB s (l.map Itm.l) au := ⟨_, rfl⟩
  have HB := Lib.hid hrb
  clear hrb
  go_enter Try.func70, Try.ntmps70
  go_wp2_with fail
  rw [← hW1]
  refine (copyStore_any s A n c au l _ hn hm (ha.below B1)).mono ?_
  rintro e w2 ⟨A2, n2, c2, l2, rfl, e2, o2_, b2⟩
  have hs2_ := b2.size
  replace p0 := kcell b2 p0
  replace p1 := kcell b2 p1
  replace p2 := kcell b2 p2
  replace k0_ := kcell b2 k0_
  replace k1_ := kcell b2 k1_
  replace k2_ := kcell b2 k2_
  replace k3_ := kcell b2 k3_
  replace k4_ := kcell b2 k4_
  replace k5_ := kcell b2 k5_
  replace k6_ := kcell b2 k6_
  replace k7_ := kcell b2 k7_
  replace r0 := kcell b2 r0
  replace r1 := kcell b2 r1
  replace r2 := kcell b2 r2
  replace fr : ∀ j, w2.frozen? ⟨w.heap.size + 1 + 1, j, none⟩ = false := fun j => (b2.frozen (p := ⟨w.heap.size + 1 + 1, j, none⟩) (by show w.heap.size + 1 + 1 < _; omega)).trans (fr j)
  have B2 : Below w.heap.size w w2 := B1.trans (b2.mono B1.size)
  have R2 := Lib.hid (OwnI.rng o2_)
  have hw2 : w.heap.size + 1 + 1 + 1 ≤ w2.heap.size := Nat.le_trans hzw hs2_
  clear b2 hW1 hs2_
  -- the box of the copy
  have b0 : Below w2.heap.size w2 (w2.alloc (.cells #[.string s, .slice A2 n2 c2, .int .i64 au] 52)) := al (Below.refl _ _)
  replace p0 := kcell b0 p0
  replace p1 := kcell b0 p1
  replace p2 := kcell b0 p2
  replace k0_ := kcell b0 k0_
  replace k1_ := kcell b0 k1_
  replace k2_ := kcell b0 k2_
  replace k3_ := kcell b0 k3_
  replace k4_ := kcell b0 k4_
  replace k5_ := kcell b0 k5_
  replace k6_ := kcell b0 k6_
  replace k7_ := kcell b0 k7_
  replace r0 := kcell b0 r0
  replace r1 := kcell b0 r1
  replace r2 := kcell b0 r2
  replace fr : ∀ j, (w2.alloc (.cells #[.string s, .slice A2 n2 c2, .int .i64 au] 52)).frozen? ⟨w.heap.size + 1 + 1, j, none⟩ = false := fun j => (b0.frozen (p := ⟨w.heap.size + 1 + 1, j, none⟩) (by show w.heap.size + 1 + 1 < _; omega)).trans (fr j)
  have o0 : (w2.alloc (.cells #[.string s, .slice A2 n2 c2, .int .i64 au] 52)).cell? ⟨w2.heap.size, 0, none⟩ = some (.string s) := by simp
  have o1 : (w2.alloc (.cells #[.string s, .slice A2 n2 c2, .int .i64 au] 52)).cell? ⟨w2.heap.size, 1, none⟩ = some (.slice A2 n2 c2) := by simp
  have o2 : (w2.alloc (.cells #[.string s, .slice A2 n2 c2, .int .i64 au] 52)).cell? ⟨w2.heap.size, 2, none⟩ = some (.int .i64 au) := by simp
  have fo : ∀ j, (w2.alloc (.cells #[.string s, .slice A2 n2 c2, .int .i64 au] 52)).frozen? ⟨w2.heap.size, j, none⟩ = false := fun j => by simp
  have hzG : w2.heap.size + 1 ≤ (w2.alloc (.cells #[.string s, .slice A2 n2 c2, .int .i64 au] 52)).heap.size := by simp
  have B3 : Below w.heap.size w (w2.alloc (.cells #[.string s, .slice A2 n2 c2, .int .i64 au] 52)) := B2.trans (b0.mono B2.size)
  replace o2_ := o2_.below b0
  clear b0 B2
  go_wp2_with fail
  refine (implIsStore_any s A n c au l _ rb _ hs (by unfold maxLen; omega) (ha.below B3) rfl ok HB.out).mono ?_
  rintro e w3 ⟨rfl, b3⟩
  replace p0 := kcell b3 p0
  replace p1 := kcell b3 p1
  replace p2 := kcell b3 p2
  replace k0_ := kcell b3 k0_
  replace k1_ := kcell b3 k1_
  replace k2_ := kcell b3 k2_
  replace k3_ := kcell b3 k3_
  replace k4_ := kcell b3 k4_
  replace k5_ := kcell b3 k5_
  replace k6_ := kcell b3 k6_
  replace k7_ := kcell b3 k7_
  replace r0 := kcell b3 r0
  replace r1 := kcell b3 r1
  replace r2 := kcell b3 r2
  replace fr : ∀ j, w3.frozen? ⟨w.heap.size + 1 + 1, j, none⟩ = false := fun j => (b3.frozen (p := ⟨w.heap.size + 1 + 1, j, none⟩) (by show w.heap.size + 1 + 1 < _; omega)).trans (fr j)
  replace o0 := kcell b3 o0
  replace o1 := kcell b3 o1
  replace o2 := kcell b3 o2
  replace fo : ∀ j, w3.frozen? ⟨w2.heap.size, j, none⟩ = false := fun j => (b3.frozen (p := ⟨w2.heap.size, j, none⟩) (by show w2.heap.size < _; omega)).trans (fo j)
  have hzG3 : w2.heap.size + 1 ≤ w3.heap.size := Nat.le_trans hzG b3.size
  have B4 : Below w.heap.size w w3 := B3.trans (b3.mono B3.size)
  replace o2_ := o2_.below b3
  clear b3 B3 hzG
  cases rb
  · have HL := Lib.hid (del_no (p := (inL a b k1 q1 s1 k2 q2 s2)) HB.out.symm)
    have E2 : Hid (l2.map Itm.l = delL (inL a b k1 q1 s1 k2 q2 s2) s au (l.map Itm.l)) := by rw [HL.out.1]; exact e2
    clear e2
    have O9 : Hid (OwnI (((w3.setCell ⟨w.heap.size + 1 + 1, 0, none⟩ (.string s)).setCell ⟨w.heap.size + 1 + 1, 1, none⟩ (.slice A2 n2 c2)).setCell ⟨w.heap.size + 1 + 1, 2, none⟩ (.int .i64 au)) w.heap.size A2 n2 c2 l2) := Lib.hid ((OwnI.setB (OwnI.setB (OwnI.setB o2_ (a := ⟨w.heap.size + 1 + 1, 0, none⟩) (by show w.heap.size + 1 + 1 < W1.heap.size; omega) _) (a := ⟨w.heap.size + 1 + 1, 1, none⟩) (by show w.heap.size + 1 + 1 < W1.heap.size; omega) _) (a := ⟨w.heap.size + 1 + 1, 2, none⟩) (by show w.heap.size + 1 + 1 < W1.heap.size; omega) _).base (by omega))
    have B9 : Hid (Below w.heap.size w (((w3.setCell ⟨w.heap.size + 1 + 1, 0, none⟩ (.string s)).setCell ⟨w.heap.size + 1 + 1, 1, none⟩ (.slice A2 n2 c2)).setCell ⟨w.heap.size + 1 + 1, 2, none⟩ (.int .i64 au))) := Lib.hid (((B4.setCell (p := ⟨w.heap.size + 1 + 1, 0, none⟩) (by simp; omega) _).setCell (p := ⟨w.heap.size + 1 + 1, 1, none⟩) (by simp; omega) _).setCell (p := ⟨w.heap.size + 1 + 1, 2, none⟩) (by simp; omega) _)
    clear o2_ B4
    go_wp2
    exact bodyPost_ret (v := .tuple #[.agg #[.string s, .slice A2 n2 c2, .int .i64 au], .int .i64 0]) (by simp [results, Try.results70, go_sem, r0, r1, r2]) rfl ⟨_, _, _, l2, (by rw [HL.out.2]), E2.out, O9.out, B9.out⟩
  · have HL := Lib.hid (del_yes (p := (inL a b k1 q1 s1 k2 q2 s2)) HB.out.symm)
    have hn2 : n2 = n := by
      have h1 := o2_.rd.lenI
      have h2 := congrArg List.length e2
      rw [List.length_map, List.length_map] at h2
      have h3 := la.out
      omega
    have hxs2 : ∀ x ∈ l2, x.s.size ≤ maxLen := by
      intro x hx
      obtain ⟨y, hy, e⟩ := List.mem_map.1 (by rw [← e2]; exact List.mem_map.2 ⟨x, hx, rfl⟩ : x.l ∈ l.map Itm.l)
      have := hxs y hy
      have e3 : y.s = x.s := congrArg (fun t : LIt => t.2.2.1) e
      rwa [e3] at this
    have hrc : RC w3 (w.heap.size + 1) a b k1 q1 s1 k2 q2 s2 := ⟨k0_, k1_, k2_, k3_, k4_, k5_, k6_, k7_⟩
    have hn2le : n2 ≤ 1048576 := by omega
    have HN2 := Lib.hid hn2
    clear hn2
    go_wp2_with fail
    refine (deleteFunc_any A2 n2 c2 _ l2 a b k1 q1 s1 k2 q2 s2 (w.heap.size + 1) _ hn2le o2_ hxs2 hs1 hs2 hrc (by omega)).mono ?_
    rintro e w4 ⟨m, rfl, o4, g4⟩
    have hA2 : ∀ ad, A2 = some ad → W1.heap.size ≤ ad.block ∧ ad.block < w2.heap.size := R2.out.1
    replace p0 := cell_apartI g4 p0 (fun ad h => by have := hA2 ad h; omega)
    replace p1 := cell_apartI g4 p1 (fun ad h => by have := hA2 ad h; omega)
    replace p2 := cell_apartI g4 p2 (fun ad h => by have := hA2 ad h; omega)
    replace k0_ := cell_apartI g4 k0_ (fun ad h => by have := hA2 ad h; omega)
    replace k1_ := cell_apartI g4 k1_ (fun ad h => by have := hA2 ad h; omega)
    replace k2_ := cell_apartI g4 k2_ (fun ad h => by have := hA2 ad h; omega)
    replace k3_ := cell_apartI g4 k3_ (fun ad h => by have := hA2 ad h; omega)
    replace k4_ := cell_apartI g4 k4_ (fun ad h => by have := hA2 ad h; omega)
    replace k5_ := cell_apartI g4 k5_ (fun ad h => by have := hA2 ad h; omega)
    replace k6_ := cell_apartI g4 k6_ (fun ad h => by have := hA2 ad h; omega)
    replace k7_ := cell_apartI g4 k7_ (fun ad h => by have := hA2 ad h; omega)
    replace r0 := cell_apartI g4 r0 (fun ad h => by have := hA2 ad h; omega)
    replace r1 := cell_apartI g4 r1 (fun ad h => by have := hA2 ad h; omega)
    replace r2 := cell_apartI g4 r2 (fun ad h => by have := hA2 ad h; omega)
    replace o0 := cell_apartI g4 o0 (fun ad h => by have := hA2 ad h; omega)
    replace o1 := cell_apartI g4 o1 (fun ad h => by have := hA2 ad h; omega)
    replace o2 := cell_apartI g4 o2 (fun ad h => by have := hA2 ad h; omega)
    replace fr : ∀ j, w4.frozen? ⟨w.heap.size + 1 + 1, j, none⟩ = false := fun j => (froz_apartI g4 (by omega) (fun ad h => by have := hA2 ad h; omega)).trans (fr j)
    replace fo : ∀ j, w4.frozen? ⟨w2.heap.size, j, none⟩ = false := fun j => (froz_apartI g4 (by omega) (fun ad h => by have := hA2 ad h; omega)).trans (fo j)
    have B5 : Below w.heap.size w w4 := B4.trans (grown_below g4 B4.size (fun ad h => by have := hA2 ad h; omega))
    have hzG4 : w2.heap.size + 1 ≤ w4.heap.size := Nat.le_trans hzG3 g4.size
    clear g4 o2_ B4 hrc k0_ k1_ k2_ k3_ k4_ k5_ k6_ k7_
    have hlen := o4.rd.lenI
    have hmn : m ≤ n2 := by
      have h1 : (stay (inL a b k1 q1 s1 k2 q2 s2) l2).length ≤ l2.length := List.length_filter_le _ _
      have h2 := congrArg List.length e2
      rw [List.length_map, List.length_map] at h2
      have h3 := la.out
      have h4 := HN2.out
      omega
    have HT : Hid ((stay (inL a b k1 q1 s1 k2 q2 s2) l2).map Itm.l = delL (inL a b k1 q1 s1 k2 q2 s2) s au (l.map Itm.l)) := by
      show _ = _
      rw [stay_map, e2, HL.out.1]
    have HZ : Hid (delN (inL a b k1 q1 s1 k2 q2 s2) s au (l.map Itm.l) = (n : Int) - (m : Int)) := by
      have h1 := congrArg List.length HT.out
      have h3 := la.out
      show _ = _
      rw [HL.out.2, ← HL.out.1, ← h1, List.length_map, List.length_map, hlen, h3]
    have hsub : -9223372036854775808 ≤ (n : Int) - (m : Int) ∧ (n : Int) - (m : Int) ≤ 9223372036854775807 := by have := HN2.out; omega
    obtain ⟨V, hV⟩ : ∃ V, V = w4.setCell ⟨w2.heap.size, 1, none⟩ (.slice A2 m c2) := ⟨_, rfl⟩
    have v_p0 : V.cell? ⟨w.heap.size, 0, none⟩ = some (.string s) := by rw [hV, World.cell?_setCell_far _ ⟨w2.heap.size, 1, none⟩ ⟨w.heap.size, 0, none⟩ _ (by show w2.heap.size ≠ w.heap.size; omega)]; exact p0
    have v_p1 : V.cell? ⟨w.heap.size, 1, none⟩ = some (.slice A n c) := by rw [hV, World.cell?_setCell_far _ ⟨w2.heap.size, 1, none⟩ ⟨w.heap.size, 1, none⟩ _ (by show w2.heap.size ≠ w.heap.size; omega)]; exact p1
    have v_p2 : V.cell? ⟨w.heap.size, 2, none⟩ = some (.int .i64 au) := by rw [hV, World.cell?_setCell_far _ ⟨w2.heap.size, 1, none⟩ ⟨w.heap.size, 2, none⟩ _ (by show w2.heap.size ≠ w.heap.size; omega)]; exact p2
    have v_r0 : V.cell? ⟨w.heap.size + 1 + 1, 0, none⟩ = some (.string ⟨#[]⟩) := by rw [hV, World.cell?_setCell_far _ ⟨w2.heap.size, 1, none⟩ ⟨w.heap.size + 1 + 1, 0, none⟩ _ (by show w2.heap.size ≠ w.heap.size + 1 + 1; omega)]; exact r0
    have v_r1 : V.cell? ⟨w.heap.size + 1 + 1, 1, none⟩ = some (.slice none 0 0) := by rw [hV, World.cell?_setCell_far _ ⟨w2.heap.size, 1, none⟩ ⟨w.heap.size + 1 + 1, 1, none⟩ _ (by show w2.heap.size ≠ w.heap.size + 1 + 1; omega)]; exact r1
    have v_r2 : V.cell? ⟨w.heap.size + 1 + 1, 2, none⟩ = some (.int .i64 0) := by rw [hV, World.cell?_setCell_far _ ⟨w2.heap.size, 1, none⟩ ⟨w.heap.size + 1 + 1, 2, none⟩ _ (by show w2.heap.size ≠ w.heap.size + 1 + 1; omega)]; exact r2
    have v_o0 : V.cell? ⟨w2.heap.size, 0, none⟩ = some (.string s) := by rw [hV]; simp [go_sem, o0]
    have v_o1 : V.cell? ⟨w2.heap.size, 1, none⟩ = some (.slice A2 m c2) := by rw [hV]; simp [go_sem, o1]
    have v_o2 : V.cell? ⟨w2.heap.size, 2, none⟩ = some (.int .i64 au) := by rw [hV]; simp [go_sem, o2]
    have v_fr : ∀ j, V.frozen? ⟨w.heap.size + 1 + 1, j, none⟩ = false := fun j => by rw [hV]; simp [fr]
    have B6 : Below w.heap.size w V := by rw [hV]; exact B5.setCell (by show w.heap.size ≤ w2.heap.size; omega) _
    have o6 : OwnI V W1.heap.size A2 m c2 (stay (inL a b k1 q1 s1 k2 q2 s2) l2) := by
      rw [hV]
      refine ⟨own_setNeI o4.1 (a := ⟨w2.heap.size, 1, none⟩) _ (fun ad h => by have := hA2 ad h; show ad.block ≠ w2.heap.size; omega), fun x hx => own_setNeI (o4.2.1 x hx) (a := ⟨w2.heap.size, 1, none⟩) _ (fun ad h => by have := R2.out.2 x (stay_mem hx) ad h; show ad.block ≠ w2.heap.size; omega), o4.2.2⟩
    go_wp2
    rw [← hV]
    clear hV p0 p1 p2 o0 o1 o2 fo o4 B5 r0 r1 r2 fr hlen
    have r0 := v_r0
    have r1 := v_r1
    have r2 := v_r2
    have fr := v_fr
    have o0 := v_o0
    have o1 := v_o1
    have o2 := v_o2
    have p1 := v_p1
    clear v_r0 v_r1 v_r2 v_fr v_o0 v_o1 v_o2 v_p0 v_p1 v_p2
    refine wp_region_held_drew (S := fun W => W.cell? ⟨w2.heap.size, 0, none⟩ = some (.string s) ∧ W.cell? ⟨w2.heap.size, 1, none⟩ = some (.slice A2 m c2) ∧ W.cell? ⟨w2.heap.size, 2, none⟩ = some (.int .i64 au) ∧ W.cell? ⟨w.heap.size, 1, none⟩ = some (.slice A n c)) (by kernel_rfl) ?_ (fun hHeld => ?_)
    · exact ⟨o0, o1, o2, p1⟩
    replace o6 := (show OwnI V.drew _ _ _ _ _ from o6)
    replace B6 := (show Below w.heap.size w V.drew from B6.drew)
    replace r0 := (show V.drew.cell? ⟨w.heap.size + 1 + 1, 0, none⟩ = _ from r0)
    replace r1 := (show V.drew.cell? ⟨w.heap.size + 1 + 1, 1, none⟩ = _ from r1)
    replace r2 := (show V.drew.cell? ⟨w.heap.size + 1 + 1, 2, none⟩ = _ from r2)
    replace fr := (show ∀ j, V.drew.frozen? ⟨w.heap.size + 1 + 1, j, none⟩ = _ from fr)
    replace hHeld := (show (fun W => W.cell? ⟨w2.heap.size, 0, none⟩ = some (.string s) ∧ W.cell? ⟨w2.heap.size, 1, none⟩ = some (.slice A2 m c2) ∧ W.cell? ⟨w2.heap.size, 2, none⟩ = some (.int .i64 au) ∧ W.cell? ⟨w.heap.size, 1, none⟩ = some (.slice A n c)) V.drew from hHeld)
    clear o0 o1 o2 p1
    generalize V.drew = wd at o6 B6 r0 r1 r2 fr hHeld ⊢
    refine takeD (i := 0) (d := some 18) (v := ?_) _ rfl rfl (by kernel_rfl) (by kernel_rfl) (by kernel_rfl) (fun _ _ _ h => h) (Or.inl ⟨by rfl, ?_⟩) hHeld ?_
    rotate_left
    · (intro W hSw; (try dsimp only at hSw); go_simp; try with_reducible rfl)
    try simp only [Act.put, List.setIfInBounds_toArray, List.set_cons_zero, List.set_cons_succ]
    refine takeD (i := 1) (d := some 19) (v := ?_) _ rfl rfl (by kernel_rfl) (by kernel_rfl) (by kernel_rfl) (fun _ _ _ h => h) (Or.inl ⟨by rfl, ?_⟩) hHeld ?_
    rotate_left
    · (intro W hSw; (try dsimp only at hSw); go_simp; try with_reducible rfl)
    try simp only [Act.put, List.setIfInBounds_toArray, List.set_cons_zero, List.set_cons_succ]
    refine takeD (i := 2) (d := some 20) (v := ?_) _ rfl rfl (by kernel_rfl) (by kernel_rfl) (by kernel_rfl) (fun _ _ _ h => h) (Or.inl ⟨by rfl, ?_⟩) hHeld ?_
    rotate_left
    · (intro W hSw; (try dsimp only at hSw); go_simp; try with_reducible rfl)
    try simp only [Act.put, List.setIfInBounds_toArray, List.set_cons_zero, List.set_cons_succ]
    refine takeD (i := 3) (d := some 21) (v := ?_) _ rfl rfl (by kernel_rfl) (by kernel_rfl) (by kernel_rfl) (fun _ _ _ h => h) (Or.inl ⟨by rfl, ?_⟩) hHeld ?_
    rotate_left
    · (intro W hSw; (try dsimp only at hSw); go_simp; try with_reducible rfl)
    try simp only [Act.put, List.setIfInBounds_toArray, List.set_cons_zero, List.set_cons_succ]
    refine takeD (i := 4) (d := some 22) (v := ?_) _ rfl rfl (by kernel_rfl) (by kernel_rfl) (by kernel_rfl) (fun _ _ _ h => h) (Or.inl ⟨by rfl, ?_⟩) hHeld ?_
    rotate_left
    · (intro W hSw; (try dsimp only at hSw); go_simp; try with_reducible rfl)
    try simp only [Act.put, List.setIfInBounds_toArray, List.set_cons_zero, List.set_cons_succ]
    refine takeD (i := 5) (d := some 23) (v := ?_) _ rfl rfl (by kernel_rfl) (by kernel_rfl) (by kernel_rfl) (fun _ _ _ h => h) (Or.inl ⟨by rfl, ?_⟩) hHeld ?_
    rotate_left
    · (intro W hSw; (try dsimp only at hSw); go_simp; try with_reducible rfl)
    try simp only [Act.put, List.setIfInBounds_toArray, List.set_cons_zero, List.set_cons_succ]
    refine takeD (i := 6) (d := some 24) (v := ?_) _ rfl rfl (by kernel_rfl) (by kernel_rfl) (by kernel_rfl) (fun _ _ _ h => h) (Or.inl ⟨by rfl, ?_⟩) hHeld ?_
    rotate_left
    · (intro W hSw; (try dsimp only at hSw); go_simp; try with_reducible rfl)
    try simp only [Act.put, List.setIfInBounds_toArray, List.set_cons_zero, List.set_cons_succ]
    refine takeD (i := 7) (d := some 25) (v := ?_) _ rfl rfl (by kernel_rfl) (by kernel_rfl) (by kernel_rfl) (fun _ _ _ h => h) (Or.inl ⟨by rfl, ?_⟩) hHeld ?_
    rotate_left
    · (intro W hSw; (try dsimp only at hSw); go_simp; try with_reducible rfl)
    try simp only [Act.put, List.setIfInBounds_toArray, List.set_cons_zero, List.set_cons_succ]
    refine wpAnyH_ready (rs := [8]) (by kernel_rfl) (by simp) ?_
    refine AllReadyH.cons rfl (fun K hK => ?_) AllReadyH.nil
    go_simp
    have hS8 := setS4 hHeld (r := w.heap.size + 1 + 1) (.string s) (.slice A2 m c2) (.int .i64 au) (by omega) (by omega)
    refine hK.out _ _ hS8 (fun _ => ?_)
    clear hK K
    try simp only [Act.put, List.setIfInBounds_toArray, List.set_cons_zero, List.set_cons_succ]
    refine takeD (i := 9) (d := some 5) (v := ?_) _ rfl rfl (by kernel_rfl) (by kernel_rfl) (by kernel_rfl) (fun _ _ _ h => h) (Or.inl ⟨by rfl, ?_⟩) hS8 ?_
    rotate_left
    · (intro W hSw; (try dsimp only at hSw); go_simp; try with_reducible rfl)
    try simp only [Act.put, List.setIfInBounds_toArray, List.set_cons_zero, List.set_cons_succ]
    refine wpAnyH_done (by kernel_rfl) ?_ _
    have hwr : IntKind.i64.wrap ((n : Int) - (m : Int)) = ((n : Int) - (m : Int)) := by rw [IntKind.wrap_i64]; omega
    have O9 : Hid (OwnI (((wd.setCell ⟨w.heap.size + 1 + 1, 0, none⟩ (.string s)).setCell ⟨w.heap.size + 1 + 1, 1, none⟩ (.slice A2 m c2)).setCell ⟨w.heap.size + 1 + 1, 2, none⟩ (.int .i64 au)) w.heap.size A2 m c2 (stay (inL a b k1 q1 s1 k2 q2 s2) l2)) := Lib.hid ((OwnI.setB (OwnI.setB (OwnI.setB o6 (a := ⟨w.heap.size + 1 + 1, 0, none⟩) (by show w.heap.size + 1 + 1 < W1.heap.size; omega) _) (a := ⟨w.heap.size + 1 + 1, 1, none⟩) (by show w.heap.size + 1 + 1 < W1.heap.size; omega) _) (a := ⟨w.heap.size + 1 + 1, 2, none⟩) (by show w.heap.size + 1 + 1 < W1.heap.size; omega) _).base (by omega))
    have B9 : Hid (Below w.heap.size w (((wd.setCell ⟨w.heap.size + 1 + 1, 0, none⟩ (.string s)).setCell ⟨w.heap.size + 1 + 1, 1, none⟩ (.slice A2 m c2)).setCell ⟨w.heap.size + 1 + 1, 2, none⟩ (.int .i64 au))) := Lib.hid (((B6.setCell (p := ⟨w.heap.size + 1 + 1, 0, none⟩) (by simp; omega) _).setCell (p := ⟨w.heap.size + 1 + 1, 1, none⟩) (by simp; omega) _).setCell (p := ⟨w.heap.size + 1 + 1, 2, none⟩) (by simp; omega) _)
    clear o6 B6
    go_wp2
    exact bodyPost_ret (v := .tuple #[.agg #[.string s, .slice A2 m c2, .int .i64 au], .int .i64 ((n : Int) - (m : Int))]) (by simp [results, Try.results70, go_sem, r0, r1, r2, hwr]) rfl ⟨_, _, _, (stay (inL a b k1 q1 s1 k2 q2 s2) l2), (by rw [HZ.out]), HT.out, O9.out, B9.out⟩
end Go.Proofs.Ytbbngihmjdndoaa
