/-
  Proved: the contracts of the reference's draws: a cursor behind a pointer, its bytes, numbers below a bound, one of a list. Only the range of what is drawn is said. Conditions: the pointer's block is a cursor over bytes of an older block.
  By an AI agent; no person has read it.
-/
import Derived.Test.YtnbhdijmbpdgoaaDoorTypes
import Derived.Deep.QuietTactic
import Derived.BigQuiet
import Derived.StillTailTactics
import Derived.Outline
namespace Go.Proofs.YtnbhdijmbpdgoaaDoor
open Go.RowKit

/-- Block p is a cursor over bytes that lie in an older block. -/
def CurC (w : World) (p : Nat) (A : Option Addr) (n c : Nat) (l : List UInt8) (i : Nat) (h : Int) : Prop :=
  (p < w.heap.size ∧ i ≤ n ∧ n ≤ 1099511627776 ∧ (-9223372036854775808 ≤ h ∧ h ≤ 9223372036854775807)) ∧ Rd w 1 A n (l.map bv) ∧ (∀ ad, A = some ad → 0 < n → ad.block < p) ∧
  w.cell? ⟨p, 0, none⟩ = some (.slice A n c) ∧ w.cell? ⟨p, 1, none⟩ = some (.int .i64 (i : Int)) ∧ w.cell? ⟨p, 2, none⟩ = some (.int .i64 h) ∧ w.frozen? ⟨p, 0, none⟩ = false ∧ w.frozen? ⟨p, 1, none⟩ = false ∧ w.frozen? ⟨p, 2, none⟩ = false
def Cur (w : World) (p : Nat) : Prop := ∃ (A : Option Addr) (n c : Nat) (l : List UInt8) (i : Nat) (h : Int), CurC w p A n c l i h

theorem Rd.grown0 {w w' : World} {size n : Nat} {A : Option Addr} {xs : List Value} (h : Rd w size A n xs) {row : Option Nat} (hg : w.grownBy w' row) (hne : ∀ ad, A = some ad → 0 < n → row ≠ some ad.block) : Rd w' size A n xs := by
  rcases Nat.eq_zero_or_pos n with h0 | h0
  · exact ⟨h.1, fun h1 => absurd h1 (by omega)⟩
  · exact h.grown hg (fun ad e => hne ad e h0)
theorem Cur.lt {w : World} {p : Nat} (h : Cur w p) : p < w.heap.size := by
  obtain ⟨_, _, _, _, _, _, ⟨h, _⟩, _⟩ := h
  exact h
theorem Cur.grown {w w' : World} {p : Nat} {row : Option Nat} (h : Cur w p) (hg : w.grownBy w' row) (hr : ∀ k, row = some k → p < k) : Cur w' p := by
  obtain ⟨A, n, c, l, i, x, ⟨h1, h2, h3, h4⟩, hr1, hA, a, b, d, e, f, g⟩ := h
  have hb : w'.heap[p]? = w.heap[p]? := hg.block p h1 (fun e2 => absurd (hr p e2.symm) (by omega))
  have hc : ∀ o, w'.cell? ⟨p, o, none⟩ = w.cell? ⟨p, o, none⟩ := fun o => World.cell?_of_block hb
  have hf : ∀ o, w'.frozen? ⟨p, o, none⟩ = w.frozen? ⟨p, o, none⟩ := fun o => World.frozen?_of_block hb
  exact ⟨A, n, c, l, i, x, ⟨Nat.lt_of_lt_of_le h1 hg.size, h2, h3, h4⟩, hr1.grown0 hg (fun ad e2 h0 e3 => absurd (hr _ e3) (by have := hA ad e2 h0; omega)), hA, by rw [hc]; exact a, by rw [hc]; exact b, by rw [hc]; exact d, by rw [hf]; exact e, by rw [hf]; exact f, by rw [hf]; exact g⟩
theorem Cur.below {w w' : World} {p : Nat} (h : Cur w p) (hb : Below w.heap.size w w') : Cur w' p :=
  h.grown (row := none) ⟨hb.os, hb.tape, hb.output, hb.size, fun i hi _ => hb.block i hi⟩ (fun k e => by cases e)

theorem only_drew {a w : World} {row : Option Nat} (h : a.grownBy w row) : a.grownBy w.drew row := ⟨h.os, h.tape, h.output, h.size, h.block⟩
theorem only_drewN {a w : World} {row : Option Nat} (h : a.grownBy w row) (n : Nat) : a.grownBy (w.drewN n) row := ⟨h.os, h.tape, h.output, h.size, h.block⟩
theorem only_alloc {a w : World} {row : Option Nat} (h : a.grownBy w row) (o : Obj) : a.grownBy (w.alloc o) row :=
  ⟨h.os, h.tape, h.output, Nat.le_trans h.size (by simp), fun i hi hne => (Below.heap_alloc w o i (Nat.lt_of_lt_of_le hi h.size)).trans (h.block i hi hne)⟩
theorem only_setCell {a w : World} {g : Nat} (h : a.grownBy w (some g)) {p : Addr} (hp : p.block = g ∨ a.heap.size ≤ p.block) (u : Value) : a.grownBy (w.setCell p u) (some g) :=
  ⟨h.os, h.tape, h.output, by simpa [World.setCell] using h.size, fun i hi hne => (Below.heap_setCell w p u i (by
    rintro rfl
    rcases hp with hp | hp
    · exact hne (by rw [hp])
    · omega)).trans (h.block i hi hne)⟩
theorem only_of_below {a w : World} (h : Below a.heap.size a w) (row : Option Nat) : a.grownBy w row := ⟨h.os, h.tape, h.output, h.size, fun i hi _ => h.block i hi⟩
theorem only_trans {a b c : World} {row : Option Nat} (h : a.grownBy b row) (k : b.grownBy c row) : a.grownBy c row :=
  ⟨k.os.trans h.os, k.tape.trans h.tape, k.output.trans h.output, Nat.le_trans h.size k.size, fun i hi hne => (k.block i (Nat.lt_of_lt_of_le hi h.size) hne).trans (h.block i hi hne)⟩
/-- A draw (block p and what is new) leaves what lies below B. -/
theorem below_only {B p : Nat} {a w w' : World} (h : Below B a w) (hg : w.grownBy w' (some p)) (hB : B ≤ w.heap.size) (hp : B ≤ p) : Below B a w' :=
  h.grown hg hB (fun k e => by injection e with e; omega)
/-- A draw leaves a row whose block is another. -/
theorem own_only {w w' : World} {base p : Nat} {e : TypeId} {size : Nat} {A : Option Addr} {n c : Nat} {xs : List Value} (h : w.ownsRow base e size (.slice A n c) n xs) (hg : w.grownBy w' (some p)) (hp : p < base) : w'.ownsRow base e size (.slice A n c) n xs :=
  own_grown h hg (fun ad ha e2 => by have := (own_rng h ad ha).1; injection e2 with e2; omega)

/-- A draw of an int of which P holds. -/
def DI (w : World) (p : Nat) (P : Int → Prop) (e : Ending) (w' : World) : Prop := ∃ x : Int, e = .returned (.int .i64 x) ∧ P x ∧ Cur w' p ∧ w.grownBy w' (some p)
def DS (w : World) (p : Nat) (P : ByteArray → Prop) (e : Ending) (w' : World) : Prop := ∃ x : ByteArray, e = .returned (.string x) ∧ P x ∧ Cur w' p ∧ w.grownBy w' (some p)
def DB (w : World) (p : Nat) (e : Ending) (w' : World) : Prop := ∃ x : Bool, e = .returned (.bool x) ∧ Cur w' p ∧ w.grownBy w' (some p)

theorem and255 (a : Int) : 0 ≤ bits .and .i64 a 255 ∧ bits .and .i64 a 255 ≤ 255 := by
  show 0 ≤ IntKind.i64.wrap ((BitVec.ofInt 64 a &&& BitVec.ofInt 64 255).toNat : Int) ∧ IntKind.i64.wrap ((BitVec.ofInt 64 a &&& BitVec.ofInt 64 255).toNat : Int) ≤ 255
  have h : (BitVec.ofInt 64 a &&& BitVec.ofInt 64 255).toNat ≤ 255 := by
    rw [BitVec.toNat_and]
    exact Nat.and_le_right
  rw [IntKind.wrap_i64]
  omega

theorem CurC.row {w : World} {p : Nat} {A : Option Addr} {n : Nat} {l : List UInt8} {g : Nat} (hr : Rd w 1 A n (l.map bv)) (hA : ∀ ad, A = some ad → 0 < n → ad.block < p) (v : Value) (o : Nat) : Rd ((w.setCell ⟨p, o, none⟩ v).drewN g) 1 A n (l.map bv) :=
  hr.grown0 (row := some p) (only_drewN (only_setCell (World.grownBy.refl w (some p)) (.inl rfl) v) g) (fun ad e h0 e2 => by have := hA ad e h0; injection e2 with e2; omega)
theorem CurC.seth {w : World} {p : Nat} {A : Option Addr} {n c : Nat} {l : List UInt8} {i : Nat} {h : Int} (k : CurC w p A n c l i h) (h' : Int) (hh : -9223372036854775808 ≤ h' ∧ h' ≤ 9223372036854775807) (g : Nat) :
    CurC ((w.setCell ⟨p, 2, none⟩ (.int .i64 h')).drewN g) p A n c l i h' ∧ w.grownBy ((w.setCell ⟨p, 2, none⟩ (.int .i64 h')).drewN g) (some p) := by
  obtain ⟨⟨h1, h2, h3, h4⟩, hr, hA, k0, k1, k2, f0, f1, f2⟩ := k
  exact ⟨⟨⟨by simpa using h1, h2, h3, hh⟩, CurC.row hr hA _ _, hA, by go_simp, by go_simp, by go_simp, by go_simp, by go_simp, by go_simp⟩, only_drewN (only_setCell (World.grownBy.refl w (some p)) (.inl rfl) _) g⟩
theorem CurC.seti {w : World} {p : Nat} {A : Option Addr} {n c : Nat} {l : List UInt8} {i : Nat} {h : Int} (k : CurC w p A n c l i h) (i' : Nat) (hh : i' ≤ n) :
    CurC (w.setCell ⟨p, 1, none⟩ (.int .i64 (i' : Int))) p A n c l i' h ∧ w.grownBy (w.setCell ⟨p, 1, none⟩ (.int .i64 (i' : Int))) (some p) := by
  obtain ⟨⟨h1, h2, h3, h4⟩, hr, hA, k0, k1, k2, f0, f1, f2⟩ := k
  exact ⟨⟨⟨by simpa using h1, hh, h3, h4⟩, CurC.row (g := 0) hr hA _ _, hA, by go_simp, by go_simp, by go_simp, by go_simp, by go_simp, by go_simp⟩, only_setCell (World.grownBy.refl w (some p)) (.inl rfl) _⟩
theorem CurC.drewN {w : World} {p : Nat} {A : Option Addr} {n c : Nat} {l : List UInt8} {i : Nat} {h : Int} (k : CurC w p A n c l i h) (g : Nat) : CurC (w.drewN g) p A n c l i h := k
theorem w64_rng (n : Int) : -9223372036854775808 ≤ wrap64 n ∧ wrap64 n ≤ 9223372036854775807 := by
  unfold wrap64
  omega

set_option maxRecDepth 100000 in
theorem l1Byte_any (p : Nat) (w : World) (hc : Cur w p) : Calls Tryd.prog 68 #[.pointer (some ⟨p, 0, none⟩)] w (DI w p fun x => 0 ≤ x ∧ x ≤ 255) := by
  obtain ⟨A, n, c, l, i, h, K0⟩ := hc
  obtain ⟨⟨h1, h2, h3, h4⟩, hr, hA, k0, k1, k2, f0, f1, f2⟩ := id K0
  go_enter Tryd.func68, Tryd.ntmps68
  go_wp2
  go_quiet (fail)
  have hr' := w64_rng (wrap64 (h * 6364136223846793005) + 1442695040888963407)
  generalize wrap64 (wrap64 (h * 6364136223846793005) + 1442695040888963407) = h' at hr' ⊢
  have hx := and255 (bits BinOp.xor IntKind.i64 (h' / 8589934592) (h' / 140737488355328))
  generalize bits BinOp.and IntKind.i64 (bits BinOp.xor IntKind.i64 (h' / 8589934592) (h' / 140737488355328)) 255 = x at hx ⊢
  obtain ⟨K, G⟩ := K0.seth h' hr' nq
  generalize (w.setCell ⟨p, 2, none⟩ (.int .i64 h')).drewN nq = W at K G ⊢
  clear k0 k1 k2 f0 f1 f2 hr K0
  obtain ⟨_, hr, _, k0, k1, k2, f0, f1, f2⟩ := id K
  by_cases hi : i < n
  · obtain ⟨b, o, y, rfl, _, hy, hcy⟩ := hr.byte hi
    have hyl := byte_lt y
    clear hy
    go_wp2
    go_quiet (fail)
    go_wp2
    go_quiet (fail)
    go_wp2
    go_ret
    exact ⟨_, rfl, and255 _, ⟨_, n, c, l, i + 1, h', ((K.drewN _).seti (i + 1) (by omega)).1⟩, only_trans (only_drewN G _) ((K.drewN _).seti (i + 1) (by omega)).2⟩
  · obtain rfl : i = n := by omega
    go_wp2
    go_quiet (fail)
    go_wp2
    go_ret
    exact ⟨x, rfl, hx, ⟨A, i, c, l, i, h', K⟩, only_drewN G _⟩
theorem DI.ret {w w' : World} {p : Nat} {P : Int → Prop} {e : Ending} (h : DI w p P e w') : ∃ x : Int, e = .returned (.int .i64 x) ∧ P x ∧ Cur w' p ∧ w.grownBy w' (some p) := h

set_option maxRecDepth 100000 in
theorem l1Below_any (p : Nat) (n : Int) (w : World) (h1 : 1 ≤ n) (h2 : n ≤ 1099511627776) (hc : Cur w p) : Calls Tryd.prog 57 #[.pointer (some ⟨p, 0, none⟩), .int .i64 n] w (DI w p fun x => 0 ≤ x ∧ x < n) := by
  by_cases h3 : n ≤ 256
  · go_enter Tryd.func57, Tryd.ntmps57
    go_wp2_with fail
    refine (l1Byte_any p _ hc).mono ?_
    rintro e w1 ⟨x, rfl, hx, c1, g1⟩
    go_wp2
    go_ret
    exact ⟨_, rfl, ⟨Int.emod_nonneg _ (by omega), Int.emod_lt_of_pos _ (by omega)⟩, c1, g1⟩
  · go_enter Tryd.func57, Tryd.ntmps57
    go_wp2_with fail
    refine (l1Byte_any p _ hc).mono ?_
    rintro e w1 ⟨x, rfl, hx, c1, g1⟩
    go_wp2_with fail
    refine (l1Byte_any p _ c1).mono ?_
    rintro e w2 ⟨y, rfl, hy, c2, g2⟩
    go_wp2_with fail
    refine (l1Byte_any p _ c2).mono ?_
    rintro e w3 ⟨z, rfl, hz, c3, g3⟩
    go_wp2
    go_ret
    exact ⟨_, rfl, ⟨Int.emod_nonneg _ (by omega), Int.emod_lt_of_pos _ (by omega)⟩, c3, only_trans g1 (only_trans g2 g3)⟩

theorem l1Once_any (p : Nat) (n : Int) (w : World) (h1 : 1 ≤ n) (h2 : n ≤ 1099511627776) (hc : Cur w p) : Calls Tryd.prog 43 #[.pointer (some ⟨p, 0, none⟩), .int .i64 n] w (DB w p) := by
  go_enter Tryd.func43, Tryd.ntmps43
  go_wp2_with fail
  refine (l1Below_any p n _ h1 h2 hc).mono ?_
  rintro e w1 ⟨x, rfl, hx, c1, g1⟩
  go_wp2
  go_ret
  exact ⟨_, rfl, c1, g1⟩

theorem l1Int_any (p : Nat) (A : Option Addr) (n c : Nat) (l : List Int) (w : World) (h1 : 1 ≤ n) (h2 : n ≤ 1099511627776) (hr : Rd w 1 A n (l.map iv)) (hne : ∀ ad, A = some ad → ad.block ≠ p) (hc : Cur w p) :
    Calls Tryd.prog 62 #[.pointer (some ⟨p, 0, none⟩), .slice A n c] w (DI w p fun x => x ∈ l) := by
  go_enter Tryd.func62, Tryd.ntmps62
  go_wp2_with fail
  refine (l1Below_any p n _ (by omega) (by omega) hc).mono ?_
  rintro e w1 ⟨x, rfl, hx, c1, g1⟩
  obtain ⟨k, rfl⟩ : ∃ k : Nat, x = (k : Int) := ⟨x.toNat, by omega⟩
  have hk : k < n := by omega
  obtain ⟨b, o, y, rfl, _, hy, hcy⟩ := (hr.grown g1 (fun ad e e2 => hne ad e (by injection e2 with e2; exact e2.symm))).int hk
  have hm := List.mem_of_getElem? hy
  clear hy
  go_wp2
  go_ret
  exact ⟨_, rfl, hm, c1, g1⟩

theorem and30 (a : Int) : 0 ≤ bits .and .i64 a 1073741823 ∧ bits .and .i64 a 1073741823 ≤ 1073741823 := by
  show 0 ≤ IntKind.i64.wrap ((BitVec.ofInt 64 a &&& BitVec.ofInt 64 1073741823).toNat : Int) ∧ IntKind.i64.wrap ((BitVec.ofInt 64 a &&& BitVec.ofInt 64 1073741823).toNat : Int) ≤ 1073741823
  have h : (BitVec.ofInt 64 a &&& BitVec.ofInt 64 1073741823).toNat ≤ 1073741823 := by
    rw [BitVec.toNat_and]
    exact Nat.and_le_right
  rw [IntKind.wrap_i64]
  omega
/-- A new cursor. -/
def NewC (w : World) (e : Ending) (w' : World) : Prop := ∃ p, e = .returned (.pointer (some ⟨p, 0, none⟩)) ∧ Cur w' p ∧ Below w.heap.size w w' ∧ w.heap.size ≤ p

set_option maxRecDepth 100000 in
theorem l1New_any (A : Option Addr) (n c : Nat) (l : List UInt8) (w : World) (hn : n ≤ 1099511627776) (hr : Rd w 1 A n (l.map bv)) :
    Calls Tryd.prog 37 #[.slice A n c] w (NewC w) := by
  have hlt : ∀ ad, A = some ad → 0 < n → ad.block < w.heap.size := by
    intro ad e h0
    obtain ⟨b, o, e2, h, _⟩ := hr.2 h0
    rw [e] at e2
    injection e2 with e2
    rw [e2]
    exact h
  have HL := Lib.hid hlt
  clear hlt
  go_enter Tryd.func37, Tryd.ntmps37
  go_wp2
  go_loopw [3, 4] (fun h i wr => ∃ (k : Nat) (x : Int), k ≤ n ∧ (0 ≤ x ∧ x ≤ 2199023255552) ∧ i = .int .i64 k ∧ h = .int .i64 x ∧ Below w.heap.size w wr) (fun _ i _ => n - (intOf i).toNat)
  case atStart => exact ⟨0, 193017 + (n : Int), Nat.zero_le _, by omega, rfl, rfl, Below.refl _ _⟩
  case round =>
    obtain ⟨k, x, hk, hx, rfl, rfl, hbel⟩ := hrel
    by_cases hlt : k < n
    · obtain ⟨b, o, y, rfl, _hb1, hy, hcy⟩ := (hr.below hbel).byte hlt
      have hyl := byte_lt y
      clear hy
      by_cases h4 : k < 4000
      · have ha := and30 (x * 137 + (y.toNat : Int) + 11)
        go_wp2
        go_roundw
        case rel => exact ⟨k + 1, _, by omega, ⟨ha.1, by omega⟩, by go_num, rfl, hbel⟩
        case measure => simp [intOf]; omega
      · obtain ⟨k4, rfl⟩ : ∃ k4 : Nat, k = k4 + 4000 := ⟨k - 4000, by omega⟩
        go_wp2
        go_ret
        have hb2 := hbel.size
        refine ⟨_, rfl, ⟨_, n, c, l, 0, x, ⟨by simp, Nat.zero_le _, hn, by omega⟩, (hr.below (hbel.mono (Nat.le_refl _))).alloc _, fun ad e h0 => Nat.lt_of_lt_of_le (HL.out ad e h0) hb2, by go_simp, by go_simp, by go_simp, by go_simp, by go_simp, by go_simp⟩, hbel.alloc hb2 _, hb2⟩
    · obtain rfl : k = n := by omega
      go_wp2
      go_ret
      have hb2 := hbel.size
      refine ⟨_, rfl, ⟨A, k, c, l, 0, x, ⟨by simp, Nat.zero_le _, hn, by omega⟩, (hr.below (hbel.mono (Nat.le_refl _))).alloc _, fun ad e h0 => Nat.lt_of_lt_of_le (HL.out ad e h0) hb2, by go_simp, by go_simp, by go_simp, by go_simp, by go_simp, by go_simp⟩, hbel.alloc hb2 _, hb2⟩
end Go.Proofs.YtnbhdijmbpdgoaaDoor
