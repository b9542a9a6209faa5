/-
  Proved: the contracts of EncodeKey, of the program and of the reference. Conditions: the text's length is a length.
  By an AI agent; no person has read it.
-/
import Derived.Test.YtnbhdijmbpdgoaaDoorKeyC
import Derived.Test.YtnbhdijmbpdgoaaDoorStr
import Derived.Lib.AppendStr
import Derived.Laws.BitsAllLaws
import Derived.Laws.BitsLemmas
namespace Go.Proofs.YtnbhdijmbpdgoaaDoor
open Go.RowKit

theorem push_val {w : World} {base : Nat} {E : TypeId} {v u : Value} {k : Nat} {y : UInt8} {pre : List UInt8} (h : w.ownsRow base E 1 v k (pre.map bv ++ [u])) (hu : u = bv y) : w.ownsRow base E 1 v k ((pre ++ [y]).map bv) := by
  rw [hu] at h
  simpa using h
theorem row_one (w : World) (E : TypeId) (y : UInt8) (u : Value) (base : Nat) (hb : base ≤ w.heap.size) (hu : u = bv y) : (w.alloc (.cells #[u] E)).ownsRow base E 1 (.slice (some ⟨w.heap.size, 0, none⟩) 1 1) 1 ([y].map bv) := by
  subst hu
  exact ⟨rfl, .inr ⟨w.heap.size, 1, #[bv y], rfl, hb, heap_alloc_new w _, Nat.le_refl _, by decide, rfl, rfl⟩⟩
theorem cells_bv (s : ByteArray) : Lib.strCells s = s.data.toList.map bv := rfl
theorem rest_step {pre l T : List UInt8} {j : Nat} {x : UInt8} (h : pre ++ l.drop j = T) (hx : l[j]? = some x) : (pre ++ [x]) ++ l.drop (j + 1) = T := by
  obtain ⟨hj, rfl⟩ := List.getElem?_eq_some_iff.1 hx
  rw [List.drop_eq_getElem_cons hj] at h
  simpa using h
theorem and_mod {x : Int} (h0 : 0 ≤ x) (h1 : x < 4611686018427387904) : bits .and .i64 x 255 = x % 256 := by
  obtain ⟨a, rfl⟩ : ∃ a : Nat, x = (a : Int) := ⟨x.toNat, by omega⟩
  show IntKind.i64.wrap ((BitVec.ofInt 64 (a : Int) &&& BitVec.ofInt 64 ((255 : Nat) : Int)).toNat : Int) = _
  have h2 : (BitVec.ofInt 64 (a : Int)).toNat = a := by
    rw [BitVec.ofInt_natCast, BitVec.toNat_ofNat]
    exact Nat.mod_eq_of_lt (by omega)
  have h3 : (BitVec.ofInt 64 ((255 : Nat) : Int)).toNat = 255 := by decide
  rw [BitVec.toNat_and, h2, h3, IntKind.wrap_i64, show (255 : Nat) = 2 ^ 8 - 1 from rfl, Nat.and_two_pow_sub_one_eq_mod]
  omega
theorem val_impl {X : Int} {m : Nat} (h : X = (m : Int)) : Value.int .u8 (X % 256) = bv (UInt8.ofNat m) := by
  unfold bv
  rw [h, UInt8.toNat_ofNat']
  congr 1
theorem val_spec {X : Int} {m : Nat} (h : X = (m : Int)) (hm : m < 4611686018427387904) : Value.int .u8 (bits .and .i64 X 255 % 256) = bv (UInt8.ofNat m) := by
  rw [and_mod (by omega) (by omega), ← val_impl h]
  congr 1
  omega
theorem val_small {X : Int} {m : Nat} (h : X = (m : Int)) (hm : m < 256) : Value.int .u8 X = bv (UInt8.ofNat m) := by
  unfold bv
  rw [h, UInt8.toNat_ofNat']
  congr 1
  omega
/-- The cells of the key's own block. -/
def KC (w : World) (b : Nat) (k n : Int) (s : ByteArray) : Prop := w.cell? ⟨b, 0, none⟩ = some (.int .i64 k) ∧ w.cell? ⟨b, 1, none⟩ = some (.int .i64 n) ∧ w.cell? ⟨b, 2, none⟩ = some (.string s)
theorem KC.grown {w w' : World} {b : Nat} {k n : Int} {s : ByteArray} {row : Option Nat} (h : KC w b k n s) (hg : w.grownBy w' row) (hne : some b ≠ row) : KC w' b k n s := ⟨hg.cell h.1 hne, hg.cell h.2.1 hne, hg.cell h.2.2 hne⟩
theorem KC.belowB {w w' : World} {b B : Nat} {k n : Int} {s : ByteArray} (h : KC w b k n s) (hb : Below B w w') (hlt : b < B) : KC w' b k n s := ⟨(hb.cell (p := ⟨b, 0, none⟩) hlt).trans h.1, (hb.cell (p := ⟨b, 1, none⟩) hlt).trans h.2.1, (hb.cell (p := ⟨b, 2, none⟩) hlt).trans h.2.2⟩
theorem KC.below {w w' : World} {b : Nat} {k n : Int} {s : ByteArray} (h : KC w b k n s) (hb : Below w.heap.size w w') : KC w' b k n s := ⟨kcell hb h.1, kcell hb h.2.1, kcell hb h.2.2⟩
theorem KC.alloc {w : World} {b : Nat} {k n : Int} {s : ByteArray} (h : KC w b k n s) (o : Obj) : KC (w.alloc o) b k n s := h.below (al (Below.refl _ _))

set_option maxRecDepth 100000 in
theorem implEncodeKey_no (k n : Int) (s : ByteArray) (w : World) (hs : s.size ≤ maxLen) (H : Hid (keyB k n s = false)) :
    Calls Tryd.prog 16 #[.agg #[.int .i64 k, .int .i64 n, .string s]] w (MkB w (encK k n s)) := by
  rw [encK_out H.out]
  go_enter Tryd.func16, Tryd.ntmps16
  go_wp2_with fail
  refine (implIsKey_any _ _ s false _ hs H.out.symm).mono ?_
  rintro e w1 ⟨rfl, b1⟩
  have B1 := (key_cells b1).1
  have hb1 : w.heap.size + 1 ≤ w1.heap.size := by have := b1.size; simp at this; omega
  have hz : w.heap.size < w1.heap.size := hb1
  clear b1
  go_wp2
  go_ret
  exact ⟨_, _, _, rfl, own_new (Nat.le_of_succ_le hb1), B1.alloc (Nat.le_of_succ_le hb1) _⟩

set_option maxRecDepth 100000 in
theorem implEncodeKey_k1 (n : Int) (s : ByteArray) (w : World) (hs : s.size ≤ maxLen) (H : Hid (keyB 1 n s = true)) (hn : -1000000000000 ≤ n ∧ n ≤ 1000000000000) :
    Calls Tryd.prog 16 #[.agg #[.int .i64 1, .int .i64 n, .string s]] w (MkB w (encK 1 n s)) := by
  obtain ⟨i0, hi, hz0, hz1, hz2⟩ := info_parts infoU8
  have hsl : s.size ≤ 12 := keyB_len H.out
  obtain ⟨m0, hm0⟩ : ∃ m0 : Nat, m0 = (n + 1000000000000).toNat := ⟨_, rfl⟩
  have hm1 : (m0 : Int) = n + 1000000000000 := by omega
  have HT := Lib.hid (encK_num H.out (by omega))
  rw [← hm0] at HT
  have hat : ∀ (j : Nat) (x : UInt8), (be6 m0)[j]? = some x → (be6 m0)[j]? = some x := fun _ _ h => h
  have hm2 := Int.natCast_nonneg m0
  have hm3 : m0 ≤ 2000000000000 := by omega
  have HM := Lib.hid hm0
  clear hm0
  go_enter Tryd.func16, Tryd.ntmps16
  go_wp2_with fail
  refine (implIsKey_any _ _ s true _ hs H.out.symm).mono ?_
  rintro e w1 ⟨rfl, b1⟩
  obtain ⟨B1, c0, c1, c2⟩ := key_cells b1
  have hb1 : w.heap.size + 1 ≤ w1.heap.size := by have := b1.size; simp at this; omega
  have hz : w.heap.size < w1.heap.size := hb1
  clear b1
  have ho1 := row_one w1 5 (UInt8.ofNat 1) (.int .u8 1) (w.heap.size + 1) hb1 rfl
  have HO1 := Lib.hid ho1
  have HB1 := Lib.hid (B1.alloc (Nat.le_of_succ_le hb1) (.cells #[.int .u8 1] 5))
  have HK1 := Lib.hid (KC.alloc (⟨c0, c1, c2⟩ : KC w1 w.heap.size 1 n s) (.cells #[.int .u8 1] 5))
  clear ho1
  go_wp2
  go_loopw [3, 4] (fun v i wr => ∃ (q : Int) (A : Option Addr) (m d : Nat) (pre : List UInt8), (-1 ≤ q ∧ q ≤ 5) ∧ i = .int .i64 q ∧ v = .slice A m d ∧ (m : Int) = 6 - q ∧ wr.ownsRow (w.heap.size + 1) 5 1 (.slice A m d) m (pre.map bv) ∧ pre ++ (be6 m0).drop (5 - q).toNat = UInt8.ofNat 1 :: be6 m0 ∧ Below w.heap.size w wr ∧ w.heap.size + 1 ≤ wr.heap.size ∧ KC wr w.heap.size 1 n s) (fun _ i _ => (intOf i + 1).toNat)
  case atStart => exact ⟨5, _, _, _, _, by omega, rfl, rfl, by omega, HO1.out, rfl, HB1.out, by simp; omega, HK1.out⟩
  case round =>
    obtain ⟨q, A, m, d, pre, hq, rfl, rfl, hmq, ho, heq, hbel, hbs, d0, d1, d2⟩ := hrel
    have HE := Lib.hid heq
    clear heq B1 c0 c1 c2 HO1 HB1 HK1
    rcases (by omega : q = -1 ∨ q = 0 ∨ q = 1 ∨ q = 2 ∨ q = 3 ∨ q = 4 ∨ q = 5) with rfl | rfl | rfl | rfl | rfl | rfl | rfl
    · have hp : Hid (pre = UInt8.ofNat 1 :: be6 m0) := by
        have := HE.out
        show pre = _
        simpa [be6] using this
      have HF : Hid (encK 1 n s = pre ++ s.data.toList) := by
        rw [HT.out, hp.out]
        rfl
      go_wp2_with (at_builtin; refine Lib.wpList_append_own_string _ rfl _ _ 28 9 rfl (w.heap.size + 1) 5 i0 Tryd.underlying28 Tryd.underlying9 hi hz0 hz1 hz2 (.slice A m d) m (pre.map bv) (by rfl) ho s (by rfl) ?z1 ?z2 ?z3 ?_)
      case z1 => unfold maxLen; omega
      case z2 => omega
      case z3 => omega
      intro v' w2 ho2 hg2 _
      obtain ⟨A', c', rfl⟩ := own_shape ho2
      have HO := Lib.hid ho2
      have HB : Hid (Below w.heap.size w w2) := hbel.grown hg2 (Nat.le_of_succ_le hbs) (fun b hb => by
        cases A with
        | none => cases hb
        | some ad =>
          have := (own_rng ho ad rfl).1
          injection hb with hb
          omega)
      clear ho2 hg2
      go_wp2
      go_ret
      refine ⟨_, _, _, rfl, ?_, HB.out⟩
      rw [HF.out, List.map_append, ← cells_bv]
      exact own_base HO.out (Nat.le_succ _)
    · go_wp2_with (at_builtin; refine wpList_push wr rfl _ _ 28 rfl (w.heap.size + 1) 5 i0 (.int .u8 0) 1 Tryd.underlying28 hi hz0 hz1 hz2 rfl A m d _ (by rfl) ho _ (by rfl) (by rfl) ?c01 ?c02 ?c03 ?_)
      case c01 => unfold maxLen; omega
      case c02 => omega
      case c03 => exact hbs
      intro A' k' c' w2 hk2 ho2 hb2
      have HO := Lib.hid (push_val ho2 (y := UInt8.ofNat m0) (val_impl (by omega)))
      have HE2 := Lib.hid (rest_step HE.out (hat 5 _ rfl))
      have HK2 := Lib.hid (KC.belowB ⟨d0, d1, d2⟩ hb2 (Nat.lt_succ_self _))
      have HB := Lib.hid (hbel.trans (hb2.mono (Nat.le_succ _)))
      have hks : (k' : Int) = 6 - (0 - 1) := by omega
      have hbs2 : w.heap.size + 1 ≤ w2.heap.size := Nat.le_trans hbs hb2.size
      clear ho2 hb2 hk2
      go_wp2
      go_roundw
      case rel => exact ⟨0 - 1, _, _, _, _, by omega, rfl, rfl, hks, HO.out, HE2.out, HB.out, hbs2, HK2.out⟩
      case measure => simp [intOf]
    · go_wp2_with (at_builtin; refine wpList_push wr rfl _ _ 28 rfl (w.heap.size + 1) 5 i0 (.int .u8 0) 1 Tryd.underlying28 hi hz0 hz1 hz2 rfl A m d _ (by rfl) ho _ (by rfl) (by rfl) ?c11 ?c12 ?c13 ?_)
      case c11 => unfold maxLen; omega
      case c12 => omega
      case c13 => exact hbs
      intro A' k' c' w2 hk2 ho2 hb2
      have HO := Lib.hid (push_val ho2 (y := UInt8.ofNat (m0 / 256)) (val_impl (by omega)))
      have HE2 := Lib.hid (rest_step HE.out (hat 4 _ rfl))
      have HK2 := Lib.hid (KC.belowB ⟨d0, d1, d2⟩ hb2 (Nat.lt_succ_self _))
      have HB := Lib.hid (hbel.trans (hb2.mono (Nat.le_succ _)))
      have hks : (k' : Int) = 6 - (1 - 1) := by omega
      have hbs2 : w.heap.size + 1 ≤ w2.heap.size := Nat.le_trans hbs hb2.size
      clear ho2 hb2 hk2
      go_wp2
      go_roundw
      case rel => exact ⟨1 - 1, _, _, _, _, by omega, rfl, rfl, hks, HO.out, HE2.out, HB.out, hbs2, HK2.out⟩
      case measure => simp [intOf]
    · go_wp2_with (at_builtin; refine wpList_push wr rfl _ _ 28 rfl (w.heap.size + 1) 5 i0 (.int .u8 0) 1 Tryd.underlying28 hi hz0 hz1 hz2 rfl A m d _ (by rfl) ho _ (by rfl) (by rfl) ?c21 ?c22 ?c23 ?_)
      case c21 => unfold maxLen; omega
      case c22 => omega
      case c23 => exact hbs
      intro A' k' c' w2 hk2 ho2 hb2
      have HO := Lib.hid (push_val ho2 (y := UInt8.ofNat (m0 / 65536)) (val_impl (by omega)))
      have HE2 := Lib.hid (rest_step HE.out (hat 3 _ rfl))
      have HK2 := Lib.hid (KC.belowB ⟨d0, d1, d2⟩ hb2 (Nat.lt_succ_self _))
      have HB := Lib.hid (hbel.trans (hb2.mono (Nat.le_succ _)))
      have hks : (k' : Int) = 6 - (2 - 1) := by omega
      have hbs2 : w.heap.size + 1 ≤ w2.heap.size := Nat.le_trans hbs hb2.size
      clear ho2 hb2 hk2
      go_wp2
      go_roundw
      case rel => exact ⟨2 - 1, _, _, _, _, by omega, rfl, rfl, hks, HO.out, HE2.out, HB.out, hbs2, HK2.out⟩
      case measure => simp [intOf]
    · go_wp2_with (at_builtin; refine wpList_push wr rfl _ _ 28 rfl (w.heap.size + 1) 5 i0 (.int .u8 0) 1 Tryd.underlying28 hi hz0 hz1 hz2 rfl A m d _ (by rfl) ho _ (by rfl) (by rfl) ?c31 ?c32 ?c33 ?_)
      case c31 => unfold maxLen; omega
      case c32 => omega
      case c33 => exact hbs
      intro A' k' c' w2 hk2 ho2 hb2
      have HO := Lib.hid (push_val ho2 (y := UInt8.ofNat (m0 / 16777216)) (val_impl (by omega)))
      have HE2 := Lib.hid (rest_step HE.out (hat 2 _ rfl))
      have HK2 := Lib.hid (KC.belowB ⟨d0, d1, d2⟩ hb2 (Nat.lt_succ_self _))
      have HB := Lib.hid (hbel.trans (hb2.mono (Nat.le_succ _)))
      have hks : (k' : Int) = 6 - (3 - 1) := by omega
      have hbs2 : w.heap.size + 1 ≤ w2.heap.size := Nat.le_trans hbs hb2.size
      clear ho2 hb2 hk2
      go_wp2
      go_roundw
      case rel => exact ⟨3 - 1, _, _, _, _, by omega, rfl, rfl, hks, HO.out, HE2.out, HB.out, hbs2, HK2.out⟩
      case measure => simp [intOf]
    · go_wp2_with (at_builtin; refine wpList_push wr rfl _ _ 28 rfl (w.heap.size + 1) 5 i0 (.int .u8 0) 1 Tryd.underlying28 hi hz0 hz1 hz2 rfl A m d _ (by rfl) ho _ (by rfl) (by rfl) ?c41 ?c42 ?c43 ?_)
      case c41 => unfold maxLen; omega
      case c42 => omega
      case c43 => exact hbs
      intro A' k' c' w2 hk2 ho2 hb2
      have HO := Lib.hid (push_val ho2 (y := UInt8.ofNat (m0 / 4294967296)) (val_impl (by omega)))
      have HE2 := Lib.hid (rest_step HE.out (hat 1 _ rfl))
      have HK2 := Lib.hid (KC.belowB ⟨d0, d1, d2⟩ hb2 (Nat.lt_succ_self _))
      have HB := Lib.hid (hbel.trans (hb2.mono (Nat.le_succ _)))
      have hks : (k' : Int) = 6 - (4 - 1) := by omega
      have hbs2 : w.heap.size + 1 ≤ w2.heap.size := Nat.le_trans hbs hb2.size
      clear ho2 hb2 hk2
      go_wp2
      go_roundw
      case rel => exact ⟨4 - 1, _, _, _, _, by omega, rfl, rfl, hks, HO.out, HE2.out, HB.out, hbs2, HK2.out⟩
      case measure => simp [intOf]
    · go_wp2_with (at_builtin; refine wpList_push wr rfl _ _ 28 rfl (w.heap.size + 1) 5 i0 (.int .u8 0) 1 Tryd.underlying28 hi hz0 hz1 hz2 rfl A m d _ (by rfl) ho _ (by rfl) (by rfl) ?c51 ?c52 ?c53 ?_)
      case c51 => unfold maxLen; omega
      case c52 => omega
      case c53 => exact hbs
      intro A' k' c' w2 hk2 ho2 hb2
      have HO := Lib.hid (push_val ho2 (y := UInt8.ofNat (m0 / 1099511627776)) (val_small (by omega) (by omega)))
      have HE2 := Lib.hid (rest_step HE.out (hat 0 _ rfl))
      have HK2 := Lib.hid (KC.belowB ⟨d0, d1, d2⟩ hb2 (Nat.lt_succ_self _))
      have HB := Lib.hid (hbel.trans (hb2.mono (Nat.le_succ _)))
      have hks : (k' : Int) = 6 - (5 - 1) := by omega
      have hbs2 : w.heap.size + 1 ≤ w2.heap.size := Nat.le_trans hbs hb2.size
      clear ho2 hb2 hk2
      go_wp2
      go_roundw
      case rel => exact ⟨5 - 1, _, _, _, _, by omega, rfl, rfl, hks, HO.out, HE2.out, HB.out, hbs2, HK2.out⟩
      case measure => simp [intOf]

set_option maxRecDepth 100000 in
theorem implEncodeKey_k3 (n : Int) (s : ByteArray) (w : World) (hs : s.size ≤ maxLen) (H : Hid (keyB 3 n s = true)) (hn : -1000000000000 ≤ n ∧ n ≤ 1000000000000) :
    Calls Tryd.prog 16 #[.agg #[.int .i64 3, .int .i64 n, .string s]] w (MkB w (encK 3 n s)) := by
  obtain ⟨i0, hi, hz0, hz1, hz2⟩ := info_parts infoU8
  have hsl : s.size ≤ 12 := keyB_len H.out
  obtain ⟨m0, hm0⟩ : ∃ m0 : Nat, m0 = (n + 1000000000000).toNat := ⟨_, rfl⟩
  have hm1 : (m0 : Int) = n + 1000000000000 := by omega
  have HT := Lib.hid (encK_num H.out (by omega))
  rw [← hm0] at HT
  have hat : ∀ (j : Nat) (x : UInt8), (be6 m0)[j]? = some x → (be6 m0)[j]? = some x := fun _ _ h => h
  have hm2 := Int.natCast_nonneg m0
  have hm3 : m0 ≤ 2000000000000 := by omega
  have HM := Lib.hid hm0
  clear hm0
  go_enter Tryd.func16, Tryd.ntmps16
  go_wp2_with fail
  refine (implIsKey_any _ _ s true _ hs H.out.symm).mono ?_
  rintro e w1 ⟨rfl, b1⟩
  obtain ⟨B1, c0, c1, c2⟩ := key_cells b1
  have hb1 : w.heap.size + 1 ≤ w1.heap.size := by have := b1.size; simp at this; omega
  have hz : w.heap.size < w1.heap.size := hb1
  clear b1
  have ho1 := row_one w1 5 (UInt8.ofNat 3) (.int .u8 3) (w.heap.size + 1) hb1 rfl
  have HO1 := Lib.hid ho1
  have HB1 := Lib.hid (B1.alloc (Nat.le_of_succ_le hb1) (.cells #[.int .u8 3] 5))
  have HK1 := Lib.hid (KC.alloc (⟨c0, c1, c2⟩ : KC w1 w.heap.size 3 n s) (.cells #[.int .u8 3] 5))
  clear ho1
  go_wp2
  go_loopw [3, 4] (fun v i wr => ∃ (q : Int) (A : Option Addr) (m d : Nat) (pre : List UInt8), (-1 ≤ q ∧ q ≤ 5) ∧ i = .int .i64 q ∧ v = .slice A m d ∧ (m : Int) = 6 - q ∧ wr.ownsRow (w.heap.size + 1) 5 1 (.slice A m d) m (pre.map bv) ∧ pre ++ (be6 m0).drop (5 - q).toNat = UInt8.ofNat 3 :: be6 m0 ∧ Below w.heap.size w wr ∧ w.heap.size + 1 ≤ wr.heap.size ∧ KC wr w.heap.size 3 n s) (fun _ i _ => (intOf i + 1).toNat)
  case atStart => exact ⟨5, _, _, _, _, by omega, rfl, rfl, by omega, HO1.out, rfl, HB1.out, by simp; omega, HK1.out⟩
  case round =>
    obtain ⟨q, A, m, d, pre, hq, rfl, rfl, hmq, ho, heq, hbel, hbs, d0, d1, d2⟩ := hrel
    have HE := Lib.hid heq
    clear heq B1 c0 c1 c2 HO1 HB1 HK1
    rcases (by omega : q = -1 ∨ q = 0 ∨ q = 1 ∨ q = 2 ∨ q = 3 ∨ q = 4 ∨ q = 5) with rfl | rfl | rfl | rfl | rfl | rfl | rfl
    · have hp : Hid (pre = UInt8.ofNat 3 :: be6 m0) := by
        have := HE.out
        show pre = _
        simpa [be6] using this
      have HF : Hid (encK 3 n s = pre ++ s.data.toList) := by
        rw [HT.out, hp.out]
        rfl
      go_wp2_with (at_builtin; refine Lib.wpList_append_own_string _ rfl _ _ 28 9 rfl (w.heap.size + 1) 5 i0 Tryd.underlying28 Tryd.underlying9 hi hz0 hz1 hz2 (.slice A m d) m (pre.map bv) (by rfl) ho s (by rfl) ?z1 ?z2 ?z3 ?_)
      case z1 => unfold maxLen; omega
      case z2 => omega
      case z3 => omega
      intro v' w2 ho2 hg2 _
      obtain ⟨A', c', rfl⟩ := own_shape ho2
      have HO := Lib.hid ho2
      have HB : Hid (Below w.heap.size w w2) := hbel.grown hg2 (Nat.le_of_succ_le hbs) (fun b hb => by
        cases A with
        | none => cases hb
        | some ad =>
          have := (own_rng ho ad rfl).1
          injection hb with hb
          omega)
      clear ho2 hg2
      go_wp2
      go_ret
      refine ⟨_, _, _, rfl, ?_, HB.out⟩
      rw [HF.out, List.map_append, ← cells_bv]
      exact own_base HO.out (Nat.le_succ _)
    · go_wp2_with (at_builtin; refine wpList_push wr rfl _ _ 28 rfl (w.heap.size + 1) 5 i0 (.int .u8 0) 1 Tryd.underlying28 hi hz0 hz1 hz2 rfl A m d _ (by rfl) ho _ (by rfl) (by rfl) ?c01 ?c02 ?c03 ?_)
      case c01 => unfold maxLen; omega
      case c02 => omega
      case c03 => exact hbs
      intro A' k' c' w2 hk2 ho2 hb2
      have HO := Lib.hid (push_val ho2 (y := UInt8.ofNat m0) (val_impl (by omega)))
      have HE2 := Lib.hid (rest_step HE.out (hat 5 _ rfl))
      have HK2 := Lib.hid (KC.belowB ⟨d0, d1, d2⟩ hb2 (Nat.lt_succ_self _))
      have HB := Lib.hid (hbel.trans (hb2.mono (Nat.le_succ _)))
      have hks : (k' : Int) = 6 - (0 - 1) := by omega
      have hbs2 : w.heap.size + 1 ≤ w2.heap.size := Nat.le_trans hbs hb2.size
      clear ho2 hb2 hk2
      go_wp2
      go_roundw
      case rel => exact ⟨0 - 1, _, _, _, _, by omega, rfl, rfl, hks, HO.out, HE2.out, HB.out, hbs2, HK2.out⟩
      case measure => simp [intOf]
    · go_wp2_with (at_builtin; refine wpList_push wr rfl _ _ 28 rfl (w.heap.size + 1) 5 i0 (.int .u8 0) 1 Tryd.underlying28 hi hz0 hz1 hz2 rfl A m d _ (by rfl) ho _ (by rfl) (by rfl) ?c11 ?c12 ?c13 ?_)
      case c11 => unfold maxLen; omega
      case c12 => omega
      case c13 => exact hbs
      intro A' k' c' w2 hk2 ho2 hb2
      have HO := Lib.hid (push_val ho2 (y := UInt8.ofNat (m0 / 256)) (val_impl (by omega)))
      have HE2 := Lib.hid (rest_step HE.out (hat 4 _ rfl))
      have HK2 := Lib.hid (KC.belowB ⟨d0, d1, d2⟩ hb2 (Nat.lt_succ_self _))
      have HB := Lib.hid (hbel.trans (hb2.mono (Nat.le_succ _)))
      have hks : (k' : Int) = 6 - (1 - 1) := by omega
      have hbs2 : w.heap.size + 1 ≤ w2.heap.size := Nat.le_trans hbs hb2.size
      clear ho2 hb2 hk2
      go_wp2
      go_roundw
      case rel => exact ⟨1 - 1, _, _, _, _, by omega, rfl, rfl, hks, HO.out, HE2.out, HB.out, hbs2, HK2.out⟩
      case measure => simp [intOf]
    · go_wp2_with (at_builtin; refine wpList_push wr rfl _ _ 28 rfl (w.heap.size + 1) 5 i0 (.int .u8 0) 1 Tryd.underlying28 hi hz0 hz1 hz2 rfl A m d _ (by rfl) ho _ (by rfl) (by rfl) ?c21 ?c22 ?c23 ?_)
      case c21 => unfold maxLen; omega
      case c22 => omega
      case c23 => exact hbs
      intro A' k' c' w2 hk2 ho2 hb2
      have HO := Lib.hid (push_val ho2 (y := UInt8.ofNat (m0 / 65536)) (val_impl (by omega)))
      have HE2 := Lib.hid (rest_step HE.out (hat 3 _ rfl))
      have HK2 := Lib.hid (KC.belowB ⟨d0, d1, d2⟩ hb2 (Nat.lt_succ_self _))
      have HB := Lib.hid (hbel.trans (hb2.mono (Nat.le_succ _)))
      have hks : (k' : Int) = 6 - (2 - 1) := by omega
      have hbs2 : w.heap.size + 1 ≤ w2.heap.size := Nat.le_trans hbs hb2.size
      clear ho2 hb2 hk2
      go_wp2
      go_roundw
      case rel => exact ⟨2 - 1, _, _, _, _, by omega, rfl, rfl, hks, HO.out, HE2.out, HB.out, hbs2, HK2.out⟩
      case measure => simp [intOf]
    · go_wp2_with (at_builtin; refine wpList_push wr rfl _ _ 28 rfl (w.heap.size + 1) 5 i0 (.int .u8 0) 1 Tryd.underlying28 hi hz0 hz1 hz2 rfl A m d _ (by rfl) ho _ (by rfl) (by rfl) ?c31 ?c32 ?c33 ?_)
      case c31 => unfold maxLen; omega
      case c32 => omega
      case c33 => exact hbs
      intro A' k' c' w2 hk2 ho2 hb2
      have HO := Lib.hid (push_val ho2 (y := UInt8.ofNat (m0 / 16777216)) (val_impl (by omega)))
      have HE2 := Lib.hid (rest_step HE.out (hat 2 _ rfl))
      have HK2 := Lib.hid (KC.belowB ⟨d0, d1, d2⟩ hb2 (Nat.lt_succ_self _))
      have HB := Lib.hid (hbel.trans (hb2.mono (Nat.le_succ _)))
      have hks : (k' : Int) = 6 - (3 - 1) := by omega
      have hbs2 : w.heap.size + 1 ≤ w2.heap.size := Nat.le_trans hbs hb2.size
      clear ho2 hb2 hk2
      go_wp2
      go_roundw
      case rel => exact ⟨3 - 1, _, _, _, _, by omega, rfl, rfl, hks, HO.out, HE2.out, HB.out, hbs2, HK2.out⟩
      case measure => simp [intOf]
    · go_wp2_with (at_builtin; refine wpList_push wr rfl _ _ 28 rfl (w.heap.size + 1) 5 i0 (.int .u8 0) 1 Tryd.underlying28 hi hz0 hz1 hz2 rfl A m d _ (by rfl) ho _ (by rfl) (by rfl) ?c41 ?c42 ?c43 ?_)
      case c41 => unfold maxLen; omega
      case c42 => omega
      case c43 => exact hbs
      intro A' k' c' w2 hk2 ho2 hb2
      have HO := Lib.hid (push_val ho2 (y := UInt8.ofNat (m0 / 4294967296)) (val_impl (by omega)))
      have HE2 := Lib.hid (rest_step HE.out (hat 1 _ rfl))
      have HK2 := Lib.hid (KC.belowB ⟨d0, d1, d2⟩ hb2 (Nat.lt_succ_self _))
      have HB := Lib.hid (hbel.trans (hb2.mono (Nat.le_succ _)))
      have hks : (k' : Int) = 6 - (4 - 1) := by omega
      have hbs2 : w.heap.size + 1 ≤ w2.heap.size := Nat.le_trans hbs hb2.size
      clear ho2 hb2 hk2
      go_wp2
      go_roundw
      case rel => exact ⟨4 - 1, _, _, _, _, by omega, rfl, rfl, hks, HO.out, HE2.out, HB.out, hbs2, HK2.out⟩
      case measure => simp [intOf]
    · go_wp2_with (at_builtin; refine wpList_push wr rfl _ _ 28 rfl (w.heap.size + 1) 5 i0 (.int .u8 0) 1 Tryd.underlying28 hi hz0 hz1 hz2 rfl A m d _ (by rfl) ho _ (by rfl) (by rfl) ?c51 ?c52 ?c53 ?_)
      case c51 => unfold maxLen; omega
      case c52 => omega
      case c53 => exact hbs
      intro A' k' c' w2 hk2 ho2 hb2
      have HO := Lib.hid (push_val ho2 (y := UInt8.ofNat (m0 / 1099511627776)) (val_small (by omega) (by omega)))
      have HE2 := Lib.hid (rest_step HE.out (hat 0 _ rfl))
      have HK2 := Lib.hid (KC.belowB ⟨d0, d1, d2⟩ hb2 (Nat.lt_succ_self _))
      have HB := Lib.hid (hbel.trans (hb2.mono (Nat.le_succ _)))
      have hks : (k' : Int) = 6 - (5 - 1) := by omega
      have hbs2 : w.heap.size + 1 ≤ w2.heap.size := Nat.le_trans hbs hb2.size
      clear ho2 hb2 hk2
      go_wp2
      go_roundw
      case rel => exact ⟨5 - 1, _, _, _, _, by omega, rfl, rfl, hks, HO.out, HE2.out, HB.out, hbs2, HK2.out⟩
      case measure => simp [intOf]

set_option maxRecDepth 100000 in
theorem implEncodeKey_k2 (s : ByteArray) (w : World) (hs : s.size ≤ maxLen) (H : Hid (keyB 2 0 s = true)) :
    Calls Tryd.prog 16 #[.agg #[.int .i64 2, .int .i64 0, .string s]] w (MkB w (encK 2 0 s)) := by
  obtain ⟨i0, hi, hz0, hz1, hz2⟩ := info_parts infoU8
  have hsl : s.size ≤ 12 := keyB_len H.out
  have HF : Hid (encK 2 0 s = [UInt8.ofNat 2] ++ s.data.toList) := encK_two H.out rfl
  go_enter Tryd.func16, Tryd.ntmps16
  go_wp2_with fail
  refine (implIsKey_any _ _ s true _ hs H.out.symm).mono ?_
  rintro e w1 ⟨rfl, b1⟩
  obtain ⟨B1, c0, c1, c2⟩ := key_cells b1
  have hb1 : w.heap.size + 1 ≤ w1.heap.size := by have := b1.size; simp at this; omega
  have hz : w.heap.size < w1.heap.size := hb1
  clear b1
  have HO1 := Lib.hid (row_one w1 5 (UInt8.ofNat 2) (.int .u8 2) (w.heap.size + 1) hb1 rfl)
  have HB1 := Lib.hid (B1.alloc (Nat.le_of_succ_le hb1) (.cells #[.int .u8 2] 5))
  go_wp2_with (at_builtin; refine Lib.wpList_append_own_string _ rfl _ _ 28 9 rfl (w.heap.size + 1) 5 i0 Tryd.underlying28 Tryd.underlying9 hi hz0 hz1 hz2 (.slice (some ⟨w1.heap.size, 0, none⟩) 1 1) 1 ([UInt8.ofNat 2].map bv) (by rfl) HO1.out s (by rfl) ?z1 ?z2 ?z3 ?_)
  case z1 => unfold maxLen; omega
  case z2 => omega
  case z3 => simp; omega
  intro v' w2 ho2 hg2 _
  obtain ⟨A', c', rfl⟩ := own_shape ho2
  have HO := Lib.hid ho2
  have HB : Hid (Below w.heap.size w w2) := HB1.out.grown hg2 (by simp; omega) (fun b hb => by
    have q1 := (own_rng HO1.out _ rfl).1
    injection hb with hb
    have q2 : w1.heap.size = b := hb
    have q3 : w.heap.size + 1 ≤ w1.heap.size := q1
    omega)
  clear ho2 hg2
  go_wp2
  go_ret
  refine ⟨_, _, _, rfl, ?_, HB.out⟩
  rw [HF.out, List.map_append, ← cells_bv]
  exact own_base HO.out (Nat.le_succ _)

theorem implEncodeKey_any (k n : Int) (s : ByteArray) (w : World) (hs : s.size ≤ maxLen) : Calls Tryd.prog 16 #[.agg #[.int .i64 k, .int .i64 n, .string s]] w (MkB w (encK k n s)) := by
  cases h : keyB k n s
  · exact implEncodeKey_no k n s w hs h
  obtain ⟨h1, h2, h3, h4, h5⟩ := keyB_parts h
  rcases (by omega : k = 1 ∨ k = 2 ∨ k = 3) with rfl | rfl | rfl
  · exact implEncodeKey_k1 n s w hs h h2
  · obtain rfl := h4 rfl
    exact implEncodeKey_k2 s w hs h
  · exact implEncodeKey_k3 n s w hs h h2

theorem implEncodeKey_l (l : List UInt8) (k n : Int) (s : ByteArray) (w : World) (hs : s.size ≤ maxLen) (hl : l = encK k n s) : Calls Tryd.prog 16 #[.agg #[.int .i64 k, .int .i64 n, .string s]] w (MkB w l) := by
  subst hl
  exact implEncodeKey_any k n s w hs
end Go.Proofs.YtnbhdijmbpdgoaaDoor
