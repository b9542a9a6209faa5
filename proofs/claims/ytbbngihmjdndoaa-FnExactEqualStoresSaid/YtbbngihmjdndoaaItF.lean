/-
  Proved: the contracts of FindItem, of the program and of the reference. Conditions: the slices read as lists.
  By an AI agent; no person has read it.
-/
import Derived.Test.YtbbngihmjdndoaaItL
import Derived.Laws.StructEq
namespace Go.Proofs.Ytbbngihmjdndoaa
open Go.RowKit

/-- The test of two keys. -/
def eqKy (k n : Int) (s : ByteArray) (k2 n2 : Int) (s2 : ByteArray) : Bool := k == k2 && (n == n2 && s.toList == s2.toList)
theorem run_eqKy (k n : Int) (s : ByteArray) (k2 n2 : Int) (s2 : ByteArray) (w : World) :
    (binOp .eql 54 (.agg #[.int .i64 k, .int .i64 n, .string s]) (.agg #[.int .i64 k2, .int .i64 n2, .string s2])).run Try.prog w = .ok (.bool (eqKy k n s k2 n2 s2)) w := by
  have u3 := Try.underlying3
  have u9 := Try.underlying9
  have a3 := Try.isAgg3
  have z3 := Try.sizeOf3
  have a9 := Try.isAgg9
  have z9 := Try.sizeOf9
  have hS : Try.prog.underlying 54 = some (.struct (Try.prog.fieldsOf 54)) := by kernel_rfl
  have hp : Try.prog.stoodInHeld 54 = false := by kernel_rfl
  rw [run_eql_struct, show (10000 : Nat) = 9999 + 1 from rfl, run_equalIn_agg w 9999 54 _ _ hS hp]
  simp only [Program.fieldsOf, Try.underlying54]
  go_simp
  unfold eqKy
  by_cases h1 : k = k2 <;> by_cases h2 : n = n2 <;> by_cases h3 : s.toList = s2.toList <;> simp [h1, h2, h3]
theorem run_guardK (op : BinOp) (a b : Operand) (xs ys : Array Value) (w : World) : (eqGuard op 54 a b (.agg xs) (.agg ys)).run Try.prog w = .ok () w := run_eqGuard_agg w op 54 a b xs ys (by kernel_rfl)

/-- Is it the item of that key? -/
def pI (k n : Int) (s : ByteArray) (x : LIt) : Bool := eqKy x.1 x.2.1 x.2.2.1 k n s
/-- Where the item of that key lies; -1: nowhere. -/
def idxI (l : List LIt) (k n : Int) (s : ByteArray) : Int := match l.findIdx? (pI k n s) with | some j => (j : Int) | none => -1
theorem findI_next {l : List LIt} {p : LIt → Bool} {j : Nat} {x : LIt} (h : (l.take j).find? p = none) (hx : l[j]? = some x) (hp : p x = false) : (l.take (j + 1)).find? p = none := by
  rw [take_snoc hx, List.find?_append, h]
  simp [hp]
theorem idxI_hit {l : List LIt} {k n : Int} {s : ByteArray} {j : Nat} {x : LIt} (h : (l.take j).find? (pI k n s) = none) (hx : l[j]? = some x) (hp : pI k n s x = true) : idxI l k n s = (j : Int) := by
  have hk : j < l.length := (List.getElem?_eq_some_iff.1 hx).1
  have he : l[j] = x := (List.getElem?_eq_some_iff.1 hx).2
  have : l.findIdx? (pI k n s) = some j := by
    rw [List.findIdx?_eq_some_iff_getElem]
    refine ⟨hk, by rw [he]; exact hp, fun i hi => ?_⟩
    rw [List.find?_eq_none] at h
    have hm : l[i] ∈ l.take j := List.mem_take_iff_getElem.2 ⟨i, by omega, rfl⟩
    have := h _ hm
    simpa using this
  unfold idxI
  rw [this]
theorem idxI_none {l : List LIt} {k n : Int} {s : ByteArray} (h : l.find? (pI k n s) = none) : idxI l k n s = -1 := by
  have : l.findIdx? (pI k n s) = none := by
    rw [List.findIdx?_eq_none_iff]
    rw [List.find?_eq_none] at h
    intro x hx
    have := h x hx
    simpa using this
  unfold idxI
  rw [this]

set_option maxRecDepth 100000 in
theorem specFindItem_any (st : ByteArray) (A : Option Addr) (n c : Nat) (au : Int) (l : List Itm) (kk kn : Int) (ks : ByteArray) (r : Int) (w : World) (hn : n ≤ maxLen) (ha : RdI w A n l) (hr : r = idxI (l.map Itm.l) kk kn ks) :
    Calls Try.prog 36 #[.agg #[.string st, .slice A n c, .int .i64 au], .agg #[.int .i64 kk, .int .i64 kn, .string ks]] w fun e w' => e = .returned (.int .i64 r) ∧ Below w.heap.size w w' := by
  unfold maxLen at hn
  have HR := Lib.hid hr
  have LX := Lib.hid ha.lenI
  clear hr
  go_enter Try.func36, Try.ntmps36
  go_wp2
  go_loopw [5] (fun i wr => ∃ j : Nat, j ≤ n ∧ i = .int .i64 j ∧ ((l.map Itm.l).take j).find? (pI kk kn ks) = none ∧ Below w.heap.size w wr ∧ wr.cell? ⟨w.heap.size, 1, none⟩ = some (.slice A n c) ∧ wr.cell? ⟨w.heap.size + 1, 0, none⟩ = some (.int .i64 kk) ∧ wr.cell? ⟨w.heap.size + 1, 1, none⟩ = some (.int .i64 kn) ∧ wr.cell? ⟨w.heap.size + 1, 2, none⟩ = some (.string ks)) (fun i _ => n - (intOf i).toNat)
  case atStart => exact ⟨0, Nat.zero_le _, rfl, by simp, al (al (Below.refl _ _)), by simp, by simp, by simp, by simp⟩
  case round =>
    obtain ⟨j, hj, rfl, hf, hbel, hp0, hp1, hp2, hp3⟩ := hrel
    have HF := Lib.hid hf
    clear hf
    by_cases hlt : j < n
    · obtain ⟨b, o, x, rfl, _hb1, hx, hc0, hc1, hc2, hc3, -⟩ := (ha.below hbel).itm hlt
      have i0 : (0 : Int) ≤ (j : Int) := by omega
      have i1 : (j : Int) < (n : Int) := by omega
      have hne := run_eqKy x.k x.n x.s kk kn ks
      have hgd := run_guardK
      cases hs : eqKy x.k x.n x.s kk kn ks
      · have HN := Lib.hid (findI_next HF.out (map_get hx) (show pI kk kn ks x.l = false from hs))
        clear hx
        go_wp2
        go_quiet (fail)
        go_wp2
        go_roundw
        case rel => exact ⟨j + 1, by omega, by go_num, HN.out, below_drewN hbel _, by simpa using hp0, by simpa using hp1, by simpa using hp2, by simpa using hp3⟩
        case measure => simp [intOf]; omega
      · have HN := Lib.hid (idxI_hit HF.out (map_get hx) (show pI kk kn ks x.l = true from hs))
        clear hx
        go_wp2
        go_quiet (fail)
        go_wp2
        go_ret
        exact ⟨by rw [HR.out, HN.out]; rfl, below_drewN hbel _⟩
    · obtain rfl : j = n := by omega
      have HN : Hid (r = -1) := by
        have := HF.out
        rw [List.take_of_length_le (by rw [List.length_map]; exact Nat.le_of_eq LX.out)] at this
        exact HR.out.trans (idxI_none this)
      go_wp2
      go_ret
      exact ⟨by rw [HN.out]; rfl, hbel⟩

set_option maxRecDepth 100000 in
theorem closureI_any (x : Itm) (kk kn : Int) (ks : ByteArray) (b : Nat) (r : Bool) (w : World) (hp0 : w.cell? ⟨b, 0, none⟩ = some (.int .i64 kk)) (hp1 : w.cell? ⟨b, 1, none⟩ = some (.int .i64 kn)) (hp2 : w.cell? ⟨b, 2, none⟩ = some (.string ks)) (hr : r = pI kk kn ks x.l) :
    Calls Try.prog 93 #[.agg #[.int .i64 x.k, .int .i64 x.n, .string x.s, .slice x.A x.m x.c], .pointer (some ⟨b, 0, none⟩)] w fun e w' => e = .returned (.bool r) ∧ Below w.heap.size w w' := by
  have HR := Lib.hid hr
  clear hr
  have hq0 : (w.alloc (.cells #[.int .i64 x.k, .int .i64 x.n, .string x.s, .slice x.A x.m x.c] 106)).cell? ⟨b, 0, none⟩ = some (.int .i64 kk) := kcell (al (Below.refl _ _)) hp0
  have hq1 : (w.alloc (.cells #[.int .i64 x.k, .int .i64 x.n, .string x.s, .slice x.A x.m x.c] 106)).cell? ⟨b, 1, none⟩ = some (.int .i64 kn) := kcell (al (Below.refl _ _)) hp1
  have hq2 : (w.alloc (.cells #[.int .i64 x.k, .int .i64 x.n, .string x.s, .slice x.A x.m x.c] 106)).cell? ⟨b, 2, none⟩ = some (.string ks) := kcell (al (Below.refl _ _)) hp2
  have hne := run_eqKy x.k x.n x.s kk kn ks
  have hgd := run_guardK
  go_enter Try.func93, Try.ntmps93
  go_wp2
  go_ret
  exact ⟨ret_bool HR.out, al (Below.refl _ _)⟩

set_option maxRecDepth 100000 in
theorem indexFuncI_any (A : Option Addr) (n c : Nat) (l : List Itm) (kk kn : Int) (ks : ByteArray) (b : Nat) (r : Int) (w : World) (hn : n ≤ maxLen) (ha : RdI w A n l) (hp0 : w.cell? ⟨b, 0, none⟩ = some (.int .i64 kk)) (hp1 : w.cell? ⟨b, 1, none⟩ = some (.int .i64 kn)) (hp2 : w.cell? ⟨b, 2, none⟩ = some (.string ks)) (hr : r = idxI (l.map Itm.l) kk kn ks) :
    Calls Try.prog 92 #[.slice A n c, .func (.func 93) #[] #[.pointer (some ⟨b, 0, none⟩)]] w fun e w' => e = .returned (.int .i64 r) ∧ Below w.heap.size w w' := by
  unfold maxLen at hn
  have HR := Lib.hid hr
  have LX := Lib.hid ha.lenI
  clear hr
  go_enter Try.func92, Try.ntmps92
  go_wp2
  go_loopw [4, 8] (fun _ i wr => ∃ j : Nat, j ≤ n ∧ i = .int .i64 j ∧ ((l.map Itm.l).take j).find? (pI kk kn ks) = none ∧ Below w.heap.size w wr) (fun _ i _ => n - (intOf i).toNat)
  case atStart => exact ⟨0, Nat.zero_le _, rfl, by simp, Below.refl _ _⟩
  case round =>
    obtain ⟨j, hj, rfl, hf, hbel⟩ := hrel
    have HF := Lib.hid hf
    clear hf
    by_cases hlt : j < n
    · obtain ⟨b1, o, x, rfl, _hb1, hx, hc0, hc1, hc2, hc3, -⟩ := (ha.below hbel).itm hlt
      have i0 : (0 : Int) ≤ (j : Int) := by omega
      have i1 : (j : Int) < (n : Int) := by omega
      have hq0 := kcell hbel hp0
      have hq1 := kcell hbel hp1
      have hq2 := kcell hbel hp2
      cases hs : pI kk kn ks x.l
      · have HN := Lib.hid (findI_next HF.out (map_get hx) hs)
        clear hx
        go_wp2_with (go_at_call 93; refine (closureI_any x kk kn ks b false _ hq0 hq1 hq2 hs.symm).mono ?_; rintro e w1 ⟨rfl, b1⟩)
        go_roundw
        case rel => exact ⟨j + 1, by omega, by go_num, HN.out, hbel.trans (b1.mono hbel.size)⟩
        case measure => simp [intOf]; omega
      · have HN := Lib.hid (idxI_hit HF.out (map_get hx) hs)
        clear hx
        go_wp2_with (go_at_call 93; refine (closureI_any x kk kn ks b true _ hq0 hq1 hq2 hs.symm).mono ?_; rintro e w1 ⟨rfl, b1⟩)
        go_ret
        exact ⟨by rw [HR.out, HN.out]; rfl, hbel.trans (b1.mono hbel.size)⟩
    · obtain rfl : j = n := by omega
      have HN : Hid (r = -1) := by
        have := HF.out
        rw [List.take_of_length_le (by rw [List.length_map]; exact Nat.le_of_eq LX.out)] at this
        exact HR.out.trans (idxI_none this)
      go_wp2
      go_ret
      exact ⟨by rw [HN.out]; rfl, hbel⟩

set_option maxRecDepth 100000 in
theorem implFindItem_any (st : ByteArray) (A : Option Addr) (n c : Nat) (au : Int) (l : List Itm) (kk kn : Int) (ks : ByteArray) (r : Int) (w : World) (hn : n ≤ maxLen) (ha : RdI w A n l) (hr : r = idxI (l.map Itm.l) kk kn ks) :
    Calls Try.prog 39 #[.agg #[.string st, .slice A n c, .int .i64 au], .agg #[.int .i64 kk, .int .i64 kn, .string ks]] w fun e w' => e = .returned (.int .i64 r) ∧ Below w.heap.size w w' := by
  have HR := Lib.hid hr
  clear hr
  have hmf : ∀ (fn : Fn) (first cap : Array Value) (w : World), (Instr.makeFunc fn first cap).run Try.prog w = .ok (.func fn first cap) w := fun _ _ _ _ => rfl
  go_enter Try.func39, Try.ntmps39
  go_wp2_with fail
  refine (indexFuncI_any A n c l kk kn ks (w.heap.size + 1) r _ hn ((ha.alloc _).alloc _) (by simp) (by simp) (by simp) HR.out).mono ?_
  rintro e w1 ⟨rfl, b1⟩
  go_wp2
  go_ret
  exact ⟨rfl, Below.trans (al (al (Below.refl _ _))) (b1.mono (by simp; omega))⟩
end Go.Proofs.Ytbbngihmjdndoaa
