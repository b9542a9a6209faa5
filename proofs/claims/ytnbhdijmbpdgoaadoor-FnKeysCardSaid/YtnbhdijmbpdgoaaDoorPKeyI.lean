/-
  Proved: the contract of the program's ParseKey. Conditions: the text's length is bounded; the library's variables hold what start-up lays in them.
  By an AI agent; no person has read it.
-/
import Derived.Test.YtnbhdijmbpdgoaaDoorPKeyP
import Derived.Test.YtnbhdijmbpdgoaaDoorPIntI
import Derived.Test.YtnbhdijmbpdgoaaDoorCut
namespace Go.Proofs.YtnbhdijmbpdgoaaDoor
open Go.RowKit Go.Lib

/-- The key that ParseKey answers. -/
def rkK (s : ByteArray) : Int := if pkOk s then pkK s.data.toList else 0
def rkN (s : ByteArray) : Int := if pkOk s then pkN s.data.toList else 0
def rkT (s : ByteArray) : ByteArray := if pkOk s then pkT s.data.toList else ⟨#[]⟩
theorem rk_no {s : ByteArray} (h : pkOk s = false) : rkK s = 0 ∧ rkN s = 0 ∧ rkT s = ⟨#[]⟩ := by
  unfold rkK rkN rkT
  rw [h]
  exact ⟨rfl, rfl, rfl⟩
theorem rk_yes {s : ByteArray} (h : pkOk s = true) : rkK s = pkK s.data.toList ∧ rkN s = pkN s.data.toList ∧ rkT s = pkT s.data.toList := by
  unfold rkK rkN rkT
  rw [h]
  exact ⟨rfl, rfl, rfl⟩
/-- The cell of the library's bound on short searches holds an int. -/
def MaxIs (w : World) : Prop := ∃ m : Int, w.cell? ⟨0, 0, none⟩ = some (.int .i64 m)
theorem MaxIs.keep {w w' : World} (h : MaxIs w) (hb : Below w.heap.size w w') : MaxIs w' := by
  obtain ⟨m, h⟩ := h
  exact ⟨m, kcell hb h⟩
theorem piN_rng (s : ByteArray) : 0 ≤ piN s ∧ piN s ≤ 1000000000000 := by
  unfold piN
  cases hi : intV s.data.toList with
  | none => exact ⟨by decide, by decide⟩
  | some n =>
    have := (intV_some hi).1
    simp only [Option.getD_some]
    omega
theorem pkOk_iff {s : ByteArray} {k n : Int} {t : ByteArray} (h1 : pkK s.data.toList = k) (h2 : pkN s.data.toList = n) (h3 : pkT s.data.toList = t) (hne : s ≠ ⟨#[]⟩) : pkOk s = decide (fmtK k n t = s) := by
  unfold pkOk
  rw [h1, h2, h3]
  cases hk : keyB k n t with
  | true => rw [Bool.true_and]
  | false =>
    rw [Bool.false_and]
    symm
    apply decide_eq_false
    intro h
    apply hne
    rw [← h]
    unfold fmtK
    rw [if_pos hk]

theorem kfro {W w1 : World} (hb : Below W.heap.size W w1) {b o : Nat} (h : W.frozen? ⟨b, o, none⟩ = false) (hlt : b < W.heap.size) : w1.frozen? ⟨b, o, none⟩ = false := (hb.frozen (p := ⟨b, o, none⟩) hlt).trans h
theorem str_empty {s : ByteArray} (h : s ≠ ⟨#[]⟩) : s.toList.isEmpty = false := by
  rw [ByteArray.toList_eq, List.isEmpty_eq_false_iff]
  intro e
  apply h
  rw [← strOf_data s, e]
  rfl
theorem strOf_empty (l : List UInt8) : (strOf l).toList.isEmpty = l.isEmpty := by rw [ByteArray.toList_eq, strOf_toList]
theorem set_below {B : Nat} {a w : World} (h : Below B a w) {b o : Nat} (hb : B ≤ b) (v : Value) : Below B a (w.setCell ⟨b, o, none⟩ v) := h.setCell hb v
theorem bodyA_len (l : List UInt8) : (bodyA l).length ≤ l.length := by
  have h1 : (headA l).length ≤ l.length := by
    have := congrArg List.length (head_rest l)
    rw [List.length_append] at this
    omega
  have h2 : (bodyA l).length ≤ (headA l).length := by
    unfold bodyA
    cases headA l with
    | nil => simp
    | cons b r =>
      by_cases hb : b = 45
      · simp [hb]
      · simp [hb]
  omega
set_option maxRecDepth 100000 in
set_option maxHeartbeats 4000000 in
theorem implParseKey_any (s : ByteArray) (w : World) (hs : s.size ≤ 1048576) (he : Env w) (hm : MaxIs w) :
    Calls Tryd.prog 10 #[.string s] w fun e w' => e = .returned (.tuple #[.agg #[.int .i64 (rkK s), .int .i64 (rkN s), .string (rkT s)], .bool (pkOk s)]) ∧ Below w.heap.size w w' := by
  obtain ⟨m, hm⟩ := hm
  go_enter Tryd.func10, Tryd.ntmps10
  go_wp2_with fail
  refine (Tryd.strings_Cut s ⟨#[39]⟩ m _ (by omega) (kcell (alT (Below.refl _ _)) hm)).mono ?_
  have hc : Lib.cut s.data.toList (⟨#[39]⟩ : ByteArray).data.toList = (headA s.data.toList, (restB s.data.toList).tail, !decide (restB s.data.toList = [])) := cut_quote _
  rw [hc]
  rintro e w1 ⟨rfl, q, hw1⟩
  have B1 : Below w.heap.size w w1 := by
    rw [hw1]
    exact below_drewN (alT (Below.refl _ _)) q
  have hs1 : w1.heap.size = w.heap.size + 1 := by
    rw [hw1]
    show (w.alloc (.cells #[.int .i64 0, .int .i64 0, .string ⟨#[]⟩] 23)).heap.size = _
    simp
  have d0 : w1.cell? ⟨w.heap.size, 0, none⟩ = some (.int .i64 0) := by
    rw [hw1]
    show (w.alloc (.cells #[.int .i64 0, .int .i64 0, .string ⟨#[]⟩] 23)).cell? ⟨w.heap.size, 0, none⟩ = _
    simp
  have e0 : w1.frozen? ⟨w.heap.size, 0, none⟩ = false := by
    rw [hw1]
    show (w.alloc (.cells #[.int .i64 0, .int .i64 0, .string ⟨#[]⟩] 23)).frozen? ⟨w.heap.size, 0, none⟩ = _
    simp
  have d1 : w1.cell? ⟨w.heap.size, 1, none⟩ = some (.int .i64 0) := by
    rw [hw1]
    show (w.alloc (.cells #[.int .i64 0, .int .i64 0, .string ⟨#[]⟩] 23)).cell? ⟨w.heap.size, 1, none⟩ = _
    simp
  have e1 : w1.frozen? ⟨w.heap.size, 1, none⟩ = false := by
    rw [hw1]
    show (w.alloc (.cells #[.int .i64 0, .int .i64 0, .string ⟨#[]⟩] 23)).frozen? ⟨w.heap.size, 1, none⟩ = _
    simp
  have d2 : w1.cell? ⟨w.heap.size, 2, none⟩ = some (.string ⟨#[]⟩) := by
    rw [hw1]
    show (w.alloc (.cells #[.int .i64 0, .int .i64 0, .string ⟨#[]⟩] 23)).cell? ⟨w.heap.size, 2, none⟩ = _
    simp
  have e2 : w1.frozen? ⟨w.heap.size, 2, none⟩ = false := by
    rw [hw1]
    show (w.alloc (.cells #[.int .i64 0, .int .i64 0, .string ⟨#[]⟩] 23)).frozen? ⟨w.heap.size, 2, none⟩ = _
    simp
  have hlt1 : w.heap.size < w1.heap.size := by omega
  clear hw1
  obtain ⟨a, ha⟩ : ∃ a, a = strOf (headA s.data.toList) := ⟨_, rfl⟩
  obtain ⟨b, hb⟩ : ∃ b, b = strOf (restB s.data.toList).tail := ⟨_, rfl⟩
  have hbz0 : b.size ≤ 1048576 := by
    rw [hb, strOf_size]
    have := congrArg List.length (head_rest s.data.toList)
    rw [List.length_append, data_len] at this
    have h2 : (restB s.data.toList).tail.length ≤ (restB s.data.toList).length := by simp
    omega
  have HA := Lib.hid ha
  have HB := Lib.hid hb
  rw [show (⟨(headA s.data.toList).toArray⟩ : ByteArray) = a from ha.symm, show (⟨(restB s.data.toList).tail.toArray⟩ : ByteArray) = b from hb.symm]
  clear ha hb
  by_cases hr : restB s.data.toList = []
  · rw [decide_eq_true hr, Bool.not_true]
    have HKK := Lib.hid (show pkK s.data.toList = 1 from if_pos hr)
    clear hr
    go_wp2_with fail
    have HTR : Hid (Lib.trimPrefix a.data.toList (⟨#[45]⟩ : ByteArray).data.toList = bodyA s.data.toList) := by
      rw [HA.out, strOf_toList]
      exact trim_body _
    have HPF : Hid (Lib.hasPrefix a.data.toList (⟨#[45]⟩ : ByteArray).data.toList = negA s.data.toList) := by
      rw [HA.out, strOf_toList]
      exact prefix_neg _
    refine (Tryd.strings_TrimPrefix a ⟨#[45]⟩ _).mono ?_
    rw [HTR.out]
    rintro e w2 ⟨rfl, rfl⟩
    obtain ⟨c, hcc⟩ : ∃ c, c = strOf (bodyA s.data.toList) := ⟨_, rfl⟩
    rw [show (⟨(bodyA s.data.toList).toArray⟩ : ByteArray) = c from hcc.symm]
    have hcz : c.size ≤ 1048576 := by
      rw [hcc, strOf_size]
      have := bodyA_len s.data.toList
      rw [data_len] at this
      omega
    have hx1 := piN_rng c
    have HCC := Lib.hid hcc
    clear hcc
    obtain ⟨x, hx⟩ : ∃ x, x = piN c := ⟨_, rfl⟩
    obtain ⟨o, ho⟩ : ∃ o, o = piB c := ⟨_, rfl⟩
    have HX := Lib.hid hx
    have HO := Lib.hid ho
    rw [← hx] at hx1
    clear hx ho
    go_wp2_with fail
    refine (implParseInt_any c _ (by omega) ((he.keep B1).keep (alT (Below.refl _ _)))).mono ?_
    rw [← HX.out, ← HO.out]
    rintro e w3 ⟨rfl, b3⟩
    have hz : w.heap.size + 1 < w3.heap.size := by have := b3.size; simp at this; omega
    have B3 : Below w.heap.size w w3 := (B1.alloc B1.size _).trans (b3.mono (by simp; omega))
    replace d0 := kcell ((alT (Below.refl _ _)).trans (b3.mono (by simp))) d0
    replace e0 := kfro ((alT (Below.refl _ _)).trans (b3.mono (by simp))) e0 hlt1
    replace d1 := kcell ((alT (Below.refl _ _)).trans (b3.mono (by simp))) d1
    replace e1 := kfro ((alT (Below.refl _ _)).trans (b3.mono (by simp))) e1 hlt1
    replace d2 := kcell ((alT (Below.refl _ _)).trans (b3.mono (by simp))) d2
    replace e2 := kfro ((alT (Below.refl _ _)).trans (b3.mono (by simp))) e2 hlt1
    have k0 : w3.cell? ⟨w.heap.size + 1, 0, none⟩ = some (.int .i64 1) := by
      rw [← hs1]
      exact kcell b3 (by simp)
    have l0 : w3.frozen? ⟨w.heap.size + 1, 0, none⟩ = false := by
      rw [← hs1]
      exact kfro b3 (by simp) (by simp)
    have k1 : w3.cell? ⟨w.heap.size + 1, 1, none⟩ = some (.int .i64 0) := by
      rw [← hs1]
      exact kcell b3 (by simp)
    have l1 : w3.frozen? ⟨w.heap.size + 1, 1, none⟩ = false := by
      rw [← hs1]
      exact kfro b3 (by simp) (by simp)
    have k2 : w3.cell? ⟨w.heap.size + 1, 2, none⟩ = some (.string b) := by
      rw [← hs1]
      exact kcell b3 (by simp)
    have l2 : w3.frozen? ⟨w.heap.size + 1, 2, none⟩ = false := by
      rw [← hs1]
      exact kfro b3 (by simp) (by simp)
    clear b3
    go_wp2_with fail
    refine (Tryd.strings_HasPrefix a ⟨#[45]⟩ _).mono ?_
    rw [HPF.out]
    rintro e w4 ⟨rfl, rfl⟩
    have hbz : b.size ≤ 1048576 := hbz0
    cases hng : negA s.data.toList
    · have HN := Lib.hid (show pkN s.data.toList = x by unfold pkN; rw [hng, HX.out, HCC.out]; rfl)
      clear hng
      by_cases hse : s = ⟨#[]⟩
      · have he0 : s.toList.isEmpty = true := by rw [hse, ByteArray.toList_eq]; rfl
        have HK := Lib.hid (show pkOk s = false by rw [hse]; exact pk_empty)
        clear hse
        go_wp2
        refine bodyPost_ret (v := .tuple #[.agg #[.int .i64 0, .int .i64 0, .string ⟨#[]⟩], .bool false]) (by simp [results, Tryd.results10, go_sem, d0, d1, d2]) rfl ⟨?_, ?_⟩
        · rw [HK.out, (rk_no HK.out).1, (rk_no HK.out).2.1, (rk_no HK.out).2.2]
        · repeat refine set_below ?_ (by omega) _
          exact B3
      have he1 := str_empty hse
      have HPK := Lib.hid (pkOk_iff (s := s) HKK.out HN.out HB.out.symm hse)
      clear hse
      go_wp2_with fail
      refine (implFormatKey_any _ _ b _ (by unfold maxLen; omega) (he.keep (by repeat (first | exact B3 | refine set_below ?_ (by omega) _))).1).mono ?_
      rintro e w5 ⟨rfl, b5⟩
      have B5 : Below w.heap.size w w5 := by
        refine Below.trans ?_ (b5.mono (by simp; omega))
        repeat (first | exact B3 | refine set_below ?_ (by omega) _)
      have x0 := kcell b5 (b := w.heap.size) (o := 0) (v := .int .i64 0) ((World.cell?_setCell_other _ _ _ _ (by simp)).trans d0)
      have f0 := kfro b5 (b := w.heap.size) (o := 0) (by simp [e0]) (by simp; omega)
      have y0 := kcell b5 (b := w.heap.size + 1) (o := 0) (v := .int .i64 1) ((World.cell?_setCell_other _ _ _ _ (by simp)).trans k0)
      have x1 := kcell b5 (b := w.heap.size) (o := 1) (v := .int .i64 0) ((World.cell?_setCell_other _ _ _ _ (by simp)).trans d1)
      have f1 := kfro b5 (b := w.heap.size) (o := 1) (by simp [e1]) (by simp; omega)
      have y1 := kcell b5 (b := w.heap.size + 1) (o := 1) (v := .int .i64 (x)) (World.cell?_setCell_same _ _ _ k1)
      have x2 := kcell b5 (b := w.heap.size) (o := 2) (v := .string ⟨#[]⟩) ((World.cell?_setCell_other _ _ _ _ (by simp)).trans d2)
      have f2 := kfro b5 (b := w.heap.size) (o := 2) (by simp [e2]) (by simp; omega)
      have y2 := kcell b5 (b := w.heap.size + 1) (o := 2) (v := .string b) ((World.cell?_setCell_other _ _ _ _ (by simp)).trans k2)
      clear b5
      by_cases hf : fmtK 1 (x) b = s
      · have HK := Lib.hid (show pkOk s = true by rw [HPK.out]; exact decide_eq_true hf)
        rw [hf]
        clear hf
        go_wp2
        refine bodyPost_ret (v := .tuple #[.agg #[.int .i64 1, .int .i64 (x), .string b], .bool true]) (by simp [results, Tryd.results10, go_sem, x0, x1, x2]) rfl ⟨?_, ?_⟩
        · rw [HK.out, (rk_yes HK.out).1, (rk_yes HK.out).2.1, (rk_yes HK.out).2.2, HKK.out, HN.out, show pkT s.data.toList = b from HB.out.symm]
        · repeat (first | exact B5 | refine set_below ?_ (by omega) _)
      · have HK := Lib.hid (show pkOk s = false by rw [HPK.out]; exact decide_eq_false hf)
        obtain ⟨g, hg⟩ : ∃ g, g = fmtK 1 (x) b := ⟨_, rfl⟩
        rw [← hg] at hf ⊢
        have hne := str_beq hf
        clear hf hg
        go_wp2
        refine bodyPost_ret (v := .tuple #[.agg #[.int .i64 0, .int .i64 0, .string ⟨#[]⟩], .bool false]) (by simp [results, Tryd.results10, go_sem, x0, x1, x2]) rfl ⟨?_, ?_⟩
        · rw [HK.out, (rk_no HK.out).1, (rk_no HK.out).2.1, (rk_no HK.out).2.2]
        · repeat (first | exact B5 | refine set_below ?_ (by omega) _)

    · have HN := Lib.hid (show pkN s.data.toList = -x by unfold pkN; rw [hng, HX.out, HCC.out]; rfl)
      clear hng
      by_cases hse : s = ⟨#[]⟩
      · have he0 : s.toList.isEmpty = true := by rw [hse, ByteArray.toList_eq]; rfl
        have HK := Lib.hid (show pkOk s = false by rw [hse]; exact pk_empty)
        clear hse
        go_wp2
        refine bodyPost_ret (v := .tuple #[.agg #[.int .i64 0, .int .i64 0, .string ⟨#[]⟩], .bool false]) (by simp [results, Tryd.results10, go_sem, d0, d1, d2]) rfl ⟨?_, ?_⟩
        · rw [HK.out, (rk_no HK.out).1, (rk_no HK.out).2.1, (rk_no HK.out).2.2]
        · repeat refine set_below ?_ (by omega) _
          exact B3
      have he1 := str_empty hse
      have HPK := Lib.hid (pkOk_iff (s := s) HKK.out HN.out HB.out.symm hse)
      clear hse
      go_wp2_with fail
      refine (implFormatKey_any _ _ b _ (by unfold maxLen; omega) (he.keep (by repeat (first | exact B3 | refine set_below ?_ (by omega) _))).1).mono ?_
      rintro e w5 ⟨rfl, b5⟩
      have B5 : Below w.heap.size w w5 := by
        refine Below.trans ?_ (b5.mono (by simp; omega))
        repeat (first | exact B3 | refine set_below ?_ (by omega) _)
      have x0 := kcell b5 (b := w.heap.size) (o := 0) (v := .int .i64 0) ((World.cell?_setCell_other _ _ _ _ (by simp)).trans d0)
      have f0 := kfro b5 (b := w.heap.size) (o := 0) (by simp [e0]) (by simp; omega)
      have y0 := kcell b5 (b := w.heap.size + 1) (o := 0) (v := .int .i64 1) ((World.cell?_setCell_other _ _ _ _ (by simp)).trans k0)
      have x1 := kcell b5 (b := w.heap.size) (o := 1) (v := .int .i64 0) ((World.cell?_setCell_other _ _ _ _ (by simp)).trans d1)
      have f1 := kfro b5 (b := w.heap.size) (o := 1) (by simp [e1]) (by simp; omega)
      have y1 := kcell b5 (b := w.heap.size + 1) (o := 1) (v := .int .i64 (-x)) (World.cell?_setCell_same _ _ _ k1)
      have x2 := kcell b5 (b := w.heap.size) (o := 2) (v := .string ⟨#[]⟩) ((World.cell?_setCell_other _ _ _ _ (by simp)).trans d2)
      have f2 := kfro b5 (b := w.heap.size) (o := 2) (by simp [e2]) (by simp; omega)
      have y2 := kcell b5 (b := w.heap.size + 1) (o := 2) (v := .string b) ((World.cell?_setCell_other _ _ _ _ (by simp)).trans k2)
      clear b5
      by_cases hf : fmtK 1 (-x) b = s
      · have HK := Lib.hid (show pkOk s = true by rw [HPK.out]; exact decide_eq_true hf)
        rw [hf]
        clear hf
        go_wp2
        refine bodyPost_ret (v := .tuple #[.agg #[.int .i64 1, .int .i64 (-x), .string b], .bool true]) (by simp [results, Tryd.results10, go_sem, x0, x1, x2]) rfl ⟨?_, ?_⟩
        · rw [HK.out, (rk_yes HK.out).1, (rk_yes HK.out).2.1, (rk_yes HK.out).2.2, HKK.out, HN.out, show pkT s.data.toList = b from HB.out.symm]
        · repeat (first | exact B5 | refine set_below ?_ (by omega) _)
      · have HK := Lib.hid (show pkOk s = false by rw [HPK.out]; exact decide_eq_false hf)
        obtain ⟨g, hg⟩ : ∃ g, g = fmtK 1 (-x) b := ⟨_, rfl⟩
        rw [← hg] at hf ⊢
        have hne := str_beq hf
        clear hf hg
        go_wp2
        refine bodyPost_ret (v := .tuple #[.agg #[.int .i64 0, .int .i64 0, .string ⟨#[]⟩], .bool false]) (by simp [results, Tryd.results10, go_sem, x0, x1, x2]) rfl ⟨?_, ?_⟩
        · rw [HK.out, (rk_no HK.out).1, (rk_no HK.out).2.1, (rk_no HK.out).2.2]
        · repeat (first | exact B5 | refine set_below ?_ (by omega) _)

  · rw [decide_eq_false hr, Bool.not_false]
    by_cases hh : headA s.data.toList = []
    · have hae : a.toList.isEmpty = true := by rw [HA.out, strOf_empty, hh]; rfl
      have HKK := Lib.hid (show pkK s.data.toList = 2 by unfold pkK; rw [if_neg hr, if_pos hh])
      have HN := Lib.hid (show pkN s.data.toList = 0 by
        unfold pkN negA bodyA
        rw [hh]
        exact piN_nil)
      have hse : s ≠ ⟨#[]⟩ := fun h => hr (by rw [h]; rfl)
      clear hr hh
      have hbz : b.size ≤ 1048576 := hbz0
      have he1 := str_empty hse
      have HPK := Lib.hid (pkOk_iff (s := s) HKK.out HN.out HB.out.symm hse)
      clear hse
      go_wp2_with fail
      refine (implFormatKey_any _ _ b _ (by unfold maxLen; omega) (he.keep (B1.alloc B1.size _)).1).mono ?_
      rintro e w5 ⟨rfl, b5⟩
      have B5 : Below w.heap.size w w5 := by
        exact (B1.alloc B1.size _).trans (b5.mono (by simp; omega))
      have x0 := kcell b5 (b := w.heap.size) (o := 0) (v := .int .i64 0) (kcell (alT (Below.refl _ _)) d0)
      have f0 := kfro ((alT (Below.refl _ _)).trans (b5.mono (by simp))) e0 hlt1
      have y0 : w5.cell? ⟨w.heap.size + 1, 0, none⟩ = some (.int .i64 2) := by
        rw [← hs1]
        exact kcell b5 (by simp)
      have x1 := kcell b5 (b := w.heap.size) (o := 1) (v := .int .i64 0) (kcell (alT (Below.refl _ _)) d1)
      have f1 := kfro ((alT (Below.refl _ _)).trans (b5.mono (by simp))) e1 hlt1
      have y1 : w5.cell? ⟨w.heap.size + 1, 1, none⟩ = some (.int .i64 0) := by
        rw [← hs1]
        exact kcell b5 (by simp)
      have x2 := kcell b5 (b := w.heap.size) (o := 2) (v := .string ⟨#[]⟩) (kcell (alT (Below.refl _ _)) d2)
      have f2 := kfro ((alT (Below.refl _ _)).trans (b5.mono (by simp))) e2 hlt1
      have y2 : w5.cell? ⟨w.heap.size + 1, 2, none⟩ = some (.string b) := by
        rw [← hs1]
        exact kcell b5 (by simp)
      clear b5
      by_cases hf : fmtK 2 (0) b = s
      · have HK := Lib.hid (show pkOk s = true by rw [HPK.out]; exact decide_eq_true hf)
        rw [hf]
        clear hf
        go_wp2
        refine bodyPost_ret (v := .tuple #[.agg #[.int .i64 2, .int .i64 (0), .string b], .bool true]) (by simp [results, Tryd.results10, go_sem, x0, x1, x2]) rfl ⟨?_, ?_⟩
        · rw [HK.out, (rk_yes HK.out).1, (rk_yes HK.out).2.1, (rk_yes HK.out).2.2, HKK.out, HN.out, show pkT s.data.toList = b from HB.out.symm]
        · repeat (first | exact B5 | refine set_below ?_ (by omega) _)
      · have HK := Lib.hid (show pkOk s = false by rw [HPK.out]; exact decide_eq_false hf)
        obtain ⟨g, hg⟩ : ∃ g, g = fmtK 2 (0) b := ⟨_, rfl⟩
        rw [← hg] at hf ⊢
        have hne := str_beq hf
        clear hf hg
        go_wp2
        refine bodyPost_ret (v := .tuple #[.agg #[.int .i64 0, .int .i64 0, .string ⟨#[]⟩], .bool false]) (by simp [results, Tryd.results10, go_sem, x0, x1, x2]) rfl ⟨?_, ?_⟩
        · rw [HK.out, (rk_no HK.out).1, (rk_no HK.out).2.1, (rk_no HK.out).2.2]
        · repeat (first | exact B5 | refine set_below ?_ (by omega) _)
    · have hae : a.toList.isEmpty = false := by
        rw [HA.out, strOf_empty, List.isEmpty_eq_false_iff]
        exact hh
      have HKK := Lib.hid (show pkK s.data.toList = 3 by unfold pkK; rw [if_neg hr, if_neg hh])
      clear hr hh
      go_wp2_with fail
      have HTR : Hid (Lib.trimPrefix a.data.toList (⟨#[45]⟩ : ByteArray).data.toList = bodyA s.data.toList) := by
        rw [HA.out, strOf_toList]
        exact trim_body _
      have HPF : Hid (Lib.hasPrefix a.data.toList (⟨#[45]⟩ : ByteArray).data.toList = negA s.data.toList) := by
        rw [HA.out, strOf_toList]
        exact prefix_neg _
      refine (Tryd.strings_TrimPrefix a ⟨#[45]⟩ _).mono ?_
      rw [HTR.out]
      rintro e w2 ⟨rfl, rfl⟩
      obtain ⟨c, hcc⟩ : ∃ c, c = strOf (bodyA s.data.toList) := ⟨_, rfl⟩
      rw [show (⟨(bodyA s.data.toList).toArray⟩ : ByteArray) = c from hcc.symm]
      have hcz : c.size ≤ 1048576 := by
        rw [hcc, strOf_size]
        have := bodyA_len s.data.toList
        rw [data_len] at this
        omega
      have hx1 := piN_rng c
      have HCC := Lib.hid hcc
      clear hcc
      obtain ⟨x, hx⟩ : ∃ x, x = piN c := ⟨_, rfl⟩
      obtain ⟨o, ho⟩ : ∃ o, o = piB c := ⟨_, rfl⟩
      have HX := Lib.hid hx
      have HO := Lib.hid ho
      rw [← hx] at hx1
      clear hx ho
      go_wp2_with fail
      refine (implParseInt_any c _ (by omega) ((he.keep B1).keep (alT (Below.refl _ _)))).mono ?_
      rw [← HX.out, ← HO.out]
      rintro e w3 ⟨rfl, b3⟩
      have hz : w.heap.size + 1 < w3.heap.size := by have := b3.size; simp at this; omega
      have B3 : Below w.heap.size w w3 := (B1.alloc B1.size _).trans (b3.mono (by simp; omega))
      replace d0 := kcell ((alT (Below.refl _ _)).trans (b3.mono (by simp))) d0
      replace e0 := kfro ((alT (Below.refl _ _)).trans (b3.mono (by simp))) e0 hlt1
      replace d1 := kcell ((alT (Below.refl _ _)).trans (b3.mono (by simp))) d1
      replace e1 := kfro ((alT (Below.refl _ _)).trans (b3.mono (by simp))) e1 hlt1
      replace d2 := kcell ((alT (Below.refl _ _)).trans (b3.mono (by simp))) d2
      replace e2 := kfro ((alT (Below.refl _ _)).trans (b3.mono (by simp))) e2 hlt1
      have k0 : w3.cell? ⟨w.heap.size + 1, 0, none⟩ = some (.int .i64 3) := by
        rw [← hs1]
        exact kcell b3 (by simp)
      have l0 : w3.frozen? ⟨w.heap.size + 1, 0, none⟩ = false := by
        rw [← hs1]
        exact kfro b3 (by simp) (by simp)
      have k1 : w3.cell? ⟨w.heap.size + 1, 1, none⟩ = some (.int .i64 0) := by
        rw [← hs1]
        exact kcell b3 (by simp)
      have l1 : w3.frozen? ⟨w.heap.size + 1, 1, none⟩ = false := by
        rw [← hs1]
        exact kfro b3 (by simp) (by simp)
      have k2 : w3.cell? ⟨w.heap.size + 1, 2, none⟩ = some (.string b) := by
        rw [← hs1]
        exact kcell b3 (by simp)
      have l2 : w3.frozen? ⟨w.heap.size + 1, 2, none⟩ = false := by
        rw [← hs1]
        exact kfro b3 (by simp) (by simp)
      clear b3
      go_wp2_with fail
      refine (Tryd.strings_HasPrefix a ⟨#[45]⟩ _).mono ?_
      rw [HPF.out]
      rintro e w4 ⟨rfl, rfl⟩
      have hbz : b.size ≤ 1048576 := hbz0
      cases hng : negA s.data.toList
      · have HN := Lib.hid (show pkN s.data.toList = x by unfold pkN; rw [hng, HX.out, HCC.out]; rfl)
        clear hng
        by_cases hse : s = ⟨#[]⟩
        · have he0 : s.toList.isEmpty = true := by rw [hse, ByteArray.toList_eq]; rfl
          have HK := Lib.hid (show pkOk s = false by rw [hse]; exact pk_empty)
          clear hse
          go_wp2
          refine bodyPost_ret (v := .tuple #[.agg #[.int .i64 0, .int .i64 0, .string ⟨#[]⟩], .bool false]) (by simp [results, Tryd.results10, go_sem, d0, d1, d2]) rfl ⟨?_, ?_⟩
          · rw [HK.out, (rk_no HK.out).1, (rk_no HK.out).2.1, (rk_no HK.out).2.2]
          · repeat refine set_below ?_ (by omega) _
            exact B3
        have he1 := str_empty hse
        have HPK := Lib.hid (pkOk_iff (s := s) HKK.out HN.out HB.out.symm hse)
        clear hse
        go_wp2_with fail
        refine (implFormatKey_any _ _ b _ (by unfold maxLen; omega) (he.keep (by repeat (first | exact B3 | refine set_below ?_ (by omega) _))).1).mono ?_
        rintro e w5 ⟨rfl, b5⟩
        have B5 : Below w.heap.size w w5 := by
          refine Below.trans ?_ (b5.mono (by simp; omega))
          repeat (first | exact B3 | refine set_below ?_ (by omega) _)
        have x0 := kcell b5 (b := w.heap.size) (o := 0) (v := .int .i64 0) ((World.cell?_setCell_other _ _ _ _ (by simp)).trans d0)
        have f0 := kfro b5 (b := w.heap.size) (o := 0) (by simp [e0]) (by simp; omega)
        have y0 := kcell b5 (b := w.heap.size + 1) (o := 0) (v := .int .i64 3) ((World.cell?_setCell_other _ _ _ _ (by simp)).trans k0)
        have x1 := kcell b5 (b := w.heap.size) (o := 1) (v := .int .i64 0) ((World.cell?_setCell_other _ _ _ _ (by simp)).trans d1)
        have f1 := kfro b5 (b := w.heap.size) (o := 1) (by simp [e1]) (by simp; omega)
        have y1 := kcell b5 (b := w.heap.size + 1) (o := 1) (v := .int .i64 (x)) (World.cell?_setCell_same _ _ _ k1)
        have x2 := kcell b5 (b := w.heap.size) (o := 2) (v := .string ⟨#[]⟩) ((World.cell?_setCell_other _ _ _ _ (by simp)).trans d2)
        have f2 := kfro b5 (b := w.heap.size) (o := 2) (by simp [e2]) (by simp; omega)
        have y2 := kcell b5 (b := w.heap.size + 1) (o := 2) (v := .string b) ((World.cell?_setCell_other _ _ _ _ (by simp)).trans k2)
        clear b5
        by_cases hf : fmtK 3 (x) b = s
        · have HK := Lib.hid (show pkOk s = true by rw [HPK.out]; exact decide_eq_true hf)
          rw [hf]
          clear hf
          go_wp2
          refine bodyPost_ret (v := .tuple #[.agg #[.int .i64 3, .int .i64 (x), .string b], .bool true]) (by simp [results, Tryd.results10, go_sem, x0, x1, x2]) rfl ⟨?_, ?_⟩
          · rw [HK.out, (rk_yes HK.out).1, (rk_yes HK.out).2.1, (rk_yes HK.out).2.2, HKK.out, HN.out, show pkT s.data.toList = b from HB.out.symm]
          · repeat (first | exact B5 | refine set_below ?_ (by omega) _)
        · have HK := Lib.hid (show pkOk s = false by rw [HPK.out]; exact decide_eq_false hf)
          obtain ⟨g, hg⟩ : ∃ g, g = fmtK 3 (x) b := ⟨_, rfl⟩
          rw [← hg] at hf ⊢
          have hne := str_beq hf
          clear hf hg
          go_wp2
          refine bodyPost_ret (v := .tuple #[.agg #[.int .i64 0, .int .i64 0, .string ⟨#[]⟩], .bool false]) (by simp [results, Tryd.results10, go_sem, x0, x1, x2]) rfl ⟨?_, ?_⟩
          · rw [HK.out, (rk_no HK.out).1, (rk_no HK.out).2.1, (rk_no HK.out).2.2]
          · repeat (first | exact B5 | refine set_below ?_ (by omega) _)

      · have HN := Lib.hid (show pkN s.data.toList = -x by unfold pkN; rw [hng, HX.out, HCC.out]; rfl)
        clear hng
        by_cases hse : s = ⟨#[]⟩
        · have he0 : s.toList.isEmpty = true := by rw [hse, ByteArray.toList_eq]; rfl
          have HK := Lib.hid (show pkOk s = false by rw [hse]; exact pk_empty)
          clear hse
          go_wp2
          refine bodyPost_ret (v := .tuple #[.agg #[.int .i64 0, .int .i64 0, .string ⟨#[]⟩], .bool false]) (by simp [results, Tryd.results10, go_sem, d0, d1, d2]) rfl ⟨?_, ?_⟩
          · rw [HK.out, (rk_no HK.out).1, (rk_no HK.out).2.1, (rk_no HK.out).2.2]
          · repeat refine set_below ?_ (by omega) _
            exact B3
        have he1 := str_empty hse
        have HPK := Lib.hid (pkOk_iff (s := s) HKK.out HN.out HB.out.symm hse)
        clear hse
        go_wp2_with fail
        refine (implFormatKey_any _ _ b _ (by unfold maxLen; omega) (he.keep (by repeat (first | exact B3 | refine set_below ?_ (by omega) _))).1).mono ?_
        rintro e w5 ⟨rfl, b5⟩
        have B5 : Below w.heap.size w w5 := by
          refine Below.trans ?_ (b5.mono (by simp; omega))
          repeat (first | exact B3 | refine set_below ?_ (by omega) _)
        have x0 := kcell b5 (b := w.heap.size) (o := 0) (v := .int .i64 0) ((World.cell?_setCell_other _ _ _ _ (by simp)).trans d0)
        have f0 := kfro b5 (b := w.heap.size) (o := 0) (by simp [e0]) (by simp; omega)
        have y0 := kcell b5 (b := w.heap.size + 1) (o := 0) (v := .int .i64 3) ((World.cell?_setCell_other _ _ _ _ (by simp)).trans k0)
        have x1 := kcell b5 (b := w.heap.size) (o := 1) (v := .int .i64 0) ((World.cell?_setCell_other _ _ _ _ (by simp)).trans d1)
        have f1 := kfro b5 (b := w.heap.size) (o := 1) (by simp [e1]) (by simp; omega)
        have y1 := kcell b5 (b := w.heap.size + 1) (o := 1) (v := .int .i64 (-x)) (World.cell?_setCell_same _ _ _ k1)
        have x2 := kcell b5 (b := w.heap.size) (o := 2) (v := .string ⟨#[]⟩) ((World.cell?_setCell_other _ _ _ _ (by simp)).trans d2)
        have f2 := kfro b5 (b := w.heap.size) (o := 2) (by simp [e2]) (by simp; omega)
        have y2 := kcell b5 (b := w.heap.size + 1) (o := 2) (v := .string b) ((World.cell?_setCell_other _ _ _ _ (by simp)).trans k2)
        clear b5
        by_cases hf : fmtK 3 (-x) b = s
        · have HK := Lib.hid (show pkOk s = true by rw [HPK.out]; exact decide_eq_true hf)
          rw [hf]
          clear hf
          go_wp2
          refine bodyPost_ret (v := .tuple #[.agg #[.int .i64 3, .int .i64 (-x), .string b], .bool true]) (by simp [results, Tryd.results10, go_sem, x0, x1, x2]) rfl ⟨?_, ?_⟩
          · rw [HK.out, (rk_yes HK.out).1, (rk_yes HK.out).2.1, (rk_yes HK.out).2.2, HKK.out, HN.out, show pkT s.data.toList = b from HB.out.symm]
          · repeat (first | exact B5 | refine set_below ?_ (by omega) _)
        · have HK := Lib.hid (show pkOk s = false by rw [HPK.out]; exact decide_eq_false hf)
          obtain ⟨g, hg⟩ : ∃ g, g = fmtK 3 (-x) b := ⟨_, rfl⟩
          rw [← hg] at hf ⊢
          have hne := str_beq hf
          clear hf hg
          go_wp2
          refine bodyPost_ret (v := .tuple #[.agg #[.int .i64 0, .int .i64 0, .string ⟨#[]⟩], .bool false]) (by simp [results, Tryd.results10, go_sem, x0, x1, x2]) rfl ⟨?_, ?_⟩
          · rw [HK.out, (rk_no HK.out).1, (rk_no HK.out).2.1, (rk_no HK.out).2.2]
          · repeat (first | exact B5 | refine set_below ?_ (by omega) _)

end Go.Proofs.YtnbhdijmbpdgoaaDoor
