/-
  Proved: the contracts of the two tests of a key. Conditions: the text's length is a length.
  By an AI agent; no person has read it.
-/
import Derived.Test.YtnbhdijmbpdgoaaDoorKeyT
namespace Go.Proofs.YtnbhdijmbpdgoaaDoor
open Go.RowKit

/-- A key's test: kind, number, text. -/
def keyB (k n : Int) (s : ByteArray) : Bool :=
  inR k 1 3 && (inR n (-1000000000000) 1000000000000 && (textB s.data.toList && (!(decide (k = 2) && !decide (n = 0)) && !(decide (k = 1) && !decide (s = ⟨#[]⟩)))))
/-- The cells of a key that lies in a block of its own, behind a call that leaves what was there. -/
theorem key_cells {w w1 : World} {k n : Int} {s : ByteArray} {T : TypeId} (hb : Below (w.alloc (.cells #[.int .i64 k, .int .i64 n, .string s] T)).heap.size (w.alloc (.cells #[.int .i64 k, .int .i64 n, .string s] T)) w1) :
    Below w.heap.size w w1 ∧ w1.cell? ⟨w.heap.size, 0, none⟩ = some (.int .i64 k) ∧ w1.cell? ⟨w.heap.size, 1, none⟩ = some (.int .i64 n) ∧ w1.cell? ⟨w.heap.size, 2, none⟩ = some (.string s) :=
  ⟨((Below.refl w.heap.size w).alloc (Nat.le_refl _) _).trans (hb.mono (by simp)), (hb.cell (by simp)).trans (by simp), (hb.cell (by simp)).trans (by simp), (hb.cell (by simp)).trans (by simp)⟩

set_option maxRecDepth 100000 in
theorem specIsKey_one (k n : Int) (s : ByteArray) (w : World) (h1 : Hid (inR k 1 3 = false)) :
    Calls Tryd.prog 33 #[.agg #[.int .i64 k, .int .i64 n, .string s]] w fun e w' => e = .returned (.bool false) ∧ Below w.heap.size w w' := by
  go_enter Tryd.func33, Tryd.ntmps33
  go_wp2_with fail
  refine (l1In_any _ _ _ false _ h1.out.symm).mono ?_
  rintro e w1 ⟨rfl, rfl⟩
  go_wp2
  go_ret
  exact ⟨rfl, (Below.refl _ _).alloc (Nat.le_refl _) _⟩

set_option maxRecDepth 100000 in
theorem specIsKey_two (k n : Int) (s : ByteArray) (w : World) (h1 : Hid (inR k 1 3 = true)) (h2 : Hid (inR n (-1000000000000) 1000000000000 = false)) :
    Calls Tryd.prog 33 #[.agg #[.int .i64 k, .int .i64 n, .string s]] w fun e w' => e = .returned (.bool false) ∧ Below w.heap.size w w' := by
  go_enter Tryd.func33, Tryd.ntmps33
  go_wp2_with fail
  refine (l1In_any _ _ _ true _ h1.out.symm).mono ?_
  rintro e w1 ⟨rfl, rfl⟩
  go_wp2_with fail
  refine (l1In_any _ _ _ false _ h2.out.symm).mono ?_
  rintro e w1 ⟨rfl, rfl⟩
  go_wp2
  go_ret
  exact ⟨rfl, (Below.refl _ _).alloc (Nat.le_refl _) _⟩

set_option maxRecDepth 100000 in
theorem specIsKey_k3 (n : Int) (s : ByteArray) (w : World) (hs : s.size ≤ maxLen) (HN : Hid (inR n (-1000000000000) 1000000000000 = true)) :
    Calls Tryd.prog 33 #[.agg #[.int .i64 3, .int .i64 n, .string s]] w fun e w' => e = .returned (.bool (textB s.data.toList)) ∧ Below w.heap.size w w' := by
  obtain ⟨t, ht⟩ : ∃ t, t = textB s.data.toList := ⟨_, rfl⟩
  have HT := Lib.hid ht
  rw [← ht]
  clear ht
  go_enter Tryd.func33, Tryd.ntmps33
  go_wp2_with fail
  refine (l1In_any _ _ _ true _ rfl).mono ?_
  rintro e w1 ⟨rfl, rfl⟩
  go_wp2_with fail
  refine (l1In_any _ _ _ true _ HN.out.symm).mono ?_
  rintro e w1 ⟨rfl, rfl⟩
  go_wp2_with fail
  refine (l4Text_any s t _ hs HT.out).mono ?_
  rintro e w1 ⟨rfl, hb⟩
  obtain ⟨hbel, c0, c1, c2⟩ := key_cells hb
  cases t
  all_goals
    go_wp2
    go_ret
    exact ⟨rfl, hbel⟩

set_option maxRecDepth 100000 in
theorem specIsKey_k2z (s : ByteArray) (w : World) (hs : s.size ≤ maxLen) :
    Calls Tryd.prog 33 #[.agg #[.int .i64 2, .int .i64 0, .string s]] w fun e w' => e = .returned (.bool (textB s.data.toList)) ∧ Below w.heap.size w w' := by
  obtain ⟨t, ht⟩ : ∃ t, t = textB s.data.toList := ⟨_, rfl⟩
  have HT := Lib.hid ht
  rw [← ht]
  clear ht
  go_enter Tryd.func33, Tryd.ntmps33
  go_wp2_with fail
  refine (l1In_any _ _ _ true _ rfl).mono ?_
  rintro e w1 ⟨rfl, rfl⟩
  go_wp2_with fail
  refine (l1In_any _ _ _ true _ rfl).mono ?_
  rintro e w1 ⟨rfl, rfl⟩
  go_wp2_with fail
  refine (l4Text_any s t _ hs HT.out).mono ?_
  rintro e w1 ⟨rfl, hb⟩
  obtain ⟨hbel, c0, c1, c2⟩ := key_cells hb
  cases t
  all_goals
    go_wp2
    go_ret
    exact ⟨rfl, hbel⟩

set_option maxRecDepth 100000 in
theorem specIsKey_k2n (n : Int) (s : ByteArray) (w : World) (_hs : s.size ≤ maxLen) (HN : Hid (inR n (-1000000000000) 1000000000000 = true)) (hn : ¬ n = 0) :
    Calls Tryd.prog 33 #[.agg #[.int .i64 2, .int .i64 n, .string s]] w fun e w' => e = .returned (.bool false) ∧ Below w.heap.size w w' := by
  have hn2 : (n == 0) = false := by simpa using hn
  have hn3 : decide (n = 0) = false := decide_eq_false hn
  go_enter Tryd.func33, Tryd.ntmps33
  go_wp2_with fail
  refine (l1In_any _ _ _ true _ rfl).mono ?_
  rintro e w1 ⟨rfl, rfl⟩
  go_wp2_with fail
  refine (l1In_any _ _ _ true _ HN.out.symm).mono ?_
  rintro e w1 ⟨rfl, rfl⟩
  go_wp2
  go_ret
  exact ⟨rfl, (Below.refl _ _).alloc (Nat.le_refl _) _⟩

set_option maxRecDepth 100000 in
theorem specIsKey_k1e (n : Int) (w : World) (HN : Hid (inR n (-1000000000000) 1000000000000 = true)) :
    Calls Tryd.prog 33 #[.agg #[.int .i64 1, .int .i64 n, .string ⟨#[]⟩]] w fun e w' => e = .returned (.bool true) ∧ Below w.heap.size w w' := by
  have HT : Hid (true = textB ((⟨#[]⟩ : ByteArray)).data.toList) := rfl
  go_enter Tryd.func33, Tryd.ntmps33
  go_wp2_with fail
  refine (l1In_any _ _ _ true _ rfl).mono ?_
  rintro e w1 ⟨rfl, rfl⟩
  go_wp2_with fail
  refine (l1In_any _ _ _ true _ HN.out.symm).mono ?_
  rintro e w1 ⟨rfl, rfl⟩
  go_wp2_with fail
  refine (l4Text_any ⟨#[]⟩ true _ (Nat.zero_le _) HT.out).mono ?_
  rintro e w1 ⟨rfl, hb⟩
  obtain ⟨hbel, c0, c1, c2⟩ := key_cells hb
  go_wp2
  go_ret
  exact ⟨rfl, hbel⟩

set_option maxRecDepth 100000 in
theorem specIsKey_k1s (n : Int) (s : ByteArray) (w : World) (hs : s.size ≤ maxLen) (HN : Hid (inR n (-1000000000000) 1000000000000 = true)) (h1 : s.toList.isEmpty = false) :
    Calls Tryd.prog 33 #[.agg #[.int .i64 1, .int .i64 n, .string s]] w fun e w' => e = .returned (.bool false) ∧ Below w.heap.size w w' := by
  obtain ⟨t, ht⟩ : ∃ t, t = textB s.data.toList := ⟨_, rfl⟩
  have HT := Lib.hid ht
  clear ht
  go_enter Tryd.func33, Tryd.ntmps33
  go_wp2_with fail
  refine (l1In_any _ _ _ true _ rfl).mono ?_
  rintro e w1 ⟨rfl, rfl⟩
  go_wp2_with fail
  refine (l1In_any _ _ _ true _ HN.out.symm).mono ?_
  rintro e w1 ⟨rfl, rfl⟩
  go_wp2_with fail
  refine (l4Text_any s t _ hs HT.out).mono ?_
  rintro e w1 ⟨rfl, hb⟩
  obtain ⟨hbel, c0, c1, c2⟩ := key_cells hb
  cases t
  all_goals
    go_wp2
    go_ret
    exact ⟨rfl, hbel⟩

theorem specIsKey_any (k n : Int) (s : ByteArray) (r : Bool) (w : World) (hs : s.size ≤ maxLen) (hr : r = keyB k n s) :
    Calls Tryd.prog 33 #[.agg #[.int .i64 k, .int .i64 n, .string s]] w fun e w' => e = .returned (.bool r) ∧ Below w.heap.size w w' := by
  subst hr
  cases h1 : inR k 1 3
  · rw [keyB, h1]
    exact specIsKey_one k n s w h1
  cases h2 : inR n (-1000000000000) 1000000000000
  · rw [keyB, h1, h2]
    exact specIsKey_two k n s w h1 h2
  have hk : 1 ≤ k ∧ k ≤ 3 := of_decide_eq_true h1
  rcases (by omega : k = 1 ∨ k = 2 ∨ k = 3) with rfl | rfl | rfl
  · by_cases h3 : s = ⟨#[]⟩
    · subst h3
      have e : keyB 1 n ⟨#[]⟩ = true := by rw [keyB, h1, h2]; rfl
      rw [e]
      exact specIsKey_k1e n w h2
    · have e : keyB 1 n s = false := by rw [keyB, h1, h2]; simp [h3]
      rw [e]
      exact specIsKey_k1s n s w hs h2 (by
        rw [ByteArray.toList_eq, List.isEmpty_eq_false_iff]
        intro h4
        apply h3
        rcases s with ⟨⟨l⟩⟩
        simp only at h4
        rw [h4])
  · by_cases h3 : n = 0
    · subst h3
      have e : keyB 2 0 s = textB s.data.toList := by rw [keyB, h1, h2]; simp
      rw [e]
      exact specIsKey_k2z s w hs
    · have e : keyB 2 n s = false := by rw [keyB, h1, h2]; simp [h3]
      rw [e]
      exact specIsKey_k2n n s w hs h2 h3
  · have e : keyB 3 n s = textB s.data.toList := by rw [keyB, h1, h2]; simp
    rw [e]
    exact specIsKey_k3 n s w hs h2

set_option maxRecDepth 100000 in
theorem implIsKey_one (k n : Int) (s : ByteArray) (w : World) (h1 : Hid (inR k 1 3 = false)) :
    Calls Tryd.prog 20 #[.agg #[.int .i64 k, .int .i64 n, .string s]] w fun e w' => e = .returned (.bool false) ∧ Below w.heap.size w w' := by
  go_enter Tryd.func20, Tryd.ntmps20
  go_wp2_with fail
  refine (InRange_any _ _ _ false _ h1.out.symm).mono ?_
  rintro e w1 ⟨rfl, rfl⟩
  go_wp2
  go_ret
  exact ⟨rfl, (Below.refl _ _).alloc (Nat.le_refl _) _⟩

set_option maxRecDepth 100000 in
theorem implIsKey_two (k n : Int) (s : ByteArray) (w : World) (h1 : Hid (inR k 1 3 = true)) (h2 : Hid (inR n (-1000000000000) 1000000000000 = false)) :
    Calls Tryd.prog 20 #[.agg #[.int .i64 k, .int .i64 n, .string s]] w fun e w' => e = .returned (.bool false) ∧ Below w.heap.size w w' := by
  go_enter Tryd.func20, Tryd.ntmps20
  go_wp2_with fail
  refine (InRange_any _ _ _ true _ h1.out.symm).mono ?_
  rintro e w1 ⟨rfl, rfl⟩
  go_wp2_with fail
  refine (InRange_any _ _ _ false _ h2.out.symm).mono ?_
  rintro e w1 ⟨rfl, rfl⟩
  go_wp2
  go_ret
  exact ⟨rfl, (Below.refl _ _).alloc (Nat.le_refl _) _⟩

set_option maxRecDepth 100000 in
theorem implIsKey_k3 (n : Int) (s : ByteArray) (w : World) (hs : s.size ≤ maxLen) (HN : Hid (inR n (-1000000000000) 1000000000000 = true)) :
    Calls Tryd.prog 20 #[.agg #[.int .i64 3, .int .i64 n, .string s]] w fun e w' => e = .returned (.bool (textB s.data.toList)) ∧ Below w.heap.size w w' := by
  obtain ⟨t, ht⟩ : ∃ t, t = textB s.data.toList := ⟨_, rfl⟩
  have HT := Lib.hid ht
  rw [← ht]
  clear ht
  go_enter Tryd.func20, Tryd.ntmps20
  go_wp2_with fail
  refine (InRange_any _ _ _ true _ rfl).mono ?_
  rintro e w1 ⟨rfl, rfl⟩
  go_wp2_with fail
  refine (InRange_any _ _ _ true _ HN.out.symm).mono ?_
  rintro e w1 ⟨rfl, rfl⟩
  go_wp2_with fail
  refine (isKeyText_any s t _ hs HT.out).mono ?_
  rintro e w1 ⟨rfl, hb⟩
  obtain ⟨hbel, c0, c1, c2⟩ := key_cells hb
  cases t
  all_goals
    go_wp2
    go_ret
    exact ⟨rfl, hbel⟩

set_option maxRecDepth 100000 in
theorem implIsKey_k2z (s : ByteArray) (w : World) (hs : s.size ≤ maxLen) :
    Calls Tryd.prog 20 #[.agg #[.int .i64 2, .int .i64 0, .string s]] w fun e w' => e = .returned (.bool (textB s.data.toList)) ∧ Below w.heap.size w w' := by
  obtain ⟨t, ht⟩ : ∃ t, t = textB s.data.toList := ⟨_, rfl⟩
  have HT := Lib.hid ht
  rw [← ht]
  clear ht
  go_enter Tryd.func20, Tryd.ntmps20
  go_wp2_with fail
  refine (InRange_any _ _ _ true _ rfl).mono ?_
  rintro e w1 ⟨rfl, rfl⟩
  go_wp2_with fail
  refine (InRange_any _ _ _ true _ rfl).mono ?_
  rintro e w1 ⟨rfl, rfl⟩
  go_wp2_with fail
  refine (isKeyText_any s t _ hs HT.out).mono ?_
  rintro e w1 ⟨rfl, hb⟩
  obtain ⟨hbel, c0, c1, c2⟩ := key_cells hb
  cases t
  all_goals
    go_wp2
    go_ret
    exact ⟨rfl, hbel⟩

set_option maxRecDepth 100000 in
theorem implIsKey_k2n (n : Int) (s : ByteArray) (w : World) (hs : s.size ≤ maxLen) (HN : Hid (inR n (-1000000000000) 1000000000000 = true)) (hn : ¬ n = 0) :
    Calls Tryd.prog 20 #[.agg #[.int .i64 2, .int .i64 n, .string s]] w fun e w' => e = .returned (.bool false) ∧ Below w.heap.size w w' := by
  have hn2 : (n == 0) = false := by simpa using hn
  have hn3 : decide (n = 0) = false := decide_eq_false hn
  obtain ⟨t, ht⟩ : ∃ t, t = textB s.data.toList := ⟨_, rfl⟩
  have HT := Lib.hid ht
  clear ht
  go_enter Tryd.func20, Tryd.ntmps20
  go_wp2_with fail
  refine (InRange_any _ _ _ true _ rfl).mono ?_
  rintro e w1 ⟨rfl, rfl⟩
  go_wp2_with fail
  refine (InRange_any _ _ _ true _ HN.out.symm).mono ?_
  rintro e w1 ⟨rfl, rfl⟩
  go_wp2_with fail
  refine (isKeyText_any s t _ hs HT.out).mono ?_
  rintro e w1 ⟨rfl, hb⟩
  obtain ⟨hbel, c0, c1, c2⟩ := key_cells hb
  cases t
  all_goals
    go_wp2
    go_ret
    exact ⟨rfl, hbel⟩

set_option maxRecDepth 100000 in
theorem implIsKey_k1e (n : Int) (w : World) (HN : Hid (inR n (-1000000000000) 1000000000000 = true)) :
    Calls Tryd.prog 20 #[.agg #[.int .i64 1, .int .i64 n, .string ⟨#[]⟩]] w fun e w' => e = .returned (.bool true) ∧ Below w.heap.size w w' := by
  have HT : Hid (true = textB ((⟨#[]⟩ : ByteArray)).data.toList) := rfl
  go_enter Tryd.func20, Tryd.ntmps20
  go_wp2_with fail
  refine (InRange_any _ _ _ true _ rfl).mono ?_
  rintro e w1 ⟨rfl, rfl⟩
  go_wp2_with fail
  refine (InRange_any _ _ _ true _ HN.out.symm).mono ?_
  rintro e w1 ⟨rfl, rfl⟩
  go_wp2_with fail
  refine (isKeyText_any ⟨#[]⟩ true _ (Nat.zero_le _) HT.out).mono ?_
  rintro e w1 ⟨rfl, hb⟩
  obtain ⟨hbel, c0, c1, c2⟩ := key_cells hb
  go_wp2
  go_ret
  exact ⟨rfl, hbel⟩

set_option maxRecDepth 100000 in
theorem implIsKey_k1s (n : Int) (s : ByteArray) (w : World) (hs : s.size ≤ maxLen) (HN : Hid (inR n (-1000000000000) 1000000000000 = true)) (h1 : s.toList.isEmpty = false) :
    Calls Tryd.prog 20 #[.agg #[.int .i64 1, .int .i64 n, .string s]] w fun e w' => e = .returned (.bool false) ∧ Below w.heap.size w w' := by
  obtain ⟨t, ht⟩ : ∃ t, t = textB s.data.toList := ⟨_, rfl⟩
  have HT := Lib.hid ht
  clear ht
  go_enter Tryd.func20, Tryd.ntmps20
  go_wp2_with fail
  refine (InRange_any _ _ _ true _ rfl).mono ?_
  rintro e w1 ⟨rfl, rfl⟩
  go_wp2_with fail
  refine (InRange_any _ _ _ true _ HN.out.symm).mono ?_
  rintro e w1 ⟨rfl, rfl⟩
  go_wp2_with fail
  refine (isKeyText_any s t _ hs HT.out).mono ?_
  rintro e w1 ⟨rfl, hb⟩
  obtain ⟨hbel, c0, c1, c2⟩ := key_cells hb
  cases t
  all_goals
    go_wp2
    go_ret
    exact ⟨rfl, hbel⟩

theorem implIsKey_any (k n : Int) (s : ByteArray) (r : Bool) (w : World) (hs : s.size ≤ maxLen) (hr : r = keyB k n s) :
    Calls Tryd.prog 20 #[.agg #[.int .i64 k, .int .i64 n, .string s]] w fun e w' => e = .returned (.bool r) ∧ Below w.heap.size w w' := by
  subst hr
  cases h1 : inR k 1 3
  · rw [keyB, h1]
    exact implIsKey_one k n s w h1
  cases h2 : inR n (-1000000000000) 1000000000000
  · rw [keyB, h1, h2]
    exact implIsKey_two k n s w h1 h2
  have hk : 1 ≤ k ∧ k ≤ 3 := of_decide_eq_true h1
  rcases (by omega : k = 1 ∨ k = 2 ∨ k = 3) with rfl | rfl | rfl
  · by_cases h3 : s = ⟨#[]⟩
    · subst h3
      have e : keyB 1 n ⟨#[]⟩ = true := by rw [keyB, h1, h2]; rfl
      rw [e]
      exact implIsKey_k1e n w h2
    · have e : keyB 1 n s = false := by rw [keyB, h1, h2]; simp [h3]
      rw [e]
      exact implIsKey_k1s n s w hs h2 (by
        rw [ByteArray.toList_eq, List.isEmpty_eq_false_iff]
        intro h4
        apply h3
        rcases s with ⟨⟨l⟩⟩
        simp only at h4
        rw [h4])
  · by_cases h3 : n = 0
    · subst h3
      have e : keyB 2 0 s = textB s.data.toList := by rw [keyB, h1, h2]; simp
      rw [e]
      exact implIsKey_k2z s w hs
    · have e : keyB 2 n s = false := by rw [keyB, h1, h2]; simp [h3]
      rw [e]
      exact implIsKey_k2n n s w hs h2 h3
  · have e : keyB 3 n s = textB s.data.toList := by rw [keyB, h1, h2]; simp
    rw [e]
    exact implIsKey_k3 n s w hs h2

end Go.Proofs.YtnbhdijmbpdgoaaDoor
