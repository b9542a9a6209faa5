/-
  Proved: the law FnIntegers answers true for every input and changes nothing that was there; and the card, which ties the listed variables to the program's text. Conditions: none beyond those of the row.
  By an AI agent; no person has read it.
-/
import Derived.Test.YtnbhdijmbpdgoaaDoorLaw
import Derived.Test.YtnbhdijmbpdgoaaDoorLaid5
import Derived.Test.YtnbhdijmbpdgoaaDoorPInt
import Derived.Test.YtnbhdijmbpdgoaaDoorPIntI
import Derived.Test.YtnbhdijmbpdgoaaDoorDrawI
import Derived.Test.YtnbhdijmbpdgoaaDoorCards
import Derived.Test.YtnbhdijmbpdgoaaDoorTie
import Derived.SevenTiedAt
namespace Go.Proofs.YtnbhdijmbpdgoaaDoor.fnIntegers
open Go.ChangeShapes Go.WideShapes Go.ChangeAt Go.RowKit
open Go.ChangeMaps (open_string)
set_option linter.unusedVariables false

open Go.Lib
theorem pi_text {s : ByteArray} (h : piB s = true) : strOf (itoa (piN s)) = s ∧ 0 ≤ piN s ∧ piN s ≤ 1000000000000 := by
  unfold piB at h
  cases hi : intV s.data.toList with
  | none => rw [hi] at h; cases h
  | some n =>
    obtain ⟨h1, h2⟩ := intV_some hi
    rw [(pi_some hi).1]
    refine ⟨?_, by omega, by omega⟩
    unfold itoa
    rw [if_neg (by omega), Int.toNat_natCast, ← h2, strOf_data]
theorem intV_itoa (m : Int) : intV (itoa m) = if 0 ≤ m ∧ m ≤ 1000000000000 then some m.toNat else none := by
  unfold itoa
  by_cases h0 : m < 0
  · rw [if_pos h0, if_neg (by omega)]
    exact intV_nodigit (k := 0) (b := 45) rfl (by decide)
  · rw [if_neg h0]
    by_cases h1 : m ≤ 1000000000000
    · rw [if_pos ⟨by omega, h1⟩]
      exact intV_digits (by omega)
    · rw [if_neg (by omega)]
      unfold intV
      rw [decNat_digits]
      exact if_neg (by omega)
theorem pi_itoa_in {m : Int} (h : 0 ≤ m ∧ m ≤ 1000000000000) : piN (strOf (itoa m)) = m ∧ piB (strOf (itoa m)) = true := by
  have := pi_some (s := strOf (itoa m)) (n := m.toNat) (by rw [strOf_toList, intV_itoa, if_pos h])
  refine ⟨?_, this.2⟩
  rw [this.1]
  omega
theorem pi_itoa_out {m : Int} (h : ¬ (0 ≤ m ∧ m ≤ 1000000000000)) : piN (strOf (itoa m)) = 0 ∧ piB (strOf (itoa m)) = false :=
  pi_none (by rw [strOf_toList, intV_itoa, if_neg h])
theorem tmod_two (a b : Int) (hb : 1 ≤ b) : (a.tmod b = a % b ∨ a.tmod b = a % b - b) := by
  rcases (by omega : a.tmod b < 0 ∨ 0 ≤ a.tmod b) with h | h
  · have := tmod_fix_neg a b hb h
    omega
  · exact .inl (tmod_fix_pos a b hb h)
theorem ce_facts {a b : Int} (ha : 0 ≤ a ∧ a ≤ 1000000000000) (hb : 1 ≤ b ∧ b ≤ 1000000000000) : a ≤ ceF a b * b ∧ ceF a b * b - a < b := by
  rw [ceF, if_pos ⟨ha, hb⟩]
  have h1 := Int.mul_ediv_add_emod (a + b - 1) b
  have h2 := Int.emod_nonneg (a + b - 1) (show b ≠ 0 by omega)
  have h3 := Int.emod_lt_of_pos (a + b - 1) (show 0 < b by omega)
  rw [Int.mul_comm] at h1
  omega

theorem tail_facts {a b q r : Int} (hq : q = ceF a b) (hr : r = modF a b) :
    (b < 1 ∧ q = 0 ∧ r = 0) ∨ (1000000000000 < b ∧ q = 0 ∧ r = 0) ∨ ((1 ≤ b ∧ b ≤ 1000000000000) ∧ (0 ≤ r ∧ r < b) ∧ (∃ t, a.tmod b = t ∧ (-b < t ∧ t < b) ∧ (t - r).tmod b = 0) ∧
      ((a < 0 ∧ q = 0) ∨ (1000000000000 < a ∧ q = 0) ∨ ((0 ≤ a ∧ a ≤ 1000000000000) ∧ ∃ P, wrap64 (q * b) = P ∧ a ≤ P ∧ P - a < b))) := by
  by_cases hb : 1 ≤ b ∧ b ≤ 1000000000000
  · right; right
    have hr' : r = a % b := by rw [hr, modF_in hb.1 hb.2]
    have h1 := Int.emod_nonneg a (show b ≠ 0 by omega)
    have h2 := Int.emod_lt_of_pos a (show 0 < b by omega)
    have h3 := Int.tmod_lt_of_pos a (show 0 < b by omega)
    have h4 := Int.lt_tmod_of_pos a (show 0 < b by omega)
    refine ⟨hb, ⟨by omega, by omega⟩, ⟨_, rfl, ⟨h4, h3⟩, ?_⟩, ?_⟩
    · rcases tmod_two a b hb.1 with h | h
      · rw [h, hr', Int.sub_self, Int.zero_tmod]
      · rw [h, hr', show a % b - b - a % b = -b by omega, Int.neg_tmod, Int.tmod_self]
        rfl
    · by_cases ha : 0 ≤ a ∧ a ≤ 1000000000000
      · right; right
        have := ce_facts ha hb
        rw [← hq] at this
        refine ⟨ha, q * b, ?_, this.1, this.2⟩
        generalize q * b = P at this ⊢
        unfold wrap64
        omega
      · have e : q = 0 := by rw [hq]; exact if_neg (fun h => ha h.1)
        rcases (by omega : a < 0 ∨ 1000000000000 < a) with h | h
        · exact .inl ⟨h, e⟩
        · exact .inr (.inl ⟨h, e⟩)
  · have e : q = 0 := by rw [hq]; exact if_neg (fun h => hb h.2)
    have e2 : r = 0 := by rw [hr]; exact modF_out hb
    rcases (by omega : b < 1 ∨ 1000000000000 < b) with h | h
    · exact .inl ⟨h, e, e2⟩
    · exact .inr (.inl ⟨h, e, e2⟩)

set_option maxRecDepth 100000 in
set_option maxHeartbeats 4000000 in
theorem walk (w : World) (A0 : Option Addr) (n0 c0 : Nat) (l0 : List UInt8) (h0 : Rd w 1 A0 n0 (l0.map bv)) (m0 : n0 ≤ maxLen) (he : Env w) :
    Calls Tryd.prog 8 #[.slice A0 n0 c0] w fun e w' => e = .returned (.bool true) ∧ Below w.heap.size w w' := by
  unfold maxLen at m0
  by_cases hb0 : (1048576 : Int) < (n0 : Int)
  · go_enter Tryd.func8, Tryd.ntmps8
    go_wp2_with fail
    refine (big_any A0 n0 c0 true _ (by omega) (decide_eq_true hb0).symm).mono ?_
    rintro e w1 ⟨rfl, rfl⟩
    go_wp2
    go_ret
    exact ⟨rfl, Below.refl _ _⟩
  have hn0 : n0 ≤ 1048576 := by omega
  go_enter Tryd.func8, Tryd.ntmps8
  go_wp2_with fail
  refine (big_any A0 n0 c0 false _ (by omega) (decide_eq_false (by omega)).symm).mono ?_
  rintro e w0 ⟨rfl, rfl⟩
  go_wp2_with fail
  refine (drawParseInt_any A0 n0 c0 l0 _ (by omega) h0).mono ?_
  rintro e w1 ⟨⟨s, rfl, hs⟩, B1⟩
  obtain ⟨x, hx⟩ : ∃ x, x = piN s := ⟨_, rfl⟩
  obtain ⟨ok, hok⟩ : ∃ b, b = piB s := ⟨_, rfl⟩
  have HX := Lib.hid hx
  have HOK := Lib.hid hok
  clear hx hok
  go_wp2_with fail
  refine (implParseInt_any s _ (by omega) (he.keep B1)).mono ?_
  rw [← HX.out, ← HOK.out]
  rintro e w2 ⟨rfl, b2⟩
  have B2 := B1.trans (b2.mono B1.size)
  clear b2
  go_wp2_with fail
  refine (drawFormatInt_any A0 n0 c0 l0 _ (by omega) (h0.below B2)).mono ?_
  rintro e w3 ⟨⟨m, rfl, hm⟩, b3⟩
  unfold i64R at hm
  have B3 := B2.trans (b3.mono B2.size)
  clear b3
  go_wp2_with fail
  refine (implFormatInt_any m _ hm (he.1.keep B3)).mono ?_
  rintro e w4 ⟨rfl, b4⟩
  have B4 := B3.trans (b4.mono B3.size)
  clear b4
  obtain ⟨t, ht⟩ : ∃ t, t = strOf (itoa m) := ⟨_, rfl⟩
  have HT := Lib.hid ht
  have htz : t.size ≤ 21 := by rw [ht]; exact itoa_size m hm
  clear ht
  rw [← HT.out]
  obtain ⟨k, hk⟩ : ∃ x, x = piN t := ⟨_, rfl⟩
  obtain ⟨fine, hfine⟩ : ∃ b, b = piB t := ⟨_, rfl⟩
  have HKN := Lib.hid hk
  have HFI := Lib.hid hfine
  clear hk hfine
  go_wp2_with fail
  refine (implParseInt_any t _ (by omega) (he.keep B4)).mono ?_
  rw [← HKN.out, ← HFI.out]
  rintro e w5 ⟨rfl, b5⟩
  have B5 := B4.trans (b5.mono B4.size)
  clear b5
  go_wp2_with fail
  refine (drawCeilDiv_any A0 n0 c0 l0 _ (by omega) (h0.below B5)).mono ?_
  rintro e w6 ⟨⟨a, b, rfl, ha, hb⟩, b6⟩
  unfold i64R at ha hb
  have B6 := B5.trans (b6.mono B5.size)
  clear b6
  obtain ⟨q, hq⟩ : ∃ q, q = ceF a b := ⟨_, rfl⟩
  obtain ⟨r, hr⟩ : ∃ r, r = modF a b := ⟨_, rfl⟩
  have HQ := Lib.hid hq
  have HR := Lib.hid hr
  clear hq hr
  go_wp2_with fail
  refine (implCeilDiv_any a b _).mono ?_
  rw [← HQ.out]
  rintro e w7 ⟨rfl, rfl⟩
  go_wp2_with fail
  refine (implMod_any a b _ ha).mono ?_
  rw [← HR.out]
  rintro e w7 ⟨rfl, rfl⟩
  have hp6 := he.1.keep B6
  have hx2 : ok = true → strOf (itoa x) = s ∧ 0 ≤ x ∧ x ≤ 1000000000000 := by
    intro h
    rw [HX.out]
    exact pi_text (by rw [← HOK.out]; exact h)
  have hmi : (fine = true ∧ k = m ∧ 0 ≤ m ∧ m ≤ 1000000000000) ∨ (fine = false ∧ m < 0) ∨ (fine = false ∧ 1000000000000 < m) := by
    by_cases h : 0 ≤ m ∧ m ≤ 1000000000000
    · left
      refine ⟨?_, ?_, h.1, h.2⟩
      · rw [HFI.out, HT.out]
        exact (pi_itoa_in h).2
      · rw [HKN.out, HT.out]
        exact (pi_itoa_in h).1
    · right
      have e : fine = false := by
        rw [HFI.out, HT.out]
        exact (pi_itoa_out h).2
      rcases (by omega : m < 0 ∨ 1000000000000 < m) with h1 | h1
      · exact .inl ⟨e, h1⟩
      · exact .inr ⟨e, h1⟩
  have hB := tail_facts HQ.out HR.out
  clear HX HOK HFI HKN HT HQ HR htz
  cases ok
  case false =>
    rcases hmi with ⟨rfl, rfl, hm1, hm2⟩ | ⟨rfl, hm1⟩ | ⟨rfl, hm1⟩
    all_goals
      rcases hB with ⟨hb1, rfl, rfl⟩ | ⟨hb1, rfl, rfl⟩ | ⟨hb1, hr1, ⟨t, ht, ht1, ht2⟩, ⟨ha1, rfl⟩ | ⟨ha1, rfl⟩ | ⟨ha1, P, hP, hP1, hP2⟩⟩
      all_goals
        go_wp2
        go_ret
        exact ⟨rfl, B6⟩
  case true =>
    obtain ⟨hx3, hx4⟩ := hx2 rfl
    have HX3 := Lib.hid hx3
    clear hx2 hx3
    rcases hmi with ⟨rfl, rfl, hm1, hm2⟩ | ⟨rfl, hm1⟩ | ⟨rfl, hm1⟩
    all_goals
      rcases hB with ⟨hb1, rfl, rfl⟩ | ⟨hb1, rfl, rfl⟩ | ⟨hb1, hr1, ⟨t, ht, ht1, ht2⟩, ⟨ha1, rfl⟩ | ⟨ha1, rfl⟩ | ⟨ha1, P, hP, hP1, hP2⟩⟩
      all_goals
        go_wp2_with fail
        refine (implFormatInt_any x _ (by omega) hp6).mono ?_
        rw [HX3.out]
        rintro e w8 ⟨rfl, b8⟩
        have B8 := B6.trans (b8.mono B6.size)
        clear b8
        go_wp2
        go_ret
        exact ⟨rfl, B8⟩


theorem laid_met (os : Os) (args : Array Value) : laidMet Tryd.prog Rows.fnIntegersRow.laid ((tabWorld5 os).forCall (fun _ _ => 0) ⟨#[], args, []⟩).memory :=
  laidMet_of_run' 8 (by kernel_rfl) (by kernel_rfl)

set_option maxRecDepth 100000 in
theorem lifted (os : Os) (started : os.Started) (H : Type) (enc : TypeId × Value → H) :
    ReturnsInHanded {} Tryd.checked os 8 .any (fun w args => (Rows.fnIntegersSpec.pre enc Tryd.prog Tryd.f8 Rows.fnIntegersRow.domain false w args ∧ laidMet Tryd.prog Rows.fnIntegersRow.laid w) ∧ sizedMet enc Tryd.prog Tryd.f8 (OpenSpec.ofChange Rows.fnIntegersSpec) false w args)
      (Rows.fnIntegersSpec.post enc Tryd.prog Tryd.f8 false true false false) := by
  refine returnsInHanded_of_change_and (C := Tryd.checked) (X := fun w _ => laidMet Tryd.prog Rows.fnIntegersRow.laid w) (fun _ _ _ hh h => h.of_heap hh) own started (by kernel_rfl) Tryd.func8
    (ChangeSpec.witness_at (enc := enc) (C := Tryd.checked) (os := os) (X := fun w _ => laidMet Tryd.prog Rows.fnIntegersRow.laid w) false (tabWorld5 os) #[.slice none 0 0] 8 rfl (by kernel_rfl) (by kernel_rfl) (by kernel_rfl) (by kernel_rfl) (by kernel_rfl) (laid_met os _)) ?_
  intro W base args ds gs before hval0 hW hcnd _ hL _
  have hval : ∀ (j : Nat) t v, Tryd.f8.params[j]? = some t → args[j]? = some v → Value.okWide Tryd.prog W .any base t v := hval0
  have hW' := hW
  obtain ⟨p, q, hA0, hV, rfl, hfz, hnd⟩ := hW
  have hA : DataW.TrodAll enc Tryd.prog W 0 (fun _ => true) true Tryd.f8.params.toList args.toList ds p := hA0
  rw [Tryd.params8] at hA hval
  obtain ⟨v0, vs0, d0, ds0, p0, q0, hargs, rfl, rfl, h0, z0⟩ := trodAll_cons hA
  obtain ⟨rfl, rfl, rfl⟩ := trodAll_nil z0
  obtain rfl : args = #[v0] := by cases args; simp_all
  obtain ⟨rfl, rfl⟩ := trodVars_none hV
  obtain ⟨a0, n0, c0, rfl⟩ := okWide_slice Tryd.underlying28 (hval 0 28 v0 rfl rfl)
  obtain ⟨fu0, hf0⟩ := h0
  obtain ⟨l0, rd0, hm0⟩ := open_bytes Tryd.underlying28 Tryd.underlying5 cellsU8 hf0
  clear hA0 hval0
  exact (walk W a0 n0 c0 l0 rd0 hm0 (errs_of hL)).mono fun e W' ⟨he, hb⟩ => ⟨_, he, law_post laidOut (by kernel_rfl) (tb := 4) rfl Tryd.underlying4 rfl hW' rfl hb⟩

theorem said : Rows.FnIntegersSaid :=
  OpenClaim.holds_of_wide 8 Tryd.f8 rfl rfl rfl rfl rfl rfl rfl ⟨rfl, rfl, rfl, rfl, rfl⟩ rfl rfl rfl rfl rfl (by kernel_rfl) Tryd.func8 (joined_of (by kernel_rfl))
    (of_decide_eq_true (by kernel_rfl)) (by unfold Func.isWrapper; first | (rw [if_pos (by decide +kernel)]; kernel_rfl) | (rw [if_neg (by decide +kernel)]; exact ⟨rfl, rfl⟩))
    (fun os started H enc _ => lifted os started H enc)

theorem proved : Rows.FnIntegersCardSaid :=
  Claim7.holds_tied_plain_at .later [] [.data, .data, .data, .sentinel, .sentinel] true (true, "1049c4310d5bfca20d1f95a2c888a3439faeb0685337254e1c5ae66fe8242137") true
    said (fun _ h => by cases h) (by kernel_rfl) (fun _ h => by cases h) fnIntegers_row_tie rfl ⟨rfl, rfl⟩ (by kernel_rfl) rfl
    (fun f fn hf hfn => by
      obtain rfl : f = 8 := Option.some.inj ((show Tryd.prog.funcNamed "loop.example/g00583/laws.FnIntegers" = some 8 by kernel_rfl).symm.trans hf) |>.symm
      obtain rfl : fn = Tryd.f8 := (Option.some.inj (Tryd.func8.symm.trans hfn)).symm
      exact ⟨by kernel_rfl, fun j t ht => by
        rw [Tryd.params8] at ht
        have h3 : t = 28 := by
          rcases j with _ | j
          · simpa using ht.symm
          · simp at ht
        subst h3
        exact (show Tryd.prog.wantsStandIn 28 = false by kernel_rfl)⟩)
    (by kernel_rfl)
#print axioms proved
end Go.Proofs.YtnbhdijmbpdgoaaDoor.fnIntegers
