/-
  Proved: the law FnKeyedHash answers true for every input and changes nothing that was there: changing one value modulo Modulus changes the keyed hash; derived keys are valid. Conditions: none beyond those of the row.
  By an AI agent; no person has read it.
-/
import Derived.Test.YtiliahafaldfcaaLaw
import Derived.Test.YtiliahafaldfcaaPlA
import Derived.Test.YtiliahafaldfcaaDrawB
import Derived.Test.YtiliahafaldfcaaSame
import Derived.Test.YtiliahafaldfcaaGuard
namespace Go.Proofs.Ytiliahafaldfcaa.fnKeyedHash
open Go.ChangeShapes Go.WideShapes Go.ChangeAt Go.RowKit
open Go.ChangeMaps (open_string)
set_option linter.unusedVariables false

set_option maxRecDepth 100000 in
set_option maxHeartbeats 4000000 in
theorem walk (w : World) (A0 : Option Addr) (n0 c0 : Nat) (l0 : List UInt8) (h0 : Rd w 1 A0 n0 (l0.map bv)) (m0 : n0 ≤ maxLen) :
    Calls Try.prog 4 #[.slice A0 n0 c0] w fun e w' => e = .returned (.bool true) ∧ Below w.heap.size w w' := by
  unfold maxLen at m0
  by_cases hb0 : (1048576 : Int) < (n0 : Int)
  · go_enter Try.func4, Try.ntmps4
    go_wp2_with fail
    refine (big_any A0 n0 c0 true _ (by omega) (decide_eq_true hb0).symm).mono ?_
    rintro e w1 ⟨rfl, rfl⟩
    go_wp2
    go_ret
    exact ⟨rfl, Below.refl _ _⟩
  have hn0 : n0 ≤ 1048576 := by omega
  obtain ⟨i0, hi, hz0, hz1, hz2⟩ := info_parts infoI
  go_enter Try.func4, Try.ntmps4
  go_wp2_with fail
  refine (big_any A0 n0 c0 false _ (by omega) (decide_eq_false (by omega)).symm).mono ?_
  rintro e w0 ⟨rfl, rfl⟩
  go_wp2_with fail
  refine (drawKeyedHash_any A0 n0 c0 l0 _ (by omega) h0).mono ?_
  rintro e w1 ⟨k, A1, n1, c1, l1, rfl, o1, hk, hl, B1⟩
  obtain ⟨hl4, hlw⟩ := hl
  have HL1 := Lib.hid (own_lenI o1)
  have q1 : n1 ≤ 4 := by have := HL1.out; omega
  have hk2 : -9223372036854775808 ≤ k ∧ k ≤ 9223372036854775807 := by unfold wordR at hk; omega
  have HW := Lib.hid hlw
  have hrl : ∀ z ∈ l1, -9223372036854775808 ≤ z ∧ z ≤ 9223372036854775807 := fun z hz => by have h1 := hlw z hz; unfold wordR at h1; omega
  have HRL := Lib.hid hrl
  clear hk hlw hrl hl4
  go_wp2_with fail
  refine (implKeyedHash_any k A1 n1 c1 l1 _ (by omega) hk2 (Rd.of_own o1) HRL.out).mono ?_
  rintro e w2 ⟨rfl, b2⟩
  have B2 := B1.trans (b2.mono B1.size)
  replace o1 := own_below o1 b2
  have hx := khF_rng k l1
  obtain ⟨x, hxe⟩ : ∃ x, x = khF k l1 := ⟨_, rfl⟩
  rw [← hxe] at hx ⊢
  have HX := Lib.hid hxe
  clear hxe
  have HKA := Lib.hid (khF_app k l1)
  have HKR := Lib.hid (kh_rng hk2 HRL.out)
  have hx1 : ¬ x < 0 := by omega
  have hx2 : ¬ 2147483647 ≤ x := by omega
  have hs2 := B2.size
  have x1 := Rd.of_own o1
  clear o1 b2
  go_wp2_with (at_builtin; refine wpList_catG (w2.alloc (.cells #[.int .i64 k] 3)) ?c0 _ _ 28 rfl w2.heap.size 3 i0 (.int .i64 0) 1 8 Try.underlying28 hi hz0 hz1 hz2 rfl (by decide) _ _ _ [iv k] (by rfl) (World.ownsRow_lit w2 #[iv k] 1 (Nat.le_refl _) (by decide) (by rfl)) A1 n1 c1 (l1.map iv) (by rfl) (x1.alloc _) (ones_iv l1) ?c1 ?c2 ?c3 ?_)
  try (case c0 => simp [Region.wanted, yielded, hx1, hx2])
  case c1 => unfold maxLen; omega
  case c2 => omega
  case c3 => simp
  intro A3 n3 c3 w3 hn3 o3 b3 _
  have hb3 := b3.size
  have hbs3 : w2.heap.size ≤ w3.heap.size := by simp at hb3; omega
  have hn3b : n3 ≤ 5 := by omega
  have b23 : Below w2.heap.size w2 w3 := Below.trans (al' _) b3
  clear hn3 b3
  go_wp2_with (at_builtin; refine wpList_pushG w3 ?d0 _ _ 28 rfl w2.heap.size 3 i0 (.int .i64 0) 8 Try.underlying28 hi hz0 hz1 hz2 rfl A3 n3 c3 _ (by rfl) o3 _ (by rfl) (by rfl) ?d1 ?d2 ?d3 ?_)
  try (case d0 => simp [Region.wanted, yielded, hx1, hx2])
  case d1 => unfold maxLen; omega
  case d2 => omega
  case d3 => exact hbs3
  intro A4 n4 c4 w4 hn4 o4 b4
  have b24 := b23.trans b4
  have hn4b : n4 ≤ 6 := by omega
  have O4 : Hid (w4.ownsRow w2.heap.size 3 1 (.slice A4 n4 c4) n4 ((k :: l1 ++ [k]).map iv)) := by rw [← HKA.out]; exact o4
  have B4 := B2.trans (b24.mono B2.size)
  have x4 := x1.below b24
  clear hn4 o4 b4 b23 b24 o3 hb3 hbs3 x1
  go_wp2_with fail
  refine (implHash_any A4 n4 c4 (k :: l1 ++ [k]) w4 (by omega) (Rd.of_own O4.out) HKR.out).mono ?_
  rintro e w5 ⟨rfl, b5⟩
  have B5 := B4.trans (b5.mono B4.size)
  have x5 := x4.below b5
  have HXK : hashF (k :: l1 ++ [k]) = x := HX.out.symm
  rw [HXK]
  clear HXK b5 x4
  by_cases hn1 : n1 = 0
  · subst hn1
    go_wp2_with fail
    refine (drawDerive_any A0 n0 c0 l0 _ (by omega) (h0.below B5)).mono ?_
    rintro e w6 ⟨key, s, rfl, hkey, hsz, b6⟩
    have B6 := B5.trans (b6.mono B5.size)
    have hkey2 : -9223372036854775808 ≤ key ∧ key ≤ 9223372036854775807 := by unfold wordR at hkey; omega
    clear hkey
    go_wp2_with fail
    refine (implDerive_any key s _ (by omega) hkey2).mono ?_
    rintro e w7 ⟨rfl, b7⟩
    have B7 := B6.trans (b7.mono B6.size)
    have hd := derF_rng key s.data.toList
    go_wp2_with fail
    refine (isValidKey_any _ true _ (by have := inR_true hd.1 hd.2; exact this.symm)).mono ?_
    rintro e w8 ⟨rfl, rfl⟩
    go_wp2
    go_ret
    exact ⟨rfl, B7⟩
  · have hn2 : 0 < n1 := by omega
    go_wp2_with (at_builtin; refine wpList_cat (w5.alloc (.cells #[] 3)) rfl _ _ 28 rfl w5.heap.size 3 i0 (.int .i64 0) 1 8 Try.underlying28 hi hz0 hz1 hz2 rfl (by decide) _ _ _ [] (by rfl) (own_new (Nat.le_refl _)) A1 n1 c1 (l1.map iv) (by rfl) (x5.alloc _) (ones_iv l1) ?e1 ?e2 ?e3 ?_)
    case e1 => unfold maxLen; omega
    case e2 => omega
    case e3 => simp
    intro A6 n6 c6 w6 hn6 o6 b6 _
    obtain rfl : n6 = n1 := by omega
    have O6 : Hid (w6.ownsRow w5.heap.size 3 1 (.slice A6 n6 c6) n6 (l1.map iv)) := by
      show w6.ownsRow _ _ _ _ _ _
      simpa using o6
    have B6 := B5.trans ((Below.trans (al' _) b6 : Below w5.heap.size w5 w6).mono B5.size)
    have hs5 := B5.size
    clear hn6 o6 b6 x5 hn1
    have ha := atF_rng l0 0
    go_wp2_with fail
    refine (at_any A0 n0 c0 l0 0 _ (by omega) (by omega) (h0.below B6)).mono ?_
    rintro e w7 ⟨rfl, rfl⟩
    generalize atF l0 0 = a0 at ha ⊢
    obtain ⟨i, hi7⟩ : ∃ i : Nat, (i : Int) = a0 % (n6 : Int) := ⟨(a0 % (n6 : Int)).toNat, by have := Int.emod_nonneg a0 (show (n6 : Int) ≠ 0 by omega); omega⟩
    have hin : i < n6 := by have := Int.emod_lt_of_pos a0 (show 0 < (n6 : Int) by omega); omega
    have hmod : a0.tmod (n6 : Int) = (i : Int) := by rw [hi7]; exact Int.tmod_eq_emod_of_nonneg ha.1
    have HI := Lib.hid hi7
    clear hi7
    obtain ⟨g, cap, hgv, hgb, hglt⟩ := O6.out.form hn2
    obtain ⟨rfl, rfl⟩ : A6 = some ⟨g, 0, none⟩ ∧ c6 = cap := by
      injection hgv with e1 e2 e3
      exact ⟨e1, e3⟩
    clear hgv
    obtain ⟨b, o, v, hbo, hbw, hv, hcv0⟩ := (Rd.of_own O6.out).int hin
    have hcv : w6.cell? ⟨g, i, none⟩ = some (.int .i64 v) := by
      injection hbo with hbo
      injection hbo with e1 e2
      rw [← e1, ← e2, Nat.zero_add] at hcv0
      exact hcv0
    clear hbo hbw hcv0
    have hfz := O6.out.frozenAt i
    have hvw : wordR v := HW.out v (List.mem_of_getElem? hv)
    unfold wordR at hvw
    have HV := Lib.hid hv
    clear hv
    have ha1 := atF_rng l0 1
    have hx6 := h0.below B6
    have hw7 : ∀ W : World, W = w6.drew → Rd W 1 A0 n0 (l0.map bv) := fun W e => by rw [e]; exact hx6.drew
    have hvm : -9223372036854775808 ≤ v + 1 + atF l0 1 ∧ v + 1 + atF l0 1 ≤ 9223372036854775807 := by omega
    have HWR : Hid (IntKind.i64.wrap (IntKind.i64.wrap (v + 1) + atF l0 1) = v + 1 + atF l0 1) := by
      show IntKind.i64.wrap (IntKind.i64.wrap (v + 1) + atF l0 1) = v + 1 + atF l0 1
      rw [IntKind.wrap_i64, IntKind.wrap_i64]
      omega
    have HMF := Lib.hid (modF_in (n := v + 1 + atF l0 1) (m := 2147483647) (by omega) (by omega))
    go_wp2
    go_still_tail 12, (by kernel_rfl)
    still_call ((at_any A0 n0 c0 l0 1 _ (by omega) (by omega) hx6.drew).mono fun _ _ h => ⟨h.1, h.2.symm⟩)
    repeat still_step
    refine wpStill_step (fun K hK => ?_)
    go_simp
    rw [HWR.out]
    refine ⟨_, ((specMod_any (v + 1 + atF l0 1) 2147483647 _ hvm).mono fun _ _ h => ⟨h.1, h.2.symm⟩), hK _ ?_⟩
    clear hK K
    still_step
    refine wpStill_nil ?_
    have OD : w6.drew.ownsRow w5.heap.size 3 1 (.slice (some ⟨g, 0, none⟩) n6 c6) n6 (l1.map iv) := O6.out
    have BD : Below w.heap.size w w6.drew := B6.drew
    have hcd : w6.drew.cell? ⟨g, i, none⟩ = some (.int .i64 v) := hcv
    have hfd : w6.drew.frozen? ⟨g, i, none⟩ = false := hfz
    change wpList _ _ _ _ _ (World.drew w6)
    generalize World.drew w6 = w8 at OD BD hcd hfd ⊢
    obtain ⟨mv, hmv⟩ : ∃ mv, mv = modF (v + 1 + atF l0 1) 2147483647 := ⟨_, rfl⟩
    rw [← hmv]
    have HMV := Lib.hid hmv
    clear hmv
    have hst := OD.stored i (.int .i64 mv)
    have O9 : Hid ((w8.setCell ⟨g, i, none⟩ (.int .i64 mv)).ownsRow w5.heap.size 3 1 (.slice (some ⟨g, 0, none⟩) n6 c6) n6 ((l1.set i mv).map iv)) := by
      show World.ownsRow _ _ _ _ _ _ _
      have e : (l1.set i mv).map iv = (l1.map iv).set i (.int .i64 mv) := by rw [List.map_set]; rfl
      rw [e]
      exact hst.1
    have B9 : Below w.heap.size w (w8.setCell ⟨g, i, none⟩ (.int .i64 mv)) := BD.setCell (Nat.le_trans hs5 hgb) _
    have HNE : Hid (khF k (l1.set i mv) ≠ x) := by
      show khF k (l1.set i mv) ≠ x
      rw [HX.out]
      refine khF_set HV.out ?_
      rw [HMV.out, HMF.out]
      omega
    have hmv2 : 0 ≤ mv ∧ mv < 2147483647 := by
      have h1 := modF_nonneg (v + 1 + atF l0 1) 2147483647
      have h2 := modF_lt (v + 1 + atF l0 1) (m := 2147483647) (by omega)
      have h3 := HMV.out
      omega
    have HRS : Hid (∀ z ∈ l1.set i mv, -9223372036854775808 ≤ z ∧ z ≤ 9223372036854775807) := by
      intro z hz
      rcases List.mem_or_eq_of_mem_set hz with h | h
      · exact HRL.out z h
      · omega
    clear hst
    go_wp2_with fail
    refine (implKeyedHash_any k _ n6 c6 (l1.set i mv) _ (by omega) hk2 (Rd.of_own O9.out) HRS.out).mono ?_
    rintro e w9 ⟨rfl, b9⟩
    have B10 := B9.trans (b9.mono B9.size)
    clear b9 O9 OD BD B9
    have hne := HNE.out
    generalize khF k (l1.set i mv) = y at hne ⊢
    have hne1 : (y == x) = false := by simpa using hne
    have hne2 : decide (y = x) = false := decide_eq_false hne
    clear hne
    go_wp2_with fail
    refine (drawDerive_any A0 n0 c0 l0 _ (by omega) (h0.below B10)).mono ?_
    rintro e w6 ⟨key, s, rfl, hkey, hsz, b11⟩
    have B11 := B10.trans (b11.mono B10.size)
    have hkey2 : -9223372036854775808 ≤ key ∧ key ≤ 9223372036854775807 := by unfold wordR at hkey; omega
    clear hkey
    go_wp2_with fail
    refine (implDerive_any key s _ (by omega) hkey2).mono ?_
    rintro e w7 ⟨rfl, b12⟩
    have B12 := B11.trans (b12.mono B11.size)
    have hd := derF_rng key s.data.toList
    go_wp2_with fail
    refine (isValidKey_any _ true _ (by have := inR_true hd.1 hd.2; exact this.symm)).mono ?_
    rintro e w8 ⟨rfl, rfl⟩
    go_wp2
    go_ret
    exact ⟨rfl, B12⟩

set_option maxRecDepth 100000 in
theorem lifted (os : Os) (started : os.Started) (H : Type) (enc : TypeId × Value → H) :
    ReturnsInHanded {} Try.checked os 4 .any (Rows.fnKeyedHashSpec.pre6 enc Try.prog Try.f4 Rows.fnKeyedHashRow.domain false) (Rows.fnKeyedHashSpec.post enc Try.prog Try.f4 false true false false) := by
  refine returnsInHanded_of_change (C := Try.checked) own started (by kernel_rfl) Try.func4
    (ChangeSpec.witness6 (enc := enc) (C := Try.checked) false ⟨#[], #[.slice none 0 0], []⟩ 8 (by kernel_rfl) (by kernel_rfl) (by kernel_rfl) (by kernel_rfl)) ?_
  intro W base args ds gs before hval0 hW hcnd _
  have hval : ∀ (j : Nat) t v, Try.f4.params[j]? = some t → args[j]? = some v → Value.okWide Try.prog W .any base t v := hval0
  have hW' := hW
  obtain ⟨p, q, hA0, hV, rfl, hfz, hnd⟩ := hW
  have hA : DataW.TrodAll enc Try.prog W 0 (fun _ => true) true Try.f4.params.toList args.toList ds p := hA0
  rw [Try.params4] at hA hval
  obtain ⟨v0, vs0, d0, ds0, p0, q0, hargs, rfl, rfl, h0, z0⟩ := trodAll_cons hA
  obtain ⟨rfl, rfl, rfl⟩ := trodAll_nil z0
  obtain rfl : args = #[v0] := by cases args; simp_all
  obtain ⟨rfl, rfl⟩ := trodVars_none hV
  obtain ⟨A0, n0, c0, rfl⟩ := okWide_slice Try.underlying22 (hval 0 22 v0 rfl rfl)
  obtain ⟨fu0, hf0⟩ := h0
  obtain ⟨l0, k0, m0⟩ := open_bytes Try.underlying22 Try.underlying5 cellsU8 hf0
  clear hA0 hval0
  exact (walk W A0 n0 c0 l0 k0 m0).mono fun e W' ⟨he, hb⟩ => ⟨_, he, law_post laidOut (by kernel_rfl) (tb := 4) rfl Try.underlying4 rfl hW' rfl hb⟩

theorem proved : Rows.FnKeyedHashSaid :=
  OpenClaim.holds_of_wide 4 Try.f4 rfl rfl rfl rfl rfl rfl rfl ⟨rfl, rfl, rfl, rfl, rfl⟩ rfl rfl rfl rfl rfl (by kernel_rfl) Try.func4 (joined_of (by kernel_rfl))
    (of_decide_eq_true (by kernel_rfl)) (by unfold Func.isWrapper; first | (rw [if_pos (by decide +kernel)]; kernel_rfl) | (rw [if_neg (by decide +kernel)]; exact ⟨rfl, rfl⟩))
    (fun os started H enc _ => lifted os started H enc)
#print axioms proved
end Go.Proofs.Ytiliahafaldfcaa.fnKeyedHash
