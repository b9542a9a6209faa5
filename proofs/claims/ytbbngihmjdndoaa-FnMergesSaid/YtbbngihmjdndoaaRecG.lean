/-
  Proved: the contract of the draw of MergeRecords' arguments. Only what is needed of what is drawn is said. Conditions: the code reads as a list of at most 2^40 bytes.
  By an AI agent; no person has read it.
-/
import Derived.Test.YtbbngihmjdndoaaRecE
import Derived.Test.YtbbngihmjdndoaaFldRs
namespace Go.Proofs.Ytbbngihmjdndoaa
open Go.RowKit
set_option linter.unusedSimpArgs false
set_option linter.unusedVariables false

/-- A draw of MergeRecords' arguments. -/
def DMr (w : World) (e : Ending) (w' : World) : Prop :=
  ∃ (Ao : Option Addr) (no co : Nat) (lo : List Fld) (Aa : Option Addr) (na ca : Nat) (la : List Fld) (Ab : Option Addr) (nb cb : Nat) (lb : List Fld),
    e = .returned (.tuple #[.agg #[.slice Ao no co], .agg #[.slice Aa na ca], .agg #[.slice Ab nb cb]]) ∧ (Rd w' 2 Ao no (fl lo) ∧ Rd w' 2 Aa na (fl la) ∧ Rd w' 2 Ab nb (fl lb)) ∧ (okF lo ∧ okF la ∧ okF lb) ∧ (no ≤ 9 ∧ na ≤ 9 ∧ nb ≤ 9) ∧ Below w.heap.size w w'
/-- What is said of a world that holds the drawn records. -/
def KP (w : World) (base base0 : Nat) (Ao : Option Addr) (no co : Nat) (lo : List Fld) (Aa : Option Addr) (na ca : Nat) (la : List Fld) (Ab : Option Addr) (nb cb : Nat) (lb : List Fld) (W : World) : Prop :=
  W.ownsRow base0 91 2 (.slice Ao no co) no (fl lo) ∧ W.ownsRow base 91 2 (.slice Aa na ca) na (fl la) ∧ W.ownsRow base 91 2 (.slice Ab nb cb) nb (fl lb) ∧ Below w.heap.size w W
theorem KP.set {w W : World} {base base0 : Nat} {Ao : Option Addr} {no co : Nat} {lo : List Fld} {Aa : Option Addr} {na ca : Nat} {la : List Fld} {Ab : Option Addr} {nb cb : Nat} {lb : List Fld} (h : KP w base base0 Ao no co lo Aa na ca la Ab nb cb lb W) {r : Nat} (v : Value) (h1 : w.heap.size ≤ r) (h2 : r < base ∧ r < base0) : KP w base base0 Ao no co lo Aa na ca la Ab nb cb lb (W.setCell ⟨r, 0, none⟩ v) :=
  ⟨ownsRow_setCell_below h.1 (a := ⟨r, 0, none⟩) h2.2 v, ownsRow_setCell_below h.2.1 (a := ⟨r, 0, none⟩) h2.1 v, ownsRow_setCell_below h.2.2.1 (a := ⟨r, 0, none⟩) h2.1 v, h.2.2.2.setCell (p := ⟨r, 0, none⟩) h1 v⟩
theorem KP.fin {w W : World} {base base0 : Nat} {Ao : Option Addr} {no co : Nat} {lo : List Fld} {Aa : Option Addr} {na ca : Nat} {la : List Fld} {Ab : Option Addr} {nb cb : Nat} {lb : List Fld} (h : KP w base base0 Ao no co lo Aa na ca la Ab nb cb lb W) (ko : okF lo) (ka : okF la) (kb : okF lb) (n0 : no ≤ 9) (n1 : na ≤ 9) (n2 : nb ≤ 9) :
    DMr w (.returned (.tuple #[.agg #[.slice Ao no co], .agg #[.slice Aa na ca], .agg #[.slice Ab nb cb]])) W :=
  ⟨_, _, _, lo, _, _, _, la, _, _, _, lb, rfl, ⟨Rd.of_own h.1, Rd.of_own h.2.1, Rd.of_own h.2.2.1⟩, ⟨ko, ka, kb⟩, ⟨n0, n1, n2⟩, h.2.2.2⟩
theorem setS3 {W : World} {b0 b1 b2 : Nat} {v0 v1 v2 : Value} (h : W.cell? ⟨b0, 0, none⟩ = some v0 ∧ W.cell? ⟨b1, 0, none⟩ = some v1 ∧ W.cell? ⟨b2, 0, none⟩ = some v2) {r o : Nat} {v : Value} (n0 : r ≠ b0) (n1 : r ≠ b1) (n2 : r ≠ b2) :
    (W.setCell ⟨r, o, none⟩ v).cell? ⟨b0, 0, none⟩ = some v0 ∧ (W.setCell ⟨r, o, none⟩ v).cell? ⟨b1, 0, none⟩ = some v1 ∧ (W.setCell ⟨r, o, none⟩ v).cell? ⟨b2, 0, none⟩ = some v2 :=
  ⟨(World.cell?_setCell_far _ ⟨r, o, none⟩ ⟨b0, 0, none⟩ _ n0).trans h.1, (World.cell?_setCell_far _ ⟨r, o, none⟩ ⟨b1, 0, none⟩ _ n1).trans h.2.1, (World.cell?_setCell_far _ ⟨r, o, none⟩ ⟨b2, 0, none⟩ _ n2).trans h.2.2⟩
theorem remS_sub {l : List Fld} {nm : ByteArray} {f : Fld} (h : f ∈ remS l nm) : f ∈ l := (List.mem_filter.1 h).1
theorem remR_ok {l lr : List Fld} {nm : ByteArray} {r : Bool} (h : (lr, r) = remR l nm) (ho : okF l) : okF lr := by
  unfold remR at h
  split at h
  · obtain rfl : lr = remS l nm := (Prod.mk.inj h).1
    exact fun f hf => ho f (remS_sub hf)
  · obtain rfl : lr = l := (Prod.mk.inj h).1
    exact ho
theorem remR_len {l lr : List Fld} {nm : ByteArray} {r : Bool} (h : (lr, r) = remR l nm) : lr.length ≤ l.length := by
  unfold remR at h
  split at h
  · obtain rfl : lr = remS l nm := (Prod.mk.inj h).1
    exact List.length_filter_le _ _
  · obtain rfl : lr = l := (Prod.mk.inj h).1
    exact Nat.le_refl _

set_option maxRecDepth 100000 in
set_option maxHeartbeats 20000000 in
theorem drawMergeRecords_any (A : Option Addr) (n c : Nat) (lc : List UInt8) (w : World) (hn : n ≤ 1099511627776) (hr : Rd w 1 A n (lc.map bv)) :
    Calls Try.prog 72 #[.slice A n c] w (DMr w) := by
  go_enter Try.func72, Try.ntmps72
  go_wp2_with fail
  refine (l1New_any A n c lc _ hn (((hr.alloc _).alloc _).alloc _)).mono ?_
  rintro e w1 ⟨p, rfl, c1, b1, hp⟩
  have hp0 : w.heap.size + 3 ≤ p := by simp at hp; omega
  have hp1 := c1.lt
  have B1 : Below w.heap.size w w1 := Below.trans (al (al (al (Below.refl _ _)))) (b1.mono (by simp; omega))
  have dR0 : w1.cell? ⟨w.heap.size, 0, none⟩ = some (.slice none 0 0) := kcell b1 (by simp [go_sem])
  have dR1 : w1.cell? ⟨w.heap.size + 1, 0, none⟩ = some (.slice none 0 0) := kcell b1 (by simp [go_sem])
  have dR2 : w1.cell? ⟨w.heap.size + 1 + 1, 0, none⟩ = some (.slice none 0 0) := kcell b1 (by simp [go_sem])
  have fR0 : w1.frozen? ⟨w.heap.size, 0, none⟩ = false := (b1.frozen (p := ⟨w.heap.size, 0, none⟩) (by simp; try omega)).trans (by simp [go_sem])
  have fR1 : w1.frozen? ⟨w.heap.size + 1, 0, none⟩ = false := (b1.frozen (p := ⟨w.heap.size + 1, 0, none⟩) (by simp; try omega)).trans (by simp [go_sem])
  have fR2 : w1.frozen? ⟨w.heap.size + 1 + 1, 0, none⟩ = false := (b1.frozen (p := ⟨w.heap.size + 1 + 1, 0, none⟩) (by simp; try omega)).trans (by simp [go_sem])
  clear b1 hp
  go_wp2_with fail
  refine (l5Record_any p _ c1).mono ?_
  rintro e w2 ⟨Bo, mo, do_, lo, rfl, oo, ⟨ko, hmo⟩, c2, g2⟩
  have hz2 := g2.size
  have oo3 := own_below oo (al' (.cells #[.slice Bo mo do_] 28))
  go_wp2_with fail
  refine (l5Copy_any Bo mo do_ lo _ (by omega) (Rd.of_own oo3)).mono ?_
  rintro e w4 ⟨Ba, ma, da, rfl, oa, b4⟩
  obtain ⟨WQ, hWQ⟩ : ∃ W, W = w2.alloc (.cells #[.slice Bo mo do_] 28) := ⟨_, rfl⟩
  have hz3 : WQ.heap.size = w2.heap.size + 1 := by rw [hWQ]; simp
  have d6 : WQ.cell? ⟨w2.heap.size, 0, none⟩ = some (.slice Bo mo do_) := by rw [hWQ]; simp
  have bV : Below w2.heap.size w2 WQ := by rw [hWQ]; exact al' _
  rw [← hWQ] at oa b4 oo3
  have g13 := only_trans g2 (only_of_below bV (some p))
  replace dR0 := gcell g13 dR0 (by omega)
  replace dR1 := gcell g13 dR1 (by omega)
  replace dR2 := gcell g13 dR2 (by omega)
  replace fR0 := gfroz g13 (by omega) fR0 (by omega)
  replace fR1 := gfroz g13 (by omega) fR1 (by omega)
  replace fR2 := gfroz g13 (by omega) fR2 (by omega)
  have B3 : Below w.heap.size w WQ := below_only B1 g13 B1.size (by omega)
  have c3 := c2.below bV
  have hpo : ∀ ad, Bo = some ad → ad.block ≠ p := fun ad h => by have := (own_rng oo ad h).1; omega
  have hob : w1.heap.size ≤ w1.heap.size := Nat.le_refl _
  have d64 := kcell b4 d6
  have hz4 := b4.size
  have oo4 := own_below oo3 b4
  have c4 := c3.below b4
  have ral := own_lenF oa
  clear hWQ oo c1 g2 bV g13 B1
  have oo5 := own_below oo4 (al' (.cells #[.slice Ba ma da] 28))
  have d65 := kcell (al' (.cells #[.slice Ba ma da] 28)) d64
  go_wp2_with fail
  refine (l5Copy_any Bo mo do_ lo _ (by omega) (Rd.of_own oo5)).mono ?_
  rintro e w5 ⟨Bb, mb, db, rfl, ob, b5⟩
  have hz5 : w4.heap.size + 1 ≤ w5.heap.size := by have := b5.size; simpa using this
  have rbl := own_lenF ob
  have rol := own_lenF oo3
  have nb7 : ∀ ad, Bb = some ad → ad.block ≠ w4.heap.size := fun ad h => by have := (own_rng ob ad h).1; simp at this; omega
  have na8 : ∀ ad, Ba = some ad → ad.block ≠ w5.heap.size := fun ad h => by have := (own_rng oa ad h).2; omega
  have B34 : Below WQ.heap.size WQ w5 := b4.trans (((al (Below.refl _ _)).trans (b5.mono (by simp))).mono b4.size)
  have d7 : w5.cell? ⟨w4.heap.size, 0, none⟩ = some (.slice Ba ma da) := kcell b5 (by simp)
  have f7 : w5.frozen? ⟨w4.heap.size, 0, none⟩ = false := (b5.frozen (p := ⟨w4.heap.size, 0, none⟩) (by simp)).trans (by simp)
  replace oa := own_below (own_below (own_below oa (al' (.cells #[.slice Ba ma da] 28))) b5) (al' (.cells #[.slice Bb mb db] 28))
  replace ob := own_base (base' := WQ.heap.size) (own_below ob (al' (.cells #[.slice Bb mb db] 28))) (by simp; omega)
  have c5 := ((c4.below (al' (.cells #[.slice Ba ma da] 28))).below b5).below (al' (.cells #[.slice Bb mb db] 28))
  have hg5 : WQ.grownBy (w5.alloc (.cells #[.slice Bb mb db] 28)) (some p) := only_of_below (B34.trans ((al' (.cells #[.slice Bb mb db] 28)).mono B34.size)) _
  replace d7 := kcell (al' (.cells #[.slice Bb mb db] 28)) d7
  replace f7 : (w5.alloc (.cells #[.slice Bb mb db] 28)).frozen? ⟨w4.heap.size, 0, none⟩ = false := ((al' (.cells #[.slice Bb mb db] 28)).frozen (p := ⟨w4.heap.size, 0, none⟩) (by show w4.heap.size < _; omega)).trans f7
  have d8 : (w5.alloc (.cells #[.slice Bb mb db] 28)).cell? ⟨w5.heap.size, 0, none⟩ = some (.slice Bb mb db) := by simp
  have f8 : (w5.alloc (.cells #[.slice Bb mb db] 28)).frozen? ⟨w5.heap.size, 0, none⟩ = false := by simp
  have hsz : w5.heap.size + 1 ≤ (w5.alloc (.cells #[.slice Bb mb db] 28)).heap.size := by simp
  clear b4 b5 B34 d64 d65 oo4 oo5 c2 c3 c4
  go_wp2_with fail
  refine (l1Below_any p 3 _ (by omega) (by omega) c5).mono ?_
  rintro e w6 ⟨q0, rfl, hq0, cq, gq⟩
  have hg := hg5
  have hcr := c5
  obtain ⟨G7, hG7⟩ : ∃ g, g = w4.heap.size := ⟨_, rfl⟩
  obtain ⟨G8, hG8⟩ : ∃ g, g = w5.heap.size := ⟨_, rfl⟩
  rw [← hG7] at d7 f7 nb7 ⊢
  rw [← hG8] at d8 f8 na8 hsz ⊢
  have hG78 : G7 < G8 ∧ WQ.heap.size ≤ G7 := by omega
  replace oa := own_only oa gq (by omega)
  replace ob := own_only ob gq (by omega)
  replace hcr := cq
  replace hg := only_trans hg gq
  replace d7 := gcell gq d7 (by omega)
  replace f7 := gfroz gq (by omega) f7 (by omega)
  replace d8 := gcell gq d8 (by omega)
  replace f8 := gfroz gq (by omega) f8 (by omega)
  have hs0 := gq.size
  replace hsz := Nat.le_trans hsz hs0
  clear hs0 gq cq
  clear hg5 c5 hG7 hG8 hz4 hz5
  have ka := ko
  have kb := ko
  have hmb : mb ≤ 3 := by omega
  have hma : ma ≤ 3 := by omega
  clear ral rbl rol
  go_wp2
  go_loopw [9] (fun v wr => ∃ (q : Int) (Ba : Option Addr) (ma da : Nat) (la : List Fld), (0 ≤ q ∧ (ma : Int) + q ≤ 5) ∧ v = .int .i64 q ∧ wr.ownsRow WQ.heap.size 91 2 (.slice Ba ma da) ma (fl la) ∧ okF la ∧ (∀ ad, Ba = some ad → ad.block ≠ G8) ∧ Cur wr p ∧ WQ.grownBy wr (some p) ∧ wr.cell? ⟨G7, 0, none⟩ = some (.slice Ba ma da) ∧ wr.frozen? ⟨G7, 0, none⟩ = false ∧ wr.ownsRow WQ.heap.size 91 2 (.slice Bb mb db) mb (fl lo) ∧ wr.cell? ⟨G8, 0, none⟩ = some (.slice Bb mb db) ∧ wr.frozen? ⟨G8, 0, none⟩ = false ∧ G8 + 1 ≤ wr.heap.size) (fun v _ => (intOf v).toNat)
  case atStart => exact ⟨q0, Ba, ma, da, lo, by omega, rfl, oa, ka, na8, hcr, hg, d7, f7, ob, d8, f8, hsz⟩
  case round =>
    clear hq0 hma oa ka na8 hcr hg d7 f7 ob d8 f8 hsz
    obtain ⟨q, Ba, ma, da, la, hq, rfl, oa, ka, na8, hcr, hg, d7, f7, ob, d8, f8, hsz⟩ := hrel
    by_cases hq1 : 0 < q
    · go_wp2
      refine wp_region_held_drew (S := fun _ => True) (by kernel_rfl) trivial (fun hHeld => ?_)
      clear hHeld
      replace oa := (show World.ownsRow wr.drew _ _ _ _ _ _ from oa)
      replace ob := (show World.ownsRow wr.drew _ _ _ _ _ _ from ob)
      replace hcr := (show Cur wr.drew p from hcr)
      replace hg := only_drew hg
      replace hsz := (show G8 + 1 ≤ wr.drew.heap.size from hsz)
      replace d7 := (show wr.drew.cell? ⟨G7, 0, none⟩ = _ from d7)
      replace f7 := (show wr.drew.frozen? ⟨G7, 0, none⟩ = _ from f7)
      replace d8 := (show wr.drew.cell? ⟨G8, 0, none⟩ = _ from d8)
      replace f8 := (show wr.drew.frozen? ⟨G8, 0, none⟩ = _ from f8)
      generalize wr.drew = wd at oa ob hcr hg hsz d7 f7 d8 f8 ⊢
      refine takeD (i := 1) (d := some 27) (v := ?_) _ rfl rfl (by kernel_rfl) (by kernel_rfl) (by kernel_rfl) (fun _ _ _ h => h) (Or.inl ⟨by rfl, ?_⟩) trivial ?_
      rotate_left
      · (intro W hSw; clear hSw; go_simp; try with_reducible rfl)
      try simp only [Act.put, List.setIfInBounds_toArray, List.set_cons_zero, List.set_cons_succ]
      refine takeD (i := 3) (d := some 29) (v := ?_) _ rfl rfl (by kernel_rfl) (by kernel_rfl) (by kernel_rfl) (fun _ _ _ h => h) (Or.inl ⟨by rfl, ?_⟩) trivial ?_
      rotate_left
      · (intro W hSw; clear hSw; go_simp; try with_reducible rfl)
      try simp only [Act.put, List.setIfInBounds_toArray, List.set_cons_zero, List.set_cons_succ]
      refine wpAnyH_ready (rs := [0, 2]) (by kernel_rfl) (by simp) ?_
      refine AllReadyH.cons rfl (fun K hK => ?_) (AllReadyH.cons rfl (fun K hK => ?_) AllReadyH.nil)
      · go_simp
        refine hK.out _ _ trivial (fun hHeld => ?_)
        clear hHeld hK K
        try simp only [Act.put, List.setIfInBounds_toArray, List.set_cons_zero, List.set_cons_succ]
        refine wpAnyH_ready (rs := [2]) (by kernel_rfl) (by simp) ?_
        refine AllReadyH.cons rfl (fun K hK => ?_) AllReadyH.nil
        go_simp
        refine (l5Name_any p _ hcr).mono ?_; rintro e W2 ⟨s, rfl, hs, cq, gq⟩
        try go_wp2_with fail
        replace oa := own_only oa gq (by omega)
        replace ob := own_only ob gq (by omega)
        replace hcr := cq
        replace hg := only_trans hg gq
        replace d7 := gcell gq d7 (by omega)
        replace f7 := gfroz gq (by omega) f7 (by omega)
        replace d8 := gcell gq d8 (by omega)
        replace f8 := gfroz gq (by omega) f8 (by omega)
        have hs0 := gq.size
        replace hsz := Nat.le_trans hsz hs0
        clear hs0 gq cq
        refine hK.out _ _ trivial (fun hHeld => ?_)
        clear hHeld hK K
        try simp only [Act.put, List.setIfInBounds_toArray, List.set_cons_zero, List.set_cons_succ]
        refine wpAnyH_ready (rs := [4]) (by kernel_rfl) (by simp) ?_
        refine AllReadyH.cons rfl (fun K hK => ?_) AllReadyH.nil
        go_simp
        refine (l1Below_any p 6 _ (by omega) (by omega) hcr).mono ?_; rintro e W4 ⟨x, rfl, hx, cq, gq⟩
        try go_wp2_with fail
        replace oa := own_only oa gq (by omega)
        replace ob := own_only ob gq (by omega)
        replace hcr := cq
        replace hg := only_trans hg gq
        replace d7 := gcell gq d7 (by omega)
        replace f7 := gfroz gq (by omega) f7 (by omega)
        replace d8 := gcell gq d8 (by omega)
        replace f8 := gfroz gq (by omega) f8 (by omega)
        have hs0 := gq.size
        replace hsz := Nat.le_trans hsz hs0
        clear hs0 gq cq
        refine hK.out _ _ trivial (fun hHeld => ?_)
        clear hHeld hK K
        try simp only [Act.put, List.setIfInBounds_toArray, List.set_cons_zero, List.set_cons_succ]
        refine wpAnyH_ready (rs := [5]) (by kernel_rfl) (by simp) ?_
        refine AllReadyH.cons rfl (fun K hK => ?_) AllReadyH.nil
        go_simp
        obtain ⟨lr, rr, hlr⟩ : ∃ lr rr, (lr, rr) = setR la s x := ⟨_, _, rfl⟩
        have hszc := hsz
        refine (specSetField_any Ba ma da _ la s x lr rr _ (by omega) oa ka (by unfold maxLen; omega) (by omega) hlr).mono ?_; rintro e W5 ⟨A3, n3, c3, rfl, o3, b3⟩
        try go_wp2_with fail
        have hok3 := setR_ok hlr ka (by unfold maxLen; omega) (by omega)
        have hn3 := own_lenF o3
        have hm3 := own_lenF oa
        have hl3 := setR_len2 hlr
        have cq := hcr.below b3
        have gq := only_of_below b3 (some p)
        replace oa := own_only oa gq (by omega)
        replace ob := own_only ob gq (by omega)
        replace hcr := cq
        replace hg := only_trans hg gq
        replace d7 := gcell gq d7 (by omega)
        replace f7 := gfroz gq (by omega) f7 (by omega)
        replace d8 := gcell gq d8 (by omega)
        replace f8 := gfroz gq (by omega) f8 (by omega)
        have hs0 := gq.size
        replace hsz := Nat.le_trans hsz hs0
        clear hs0 gq cq
        clear hlr
        refine hK.out _ _ trivial (fun hHeld => ?_)
        clear hHeld hK K
        try simp only [Act.put, List.setIfInBounds_toArray, List.set_cons_zero, List.set_cons_succ]
        refine takeD (i := 6) (d := some 25) (v := ?_) _ rfl rfl (by kernel_rfl) (by kernel_rfl) (by kernel_rfl) (fun _ _ _ h => h) (Or.inl ⟨by rfl, ?_⟩) trivial ?_
        rotate_left
        · (intro W hSw; clear hSw; go_simp; try with_reducible rfl)
        try simp only [Act.put, List.setIfInBounds_toArray, List.set_cons_zero, List.set_cons_succ]
        refine takeD (i := 7) (d := some 32) (v := ?_) _ rfl rfl (by kernel_rfl) (by kernel_rfl) (by kernel_rfl) (fun _ _ _ h => h) (Or.inl ⟨by rfl, ?_⟩) trivial ?_
        rotate_left
        · (intro W hSw; clear hSw; go_simp; try with_reducible rfl)
        try simp only [Act.put, List.setIfInBounds_toArray, List.set_cons_zero, List.set_cons_succ]
        refine takeD (i := 8) (d := some 33) (v := ?_) _ rfl rfl (by kernel_rfl) (by kernel_rfl) (by kernel_rfl) (fun _ _ _ h => h) (Or.inl ⟨by rfl, ?_⟩) trivial ?_
        rotate_left
        · (intro W hSw; clear hSw; go_simp; try with_reducible rfl)
        try simp only [Act.put, List.setIfInBounds_toArray, List.set_cons_zero, List.set_cons_succ]
        refine wpAnyH_ready (rs := [9]) (by kernel_rfl) (by simp) ?_
        refine AllReadyH.cons rfl (fun K hK => ?_) AllReadyH.nil
        go_simp
        refine hK.out _ _ trivial (fun hHeld => ?_)
        clear hHeld hK K
        try simp only [Act.put, List.setIfInBounds_toArray, List.set_cons_zero, List.set_cons_succ]
        refine wpAnyH_done (by kernel_rfl) ?_ _
        have N8 : Hid (∀ ad, A3 = some ad → ad.block ≠ G8) := Lib.hid (fun ad h => by have := (own_rng o3 ad h).1; omega)
        have O8 := Lib.hid (own_base (base' := WQ.heap.size) (ownsRow_setCell_below o3 (a := ⟨G7, 0, none⟩) (by show G7 < _; omega) (.slice A3 n3 c3)) (by omega))
        have P8 := Lib.hid (own_setNe ob (a := ⟨G7, 0, none⟩) (.slice A3 n3 c3) nb7)
        have C8 := Lib.hid (cur_set (v := .slice A3 n3 c3) (b := G7) (o := 0) hcr (by omega))
        have G8_ := Lib.hid (gro_set (v := .slice A3 n3 c3) (b := G7) (o := 0) hg (by omega))
        have dx8 : Hid ((W5.setCell ⟨G7, 0, none⟩ (.slice A3 n3 c3)).cell? ⟨G7, 0, none⟩ = some (.slice A3 n3 c3)) := Lib.hid (by simp [go_sem, d7])
        have fx8 : Hid ((W5.setCell ⟨G7, 0, none⟩ (.slice A3 n3 c3)).frozen? ⟨G7, 0, none⟩ = false) := Lib.hid (by simp [f7])
        have dy8 : Hid ((W5.setCell ⟨G7, 0, none⟩ (.slice A3 n3 c3)).cell? ⟨G8, 0, none⟩ = some (.slice Bb mb db)) := by
          show _ = _
          rw [World.cell?_setCell_far _ ⟨G7, 0, none⟩ ⟨G8, 0, none⟩ _ (by show G7 ≠ G8; omega)]
          exact d8
        have fy8 : Hid ((W5.setCell ⟨G7, 0, none⟩ (.slice A3 n3 c3)).frozen? ⟨G8, 0, none⟩ = false) := Lib.hid (by simp [f8])
        have hs8 : Hid (G8 + 1 ≤ (W5.setCell ⟨G7, 0, none⟩ (.slice A3 n3 c3)).heap.size) := Lib.hid (by simpa using hsz)
        have HQ : Hid (0 ≤ q - 1 ∧ (n3 : Int) + (q - 1) ≤ 5) := Lib.hid (by omega)
        clear o3 b3 hcr hg
        go_wp2
        go_roundw
        case rel => exact ⟨q - 1, A3, n3, c3, lr, HQ.out, by go_num, O8.out, hok3, N8.out, C8.out, G8_.out, dx8.out, fx8.out, P8.out, dy8.out, fy8.out, hs8.out⟩
        case measure => simp [intOf]; omega
      · go_simp
        refine (l5Name_any p _ hcr).mono ?_; rintro e W2 ⟨s, rfl, hs, cq, gq⟩
        try go_wp2_with fail
        replace oa := own_only oa gq (by omega)
        replace ob := own_only ob gq (by omega)
        replace hcr := cq
        replace hg := only_trans hg gq
        replace d7 := gcell gq d7 (by omega)
        replace f7 := gfroz gq (by omega) f7 (by omega)
        replace d8 := gcell gq d8 (by omega)
        replace f8 := gfroz gq (by omega) f8 (by omega)
        have hs0 := gq.size
        replace hsz := Nat.le_trans hsz hs0
        clear hs0 gq cq
        refine hK.out _ _ trivial (fun hHeld => ?_)
        clear hHeld hK K
        try simp only [Act.put, List.setIfInBounds_toArray, List.set_cons_zero, List.set_cons_succ]
        refine wpAnyH_ready (rs := [0, 4]) (by kernel_rfl) (by simp) ?_
        refine AllReadyH.cons rfl (fun K hK => ?_) (AllReadyH.cons rfl (fun K hK => ?_) AllReadyH.nil)
        · go_simp
          refine hK.out _ _ trivial (fun hHeld => ?_)
          clear hHeld hK K
          try simp only [Act.put, List.setIfInBounds_toArray, List.set_cons_zero, List.set_cons_succ]
          refine wpAnyH_ready (rs := [4]) (by kernel_rfl) (by simp) ?_
          refine AllReadyH.cons rfl (fun K hK => ?_) AllReadyH.nil
          go_simp
          refine (l1Below_any p 6 _ (by omega) (by omega) hcr).mono ?_; rintro e W4 ⟨x, rfl, hx, cq, gq⟩
          try go_wp2_with fail
          replace oa := own_only oa gq (by omega)
          replace ob := own_only ob gq (by omega)
          replace hcr := cq
          replace hg := only_trans hg gq
          replace d7 := gcell gq d7 (by omega)
          replace f7 := gfroz gq (by omega) f7 (by omega)
          replace d8 := gcell gq d8 (by omega)
          replace f8 := gfroz gq (by omega) f8 (by omega)
          have hs0 := gq.size
          replace hsz := Nat.le_trans hsz hs0
          clear hs0 gq cq
          refine hK.out _ _ trivial (fun hHeld => ?_)
          clear hHeld hK K
          try simp only [Act.put, List.setIfInBounds_toArray, List.set_cons_zero, List.set_cons_succ]
          refine wpAnyH_ready (rs := [5]) (by kernel_rfl) (by simp) ?_
          refine AllReadyH.cons rfl (fun K hK => ?_) AllReadyH.nil
          go_simp
          obtain ⟨lr, rr, hlr⟩ : ∃ lr rr, (lr, rr) = setR la s x := ⟨_, _, rfl⟩
          have hszc := hsz
          refine (specSetField_any Ba ma da _ la s x lr rr _ (by omega) oa ka (by unfold maxLen; omega) (by omega) hlr).mono ?_; rintro e W5 ⟨A3, n3, c3, rfl, o3, b3⟩
          try go_wp2_with fail
          have hok3 := setR_ok hlr ka (by unfold maxLen; omega) (by omega)
          have hn3 := own_lenF o3
          have hm3 := own_lenF oa
          have hl3 := setR_len2 hlr
          have cq := hcr.below b3
          have gq := only_of_below b3 (some p)
          replace oa := own_only oa gq (by omega)
          replace ob := own_only ob gq (by omega)
          replace hcr := cq
          replace hg := only_trans hg gq
          replace d7 := gcell gq d7 (by omega)
          replace f7 := gfroz gq (by omega) f7 (by omega)
          replace d8 := gcell gq d8 (by omega)
          replace f8 := gfroz gq (by omega) f8 (by omega)
          have hs0 := gq.size
          replace hsz := Nat.le_trans hsz hs0
          clear hs0 gq cq
          clear hlr
          refine hK.out _ _ trivial (fun hHeld => ?_)
          clear hHeld hK K
          try simp only [Act.put, List.setIfInBounds_toArray, List.set_cons_zero, List.set_cons_succ]
          refine takeD (i := 6) (d := some 25) (v := ?_) _ rfl rfl (by kernel_rfl) (by kernel_rfl) (by kernel_rfl) (fun _ _ _ h => h) (Or.inl ⟨by rfl, ?_⟩) trivial ?_
          rotate_left
          · (intro W hSw; clear hSw; go_simp; try with_reducible rfl)
          try simp only [Act.put, List.setIfInBounds_toArray, List.set_cons_zero, List.set_cons_succ]
          refine takeD (i := 7) (d := some 32) (v := ?_) _ rfl rfl (by kernel_rfl) (by kernel_rfl) (by kernel_rfl) (fun _ _ _ h => h) (Or.inl ⟨by rfl, ?_⟩) trivial ?_
          rotate_left
          · (intro W hSw; clear hSw; go_simp; try with_reducible rfl)
          try simp only [Act.put, List.setIfInBounds_toArray, List.set_cons_zero, List.set_cons_succ]
          refine takeD (i := 8) (d := some 33) (v := ?_) _ rfl rfl (by kernel_rfl) (by kernel_rfl) (by kernel_rfl) (fun _ _ _ h => h) (Or.inl ⟨by rfl, ?_⟩) trivial ?_
          rotate_left
          · (intro W hSw; clear hSw; go_simp; try with_reducible rfl)
          try simp only [Act.put, List.setIfInBounds_toArray, List.set_cons_zero, List.set_cons_succ]
          refine wpAnyH_ready (rs := [9]) (by kernel_rfl) (by simp) ?_
          refine AllReadyH.cons rfl (fun K hK => ?_) AllReadyH.nil
          go_simp
          refine hK.out _ _ trivial (fun hHeld => ?_)
          clear hHeld hK K
          try simp only [Act.put, List.setIfInBounds_toArray, List.set_cons_zero, List.set_cons_succ]
          refine wpAnyH_done (by kernel_rfl) ?_ _
          have N8 : Hid (∀ ad, A3 = some ad → ad.block ≠ G8) := Lib.hid (fun ad h => by have := (own_rng o3 ad h).1; omega)
          have O8 := Lib.hid (own_base (base' := WQ.heap.size) (ownsRow_setCell_below o3 (a := ⟨G7, 0, none⟩) (by show G7 < _; omega) (.slice A3 n3 c3)) (by omega))
          have P8 := Lib.hid (own_setNe ob (a := ⟨G7, 0, none⟩) (.slice A3 n3 c3) nb7)
          have C8 := Lib.hid (cur_set (v := .slice A3 n3 c3) (b := G7) (o := 0) hcr (by omega))
          have G8_ := Lib.hid (gro_set (v := .slice A3 n3 c3) (b := G7) (o := 0) hg (by omega))
          have dx8 : Hid ((W5.setCell ⟨G7, 0, none⟩ (.slice A3 n3 c3)).cell? ⟨G7, 0, none⟩ = some (.slice A3 n3 c3)) := Lib.hid (by simp [go_sem, d7])
          have fx8 : Hid ((W5.setCell ⟨G7, 0, none⟩ (.slice A3 n3 c3)).frozen? ⟨G7, 0, none⟩ = false) := Lib.hid (by simp [f7])
          have dy8 : Hid ((W5.setCell ⟨G7, 0, none⟩ (.slice A3 n3 c3)).cell? ⟨G8, 0, none⟩ = some (.slice Bb mb db)) := by
            show _ = _
            rw [World.cell?_setCell_far _ ⟨G7, 0, none⟩ ⟨G8, 0, none⟩ _ (by show G7 ≠ G8; omega)]
            exact d8
          have fy8 : Hid ((W5.setCell ⟨G7, 0, none⟩ (.slice A3 n3 c3)).frozen? ⟨G8, 0, none⟩ = false) := Lib.hid (by simp [f8])
          have hs8 : Hid (G8 + 1 ≤ (W5.setCell ⟨G7, 0, none⟩ (.slice A3 n3 c3)).heap.size) := Lib.hid (by simpa using hsz)
          have HQ : Hid (0 ≤ q - 1 ∧ (n3 : Int) + (q - 1) ≤ 5) := Lib.hid (by omega)
          clear o3 b3 hcr hg
          go_wp2
          go_roundw
          case rel => exact ⟨q - 1, A3, n3, c3, lr, HQ.out, by go_num, O8.out, hok3, N8.out, C8.out, G8_.out, dx8.out, fx8.out, P8.out, dy8.out, fy8.out, hs8.out⟩
          case measure => simp [intOf]; omega
        · go_simp
          refine (l1Below_any p 6 _ (by omega) (by omega) hcr).mono ?_; rintro e W4 ⟨x, rfl, hx, cq, gq⟩
          try go_wp2_with fail
          replace oa := own_only oa gq (by omega)
          replace ob := own_only ob gq (by omega)
          replace hcr := cq
          replace hg := only_trans hg gq
          replace d7 := gcell gq d7 (by omega)
          replace f7 := gfroz gq (by omega) f7 (by omega)
          replace d8 := gcell gq d8 (by omega)
          replace f8 := gfroz gq (by omega) f8 (by omega)
          have hs0 := gq.size
          replace hsz := Nat.le_trans hsz hs0
          clear hs0 gq cq
          refine hK.out _ _ trivial (fun hHeld => ?_)
          clear hHeld hK K
          try simp only [Act.put, List.setIfInBounds_toArray, List.set_cons_zero, List.set_cons_succ]
          refine wpAnyH_ready (rs := [0]) (by kernel_rfl) (by simp) ?_
          refine AllReadyH.cons rfl (fun K hK => ?_) AllReadyH.nil
          go_simp
          refine hK.out _ _ trivial (fun hHeld => ?_)
          clear hHeld hK K
          try simp only [Act.put, List.setIfInBounds_toArray, List.set_cons_zero, List.set_cons_succ]
          refine wpAnyH_ready (rs := [5]) (by kernel_rfl) (by simp) ?_
          refine AllReadyH.cons rfl (fun K hK => ?_) AllReadyH.nil
          go_simp
          obtain ⟨lr, rr, hlr⟩ : ∃ lr rr, (lr, rr) = setR la s x := ⟨_, _, rfl⟩
          have hszc := hsz
          refine (specSetField_any Ba ma da _ la s x lr rr _ (by omega) oa ka (by unfold maxLen; omega) (by omega) hlr).mono ?_; rintro e W5 ⟨A3, n3, c3, rfl, o3, b3⟩
          try go_wp2_with fail
          have hok3 := setR_ok hlr ka (by unfold maxLen; omega) (by omega)
          have hn3 := own_lenF o3
          have hm3 := own_lenF oa
          have hl3 := setR_len2 hlr
          have cq := hcr.below b3
          have gq := only_of_below b3 (some p)
          replace oa := own_only oa gq (by omega)
          replace ob := own_only ob gq (by omega)
          replace hcr := cq
          replace hg := only_trans hg gq
          replace d7 := gcell gq d7 (by omega)
          replace f7 := gfroz gq (by omega) f7 (by omega)
          replace d8 := gcell gq d8 (by omega)
          replace f8 := gfroz gq (by omega) f8 (by omega)
          have hs0 := gq.size
          replace hsz := Nat.le_trans hsz hs0
          clear hs0 gq cq
          clear hlr
          refine hK.out _ _ trivial (fun hHeld => ?_)
          clear hHeld hK K
          try simp only [Act.put, List.setIfInBounds_toArray, List.set_cons_zero, List.set_cons_succ]
          refine takeD (i := 6) (d := some 25) (v := ?_) _ rfl rfl (by kernel_rfl) (by kernel_rfl) (by kernel_rfl) (fun _ _ _ h => h) (Or.inl ⟨by rfl, ?_⟩) trivial ?_
          rotate_left
          · (intro W hSw; clear hSw; go_simp; try with_reducible rfl)
          try simp only [Act.put, List.setIfInBounds_toArray, List.set_cons_zero, List.set_cons_succ]
          refine takeD (i := 7) (d := some 32) (v := ?_) _ rfl rfl (by kernel_rfl) (by kernel_rfl) (by kernel_rfl) (fun _ _ _ h => h) (Or.inl ⟨by rfl, ?_⟩) trivial ?_
          rotate_left
          · (intro W hSw; clear hSw; go_simp; try with_reducible rfl)
          try simp only [Act.put, List.setIfInBounds_toArray, List.set_cons_zero, List.set_cons_succ]
          refine takeD (i := 8) (d := some 33) (v := ?_) _ rfl rfl (by kernel_rfl) (by kernel_rfl) (by kernel_rfl) (fun _ _ _ h => h) (Or.inl ⟨by rfl, ?_⟩) trivial ?_
          rotate_left
          · (intro W hSw; clear hSw; go_simp; try with_reducible rfl)
          try simp only [Act.put, List.setIfInBounds_toArray, List.set_cons_zero, List.set_cons_succ]
          refine wpAnyH_ready (rs := [9]) (by kernel_rfl) (by simp) ?_
          refine AllReadyH.cons rfl (fun K hK => ?_) AllReadyH.nil
          go_simp
          refine hK.out _ _ trivial (fun hHeld => ?_)
          clear hHeld hK K
          try simp only [Act.put, List.setIfInBounds_toArray, List.set_cons_zero, List.set_cons_succ]
          refine wpAnyH_done (by kernel_rfl) ?_ _
          have N8 : Hid (∀ ad, A3 = some ad → ad.block ≠ G8) := Lib.hid (fun ad h => by have := (own_rng o3 ad h).1; omega)
          have O8 := Lib.hid (own_base (base' := WQ.heap.size) (ownsRow_setCell_below o3 (a := ⟨G7, 0, none⟩) (by show G7 < _; omega) (.slice A3 n3 c3)) (by omega))
          have P8 := Lib.hid (own_setNe ob (a := ⟨G7, 0, none⟩) (.slice A3 n3 c3) nb7)
          have C8 := Lib.hid (cur_set (v := .slice A3 n3 c3) (b := G7) (o := 0) hcr (by omega))
          have G8_ := Lib.hid (gro_set (v := .slice A3 n3 c3) (b := G7) (o := 0) hg (by omega))
          have dx8 : Hid ((W5.setCell ⟨G7, 0, none⟩ (.slice A3 n3 c3)).cell? ⟨G7, 0, none⟩ = some (.slice A3 n3 c3)) := Lib.hid (by simp [go_sem, d7])
          have fx8 : Hid ((W5.setCell ⟨G7, 0, none⟩ (.slice A3 n3 c3)).frozen? ⟨G7, 0, none⟩ = false) := Lib.hid (by simp [f7])
          have dy8 : Hid ((W5.setCell ⟨G7, 0, none⟩ (.slice A3 n3 c3)).cell? ⟨G8, 0, none⟩ = some (.slice Bb mb db)) := by
            show _ = _
            rw [World.cell?_setCell_far _ ⟨G7, 0, none⟩ ⟨G8, 0, none⟩ _ (by show G7 ≠ G8; omega)]
            exact d8
          have fy8 : Hid ((W5.setCell ⟨G7, 0, none⟩ (.slice A3 n3 c3)).frozen? ⟨G8, 0, none⟩ = false) := Lib.hid (by simp [f8])
          have hs8 : Hid (G8 + 1 ≤ (W5.setCell ⟨G7, 0, none⟩ (.slice A3 n3 c3)).heap.size) := Lib.hid (by simpa using hsz)
          have HQ : Hid (0 ≤ q - 1 ∧ (n3 : Int) + (q - 1) ≤ 5) := Lib.hid (by omega)
          clear o3 b3 hcr hg
          go_wp2
          go_roundw
          case rel => exact ⟨q - 1, A3, n3, c3, lr, HQ.out, by go_num, O8.out, hok3, N8.out, C8.out, G8_.out, dx8.out, fx8.out, P8.out, dy8.out, fy8.out, hs8.out⟩
          case measure => simp [intOf]; omega
    · skip
      have hq2 : q = 0 := by omega
      subst hq2
      have hma : ma ≤ 5 := by omega
      clear hq hq1
      go_wp2_with fail
      refine (l1Below_any p 3 _ (by omega) (by omega) hcr).mono ?_
      rintro e w7 ⟨q1, rfl, hq1, cq, gq⟩
      replace oa := own_only oa gq (by omega)
      replace ob := own_only ob gq (by omega)
      replace hcr := cq
      replace hg := only_trans hg gq
      replace d7 := gcell gq d7 (by omega)
      replace f7 := gfroz gq (by omega) f7 (by omega)
      replace d8 := gcell gq d8 (by omega)
      replace f8 := gfroz gq (by omega) f8 (by omega)
      have hs0 := gq.size
      replace hsz := Nat.le_trans hsz hs0
      clear hs0 gq cq
      go_wp2
      go_loopw [10] (fun v wr => ∃ (q : Int) (Bb : Option Addr) (mb db : Nat) (lb : List Fld), (0 ≤ q ∧ (mb : Int) + q ≤ 5) ∧ v = .int .i64 q ∧ wr.ownsRow WQ.heap.size 91 2 (.slice Bb mb db) mb (fl lb) ∧ okF lb ∧ (∀ ad, Bb = some ad → ad.block ≠ G7) ∧ Cur wr p ∧ WQ.grownBy wr (some p) ∧ wr.cell? ⟨G8, 0, none⟩ = some (.slice Bb mb db) ∧ wr.frozen? ⟨G8, 0, none⟩ = false ∧ wr.ownsRow WQ.heap.size 91 2 (.slice Ba ma da) ma (fl la) ∧ wr.cell? ⟨G7, 0, none⟩ = some (.slice Ba ma da) ∧ wr.frozen? ⟨G7, 0, none⟩ = false ∧ G8 + 1 ≤ wr.heap.size) (fun v _ => (intOf v).toNat)
      case atStart => exact ⟨q1, Bb, mb, db, lo, by omega, rfl, ob, kb, nb7, hcr, hg, d8, f8, oa, d7, f7, hsz⟩
      case round =>
        clear hq1 hmb ob kb nb7 hcr hg d8 f8 oa d7 f7 hsz
        obtain ⟨q, Bb, mb, db, lb, hq, rfl, ob, kb, nb7, hcr, hg, d8, f8, oa, d7, f7, hsz⟩ := hrel
        by_cases hq1 : 0 < q
        · go_wp2
          refine wp_region_held_drew (S := fun _ => True) (by kernel_rfl) trivial (fun hHeld => ?_)
          clear hHeld
          replace oa := (show World.ownsRow wr.drew _ _ _ _ _ _ from oa)
          replace ob := (show World.ownsRow wr.drew _ _ _ _ _ _ from ob)
          replace hcr := (show Cur wr.drew p from hcr)
          replace hg := only_drew hg
          replace hsz := (show G8 + 1 ≤ wr.drew.heap.size from hsz)
          replace d7 := (show wr.drew.cell? ⟨G7, 0, none⟩ = _ from d7)
          replace f7 := (show wr.drew.frozen? ⟨G7, 0, none⟩ = _ from f7)
          replace d8 := (show wr.drew.cell? ⟨G8, 0, none⟩ = _ from d8)
          replace f8 := (show wr.drew.frozen? ⟨G8, 0, none⟩ = _ from f8)
          generalize wr.drew = wd at oa ob hcr hg hsz d7 f7 d8 f8 ⊢
          refine takeD (i := 1) (d := some 42) (v := ?_) _ rfl rfl (by kernel_rfl) (by kernel_rfl) (by kernel_rfl) (fun _ _ _ h => h) (Or.inl ⟨by rfl, ?_⟩) trivial ?_
          rotate_left
          · (intro W hSw; clear hSw; go_simp; try with_reducible rfl)
          try simp only [Act.put, List.setIfInBounds_toArray, List.set_cons_zero, List.set_cons_succ]
          refine takeD (i := 3) (d := some 44) (v := ?_) _ rfl rfl (by kernel_rfl) (by kernel_rfl) (by kernel_rfl) (fun _ _ _ h => h) (Or.inl ⟨by rfl, ?_⟩) trivial ?_
          rotate_left
          · (intro W hSw; clear hSw; go_simp; try with_reducible rfl)
          try simp only [Act.put, List.setIfInBounds_toArray, List.set_cons_zero, List.set_cons_succ]
          refine wpAnyH_ready (rs := [0, 2]) (by kernel_rfl) (by simp) ?_
          refine AllReadyH.cons rfl (fun K hK => ?_) (AllReadyH.cons rfl (fun K hK => ?_) AllReadyH.nil)
          · go_simp
            refine hK.out _ _ trivial (fun hHeld => ?_)
            clear hHeld hK K
            try simp only [Act.put, List.setIfInBounds_toArray, List.set_cons_zero, List.set_cons_succ]
            refine wpAnyH_ready (rs := [2]) (by kernel_rfl) (by simp) ?_
            refine AllReadyH.cons rfl (fun K hK => ?_) AllReadyH.nil
            go_simp
            refine (l5Name_any p _ hcr).mono ?_; rintro e W2 ⟨s, rfl, hs, cq, gq⟩
            try go_wp2_with fail
            replace oa := own_only oa gq (by omega)
            replace ob := own_only ob gq (by omega)
            replace hcr := cq
            replace hg := only_trans hg gq
            replace d7 := gcell gq d7 (by omega)
            replace f7 := gfroz gq (by omega) f7 (by omega)
            replace d8 := gcell gq d8 (by omega)
            replace f8 := gfroz gq (by omega) f8 (by omega)
            have hs0 := gq.size
            replace hsz := Nat.le_trans hsz hs0
            clear hs0 gq cq
            refine hK.out _ _ trivial (fun hHeld => ?_)
            clear hHeld hK K
            try simp only [Act.put, List.setIfInBounds_toArray, List.set_cons_zero, List.set_cons_succ]
            refine wpAnyH_ready (rs := [4]) (by kernel_rfl) (by simp) ?_
            refine AllReadyH.cons rfl (fun K hK => ?_) AllReadyH.nil
            go_simp
            refine (l1Below_any p 6 _ (by omega) (by omega) hcr).mono ?_; rintro e W4 ⟨x, rfl, hx, cq, gq⟩
            try go_wp2_with fail
            replace oa := own_only oa gq (by omega)
            replace ob := own_only ob gq (by omega)
            replace hcr := cq
            replace hg := only_trans hg gq
            replace d7 := gcell gq d7 (by omega)
            replace f7 := gfroz gq (by omega) f7 (by omega)
            replace d8 := gcell gq d8 (by omega)
            replace f8 := gfroz gq (by omega) f8 (by omega)
            have hs0 := gq.size
            replace hsz := Nat.le_trans hsz hs0
            clear hs0 gq cq
            refine hK.out _ _ trivial (fun hHeld => ?_)
            clear hHeld hK K
            try simp only [Act.put, List.setIfInBounds_toArray, List.set_cons_zero, List.set_cons_succ]
            refine wpAnyH_ready (rs := [5]) (by kernel_rfl) (by simp) ?_
            refine AllReadyH.cons rfl (fun K hK => ?_) AllReadyH.nil
            go_simp
            obtain ⟨lr, rr, hlr⟩ : ∃ lr rr, (lr, rr) = setR lb s x := ⟨_, _, rfl⟩
            have hszc := hsz
            refine (specSetField_any Bb mb db _ lb s x lr rr _ (by omega) ob kb (by unfold maxLen; omega) (by omega) hlr).mono ?_; rintro e W5 ⟨A3, n3, c3, rfl, o3, b3⟩
            try go_wp2_with fail
            have hok3 := setR_ok hlr kb (by unfold maxLen; omega) (by omega)
            have hn3 := own_lenF o3
            have hm3 := own_lenF ob
            have hl3 := setR_len2 hlr
            have cq := hcr.below b3
            have gq := only_of_below b3 (some p)
            replace oa := own_only oa gq (by omega)
            replace ob := own_only ob gq (by omega)
            replace hcr := cq
            replace hg := only_trans hg gq
            replace d7 := gcell gq d7 (by omega)
            replace f7 := gfroz gq (by omega) f7 (by omega)
            replace d8 := gcell gq d8 (by omega)
            replace f8 := gfroz gq (by omega) f8 (by omega)
            have hs0 := gq.size
            replace hsz := Nat.le_trans hsz hs0
            clear hs0 gq cq
            clear hlr
            refine hK.out _ _ trivial (fun hHeld => ?_)
            clear hHeld hK K
            try simp only [Act.put, List.setIfInBounds_toArray, List.set_cons_zero, List.set_cons_succ]
            refine takeD (i := 6) (d := some 40) (v := ?_) _ rfl rfl (by kernel_rfl) (by kernel_rfl) (by kernel_rfl) (fun _ _ _ h => h) (Or.inl ⟨by rfl, ?_⟩) trivial ?_
            rotate_left
            · (intro W hSw; clear hSw; go_simp; try with_reducible rfl)
            try simp only [Act.put, List.setIfInBounds_toArray, List.set_cons_zero, List.set_cons_succ]
            refine takeD (i := 7) (d := some 47) (v := ?_) _ rfl rfl (by kernel_rfl) (by kernel_rfl) (by kernel_rfl) (fun _ _ _ h => h) (Or.inl ⟨by rfl, ?_⟩) trivial ?_
            rotate_left
            · (intro W hSw; clear hSw; go_simp; try with_reducible rfl)
            try simp only [Act.put, List.setIfInBounds_toArray, List.set_cons_zero, List.set_cons_succ]
            refine takeD (i := 8) (d := some 48) (v := ?_) _ rfl rfl (by kernel_rfl) (by kernel_rfl) (by kernel_rfl) (fun _ _ _ h => h) (Or.inl ⟨by rfl, ?_⟩) trivial ?_
            rotate_left
            · (intro W hSw; clear hSw; go_simp; try with_reducible rfl)
            try simp only [Act.put, List.setIfInBounds_toArray, List.set_cons_zero, List.set_cons_succ]
            refine wpAnyH_ready (rs := [9]) (by kernel_rfl) (by simp) ?_
            refine AllReadyH.cons rfl (fun K hK => ?_) AllReadyH.nil
            go_simp
            refine hK.out _ _ trivial (fun hHeld => ?_)
            clear hHeld hK K
            try simp only [Act.put, List.setIfInBounds_toArray, List.set_cons_zero, List.set_cons_succ]
            refine wpAnyH_done (by kernel_rfl) ?_ _
            have N8 : Hid (∀ ad, A3 = some ad → ad.block ≠ G7) := Lib.hid (fun ad h => by have := (own_rng o3 ad h).1; omega)
            have O8 := Lib.hid (own_base (base' := WQ.heap.size) (ownsRow_setCell_below o3 (a := ⟨G8, 0, none⟩) (by show G8 < _; omega) (.slice A3 n3 c3)) (by omega))
            have P8 := Lib.hid (own_setNe oa (a := ⟨G8, 0, none⟩) (.slice A3 n3 c3) na8)
            have C8 := Lib.hid (cur_set (v := .slice A3 n3 c3) (b := G8) (o := 0) hcr (by omega))
            have G8_ := Lib.hid (gro_set (v := .slice A3 n3 c3) (b := G8) (o := 0) hg (by omega))
            have dx8 : Hid ((W5.setCell ⟨G8, 0, none⟩ (.slice A3 n3 c3)).cell? ⟨G8, 0, none⟩ = some (.slice A3 n3 c3)) := Lib.hid (by simp [go_sem, d8])
            have fx8 : Hid ((W5.setCell ⟨G8, 0, none⟩ (.slice A3 n3 c3)).frozen? ⟨G8, 0, none⟩ = false) := Lib.hid (by simp [f8])
            have dy8 : Hid ((W5.setCell ⟨G8, 0, none⟩ (.slice A3 n3 c3)).cell? ⟨G7, 0, none⟩ = some (.slice Ba ma da)) := by
              show _ = _
              rw [World.cell?_setCell_far _ ⟨G8, 0, none⟩ ⟨G7, 0, none⟩ _ (by show G8 ≠ G7; omega)]
              exact d7
            have fy8 : Hid ((W5.setCell ⟨G8, 0, none⟩ (.slice A3 n3 c3)).frozen? ⟨G7, 0, none⟩ = false) := Lib.hid (by simp [f7])
            have hs8 : Hid (G8 + 1 ≤ (W5.setCell ⟨G8, 0, none⟩ (.slice A3 n3 c3)).heap.size) := Lib.hid (by simpa using hsz)
            have HQ : Hid (0 ≤ q - 1 ∧ (n3 : Int) + (q - 1) ≤ 5) := Lib.hid (by omega)
            clear o3 b3 hcr hg
            go_wp2
            go_roundw
            case rel => exact ⟨q - 1, A3, n3, c3, lr, HQ.out, by go_num, O8.out, hok3, N8.out, C8.out, G8_.out, dx8.out, fx8.out, P8.out, dy8.out, fy8.out, hs8.out⟩
            case measure => simp [intOf]; omega
          · go_simp
            refine (l5Name_any p _ hcr).mono ?_; rintro e W2 ⟨s, rfl, hs, cq, gq⟩
            try go_wp2_with fail
            replace oa := own_only oa gq (by omega)
            replace ob := own_only ob gq (by omega)
            replace hcr := cq
            replace hg := only_trans hg gq
            replace d7 := gcell gq d7 (by omega)
            replace f7 := gfroz gq (by omega) f7 (by omega)
            replace d8 := gcell gq d8 (by omega)
            replace f8 := gfroz gq (by omega) f8 (by omega)
            have hs0 := gq.size
            replace hsz := Nat.le_trans hsz hs0
            clear hs0 gq cq
            refine hK.out _ _ trivial (fun hHeld => ?_)
            clear hHeld hK K
            try simp only [Act.put, List.setIfInBounds_toArray, List.set_cons_zero, List.set_cons_succ]
            refine wpAnyH_ready (rs := [0, 4]) (by kernel_rfl) (by simp) ?_
            refine AllReadyH.cons rfl (fun K hK => ?_) (AllReadyH.cons rfl (fun K hK => ?_) AllReadyH.nil)
            · go_simp
              refine hK.out _ _ trivial (fun hHeld => ?_)
              clear hHeld hK K
              try simp only [Act.put, List.setIfInBounds_toArray, List.set_cons_zero, List.set_cons_succ]
              refine wpAnyH_ready (rs := [4]) (by kernel_rfl) (by simp) ?_
              refine AllReadyH.cons rfl (fun K hK => ?_) AllReadyH.nil
              go_simp
              refine (l1Below_any p 6 _ (by omega) (by omega) hcr).mono ?_; rintro e W4 ⟨x, rfl, hx, cq, gq⟩
              try go_wp2_with fail
              replace oa := own_only oa gq (by omega)
              replace ob := own_only ob gq (by omega)
              replace hcr := cq
              replace hg := only_trans hg gq
              replace d7 := gcell gq d7 (by omega)
              replace f7 := gfroz gq (by omega) f7 (by omega)
              replace d8 := gcell gq d8 (by omega)
              replace f8 := gfroz gq (by omega) f8 (by omega)
              have hs0 := gq.size
              replace hsz := Nat.le_trans hsz hs0
              clear hs0 gq cq
              refine hK.out _ _ trivial (fun hHeld => ?_)
              clear hHeld hK K
              try simp only [Act.put, List.setIfInBounds_toArray, List.set_cons_zero, List.set_cons_succ]
              refine wpAnyH_ready (rs := [5]) (by kernel_rfl) (by simp) ?_
              refine AllReadyH.cons rfl (fun K hK => ?_) AllReadyH.nil
              go_simp
              obtain ⟨lr, rr, hlr⟩ : ∃ lr rr, (lr, rr) = setR lb s x := ⟨_, _, rfl⟩
              have hszc := hsz
              refine (specSetField_any Bb mb db _ lb s x lr rr _ (by omega) ob kb (by unfold maxLen; omega) (by omega) hlr).mono ?_; rintro e W5 ⟨A3, n3, c3, rfl, o3, b3⟩
              try go_wp2_with fail
              have hok3 := setR_ok hlr kb (by unfold maxLen; omega) (by omega)
              have hn3 := own_lenF o3
              have hm3 := own_lenF ob
              have hl3 := setR_len2 hlr
              have cq := hcr.below b3
              have gq := only_of_below b3 (some p)
              replace oa := own_only oa gq (by omega)
              replace ob := own_only ob gq (by omega)
              replace hcr := cq
              replace hg := only_trans hg gq
              replace d7 := gcell gq d7 (by omega)
              replace f7 := gfroz gq (by omega) f7 (by omega)
              replace d8 := gcell gq d8 (by omega)
              replace f8 := gfroz gq (by omega) f8 (by omega)
              have hs0 := gq.size
              replace hsz := Nat.le_trans hsz hs0
              clear hs0 gq cq
              clear hlr
              refine hK.out _ _ trivial (fun hHeld => ?_)
              clear hHeld hK K
              try simp only [Act.put, List.setIfInBounds_toArray, List.set_cons_zero, List.set_cons_succ]
              refine takeD (i := 6) (d := some 40) (v := ?_) _ rfl rfl (by kernel_rfl) (by kernel_rfl) (by kernel_rfl) (fun _ _ _ h => h) (Or.inl ⟨by rfl, ?_⟩) trivial ?_
              rotate_left
              · (intro W hSw; clear hSw; go_simp; try with_reducible rfl)
              try simp only [Act.put, List.setIfInBounds_toArray, List.set_cons_zero, List.set_cons_succ]
              refine takeD (i := 7) (d := some 47) (v := ?_) _ rfl rfl (by kernel_rfl) (by kernel_rfl) (by kernel_rfl) (fun _ _ _ h => h) (Or.inl ⟨by rfl, ?_⟩) trivial ?_
              rotate_left
              · (intro W hSw; clear hSw; go_simp; try with_reducible rfl)
              try simp only [Act.put, List.setIfInBounds_toArray, List.set_cons_zero, List.set_cons_succ]
              refine takeD (i := 8) (d := some 48) (v := ?_) _ rfl rfl (by kernel_rfl) (by kernel_rfl) (by kernel_rfl) (fun _ _ _ h => h) (Or.inl ⟨by rfl, ?_⟩) trivial ?_
              rotate_left
              · (intro W hSw; clear hSw; go_simp; try with_reducible rfl)
              try simp only [Act.put, List.setIfInBounds_toArray, List.set_cons_zero, List.set_cons_succ]
              refine wpAnyH_ready (rs := [9]) (by kernel_rfl) (by simp) ?_
              refine AllReadyH.cons rfl (fun K hK => ?_) AllReadyH.nil
              go_simp
              refine hK.out _ _ trivial (fun hHeld => ?_)
              clear hHeld hK K
              try simp only [Act.put, List.setIfInBounds_toArray, List.set_cons_zero, List.set_cons_succ]
              refine wpAnyH_done (by kernel_rfl) ?_ _
              have N8 : Hid (∀ ad, A3 = some ad → ad.block ≠ G7) := Lib.hid (fun ad h => by have := (own_rng o3 ad h).1; omega)
              have O8 := Lib.hid (own_base (base' := WQ.heap.size) (ownsRow_setCell_below o3 (a := ⟨G8, 0, none⟩) (by show G8 < _; omega) (.slice A3 n3 c3)) (by omega))
              have P8 := Lib.hid (own_setNe oa (a := ⟨G8, 0, none⟩) (.slice A3 n3 c3) na8)
              have C8 := Lib.hid (cur_set (v := .slice A3 n3 c3) (b := G8) (o := 0) hcr (by omega))
              have G8_ := Lib.hid (gro_set (v := .slice A3 n3 c3) (b := G8) (o := 0) hg (by omega))
              have dx8 : Hid ((W5.setCell ⟨G8, 0, none⟩ (.slice A3 n3 c3)).cell? ⟨G8, 0, none⟩ = some (.slice A3 n3 c3)) := Lib.hid (by simp [go_sem, d8])
              have fx8 : Hid ((W5.setCell ⟨G8, 0, none⟩ (.slice A3 n3 c3)).frozen? ⟨G8, 0, none⟩ = false) := Lib.hid (by simp [f8])
              have dy8 : Hid ((W5.setCell ⟨G8, 0, none⟩ (.slice A3 n3 c3)).cell? ⟨G7, 0, none⟩ = some (.slice Ba ma da)) := by
                show _ = _
                rw [World.cell?_setCell_far _ ⟨G8, 0, none⟩ ⟨G7, 0, none⟩ _ (by show G8 ≠ G7; omega)]
                exact d7
              have fy8 : Hid ((W5.setCell ⟨G8, 0, none⟩ (.slice A3 n3 c3)).frozen? ⟨G7, 0, none⟩ = false) := Lib.hid (by simp [f7])
              have hs8 : Hid (G8 + 1 ≤ (W5.setCell ⟨G8, 0, none⟩ (.slice A3 n3 c3)).heap.size) := Lib.hid (by simpa using hsz)
              have HQ : Hid (0 ≤ q - 1 ∧ (n3 : Int) + (q - 1) ≤ 5) := Lib.hid (by omega)
              clear o3 b3 hcr hg
              go_wp2
              go_roundw
              case rel => exact ⟨q - 1, A3, n3, c3, lr, HQ.out, by go_num, O8.out, hok3, N8.out, C8.out, G8_.out, dx8.out, fx8.out, P8.out, dy8.out, fy8.out, hs8.out⟩
              case measure => simp [intOf]; omega
            · go_simp
              refine (l1Below_any p 6 _ (by omega) (by omega) hcr).mono ?_; rintro e W4 ⟨x, rfl, hx, cq, gq⟩
              try go_wp2_with fail
              replace oa := own_only oa gq (by omega)
              replace ob := own_only ob gq (by omega)
              replace hcr := cq
              replace hg := only_trans hg gq
              replace d7 := gcell gq d7 (by omega)
              replace f7 := gfroz gq (by omega) f7 (by omega)
              replace d8 := gcell gq d8 (by omega)
              replace f8 := gfroz gq (by omega) f8 (by omega)
              have hs0 := gq.size
              replace hsz := Nat.le_trans hsz hs0
              clear hs0 gq cq
              refine hK.out _ _ trivial (fun hHeld => ?_)
              clear hHeld hK K
              try simp only [Act.put, List.setIfInBounds_toArray, List.set_cons_zero, List.set_cons_succ]
              refine wpAnyH_ready (rs := [0]) (by kernel_rfl) (by simp) ?_
              refine AllReadyH.cons rfl (fun K hK => ?_) AllReadyH.nil
              go_simp
              refine hK.out _ _ trivial (fun hHeld => ?_)
              clear hHeld hK K
              try simp only [Act.put, List.setIfInBounds_toArray, List.set_cons_zero, List.set_cons_succ]
              refine wpAnyH_ready (rs := [5]) (by kernel_rfl) (by simp) ?_
              refine AllReadyH.cons rfl (fun K hK => ?_) AllReadyH.nil
              go_simp
              obtain ⟨lr, rr, hlr⟩ : ∃ lr rr, (lr, rr) = setR lb s x := ⟨_, _, rfl⟩
              have hszc := hsz
              refine (specSetField_any Bb mb db _ lb s x lr rr _ (by omega) ob kb (by unfold maxLen; omega) (by omega) hlr).mono ?_; rintro e W5 ⟨A3, n3, c3, rfl, o3, b3⟩
              try go_wp2_with fail
              have hok3 := setR_ok hlr kb (by unfold maxLen; omega) (by omega)
              have hn3 := own_lenF o3
              have hm3 := own_lenF ob
              have hl3 := setR_len2 hlr
              have cq := hcr.below b3
              have gq := only_of_below b3 (some p)
              replace oa := own_only oa gq (by omega)
              replace ob := own_only ob gq (by omega)
              replace hcr := cq
              replace hg := only_trans hg gq
              replace d7 := gcell gq d7 (by omega)
              replace f7 := gfroz gq (by omega) f7 (by omega)
              replace d8 := gcell gq d8 (by omega)
              replace f8 := gfroz gq (by omega) f8 (by omega)
              have hs0 := gq.size
              replace hsz := Nat.le_trans hsz hs0
              clear hs0 gq cq
              clear hlr
              refine hK.out _ _ trivial (fun hHeld => ?_)
              clear hHeld hK K
              try simp only [Act.put, List.setIfInBounds_toArray, List.set_cons_zero, List.set_cons_succ]
              refine takeD (i := 6) (d := some 40) (v := ?_) _ rfl rfl (by kernel_rfl) (by kernel_rfl) (by kernel_rfl) (fun _ _ _ h => h) (Or.inl ⟨by rfl, ?_⟩) trivial ?_
              rotate_left
              · (intro W hSw; clear hSw; go_simp; try with_reducible rfl)
              try simp only [Act.put, List.setIfInBounds_toArray, List.set_cons_zero, List.set_cons_succ]
              refine takeD (i := 7) (d := some 47) (v := ?_) _ rfl rfl (by kernel_rfl) (by kernel_rfl) (by kernel_rfl) (fun _ _ _ h => h) (Or.inl ⟨by rfl, ?_⟩) trivial ?_
              rotate_left
              · (intro W hSw; clear hSw; go_simp; try with_reducible rfl)
              try simp only [Act.put, List.setIfInBounds_toArray, List.set_cons_zero, List.set_cons_succ]
              refine takeD (i := 8) (d := some 48) (v := ?_) _ rfl rfl (by kernel_rfl) (by kernel_rfl) (by kernel_rfl) (fun _ _ _ h => h) (Or.inl ⟨by rfl, ?_⟩) trivial ?_
              rotate_left
              · (intro W hSw; clear hSw; go_simp; try with_reducible rfl)
              try simp only [Act.put, List.setIfInBounds_toArray, List.set_cons_zero, List.set_cons_succ]
              refine wpAnyH_ready (rs := [9]) (by kernel_rfl) (by simp) ?_
              refine AllReadyH.cons rfl (fun K hK => ?_) AllReadyH.nil
              go_simp
              refine hK.out _ _ trivial (fun hHeld => ?_)
              clear hHeld hK K
              try simp only [Act.put, List.setIfInBounds_toArray, List.set_cons_zero, List.set_cons_succ]
              refine wpAnyH_done (by kernel_rfl) ?_ _
              have N8 : Hid (∀ ad, A3 = some ad → ad.block ≠ G7) := Lib.hid (fun ad h => by have := (own_rng o3 ad h).1; omega)
              have O8 := Lib.hid (own_base (base' := WQ.heap.size) (ownsRow_setCell_below o3 (a := ⟨G8, 0, none⟩) (by show G8 < _; omega) (.slice A3 n3 c3)) (by omega))
              have P8 := Lib.hid (own_setNe oa (a := ⟨G8, 0, none⟩) (.slice A3 n3 c3) na8)
              have C8 := Lib.hid (cur_set (v := .slice A3 n3 c3) (b := G8) (o := 0) hcr (by omega))
              have G8_ := Lib.hid (gro_set (v := .slice A3 n3 c3) (b := G8) (o := 0) hg (by omega))
              have dx8 : Hid ((W5.setCell ⟨G8, 0, none⟩ (.slice A3 n3 c3)).cell? ⟨G8, 0, none⟩ = some (.slice A3 n3 c3)) := Lib.hid (by simp [go_sem, d8])
              have fx8 : Hid ((W5.setCell ⟨G8, 0, none⟩ (.slice A3 n3 c3)).frozen? ⟨G8, 0, none⟩ = false) := Lib.hid (by simp [f8])
              have dy8 : Hid ((W5.setCell ⟨G8, 0, none⟩ (.slice A3 n3 c3)).cell? ⟨G7, 0, none⟩ = some (.slice Ba ma da)) := by
                show _ = _
                rw [World.cell?_setCell_far _ ⟨G8, 0, none⟩ ⟨G7, 0, none⟩ _ (by show G8 ≠ G7; omega)]
                exact d7
              have fy8 : Hid ((W5.setCell ⟨G8, 0, none⟩ (.slice A3 n3 c3)).frozen? ⟨G7, 0, none⟩ = false) := Lib.hid (by simp [f7])
              have hs8 : Hid (G8 + 1 ≤ (W5.setCell ⟨G8, 0, none⟩ (.slice A3 n3 c3)).heap.size) := Lib.hid (by simpa using hsz)
              have HQ : Hid (0 ≤ q - 1 ∧ (n3 : Int) + (q - 1) ≤ 5) := Lib.hid (by omega)
              clear o3 b3 hcr hg
              go_wp2
              go_roundw
              case rel => exact ⟨q - 1, A3, n3, c3, lr, HQ.out, by go_num, O8.out, hok3, N8.out, C8.out, G8_.out, dx8.out, fx8.out, P8.out, dy8.out, fy8.out, hs8.out⟩
              case measure => simp [intOf]; omega
        · have hq2 : q = 0 := by omega
          subst hq2
          have hmb : mb ≤ 5 := by omega
          clear hq hq1
          go_wp2_with fail
          refine (l1Once_any p 4 _ (by omega) (by omega) hcr).mono ?_
          rintro e w8 ⟨y, rfl, cq, gq⟩
          replace oa := own_only oa gq (by omega)
          replace ob := own_only ob gq (by omega)
          replace hcr := cq
          replace hg := only_trans hg gq
          replace d7 := gcell gq d7 (by omega)
          replace f7 := gfroz gq (by omega) f7 (by omega)
          replace d8 := gcell gq d8 (by omega)
          replace f8 := gfroz gq (by omega) f8 (by omega)
          have hs0 := gq.size
          replace hsz := Nat.le_trans hsz hs0
          clear hs0 gq cq
          cases y
          · have hmb8 := hmb
            go_wp2_with fail
            refine (l1Once_any p 10 _ (by omega) (by omega) hcr).mono ?_
            rintro e w10 ⟨y, rfl, c10, g10⟩
            have qa := own_only oa g10 (by omega)
            have qb := own_only ob g10 (by omega)
            have qg := only_trans hg g10
            have q7 := gcell g10 d7 (by omega)
            have qf7 := gfroz g10 (by omega) f7 (by omega)
            have q8 := gcell g10 d8 (by omega)
            have qs := Nat.le_trans hsz g10.size
            clear oa ob hg hcr d7 d8 f7 f8 hsz g10
            cases y
            · have q6F := gcell qg d6 (by omega)
              have qoF := own_onlyB oo3 qg hpo
              have e0 := gcell qg dR0 (by omega)
              have e1 := gcell qg dR1 (by omega)
              have e2 := gcell qg dR2 (by omega)
              have h0 := gfroz qg (by omega) fR0 (by omega)
              have h1 := gfroz qg (by omega) fR1 (by omega)
              have h2 := gfroz qg (by omega) fR2 (by omega)
              have BZF := below_only B3 qg B3.size (by omega)
              have q7F := q7
              have q8F := q8
              have qaF := qa
              have qbF := qb
              clear qa qb qg c10 q7 q8 qf7
              go_wp2
              refine wp_region_held_drew (S := fun W => W.cell? ⟨w2.heap.size, 0, none⟩ = some (.slice Bo mo do_) ∧ W.cell? ⟨G7, 0, none⟩ = some (.slice Ba ma da) ∧ W.cell? ⟨G8, 0, none⟩ = some (.slice Bb mb db)) (by kernel_rfl) ?_ (fun hHeld => ?_)
              · exact ⟨q6F, q7F, q8F⟩
              have kp : KP w WQ.heap.size w1.heap.size Bo mo do_ lo Ba ma da la Bb mb db lb w10.drew := ⟨qoF, qaF, qbF, BZF.drew⟩
              replace e0 := (show w10.drew.cell? ⟨w.heap.size, 0, none⟩ = _ from e0)
              replace e1 := (show w10.drew.cell? ⟨w.heap.size + 1, 0, none⟩ = _ from e1)
              replace e2 := (show w10.drew.cell? ⟨w.heap.size + 1 + 1, 0, none⟩ = _ from e2)
              replace h0 := (show w10.drew.frozen? ⟨w.heap.size, 0, none⟩ = _ from h0)
              replace h1 := (show w10.drew.frozen? ⟨w.heap.size + 1, 0, none⟩ = _ from h1)
              replace h2 := (show w10.drew.frozen? ⟨w.heap.size + 1 + 1, 0, none⟩ = _ from h2)
              replace hHeld := (show (fun W => W.cell? ⟨w2.heap.size, 0, none⟩ = some (.slice Bo mo do_) ∧ W.cell? ⟨G7, 0, none⟩ = some (.slice Ba ma da) ∧ W.cell? ⟨G8, 0, none⟩ = some (.slice Bb mb db)) w10.drew from hHeld)
              clear qoF qaF qbF BZF q6F q7F q8F
              generalize w10.drew = wd at kp e0 e1 e2 h0 h1 h2 hHeld ⊢
              refine takeD (i := 0) (d := some 62) (v := ?_) _ rfl rfl (by kernel_rfl) (by kernel_rfl) (by kernel_rfl) (fun _ _ _ h => h) (Or.inl ⟨by rfl, ?_⟩) hHeld ?_
              rotate_left
              · (intro W hSw; (try dsimp only at hSw); go_simp; try with_reducible rfl)
              try simp only [Act.put, List.setIfInBounds_toArray, List.set_cons_zero, List.set_cons_succ]
              refine takeD (i := 1) (d := some 63) (v := ?_) _ rfl rfl (by kernel_rfl) (by kernel_rfl) (by kernel_rfl) (fun _ _ _ h => h) (Or.inl ⟨by rfl, ?_⟩) hHeld ?_
              rotate_left
              · (intro W hSw; (try dsimp only at hSw); go_simp; try with_reducible rfl)
              try simp only [Act.put, List.setIfInBounds_toArray, List.set_cons_zero, List.set_cons_succ]
              refine takeD (i := 2) (d := some 64) (v := ?_) _ rfl rfl (by kernel_rfl) (by kernel_rfl) (by kernel_rfl) (fun _ _ _ h => h) (Or.inl ⟨by rfl, ?_⟩) hHeld ?_
              rotate_left
              · (intro W hSw; (try dsimp only at hSw); go_simp; try with_reducible rfl)
              try simp only [Act.put, List.setIfInBounds_toArray, List.set_cons_zero, List.set_cons_succ]
              refine wpAnyH_ready (rs := [3]) (by kernel_rfl) (by simp) ?_
              refine AllReadyH.cons rfl (fun K hK => ?_) AllReadyH.nil
              go_simp
              have hS3 := setS3 hHeld (r := w.heap.size) (o := 0) (v := (.slice Bo mo do_)) (by omega) (by omega) (by omega)
              refine hK.out _ _ hS3 (fun _ => ?_)
              clear hK K
              try simp only [Act.put, List.setIfInBounds_toArray, List.set_cons_zero, List.set_cons_succ]
              refine wpAnyH_ready (rs := [4]) (by kernel_rfl) (by simp) ?_
              refine AllReadyH.cons rfl (fun K hK => ?_) AllReadyH.nil
              go_simp
              have hS4 := setS3 hS3 (r := w.heap.size + 1) (o := 0) (v := (.slice Ba ma da)) (by omega) (by omega) (by omega)
              refine hK.out _ _ hS4 (fun _ => ?_)
              clear hK K
              try simp only [Act.put, List.setIfInBounds_toArray, List.set_cons_zero, List.set_cons_succ]
              refine wpAnyH_ready (rs := [5]) (by kernel_rfl) (by simp) ?_
              refine AllReadyH.cons rfl (fun K hK => ?_) AllReadyH.nil
              go_simp
              have hS5 := setS3 hS4 (r := w.heap.size + 1 + 1) (o := 0) (v := (.slice Bb mb db)) (by omega) (by omega) (by omega)
              refine hK.out _ _ hS5 (fun _ => ?_)
              clear hK K
              try simp only [Act.put, List.setIfInBounds_toArray, List.set_cons_zero, List.set_cons_succ]
              refine wpAnyH_done (by kernel_rfl) ?_ _
              have FIN := Lib.hid (KP.fin (KP.set (KP.set (KP.set kp (r := w.heap.size) (.slice Bo mo do_) (by omega) (by omega)) (r := w.heap.size + 1) (.slice Ba ma da) (by omega) (by omega)) (r := w.heap.size + 1 + 1) (.slice Bb mb db) (by omega) (by omega)) ko ka kb (by omega) (by omega) (by omega))
              clear kp
              go_wp2
              exact bodyPost_ret (v := .tuple #[.agg #[.slice Bo mo do_], .agg #[.slice Ba ma da], .agg #[.slice Bb mb db]]) (by simp [results, Try.results72, go_sem, e0, e1, e2]) rfl FIN.out
            · go_wp2_with fail
              refine (l5Any_any p _ c10).mono ?_
              rintro e w11 ⟨Bz, mz, dz, lz, rfl, oz, ⟨kz, hmz⟩, c11, g11⟩
              have qbF := own_setNe (own_only qb g11 (by omega)) (a := ⟨G7, 0, none⟩) (.slice Bz mz dz) nb7
              have qaF := own_base (base' := WQ.heap.size) (ownsRow_setCell_below oz (a := ⟨G7, 0, none⟩) (by show G7 < _; omega) (.slice Bz mz dz)) (by omega)
              have qg' := gro_set (v := .slice Bz mz dz) (b := G7) (o := 0) (only_trans qg g11) (by omega)
              have p7 := gcell g11 q7 (by omega)
              have pf7 := gfroz g11 (by omega) qf7 (by omega)
              have q7F : (w11.setCell ⟨G7, 0, none⟩ (.slice Bz mz dz)).cell? ⟨G7, 0, none⟩ = some (.slice Bz mz dz) := by simp [go_sem, p7]
              have q8F : (w11.setCell ⟨G7, 0, none⟩ (.slice Bz mz dz)).cell? ⟨G8, 0, none⟩ = some (.slice Bb mb db) := by
                rw [World.cell?_setCell_far _ ⟨G7, 0, none⟩ ⟨G8, 0, none⟩ _ (by show G7 ≠ G8; omega)]
                exact gcell g11 q8 (by omega)
              have q6F := gcell qg' d6 (by omega)
              have qoF := own_onlyB oo3 qg' hpo
              have e0 := gcell qg' dR0 (by omega)
              have e1 := gcell qg' dR1 (by omega)
              have e2 := gcell qg' dR2 (by omega)
              have h0 := gfroz qg' (by omega) fR0 (by omega)
              have h1 := gfroz qg' (by omega) fR1 (by omega)
              have h2 := gfroz qg' (by omega) fR2 (by omega)
              have BZF := below_only B3 qg' B3.size (by omega)
              clear oz qa qb qg qg' c10 c11 g11 q7 q8 qf7
              go_wp2
              obtain ⟨X, hX⟩ : ∃ X, X = w11.setCell ⟨G7, 0, none⟩ (.slice Bz mz dz) := ⟨_, rfl⟩
              rw [← hX] at qaF qbF q7F q8F q6F qoF e0 e1 e2 h0 h1 h2 BZF ⊢
              clear hX p7 pf7
              refine wp_region_held_drew (S := fun W => W.cell? ⟨w2.heap.size, 0, none⟩ = some (.slice Bo mo do_) ∧ W.cell? ⟨G7, 0, none⟩ = some (.slice Bz mz dz) ∧ W.cell? ⟨G8, 0, none⟩ = some (.slice Bb mb db)) (by kernel_rfl) ?_ (fun hHeld => ?_)
              · exact ⟨q6F, q7F, q8F⟩
              have kp : KP w WQ.heap.size w1.heap.size Bo mo do_ lo Bz mz dz lz Bb mb db lb X.drew := ⟨qoF, qaF, qbF, BZF.drew⟩
              replace e0 := (show X.drew.cell? ⟨w.heap.size, 0, none⟩ = _ from e0)
              replace e1 := (show X.drew.cell? ⟨w.heap.size + 1, 0, none⟩ = _ from e1)
              replace e2 := (show X.drew.cell? ⟨w.heap.size + 1 + 1, 0, none⟩ = _ from e2)
              replace h0 := (show X.drew.frozen? ⟨w.heap.size, 0, none⟩ = _ from h0)
              replace h1 := (show X.drew.frozen? ⟨w.heap.size + 1, 0, none⟩ = _ from h1)
              replace h2 := (show X.drew.frozen? ⟨w.heap.size + 1 + 1, 0, none⟩ = _ from h2)
              replace hHeld := (show (fun W => W.cell? ⟨w2.heap.size, 0, none⟩ = some (.slice Bo mo do_) ∧ W.cell? ⟨G7, 0, none⟩ = some (.slice Bz mz dz) ∧ W.cell? ⟨G8, 0, none⟩ = some (.slice Bb mb db)) X.drew from hHeld)
              clear qoF qaF qbF BZF q6F q7F q8F
              generalize X.drew = wd at kp e0 e1 e2 h0 h1 h2 hHeld ⊢
              refine takeD (i := 0) (d := some 62) (v := ?_) _ rfl rfl (by kernel_rfl) (by kernel_rfl) (by kernel_rfl) (fun _ _ _ h => h) (Or.inl ⟨by rfl, ?_⟩) hHeld ?_
              rotate_left
              · (intro W hSw; (try dsimp only at hSw); go_simp; try with_reducible rfl)
              try simp only [Act.put, List.setIfInBounds_toArray, List.set_cons_zero, List.set_cons_succ]
              refine takeD (i := 1) (d := some 63) (v := ?_) _ rfl rfl (by kernel_rfl) (by kernel_rfl) (by kernel_rfl) (fun _ _ _ h => h) (Or.inl ⟨by rfl, ?_⟩) hHeld ?_
              rotate_left
              · (intro W hSw; (try dsimp only at hSw); go_simp; try with_reducible rfl)
              try simp only [Act.put, List.setIfInBounds_toArray, List.set_cons_zero, List.set_cons_succ]
              refine takeD (i := 2) (d := some 64) (v := ?_) _ rfl rfl (by kernel_rfl) (by kernel_rfl) (by kernel_rfl) (fun _ _ _ h => h) (Or.inl ⟨by rfl, ?_⟩) hHeld ?_
              rotate_left
              · (intro W hSw; (try dsimp only at hSw); go_simp; try with_reducible rfl)
              try simp only [Act.put, List.setIfInBounds_toArray, List.set_cons_zero, List.set_cons_succ]
              refine wpAnyH_ready (rs := [3]) (by kernel_rfl) (by simp) ?_
              refine AllReadyH.cons rfl (fun K hK => ?_) AllReadyH.nil
              go_simp
              have hS3 := setS3 hHeld (r := w.heap.size) (o := 0) (v := (.slice Bo mo do_)) (by omega) (by omega) (by omega)
              refine hK.out _ _ hS3 (fun _ => ?_)
              clear hK K
              try simp only [Act.put, List.setIfInBounds_toArray, List.set_cons_zero, List.set_cons_succ]
              refine wpAnyH_ready (rs := [4]) (by kernel_rfl) (by simp) ?_
              refine AllReadyH.cons rfl (fun K hK => ?_) AllReadyH.nil
              go_simp
              have hS4 := setS3 hS3 (r := w.heap.size + 1) (o := 0) (v := (.slice Bz mz dz)) (by omega) (by omega) (by omega)
              refine hK.out _ _ hS4 (fun _ => ?_)
              clear hK K
              try simp only [Act.put, List.setIfInBounds_toArray, List.set_cons_zero, List.set_cons_succ]
              refine wpAnyH_ready (rs := [5]) (by kernel_rfl) (by simp) ?_
              refine AllReadyH.cons rfl (fun K hK => ?_) AllReadyH.nil
              go_simp
              have hS5 := setS3 hS4 (r := w.heap.size + 1 + 1) (o := 0) (v := (.slice Bb mb db)) (by omega) (by omega) (by omega)
              refine hK.out _ _ hS5 (fun _ => ?_)
              clear hK K
              try simp only [Act.put, List.setIfInBounds_toArray, List.set_cons_zero, List.set_cons_succ]
              refine wpAnyH_done (by kernel_rfl) ?_ _
              have FIN := Lib.hid (KP.fin (KP.set (KP.set (KP.set kp (r := w.heap.size) (.slice Bo mo do_) (by omega) (by omega)) (r := w.heap.size + 1) (.slice Bz mz dz) (by omega) (by omega)) (r := w.heap.size + 1 + 1) (.slice Bb mb db) (by omega) (by omega)) ko kz kb (by omega) (by omega) (by omega))
              clear kp
              go_wp2
              exact bodyPost_ret (v := .tuple #[.agg #[.slice Bo mo do_], .agg #[.slice Bz mz dz], .agg #[.slice Bb mb db]]) (by simp [results, Try.results72, go_sem, e0, e1, e2]) rfl FIN.out
          · go_wp2
            refine wp_region_held_drew (S := fun _ => True) (by kernel_rfl) trivial (fun hHeld => ?_)
            clear hHeld
            replace oa := (show World.ownsRow w8.drew _ _ _ _ _ _ from oa)
            replace ob := (show World.ownsRow w8.drew _ _ _ _ _ _ from ob)
            replace hcr := (show Cur w8.drew p from hcr)
            replace hg := only_drew hg
            replace hsz := (show G8 + 1 ≤ w8.drew.heap.size from hsz)
            replace d7 := (show w8.drew.cell? ⟨G7, 0, none⟩ = _ from d7)
            replace f7 := (show w8.drew.frozen? ⟨G7, 0, none⟩ = _ from f7)
            replace d8 := (show w8.drew.cell? ⟨G8, 0, none⟩ = _ from d8)
            replace f8 := (show w8.drew.frozen? ⟨G8, 0, none⟩ = _ from f8)
            generalize w8.drew = wd at oa ob hcr hg hsz d7 f7 d8 f8 ⊢
            refine takeD (i := 1) (d := some 53) (v := ?_) _ rfl rfl (by kernel_rfl) (by kernel_rfl) (by kernel_rfl) (fun _ _ _ h => h) (Or.inl ⟨by rfl, ?_⟩) trivial ?_
            rotate_left
            · (intro W hSw; clear hSw; go_simp; try with_reducible rfl)
            try simp only [Act.put, List.setIfInBounds_toArray, List.set_cons_zero, List.set_cons_succ]
            refine wpAnyH_ready (rs := [0, 2]) (by kernel_rfl) (by simp) ?_
            refine AllReadyH.cons rfl (fun K hK => ?_) (AllReadyH.cons rfl (fun K hK => ?_) AllReadyH.nil)
            · go_simp
              refine hK.out _ _ trivial (fun hHeld => ?_)
              clear hHeld hK K
              try simp only [Act.put, List.setIfInBounds_toArray, List.set_cons_zero, List.set_cons_succ]
              refine wpAnyH_ready (rs := [2]) (by kernel_rfl) (by simp) ?_
              refine AllReadyH.cons rfl (fun K hK => ?_) AllReadyH.nil
              go_simp
              refine (l5Name_any p _ hcr).mono ?_; rintro e W2 ⟨s, rfl, hs, cq, gq⟩
              try go_wp2_with fail
              replace oa := own_only oa gq (by omega)
              replace ob := own_only ob gq (by omega)
              replace hcr := cq
              replace hg := only_trans hg gq
              replace d7 := gcell gq d7 (by omega)
              replace f7 := gfroz gq (by omega) f7 (by omega)
              replace d8 := gcell gq d8 (by omega)
              replace f8 := gfroz gq (by omega) f8 (by omega)
              have hs0 := gq.size
              replace hsz := Nat.le_trans hsz hs0
              clear hs0 gq cq
              refine hK.out _ _ trivial (fun hHeld => ?_)
              clear hHeld hK K
              try simp only [Act.put, List.setIfInBounds_toArray, List.set_cons_zero, List.set_cons_succ]
              refine wpAnyH_ready (rs := [3]) (by kernel_rfl) (by simp) ?_
              refine AllReadyH.cons rfl (fun K hK => ?_) AllReadyH.nil
              go_simp
              obtain ⟨lr, rr, hlr⟩ : ∃ lr rr, (lr, rr) = remR lb s := ⟨_, _, rfl⟩
              have hszc := hsz
              refine (specRemoveField_any Bb mb db lb s lr rr _ (by omega) (Rd.of_own ob) kb hlr).mono ?_; rintro e W3 ⟨A3, n3, c3, rfl, o3, b3⟩
              try go_wp2_with fail
              have hok3 := remR_ok hlr kb
              have hn3 := own_lenF o3
              have hm3 := own_lenF ob
              have hl3 := remR_len hlr
              have cq := hcr.below b3
              have gq := only_of_below b3 (some p)
              replace oa := own_only oa gq (by omega)
              replace ob := own_only ob gq (by omega)
              replace hcr := cq
              replace hg := only_trans hg gq
              replace d7 := gcell gq d7 (by omega)
              replace f7 := gfroz gq (by omega) f7 (by omega)
              replace d8 := gcell gq d8 (by omega)
              replace f8 := gfroz gq (by omega) f8 (by omega)
              have hs0 := gq.size
              replace hsz := Nat.le_trans hsz hs0
              clear hs0 gq cq
              clear hlr
              refine hK.out _ _ trivial (fun hHeld => ?_)
              clear hHeld hK K
              try simp only [Act.put, List.setIfInBounds_toArray, List.set_cons_zero, List.set_cons_succ]
              refine takeD (i := 4) (d := some 51) (v := ?_) _ rfl rfl (by kernel_rfl) (by kernel_rfl) (by kernel_rfl) (fun _ _ _ h => h) (Or.inl ⟨by rfl, ?_⟩) trivial ?_
              rotate_left
              · (intro W hSw; clear hSw; go_simp; try with_reducible rfl)
              try simp only [Act.put, List.setIfInBounds_toArray, List.set_cons_zero, List.set_cons_succ]
              refine takeD (i := 5) (d := some 56) (v := ?_) _ rfl rfl (by kernel_rfl) (by kernel_rfl) (by kernel_rfl) (fun _ _ _ h => h) (Or.inl ⟨by rfl, ?_⟩) trivial ?_
              rotate_left
              · (intro W hSw; clear hSw; go_simp; try with_reducible rfl)
              try simp only [Act.put, List.setIfInBounds_toArray, List.set_cons_zero, List.set_cons_succ]
              refine takeD (i := 6) (d := some 57) (v := ?_) _ rfl rfl (by kernel_rfl) (by kernel_rfl) (by kernel_rfl) (fun _ _ _ h => h) (Or.inl ⟨by rfl, ?_⟩) trivial ?_
              rotate_left
              · (intro W hSw; clear hSw; go_simp; try with_reducible rfl)
              try simp only [Act.put, List.setIfInBounds_toArray, List.set_cons_zero, List.set_cons_succ]
              refine wpAnyH_ready (rs := [7]) (by kernel_rfl) (by simp) ?_
              refine AllReadyH.cons rfl (fun K hK => ?_) AllReadyH.nil
              go_simp
              refine hK.out _ _ trivial (fun hHeld => ?_)
              clear hHeld hK K
              try simp only [Act.put, List.setIfInBounds_toArray, List.set_cons_zero, List.set_cons_succ]
              refine wpAnyH_done (by kernel_rfl) ?_ _
              have nb8 : ∀ ad, A3 = some ad → ad.block ≠ G7 := fun ad h => by have := (own_rng o3 ad h).1; omega
              have O8 := own_base (base' := WQ.heap.size) (ownsRow_setCell_below o3 (a := ⟨G8, 0, none⟩) (by show G8 < _; omega) (.slice A3 n3 c3)) (by omega)
              have P8 := own_setNe oa (a := ⟨G8, 0, none⟩) (.slice A3 n3 c3) na8
              have C8 := cur_set (v := .slice A3 n3 c3) (b := G8) (o := 0) hcr (by omega)
              have G8_ := gro_set (v := .slice A3 n3 c3) (b := G8) (o := 0) hg (by omega)
              have dx8 : (W3.setCell ⟨G8, 0, none⟩ (.slice A3 n3 c3)).cell? ⟨G8, 0, none⟩ = some (.slice A3 n3 c3) := by simp [go_sem, d8]
              have fx8 : (W3.setCell ⟨G8, 0, none⟩ (.slice A3 n3 c3)).frozen? ⟨G8, 0, none⟩ = false := by simp [f8]
              have dy8 : (W3.setCell ⟨G8, 0, none⟩ (.slice A3 n3 c3)).cell? ⟨G7, 0, none⟩ = some (.slice Ba ma da) := by
                rw [World.cell?_setCell_far _ ⟨G8, 0, none⟩ ⟨G7, 0, none⟩ _ (by show G8 ≠ G7; omega)]
                exact d7
              have fy8 : (W3.setCell ⟨G8, 0, none⟩ (.slice A3 n3 c3)).frozen? ⟨G7, 0, none⟩ = false := by simp [f7]
              have hs8 : G8 + 1 ≤ (W3.setCell ⟨G8, 0, none⟩ (.slice A3 n3 c3)).heap.size := by simpa using hsz
              have hn8 : n3 ≤ 5 := by omega
              clear o3 b3 hcr hg oa ob d7 f7 d8 f8 hsz
              generalize hWz : (W3.setCell ⟨G8, 0, none⟩ (.slice A3 n3 c3)) = Wz at O8 P8 C8 G8_ dx8 fx8 dy8 fy8 hs8 ⊢
              clear hWz
              go_wp2_with fail
              refine (l1Once_any p 10 _ (by omega) (by omega) C8).mono ?_
              rintro e w10 ⟨y, rfl, c10, g10⟩
              have qa := own_only P8 g10 (by omega)
              have qb := own_only O8 g10 (by omega)
              have qg := only_trans G8_ g10
              have q7 := gcell g10 dy8 (by omega)
              have qf7 := gfroz g10 (by omega) fy8 (by omega)
              have q8 := gcell g10 dx8 (by omega)
              have qs := Nat.le_trans hs8 g10.size
              clear P8 O8 G8_ C8 dy8 dx8 fy8 fx8 hs8 g10
              cases y
              · have q6F := gcell qg d6 (by omega)
                have qoF := own_onlyB oo3 qg hpo
                have e0 := gcell qg dR0 (by omega)
                have e1 := gcell qg dR1 (by omega)
                have e2 := gcell qg dR2 (by omega)
                have h0 := gfroz qg (by omega) fR0 (by omega)
                have h1 := gfroz qg (by omega) fR1 (by omega)
                have h2 := gfroz qg (by omega) fR2 (by omega)
                have BZF := below_only B3 qg B3.size (by omega)
                have q7F := q7
                have q8F := q8
                have qaF := qa
                have qbF := qb
                clear qa qb qg c10 q7 q8 qf7
                go_wp2
                refine wp_region_held_drew (S := fun W => W.cell? ⟨w2.heap.size, 0, none⟩ = some (.slice Bo mo do_) ∧ W.cell? ⟨G7, 0, none⟩ = some (.slice Ba ma da) ∧ W.cell? ⟨G8, 0, none⟩ = some (.slice A3 n3 c3)) (by kernel_rfl) ?_ (fun hHeld => ?_)
                · exact ⟨q6F, q7F, q8F⟩
                have kp : KP w WQ.heap.size w1.heap.size Bo mo do_ lo Ba ma da la A3 n3 c3 lr w10.drew := ⟨qoF, qaF, qbF, BZF.drew⟩
                replace e0 := (show w10.drew.cell? ⟨w.heap.size, 0, none⟩ = _ from e0)
                replace e1 := (show w10.drew.cell? ⟨w.heap.size + 1, 0, none⟩ = _ from e1)
                replace e2 := (show w10.drew.cell? ⟨w.heap.size + 1 + 1, 0, none⟩ = _ from e2)
                replace h0 := (show w10.drew.frozen? ⟨w.heap.size, 0, none⟩ = _ from h0)
                replace h1 := (show w10.drew.frozen? ⟨w.heap.size + 1, 0, none⟩ = _ from h1)
                replace h2 := (show w10.drew.frozen? ⟨w.heap.size + 1 + 1, 0, none⟩ = _ from h2)
                replace hHeld := (show (fun W => W.cell? ⟨w2.heap.size, 0, none⟩ = some (.slice Bo mo do_) ∧ W.cell? ⟨G7, 0, none⟩ = some (.slice Ba ma da) ∧ W.cell? ⟨G8, 0, none⟩ = some (.slice A3 n3 c3)) w10.drew from hHeld)
                clear qoF qaF qbF BZF q6F q7F q8F
                generalize w10.drew = wd at kp e0 e1 e2 h0 h1 h2 hHeld ⊢
                refine takeD (i := 0) (d := some 62) (v := ?_) _ rfl rfl (by kernel_rfl) (by kernel_rfl) (by kernel_rfl) (fun _ _ _ h => h) (Or.inl ⟨by rfl, ?_⟩) hHeld ?_
                rotate_left
                · (intro W hSw; (try dsimp only at hSw); go_simp; try with_reducible rfl)
                try simp only [Act.put, List.setIfInBounds_toArray, List.set_cons_zero, List.set_cons_succ]
                refine takeD (i := 1) (d := some 63) (v := ?_) _ rfl rfl (by kernel_rfl) (by kernel_rfl) (by kernel_rfl) (fun _ _ _ h => h) (Or.inl ⟨by rfl, ?_⟩) hHeld ?_
                rotate_left
                · (intro W hSw; (try dsimp only at hSw); go_simp; try with_reducible rfl)
                try simp only [Act.put, List.setIfInBounds_toArray, List.set_cons_zero, List.set_cons_succ]
                refine takeD (i := 2) (d := some 64) (v := ?_) _ rfl rfl (by kernel_rfl) (by kernel_rfl) (by kernel_rfl) (fun _ _ _ h => h) (Or.inl ⟨by rfl, ?_⟩) hHeld ?_
                rotate_left
                · (intro W hSw; (try dsimp only at hSw); go_simp; try with_reducible rfl)
                try simp only [Act.put, List.setIfInBounds_toArray, List.set_cons_zero, List.set_cons_succ]
                refine wpAnyH_ready (rs := [3]) (by kernel_rfl) (by simp) ?_
                refine AllReadyH.cons rfl (fun K hK => ?_) AllReadyH.nil
                go_simp
                have hS3 := setS3 hHeld (r := w.heap.size) (o := 0) (v := (.slice Bo mo do_)) (by omega) (by omega) (by omega)
                refine hK.out _ _ hS3 (fun _ => ?_)
                clear hK K
                try simp only [Act.put, List.setIfInBounds_toArray, List.set_cons_zero, List.set_cons_succ]
                refine wpAnyH_ready (rs := [4]) (by kernel_rfl) (by simp) ?_
                refine AllReadyH.cons rfl (fun K hK => ?_) AllReadyH.nil
                go_simp
                have hS4 := setS3 hS3 (r := w.heap.size + 1) (o := 0) (v := (.slice Ba ma da)) (by omega) (by omega) (by omega)
                refine hK.out _ _ hS4 (fun _ => ?_)
                clear hK K
                try simp only [Act.put, List.setIfInBounds_toArray, List.set_cons_zero, List.set_cons_succ]
                refine wpAnyH_ready (rs := [5]) (by kernel_rfl) (by simp) ?_
                refine AllReadyH.cons rfl (fun K hK => ?_) AllReadyH.nil
                go_simp
                have hS5 := setS3 hS4 (r := w.heap.size + 1 + 1) (o := 0) (v := (.slice A3 n3 c3)) (by omega) (by omega) (by omega)
                refine hK.out _ _ hS5 (fun _ => ?_)
                clear hK K
                try simp only [Act.put, List.setIfInBounds_toArray, List.set_cons_zero, List.set_cons_succ]
                refine wpAnyH_done (by kernel_rfl) ?_ _
                have FIN := Lib.hid (KP.fin (KP.set (KP.set (KP.set kp (r := w.heap.size) (.slice Bo mo do_) (by omega) (by omega)) (r := w.heap.size + 1) (.slice Ba ma da) (by omega) (by omega)) (r := w.heap.size + 1 + 1) (.slice A3 n3 c3) (by omega) (by omega)) ko ka hok3 (by omega) (by omega) (by omega))
                clear kp
                go_wp2
                exact bodyPost_ret (v := .tuple #[.agg #[.slice Bo mo do_], .agg #[.slice Ba ma da], .agg #[.slice A3 n3 c3]]) (by simp [results, Try.results72, go_sem, e0, e1, e2]) rfl FIN.out
              · go_wp2_with fail
                refine (l5Any_any p _ c10).mono ?_
                rintro e w11 ⟨Bz, mz, dz, lz, rfl, oz, ⟨kz, hmz⟩, c11, g11⟩
                have qbF := own_setNe (own_only qb g11 (by omega)) (a := ⟨G7, 0, none⟩) (.slice Bz mz dz) nb8
                have qaF := own_base (base' := WQ.heap.size) (ownsRow_setCell_below oz (a := ⟨G7, 0, none⟩) (by show G7 < _; omega) (.slice Bz mz dz)) (by omega)
                have qg' := gro_set (v := .slice Bz mz dz) (b := G7) (o := 0) (only_trans qg g11) (by omega)
                have p7 := gcell g11 q7 (by omega)
                have pf7 := gfroz g11 (by omega) qf7 (by omega)
                have q7F : (w11.setCell ⟨G7, 0, none⟩ (.slice Bz mz dz)).cell? ⟨G7, 0, none⟩ = some (.slice Bz mz dz) := by simp [go_sem, p7]
                have q8F : (w11.setCell ⟨G7, 0, none⟩ (.slice Bz mz dz)).cell? ⟨G8, 0, none⟩ = some (.slice A3 n3 c3) := by
                  rw [World.cell?_setCell_far _ ⟨G7, 0, none⟩ ⟨G8, 0, none⟩ _ (by show G7 ≠ G8; omega)]
                  exact gcell g11 q8 (by omega)
                have q6F := gcell qg' d6 (by omega)
                have qoF := own_onlyB oo3 qg' hpo
                have e0 := gcell qg' dR0 (by omega)
                have e1 := gcell qg' dR1 (by omega)
                have e2 := gcell qg' dR2 (by omega)
                have h0 := gfroz qg' (by omega) fR0 (by omega)
                have h1 := gfroz qg' (by omega) fR1 (by omega)
                have h2 := gfroz qg' (by omega) fR2 (by omega)
                have BZF := below_only B3 qg' B3.size (by omega)
                clear oz qa qb qg qg' c10 c11 g11 q7 q8 qf7
                go_wp2
                obtain ⟨X, hX⟩ : ∃ X, X = w11.setCell ⟨G7, 0, none⟩ (.slice Bz mz dz) := ⟨_, rfl⟩
                rw [← hX] at qaF qbF q7F q8F q6F qoF e0 e1 e2 h0 h1 h2 BZF ⊢
                clear hX p7 pf7
                refine wp_region_held_drew (S := fun W => W.cell? ⟨w2.heap.size, 0, none⟩ = some (.slice Bo mo do_) ∧ W.cell? ⟨G7, 0, none⟩ = some (.slice Bz mz dz) ∧ W.cell? ⟨G8, 0, none⟩ = some (.slice A3 n3 c3)) (by kernel_rfl) ?_ (fun hHeld => ?_)
                · exact ⟨q6F, q7F, q8F⟩
                have kp : KP w WQ.heap.size w1.heap.size Bo mo do_ lo Bz mz dz lz A3 n3 c3 lr X.drew := ⟨qoF, qaF, qbF, BZF.drew⟩
                replace e0 := (show X.drew.cell? ⟨w.heap.size, 0, none⟩ = _ from e0)
                replace e1 := (show X.drew.cell? ⟨w.heap.size + 1, 0, none⟩ = _ from e1)
                replace e2 := (show X.drew.cell? ⟨w.heap.size + 1 + 1, 0, none⟩ = _ from e2)
                replace h0 := (show X.drew.frozen? ⟨w.heap.size, 0, none⟩ = _ from h0)
                replace h1 := (show X.drew.frozen? ⟨w.heap.size + 1, 0, none⟩ = _ from h1)
                replace h2 := (show X.drew.frozen? ⟨w.heap.size + 1 + 1, 0, none⟩ = _ from h2)
                replace hHeld := (show (fun W => W.cell? ⟨w2.heap.size, 0, none⟩ = some (.slice Bo mo do_) ∧ W.cell? ⟨G7, 0, none⟩ = some (.slice Bz mz dz) ∧ W.cell? ⟨G8, 0, none⟩ = some (.slice A3 n3 c3)) X.drew from hHeld)
                clear qoF qaF qbF BZF q6F q7F q8F
                generalize X.drew = wd at kp e0 e1 e2 h0 h1 h2 hHeld ⊢
                refine takeD (i := 0) (d := some 62) (v := ?_) _ rfl rfl (by kernel_rfl) (by kernel_rfl) (by kernel_rfl) (fun _ _ _ h => h) (Or.inl ⟨by rfl, ?_⟩) hHeld ?_
                rotate_left
                · (intro W hSw; (try dsimp only at hSw); go_simp; try with_reducible rfl)
                try simp only [Act.put, List.setIfInBounds_toArray, List.set_cons_zero, List.set_cons_succ]
                refine takeD (i := 1) (d := some 63) (v := ?_) _ rfl rfl (by kernel_rfl) (by kernel_rfl) (by kernel_rfl) (fun _ _ _ h => h) (Or.inl ⟨by rfl, ?_⟩) hHeld ?_
                rotate_left
                · (intro W hSw; (try dsimp only at hSw); go_simp; try with_reducible rfl)
                try simp only [Act.put, List.setIfInBounds_toArray, List.set_cons_zero, List.set_cons_succ]
                refine takeD (i := 2) (d := some 64) (v := ?_) _ rfl rfl (by kernel_rfl) (by kernel_rfl) (by kernel_rfl) (fun _ _ _ h => h) (Or.inl ⟨by rfl, ?_⟩) hHeld ?_
                rotate_left
                · (intro W hSw; (try dsimp only at hSw); go_simp; try with_reducible rfl)
                try simp only [Act.put, List.setIfInBounds_toArray, List.set_cons_zero, List.set_cons_succ]
                refine wpAnyH_ready (rs := [3]) (by kernel_rfl) (by simp) ?_
                refine AllReadyH.cons rfl (fun K hK => ?_) AllReadyH.nil
                go_simp
                have hS3 := setS3 hHeld (r := w.heap.size) (o := 0) (v := (.slice Bo mo do_)) (by omega) (by omega) (by omega)
                refine hK.out _ _ hS3 (fun _ => ?_)
                clear hK K
                try simp only [Act.put, List.setIfInBounds_toArray, List.set_cons_zero, List.set_cons_succ]
                refine wpAnyH_ready (rs := [4]) (by kernel_rfl) (by simp) ?_
                refine AllReadyH.cons rfl (fun K hK => ?_) AllReadyH.nil
                go_simp
                have hS4 := setS3 hS3 (r := w.heap.size + 1) (o := 0) (v := (.slice Bz mz dz)) (by omega) (by omega) (by omega)
                refine hK.out _ _ hS4 (fun _ => ?_)
                clear hK K
                try simp only [Act.put, List.setIfInBounds_toArray, List.set_cons_zero, List.set_cons_succ]
                refine wpAnyH_ready (rs := [5]) (by kernel_rfl) (by simp) ?_
                refine AllReadyH.cons rfl (fun K hK => ?_) AllReadyH.nil
                go_simp
                have hS5 := setS3 hS4 (r := w.heap.size + 1 + 1) (o := 0) (v := (.slice A3 n3 c3)) (by omega) (by omega) (by omega)
                refine hK.out _ _ hS5 (fun _ => ?_)
                clear hK K
                try simp only [Act.put, List.setIfInBounds_toArray, List.set_cons_zero, List.set_cons_succ]
                refine wpAnyH_done (by kernel_rfl) ?_ _
                have FIN := Lib.hid (KP.fin (KP.set (KP.set (KP.set kp (r := w.heap.size) (.slice Bo mo do_) (by omega) (by omega)) (r := w.heap.size + 1) (.slice Bz mz dz) (by omega) (by omega)) (r := w.heap.size + 1 + 1) (.slice A3 n3 c3) (by omega) (by omega)) ko kz hok3 (by omega) (by omega) (by omega))
                clear kp
                go_wp2
                exact bodyPost_ret (v := .tuple #[.agg #[.slice Bo mo do_], .agg #[.slice Bz mz dz], .agg #[.slice A3 n3 c3]]) (by simp [results, Try.results72, go_sem, e0, e1, e2]) rfl FIN.out
            · go_simp
              refine (l5Name_any p _ hcr).mono ?_; rintro e W2 ⟨s, rfl, hs, cq, gq⟩
              try go_wp2_with fail
              replace oa := own_only oa gq (by omega)
              replace ob := own_only ob gq (by omega)
              replace hcr := cq
              replace hg := only_trans hg gq
              replace d7 := gcell gq d7 (by omega)
              replace f7 := gfroz gq (by omega) f7 (by omega)
              replace d8 := gcell gq d8 (by omega)
              replace f8 := gfroz gq (by omega) f8 (by omega)
              have hs0 := gq.size
              replace hsz := Nat.le_trans hsz hs0
              clear hs0 gq cq
              refine hK.out _ _ trivial (fun hHeld => ?_)
              clear hHeld hK K
              try simp only [Act.put, List.setIfInBounds_toArray, List.set_cons_zero, List.set_cons_succ]
              refine wpAnyH_ready (rs := [0]) (by kernel_rfl) (by simp) ?_
              refine AllReadyH.cons rfl (fun K hK => ?_) AllReadyH.nil
              go_simp
              refine hK.out _ _ trivial (fun hHeld => ?_)
              clear hHeld hK K
              try simp only [Act.put, List.setIfInBounds_toArray, List.set_cons_zero, List.set_cons_succ]
              refine wpAnyH_ready (rs := [3]) (by kernel_rfl) (by simp) ?_
              refine AllReadyH.cons rfl (fun K hK => ?_) AllReadyH.nil
              go_simp
              obtain ⟨lr, rr, hlr⟩ : ∃ lr rr, (lr, rr) = remR lb s := ⟨_, _, rfl⟩
              have hszc := hsz
              refine (specRemoveField_any Bb mb db lb s lr rr _ (by omega) (Rd.of_own ob) kb hlr).mono ?_; rintro e W3 ⟨A3, n3, c3, rfl, o3, b3⟩
              try go_wp2_with fail
              have hok3 := remR_ok hlr kb
              have hn3 := own_lenF o3
              have hm3 := own_lenF ob
              have hl3 := remR_len hlr
              have cq := hcr.below b3
              have gq := only_of_below b3 (some p)
              replace oa := own_only oa gq (by omega)
              replace ob := own_only ob gq (by omega)
              replace hcr := cq
              replace hg := only_trans hg gq
              replace d7 := gcell gq d7 (by omega)
              replace f7 := gfroz gq (by omega) f7 (by omega)
              replace d8 := gcell gq d8 (by omega)
              replace f8 := gfroz gq (by omega) f8 (by omega)
              have hs0 := gq.size
              replace hsz := Nat.le_trans hsz hs0
              clear hs0 gq cq
              clear hlr
              refine hK.out _ _ trivial (fun hHeld => ?_)
              clear hHeld hK K
              try simp only [Act.put, List.setIfInBounds_toArray, List.set_cons_zero, List.set_cons_succ]
              refine takeD (i := 4) (d := some 51) (v := ?_) _ rfl rfl (by kernel_rfl) (by kernel_rfl) (by kernel_rfl) (fun _ _ _ h => h) (Or.inl ⟨by rfl, ?_⟩) trivial ?_
              rotate_left
              · (intro W hSw; clear hSw; go_simp; try with_reducible rfl)
              try simp only [Act.put, List.setIfInBounds_toArray, List.set_cons_zero, List.set_cons_succ]
              refine takeD (i := 5) (d := some 56) (v := ?_) _ rfl rfl (by kernel_rfl) (by kernel_rfl) (by kernel_rfl) (fun _ _ _ h => h) (Or.inl ⟨by rfl, ?_⟩) trivial ?_
              rotate_left
              · (intro W hSw; clear hSw; go_simp; try with_reducible rfl)
              try simp only [Act.put, List.setIfInBounds_toArray, List.set_cons_zero, List.set_cons_succ]
              refine takeD (i := 6) (d := some 57) (v := ?_) _ rfl rfl (by kernel_rfl) (by kernel_rfl) (by kernel_rfl) (fun _ _ _ h => h) (Or.inl ⟨by rfl, ?_⟩) trivial ?_
              rotate_left
              · (intro W hSw; clear hSw; go_simp; try with_reducible rfl)
              try simp only [Act.put, List.setIfInBounds_toArray, List.set_cons_zero, List.set_cons_succ]
              refine wpAnyH_ready (rs := [7]) (by kernel_rfl) (by simp) ?_
              refine AllReadyH.cons rfl (fun K hK => ?_) AllReadyH.nil
              go_simp
              refine hK.out _ _ trivial (fun hHeld => ?_)
              clear hHeld hK K
              try simp only [Act.put, List.setIfInBounds_toArray, List.set_cons_zero, List.set_cons_succ]
              refine wpAnyH_done (by kernel_rfl) ?_ _
              have nb8 : ∀ ad, A3 = some ad → ad.block ≠ G7 := fun ad h => by have := (own_rng o3 ad h).1; omega
              have O8 := own_base (base' := WQ.heap.size) (ownsRow_setCell_below o3 (a := ⟨G8, 0, none⟩) (by show G8 < _; omega) (.slice A3 n3 c3)) (by omega)
              have P8 := own_setNe oa (a := ⟨G8, 0, none⟩) (.slice A3 n3 c3) na8
              have C8 := cur_set (v := .slice A3 n3 c3) (b := G8) (o := 0) hcr (by omega)
              have G8_ := gro_set (v := .slice A3 n3 c3) (b := G8) (o := 0) hg (by omega)
              have dx8 : (W3.setCell ⟨G8, 0, none⟩ (.slice A3 n3 c3)).cell? ⟨G8, 0, none⟩ = some (.slice A3 n3 c3) := by simp [go_sem, d8]
              have fx8 : (W3.setCell ⟨G8, 0, none⟩ (.slice A3 n3 c3)).frozen? ⟨G8, 0, none⟩ = false := by simp [f8]
              have dy8 : (W3.setCell ⟨G8, 0, none⟩ (.slice A3 n3 c3)).cell? ⟨G7, 0, none⟩ = some (.slice Ba ma da) := by
                rw [World.cell?_setCell_far _ ⟨G8, 0, none⟩ ⟨G7, 0, none⟩ _ (by show G8 ≠ G7; omega)]
                exact d7
              have fy8 : (W3.setCell ⟨G8, 0, none⟩ (.slice A3 n3 c3)).frozen? ⟨G7, 0, none⟩ = false := by simp [f7]
              have hs8 : G8 + 1 ≤ (W3.setCell ⟨G8, 0, none⟩ (.slice A3 n3 c3)).heap.size := by simpa using hsz
              have hn8 : n3 ≤ 5 := by omega
              clear o3 b3 hcr hg oa ob d7 f7 d8 f8 hsz
              generalize hWz : (W3.setCell ⟨G8, 0, none⟩ (.slice A3 n3 c3)) = Wz at O8 P8 C8 G8_ dx8 fx8 dy8 fy8 hs8 ⊢
              clear hWz
              go_wp2_with fail
              refine (l1Once_any p 10 _ (by omega) (by omega) C8).mono ?_
              rintro e w10 ⟨y, rfl, c10, g10⟩
              have qa := own_only P8 g10 (by omega)
              have qb := own_only O8 g10 (by omega)
              have qg := only_trans G8_ g10
              have q7 := gcell g10 dy8 (by omega)
              have qf7 := gfroz g10 (by omega) fy8 (by omega)
              have q8 := gcell g10 dx8 (by omega)
              have qs := Nat.le_trans hs8 g10.size
              clear P8 O8 G8_ C8 dy8 dx8 fy8 fx8 hs8 g10
              cases y
              · have q6F := gcell qg d6 (by omega)
                have qoF := own_onlyB oo3 qg hpo
                have e0 := gcell qg dR0 (by omega)
                have e1 := gcell qg dR1 (by omega)
                have e2 := gcell qg dR2 (by omega)
                have h0 := gfroz qg (by omega) fR0 (by omega)
                have h1 := gfroz qg (by omega) fR1 (by omega)
                have h2 := gfroz qg (by omega) fR2 (by omega)
                have BZF := below_only B3 qg B3.size (by omega)
                have q7F := q7
                have q8F := q8
                have qaF := qa
                have qbF := qb
                clear qa qb qg c10 q7 q8 qf7
                go_wp2
                refine wp_region_held_drew (S := fun W => W.cell? ⟨w2.heap.size, 0, none⟩ = some (.slice Bo mo do_) ∧ W.cell? ⟨G7, 0, none⟩ = some (.slice Ba ma da) ∧ W.cell? ⟨G8, 0, none⟩ = some (.slice A3 n3 c3)) (by kernel_rfl) ?_ (fun hHeld => ?_)
                · exact ⟨q6F, q7F, q8F⟩
                have kp : KP w WQ.heap.size w1.heap.size Bo mo do_ lo Ba ma da la A3 n3 c3 lr w10.drew := ⟨qoF, qaF, qbF, BZF.drew⟩
                replace e0 := (show w10.drew.cell? ⟨w.heap.size, 0, none⟩ = _ from e0)
                replace e1 := (show w10.drew.cell? ⟨w.heap.size + 1, 0, none⟩ = _ from e1)
                replace e2 := (show w10.drew.cell? ⟨w.heap.size + 1 + 1, 0, none⟩ = _ from e2)
                replace h0 := (show w10.drew.frozen? ⟨w.heap.size, 0, none⟩ = _ from h0)
                replace h1 := (show w10.drew.frozen? ⟨w.heap.size + 1, 0, none⟩ = _ from h1)
                replace h2 := (show w10.drew.frozen? ⟨w.heap.size + 1 + 1, 0, none⟩ = _ from h2)
                replace hHeld := (show (fun W => W.cell? ⟨w2.heap.size, 0, none⟩ = some (.slice Bo mo do_) ∧ W.cell? ⟨G7, 0, none⟩ = some (.slice Ba ma da) ∧ W.cell? ⟨G8, 0, none⟩ = some (.slice A3 n3 c3)) w10.drew from hHeld)
                clear qoF qaF qbF BZF q6F q7F q8F
                generalize w10.drew = wd at kp e0 e1 e2 h0 h1 h2 hHeld ⊢
                refine takeD (i := 0) (d := some 62) (v := ?_) _ rfl rfl (by kernel_rfl) (by kernel_rfl) (by kernel_rfl) (fun _ _ _ h => h) (Or.inl ⟨by rfl, ?_⟩) hHeld ?_
                rotate_left
                · (intro W hSw; (try dsimp only at hSw); go_simp; try with_reducible rfl)
                try simp only [Act.put, List.setIfInBounds_toArray, List.set_cons_zero, List.set_cons_succ]
                refine takeD (i := 1) (d := some 63) (v := ?_) _ rfl rfl (by kernel_rfl) (by kernel_rfl) (by kernel_rfl) (fun _ _ _ h => h) (Or.inl ⟨by rfl, ?_⟩) hHeld ?_
                rotate_left
                · (intro W hSw; (try dsimp only at hSw); go_simp; try with_reducible rfl)
                try simp only [Act.put, List.setIfInBounds_toArray, List.set_cons_zero, List.set_cons_succ]
                refine takeD (i := 2) (d := some 64) (v := ?_) _ rfl rfl (by kernel_rfl) (by kernel_rfl) (by kernel_rfl) (fun _ _ _ h => h) (Or.inl ⟨by rfl, ?_⟩) hHeld ?_
                rotate_left
                · (intro W hSw; (try dsimp only at hSw); go_simp; try with_reducible rfl)
                try simp only [Act.put, List.setIfInBounds_toArray, List.set_cons_zero, List.set_cons_succ]
                refine wpAnyH_ready (rs := [3]) (by kernel_rfl) (by simp) ?_
                refine AllReadyH.cons rfl (fun K hK => ?_) AllReadyH.nil
                go_simp
                have hS3 := setS3 hHeld (r := w.heap.size) (o := 0) (v := (.slice Bo mo do_)) (by omega) (by omega) (by omega)
                refine hK.out _ _ hS3 (fun _ => ?_)
                clear hK K
                try simp only [Act.put, List.setIfInBounds_toArray, List.set_cons_zero, List.set_cons_succ]
                refine wpAnyH_ready (rs := [4]) (by kernel_rfl) (by simp) ?_
                refine AllReadyH.cons rfl (fun K hK => ?_) AllReadyH.nil
                go_simp
                have hS4 := setS3 hS3 (r := w.heap.size + 1) (o := 0) (v := (.slice Ba ma da)) (by omega) (by omega) (by omega)
                refine hK.out _ _ hS4 (fun _ => ?_)
                clear hK K
                try simp only [Act.put, List.setIfInBounds_toArray, List.set_cons_zero, List.set_cons_succ]
                refine wpAnyH_ready (rs := [5]) (by kernel_rfl) (by simp) ?_
                refine AllReadyH.cons rfl (fun K hK => ?_) AllReadyH.nil
                go_simp
                have hS5 := setS3 hS4 (r := w.heap.size + 1 + 1) (o := 0) (v := (.slice A3 n3 c3)) (by omega) (by omega) (by omega)
                refine hK.out _ _ hS5 (fun _ => ?_)
                clear hK K
                try simp only [Act.put, List.setIfInBounds_toArray, List.set_cons_zero, List.set_cons_succ]
                refine wpAnyH_done (by kernel_rfl) ?_ _
                have FIN := Lib.hid (KP.fin (KP.set (KP.set (KP.set kp (r := w.heap.size) (.slice Bo mo do_) (by omega) (by omega)) (r := w.heap.size + 1) (.slice Ba ma da) (by omega) (by omega)) (r := w.heap.size + 1 + 1) (.slice A3 n3 c3) (by omega) (by omega)) ko ka hok3 (by omega) (by omega) (by omega))
                clear kp
                go_wp2
                exact bodyPost_ret (v := .tuple #[.agg #[.slice Bo mo do_], .agg #[.slice Ba ma da], .agg #[.slice A3 n3 c3]]) (by simp [results, Try.results72, go_sem, e0, e1, e2]) rfl FIN.out
              · go_wp2_with fail
                refine (l5Any_any p _ c10).mono ?_
                rintro e w11 ⟨Bz, mz, dz, lz, rfl, oz, ⟨kz, hmz⟩, c11, g11⟩
                have qbF := own_setNe (own_only qb g11 (by omega)) (a := ⟨G7, 0, none⟩) (.slice Bz mz dz) nb8
                have qaF := own_base (base' := WQ.heap.size) (ownsRow_setCell_below oz (a := ⟨G7, 0, none⟩) (by show G7 < _; omega) (.slice Bz mz dz)) (by omega)
                have qg' := gro_set (v := .slice Bz mz dz) (b := G7) (o := 0) (only_trans qg g11) (by omega)
                have p7 := gcell g11 q7 (by omega)
                have pf7 := gfroz g11 (by omega) qf7 (by omega)
                have q7F : (w11.setCell ⟨G7, 0, none⟩ (.slice Bz mz dz)).cell? ⟨G7, 0, none⟩ = some (.slice Bz mz dz) := by simp [go_sem, p7]
                have q8F : (w11.setCell ⟨G7, 0, none⟩ (.slice Bz mz dz)).cell? ⟨G8, 0, none⟩ = some (.slice A3 n3 c3) := by
                  rw [World.cell?_setCell_far _ ⟨G7, 0, none⟩ ⟨G8, 0, none⟩ _ (by show G7 ≠ G8; omega)]
                  exact gcell g11 q8 (by omega)
                have q6F := gcell qg' d6 (by omega)
                have qoF := own_onlyB oo3 qg' hpo
                have e0 := gcell qg' dR0 (by omega)
                have e1 := gcell qg' dR1 (by omega)
                have e2 := gcell qg' dR2 (by omega)
                have h0 := gfroz qg' (by omega) fR0 (by omega)
                have h1 := gfroz qg' (by omega) fR1 (by omega)
                have h2 := gfroz qg' (by omega) fR2 (by omega)
                have BZF := below_only B3 qg' B3.size (by omega)
                clear oz qa qb qg qg' c10 c11 g11 q7 q8 qf7
                go_wp2
                obtain ⟨X, hX⟩ : ∃ X, X = w11.setCell ⟨G7, 0, none⟩ (.slice Bz mz dz) := ⟨_, rfl⟩
                rw [← hX] at qaF qbF q7F q8F q6F qoF e0 e1 e2 h0 h1 h2 BZF ⊢
                clear hX p7 pf7
                refine wp_region_held_drew (S := fun W => W.cell? ⟨w2.heap.size, 0, none⟩ = some (.slice Bo mo do_) ∧ W.cell? ⟨G7, 0, none⟩ = some (.slice Bz mz dz) ∧ W.cell? ⟨G8, 0, none⟩ = some (.slice A3 n3 c3)) (by kernel_rfl) ?_ (fun hHeld => ?_)
                · exact ⟨q6F, q7F, q8F⟩
                have kp : KP w WQ.heap.size w1.heap.size Bo mo do_ lo Bz mz dz lz A3 n3 c3 lr X.drew := ⟨qoF, qaF, qbF, BZF.drew⟩
                replace e0 := (show X.drew.cell? ⟨w.heap.size, 0, none⟩ = _ from e0)
                replace e1 := (show X.drew.cell? ⟨w.heap.size + 1, 0, none⟩ = _ from e1)
                replace e2 := (show X.drew.cell? ⟨w.heap.size + 1 + 1, 0, none⟩ = _ from e2)
                replace h0 := (show X.drew.frozen? ⟨w.heap.size, 0, none⟩ = _ from h0)
                replace h1 := (show X.drew.frozen? ⟨w.heap.size + 1, 0, none⟩ = _ from h1)
                replace h2 := (show X.drew.frozen? ⟨w.heap.size + 1 + 1, 0, none⟩ = _ from h2)
                replace hHeld := (show (fun W => W.cell? ⟨w2.heap.size, 0, none⟩ = some (.slice Bo mo do_) ∧ W.cell? ⟨G7, 0, none⟩ = some (.slice Bz mz dz) ∧ W.cell? ⟨G8, 0, none⟩ = some (.slice A3 n3 c3)) X.drew from hHeld)
                clear qoF qaF qbF BZF q6F q7F q8F
                generalize X.drew = wd at kp e0 e1 e2 h0 h1 h2 hHeld ⊢
                refine takeD (i := 0) (d := some 62) (v := ?_) _ rfl rfl (by kernel_rfl) (by kernel_rfl) (by kernel_rfl) (fun _ _ _ h => h) (Or.inl ⟨by rfl, ?_⟩) hHeld ?_
                rotate_left
                · (intro W hSw; (try dsimp only at hSw); go_simp; try with_reducible rfl)
                try simp only [Act.put, List.setIfInBounds_toArray, List.set_cons_zero, List.set_cons_succ]
                refine takeD (i := 1) (d := some 63) (v := ?_) _ rfl rfl (by kernel_rfl) (by kernel_rfl) (by kernel_rfl) (fun _ _ _ h => h) (Or.inl ⟨by rfl, ?_⟩) hHeld ?_
                rotate_left
                · (intro W hSw; (try dsimp only at hSw); go_simp; try with_reducible rfl)
                try simp only [Act.put, List.setIfInBounds_toArray, List.set_cons_zero, List.set_cons_succ]
                refine takeD (i := 2) (d := some 64) (v := ?_) _ rfl rfl (by kernel_rfl) (by kernel_rfl) (by kernel_rfl) (fun _ _ _ h => h) (Or.inl ⟨by rfl, ?_⟩) hHeld ?_
                rotate_left
                · (intro W hSw; (try dsimp only at hSw); go_simp; try with_reducible rfl)
                try simp only [Act.put, List.setIfInBounds_toArray, List.set_cons_zero, List.set_cons_succ]
                refine wpAnyH_ready (rs := [3]) (by kernel_rfl) (by simp) ?_
                refine AllReadyH.cons rfl (fun K hK => ?_) AllReadyH.nil
                go_simp
                have hS3 := setS3 hHeld (r := w.heap.size) (o := 0) (v := (.slice Bo mo do_)) (by omega) (by omega) (by omega)
                refine hK.out _ _ hS3 (fun _ => ?_)
                clear hK K
                try simp only [Act.put, List.setIfInBounds_toArray, List.set_cons_zero, List.set_cons_succ]
                refine wpAnyH_ready (rs := [4]) (by kernel_rfl) (by simp) ?_
                refine AllReadyH.cons rfl (fun K hK => ?_) AllReadyH.nil
                go_simp
                have hS4 := setS3 hS3 (r := w.heap.size + 1) (o := 0) (v := (.slice Bz mz dz)) (by omega) (by omega) (by omega)
                refine hK.out _ _ hS4 (fun _ => ?_)
                clear hK K
                try simp only [Act.put, List.setIfInBounds_toArray, List.set_cons_zero, List.set_cons_succ]
                refine wpAnyH_ready (rs := [5]) (by kernel_rfl) (by simp) ?_
                refine AllReadyH.cons rfl (fun K hK => ?_) AllReadyH.nil
                go_simp
                have hS5 := setS3 hS4 (r := w.heap.size + 1 + 1) (o := 0) (v := (.slice A3 n3 c3)) (by omega) (by omega) (by omega)
                refine hK.out _ _ hS5 (fun _ => ?_)
                clear hK K
                try simp only [Act.put, List.setIfInBounds_toArray, List.set_cons_zero, List.set_cons_succ]
                refine wpAnyH_done (by kernel_rfl) ?_ _
                have FIN := Lib.hid (KP.fin (KP.set (KP.set (KP.set kp (r := w.heap.size) (.slice Bo mo do_) (by omega) (by omega)) (r := w.heap.size + 1) (.slice Bz mz dz) (by omega) (by omega)) (r := w.heap.size + 1 + 1) (.slice A3 n3 c3) (by omega) (by omega)) ko kz hok3 (by omega) (by omega) (by omega))
                clear kp
                go_wp2
                exact bodyPost_ret (v := .tuple #[.agg #[.slice Bo mo do_], .agg #[.slice Bz mz dz], .agg #[.slice A3 n3 c3]]) (by simp [results, Try.results72, go_sem, e0, e1, e2]) rfl FIN.out
end Go.Proofs.Ytbbngihmjdndoaa
