/-
  Proved: the contract of DecodeRecord of the program. Conditions: the slice reads as a list.
  By an AI agent; no person has read it.
-/
import Derived.Test.YtbbngihmjdndoaaFldE
import Derived.Test.YtbbngihmjdndoaaFldC
import Derived.Test.YtbbngihmjdndoaaEqImpl
namespace Go.Proofs.Ytbbngihmjdndoaa
open Go.RowKit

/-- The call makes a record and a bool; what was there stands. -/
def MkRB (w : World) (l : List Fld) (r : Bool) (e : Ending) (w' : World) : Prop := ∃ A n c, e = .returned (.tuple #[.agg #[.slice A n c], .bool r]) ∧ w'.ownsRow w.heap.size 91 2 (.slice A n c) n (fl l) ∧ Below w.heap.size w w'
def decO (o : Option (List Fld)) : List Fld × Bool := match o with | none => ([], false) | some x => (x, true)
theorem own_nilF {w : World} {base : Nat} {e : TypeId} : w.ownsRow base e 2 (.slice none 0 0) 0 (fl []) := ⟨by simp [fl], .inl ⟨rfl, rfl⟩⟩
section
variable {P : Program} (w : World)
/-- append of one new field (two cells, in a new block of their own) to a row of the run's own: at the operation. -/
theorem wpList_pushF {ops : Array Oper} {rest : List Oper} {o : Oper} {a : Act} {Q : Exit → Act → World → Prop} (hgd : o.guard = none) (s x : Operand) (t : TypeId)
    (ho : o.op = .call { callee := .builtin .append, args := #[s, x], argTypes := #[t, t] })
    (base : Nat) (e : TypeId) (i : TypeInfo) (z : Value) (bytes : Nat) (ht : P.underlying t = some (.slice e)) (hi : P.info? e = some i) (hz : i.zero = some z)
    (hsize : i.size = 2) (hby : i.bytes = bytes) (hzs : z.cells.size = 2)
    (A : Option Addr) (n c : Nat) (l : List Fld) (hs : a.eval s = .slice A n c) (hown : w.ownsRow base e 2 (.slice A n c) n (fl l))
    (nm : ByteArray) (v : Int) (hx : a.eval x = .slice (some ⟨w.heap.size, 0, none⟩) 1 1)
    (h63 : n + 1 ≤ maxLen) (hbytes : (n + 1) * bytes ≤ 140737488355328) (hbase : base ≤ w.heap.size)
    (h : ∀ A' k' c' w', k' = n + 1 → w'.ownsRow base e 2 (.slice A' k' c') k' (fl (l ++ [(nm, v)])) → Below base w w' → w.grownBy w' (A.map (·.block)) → wpList P ops Q rest (a.put o.dst (.slice A' k' c')) w') : wpList P ops Q (o :: rest) a (w.alloc (.cells #[.string nm, .int .i64 v] e)) := by
  refine wpList_cat (w.alloc (.cells #[.string nm, .int .i64 v] e)) hgd s x t ho base e i z 2 bytes ht hi hz hsize hby hzs (by decide) A n c (fl l) hs (hown.alloc _) (some ⟨w.heap.size, 0, none⟩) 1 1 (fl [(nm, v)]) hx ⟨rfl, fun _ => ⟨_, _, rfl, by simp, fun j u' hu => ?_⟩⟩ (ones_fl _) h63 hbytes (by simp; omega) (fun A' k' c' w' hk h2 h3 h4 => h A' k' c' w' hk (by rw [fl_append]; exact h2) (((Below.refl _ _).alloc hbase _).trans h3) ((World.grownBy_alloc w _ _).trans h4))
  match j, hu with
  | 0, hu => simp [fl, fv] at hu; subst hu; simp
  | 1, hu => simp [fl, fv] at hu; subst hu; simp
  | j + 2, hu => simp [fl, fv] at hu
end
/-- The reading from here on, behind what was read. -/
def restF (b : List UInt8) (acc : List Fld) (k : Nat) (a : Int) : Option (List Fld × Int) := (readFs b k a).map fun p => (acc ++ p.1, p.2)
theorem restF_no {b : List UInt8} {acc : List Fld} {k : Nat} {a : Int} (h : readB b a 8 = none) : restF b acc (k + 1) a = none := by simp [restF, readFs, h]
theorem restF_no2 {b nm : List UInt8} {acc : List Fld} {k p : Nat} {a : Int} (h : readB b a 8 = some (nm, p)) (h2 : readU b (p : Int) = none) : restF b acc (k + 1) a = none := by simp [restF, readFs, h, h2]
theorem restF_step {b nm : List UInt8} {acc : List Fld} {k p v q : Nat} {a : Int} (h : readB b a 8 = some (nm, p)) (h2 : readU b (p : Int) = some (v, q)) : restF b acc (k + 1) a = restF b (acc ++ [(strOf nm, (v : Int))]) k (q : Int) := by
  simp only [restF, readFs, h, h2, Option.map_map]
  congr 1
  funext p
  simp
theorem restF_zero {b : List UInt8} {acc : List Fld} {a : Int} : restF b acc 0 a = some (acc, a) := by simp [restF, readFs]

theorem MkRB_no {w w1 : World} {lr : List Fld} {r : Bool} (h : (lr, r) = ([], false)) (hb : Below w.heap.size w w1) : MkRB w lr r (.returned (.tuple #[.agg #[.slice none 0 0], .bool false])) w1 := by
  obtain ⟨rfl, rfl⟩ := Prod.mk.inj h
  exact ⟨_, _, _, rfl, own_nilF, hb⟩
theorem MkRB_yes {w w1 : World} {lr l : List Fld} {r : Bool} {A : Option Addr} {n c : Nat} (h : (lr, r) = (l, true)) (ho : w1.ownsRow w.heap.size 91 2 (.slice A n c) n (fl l)) (hb : Below w.heap.size w w1) : MkRB w lr r (.returned (.tuple #[.agg #[.slice A n c], .bool true])) w1 := by
  obtain ⟨rfl, rfl⟩ := Prod.mk.inj h
  exact ⟨_, _, _, rfl, ho, hb⟩
theorem kfro {W w1 : World} (hb : Below W.heap.size W w1) {b o : Nat} (hlt : b < W.heap.size) (h : W.frozen? ⟨b, o, none⟩ = false) : w1.frozen? ⟨b, o, none⟩ = false := (hb.frozen (p := ⟨b, o, none⟩) hlt).trans h
theorem dec_no {b : List UInt8} {lr : List Fld} {r : Bool} (h : (lr, r) = decO (decP b)) (h2 : readR b = none) : (lr, r) = ([], false) := by
  rw [h]
  unfold decP
  rw [h2]
  rfl
theorem dec_some {b : List UInt8} {lr l : List Fld} {q : Int} {r : Bool} (h : (lr, r) = decO (decP b)) (h2 : readR b = some (l, q)) : (lr, r) = if encR l = b then (l, true) else ([], false) := by
  rw [h]
  unfold decP
  rw [h2]
  simp only []
  split <;> rfl
theorem okW_okF {l : List Fld} (h : ∀ f ∈ l, okW f) : okF l := fun f hf => by
  obtain ⟨h1, h2, h3⟩ := h f hf
  unfold maxLen
  omega

set_option maxRecDepth 100000 in
set_option maxHeartbeats 2000000 in
theorem implDecodeRecord_any (A : Option Addr) (n c : Nat) (b : List UInt8) (lr : List Fld) (r : Bool) (w : World) (hn : n ≤ 1048576) (hnc : n ≤ c) (hcm : c ≤ maxLen) (ha : Rd w 1 A n (b.map bv)) (hr : (lr, r) = decO (decP b)) :
    Calls Try.prog 50 #[.slice A n c] w (MkRB w lr r) := by
  obtain ⟨i0, hi, hz0, hz1, hz2⟩ := info_parts infoF
  have HR := Lib.hid hr
  have LB := Lib.hid ha.lenB
  have HCM := Lib.hid hcm
  clear hr hcm
  cases hu : readU b 0 with
  | none =>
    have HN := Lib.hid (dec_no HR.out (by unfold readR; rw [hu]))
    have HU := Lib.hid hu
    clear hu
    go_enter Try.func50, Try.ntmps50
    go_wp2_with fail
    refine (implReadUvarint_none A n c b 0 _ (by omega) (ha.alloc _) HU.out).mono ?_
    rintro e w1 ⟨rfl, b1⟩
    have d0 : w1.cell? ⟨w.heap.size, 0, none⟩ = some (.slice none 0 0) := kcell b1 (by simp)
    have f0 : w1.frozen? ⟨w.heap.size, 0, none⟩ = false := kfro b1 (by simp) (by simp [go_sem])
    have B1 : Below w.heap.size w w1 := Below.trans (al (Below.refl _ _)) (b1.mono (by simp))
    have B2 := Lib.hid (B1.setCell (p := ⟨w.heap.size, 0, none⟩) (by simp) (.slice none 0 0))
    clear b1 B1
    go_wp2
    exact bodyPost_ret (v := .tuple #[.agg #[.slice none 0 0], .bool false]) (by simp [results, Try.results50, go_sem, d0]) rfl (MkRB_no HN.out B2.out)
  | some p =>
    obtain ⟨m, nx⟩ := p
    have HU := Lib.hid hu
    have hul := readU_le hu
    clear hu
    by_cases h6 : m ≤ 6
    · have HRR : Hid (readR b = restF b [] m (nx : Int)) := by
        have : readR b = restF b [] m (nx : Int) := by
          unfold readR restF
          rw [HU.out]
          simp [h6]
        exact Lib.hid this
      go_enter Try.func50, Try.ntmps50
      go_wp2_with fail
      refine (implReadUvarint_some A n c b 0 m nx _ (by omega) (ha.alloc _) HU.out).mono ?_
      rintro e w1 ⟨rfl, b1⟩
      have d0 : (w1.alloc (.cells #[.slice none 0 0] 28)).cell? ⟨w.heap.size, 0, none⟩ = some (.slice none 0 0) := kcell (al (Below.refl _ _)) (kcell b1 (by simp))
      have f0 : (w1.alloc (.cells #[.slice none 0 0] 28)).frozen? ⟨w.heap.size, 0, none⟩ = false := kfro (al (Below.refl _ _)) (by have := b1.size; simp at this; omega) (kfro b1 (by simp) (by simp [go_sem]))
      have B1 : Below w.heap.size w (w1.alloc (.cells #[.slice none 0 0] 28)) := al (Below.trans (al (Below.refl _ _)) (b1.mono (by simp)))
      have hw1 : w.heap.size < w1.heap.size := by have := b1.size; simp at this; omega
      have hmn : ¬ ((6 : Int) < (m : Int)) := by omega
      have hnb : nx ≤ n := by have := LB.out; omega
      clear b1
      go_wp2
      go_loopw [5, 8] (fun a i wr => ∃ (k : Nat) (x : Int) (acc : List Fld) (B : Option Addr) (p d : Nat), k ≤ m ∧ i = .int .i64 k ∧ a = .int .i64 x ∧ (0 ≤ x ∧ x ≤ n) ∧ readR b = restF b acc (m - k) x ∧ (∀ f ∈ acc, okW f) ∧ (p = k ∧ wr.ownsRow (w1.heap.size + 1) 91 2 (.slice B p d) p (fl acc)) ∧ wr.cell? ⟨w1.heap.size, 0, none⟩ = some (.slice B p d) ∧ wr.frozen? ⟨w1.heap.size, 0, none⟩ = false ∧ wr.cell? ⟨w.heap.size, 0, none⟩ = some (.slice none 0 0) ∧ wr.frozen? ⟨w.heap.size, 0, none⟩ = false ∧ (w1.heap.size + 1 ≤ wr.heap.size ∧ Below w.heap.size w wr)) (fun _ i _ => m - (intOf i).toNat)
      case atStart => exact ⟨0, nx, [], none, 0, 0, Nat.zero_le _, rfl, rfl, ⟨by omega, by omega⟩, HRR.out, fun f hf => (by cases hf), ⟨rfl, own_nilF⟩, by simp, by simp [go_sem], d0, f0, by simp, B1⟩
      case round =>
        obtain ⟨k, x, acc, B, p, d, hk, rfl, rfl, hx, hrest, hacc, ⟨hpk, ho⟩, dB, fB, dR, fR, hsz, hbel⟩ := hrel
        have HREST := Lib.hid hrest
        have HACC := Lib.hid hacc
        have HPK := Lib.hid hpk
        clear hrest hacc d0 f0 B1 hpk
        by_cases hlt : k < m
        · obtain ⟨j, hj⟩ : ∃ j, m - k = j + 1 := ⟨m - k - 1, by omega⟩
          have HJ := Lib.hid hj
          clear hj
          cases hb8 : readB b x 8 with
          | none =>
            have HB := Lib.hid hb8
            have HN := Lib.hid (dec_no HR.out (by rw [HREST.out, HJ.out, restF_no hb8]))
            clear hb8
            go_wp2_with fail
            refine (implReadBytes_no A n c b x 8 _ (by omega) (ha.below hbel) (by omega) HB.out).mono ?_
            rintro e w2 ⟨A2, n2, c2, rfl, -, b2⟩
            have B2 := hbel.trans (b2.mono hbel.size)
            replace dR := kcell b2 dR
            replace fR := kfro b2 (by omega) fR
            have hs2 := b2.size
            clear b2
            go_wp2_with fail
            refine (implReadUvarint_some A n c b 0 m nx _ (by omega) (ha.below B2) HU.out).mono ?_
            rintro e w3 ⟨rfl, b3⟩
            have B3 := Lib.hid ((B2.trans (b3.mono B2.size)).setCell (p := ⟨w.heap.size, 0, none⟩) (by simp) (.slice none 0 0))
            replace dR := kcell b3 dR
            replace fR := kfro b3 (by omega) fR
            clear b3 B2
            go_wp2
            exact bodyPost_ret (v := .tuple #[.agg #[.slice none 0 0], .bool false]) (by simp [results, Try.results50, go_sem, dR]) rfl (MkRB_no HN.out B3.out)
          | some pr =>
            obtain ⟨nm, q⟩ := pr
            have HB := Lib.hid hb8
            obtain ⟨c1, c2, c3, c4, -⟩ := readB_canon hb8
            clear hb8
            have hqn : q ≤ n := by have := LB.out; omega
            go_wp2_with fail
            refine (implReadBytes_yes A n c b nm x 8 q _ (by omega) hnc HCM.out (ha.below hbel) (by omega) HB.out).mono ?_
            rintro e w2 ⟨A2, n2, c2', rfl, o2, b2⟩
            have B2 := hbel.trans (b2.mono hbel.size)
            replace dR := kcell b2 dR
            replace fR := kfro b2 (by omega) fR
            replace dB := kcell b2 dB
            replace fB := kfro b2 (by omega) fB
            replace ho := own_below ho b2
            have hs2 := b2.size
            clear b2
            cases hu2 : readU b (q : Int) with
            | none =>
              have HU2 := Lib.hid hu2
              have HN := Lib.hid (dec_no HR.out (by rw [HREST.out, HJ.out, restF_no2 HB.out hu2]))
              clear hu2
              go_wp2_with fail
              refine (implReadUvarint_none A n c b q _ (by omega) (ha.below B2) HU2.out).mono ?_
              rintro e w3 ⟨rfl, b3⟩
              have B3 := Lib.hid ((B2.trans (b3.mono B2.size)).setCell (p := ⟨w.heap.size, 0, none⟩) (by simp) (.slice none 0 0))
              replace dR := kcell b3 dR
              replace fR := kfro b3 (by omega) fR
              clear b3 B2
              go_wp2
              exact bodyPost_ret (v := .tuple #[.agg #[.slice none 0 0], .bool false]) (by simp [results, Try.results50, go_sem, dR]) rfl (MkRB_no HN.out B3.out)
            | some pu =>
              obtain ⟨v, q2⟩ := pu
              have HU2 := Lib.hid hu2
              have hul2 := readU_le hu2
              have HS := Lib.hid (HREST.out.trans (by rw [HJ.out, restF_step HB.out hu2]))
              clear hu2
              go_wp2_with fail
              refine (implReadUvarint_some A n c b q v q2 _ (by omega) (ha.below B2) HU2.out).mono ?_
              rintro e w3 ⟨rfl, b3⟩
              have B3 := B2.trans (b3.mono B2.size)
              replace dR := kcell b3 dR
              replace fR := kfro b3 (by omega) fR
              replace dB := kcell b3 dB
              replace fB := kfro b3 (by omega) fB
              replace ho := own_below ho b3
              have hs3 := b3.size
              have hcv := run_str_of w3 58 9 5 A2 n2 c2' nm Try.underlying58 Try.underlying5 Try.underlying9 (Rd.of_own (own_below o2 b3))
              clear b3 o2 B2
              go_wp2_with (at_builtin; refine wpList_pushF w3 rfl _ _ 26 (by rfl) (w1.heap.size + 1) 91 i0 (.agg #[.string ⟨#[]⟩, .int .i64 0]) 24 Try.underlying26 hi hz0 hz1 hz2 rfl B p d acc (by rfl) ho (strOf nm) v (by rfl) ?c1 ?c2 ?c3 ?_)
              case c1 => unfold maxLen; have := HPK.out; omega
              case c2 => have := HPK.out; omega
              case c3 => omega
              intro A4 p4 c4' w4 hp4 o4 b4 _
              have hs4 := b4.size
              have B4 := B3.trans (b4.mono (by omega))
              replace dR : w4.cell? ⟨w.heap.size, 0, none⟩ = _ := (b4.cell (p := ⟨w.heap.size, 0, none⟩) (by simp; omega)).trans dR
              replace fR : w4.frozen? ⟨w.heap.size, 0, none⟩ = _ := (b4.frozen (p := ⟨w.heap.size, 0, none⟩) (by simp; omega)).trans fR
              replace dB : w4.cell? ⟨w1.heap.size, 0, none⟩ = _ := (b4.cell (p := ⟨w1.heap.size, 0, none⟩) (by simp)).trans dB
              replace fB : w4.frozen? ⟨w1.heap.size, 0, none⟩ = _ := (b4.frozen (p := ⟨w1.heap.size, 0, none⟩) (by simp)).trans fB
              have O5 := Lib.hid (ownsRow_setCell_below o4 (a := ⟨w1.heap.size, 0, none⟩) (by simp) (.slice A4 p4 c4'))
              have B5 := Lib.hid (B4.setCell (p := ⟨w1.heap.size, 0, none⟩) (by simp; omega) (.slice A4 p4 c4'))
              have HP4 : Hid (p4 = k + 1) := by have h1 := HPK.out; subst h1; exact Lib.hid hp4
              have dB5 : (w4.setCell ⟨w1.heap.size, 0, none⟩ (.slice A4 p4 c4')).cell? ⟨w1.heap.size, 0, none⟩ = some (.slice A4 p4 c4') := by simp [go_sem, dB]
              have fB5 : (w4.setCell ⟨w1.heap.size, 0, none⟩ (.slice A4 p4 c4')).frozen? ⟨w1.heap.size, 0, none⟩ = false := by simp [fB]
              have dR5 : (w4.setCell ⟨w1.heap.size, 0, none⟩ (.slice A4 p4 c4')).cell? ⟨w.heap.size, 0, none⟩ = some (.slice none 0 0) := by rw [World.cell?_setCell_far w4 ⟨w1.heap.size, 0, none⟩ ⟨w.heap.size, 0, none⟩ _ (by show w1.heap.size ≠ w.heap.size; omega)]; exact dR
              have fR5 : (w4.setCell ⟨w1.heap.size, 0, none⟩ (.slice A4 p4 c4')).frozen? ⟨w.heap.size, 0, none⟩ = false := by simp [fR]
              have S5 : Hid (w1.heap.size + 1 ≤ (w4.setCell ⟨w1.heap.size, 0, none⟩ (.slice A4 p4 c4')).heap.size) := Lib.hid (by simp; omega)
              have HA5 : Hid (∀ f ∈ acc ++ [(strOf nm, (v : Int))], okW f) := Lib.hid (fun f hf => by
                rcases List.mem_append.1 hf with h | h
                · exact HACC.out f h
                · rw [List.mem_singleton] at h
                  subst h
                  exact ⟨by show (strOf nm).size ≤ _; rw [strOf_size]; omega, by show (0 : Int) ≤ (v : Int); omega, by show (v : Int) ≤ _; omega⟩)
              have DB5 := Lib.hid dB5
              have FB5 := Lib.hid fB5
              have DR5 := Lib.hid dR5
              have FR5 := Lib.hid fR5
              clear o4 b4 B4 B3 hp4 ho dB5 fB5 dR5 fR5 hcv
              go_wp2
              go_roundw
              case rel => exact ⟨k + 1, q2, _, A4, p4, c4', by omega, by go_num, rfl, ⟨by omega, by have := LB.out; omega⟩, by rw [show m - (k + 1) = j by have := HJ.out; omega]; exact HS.out, HA5.out, ⟨HP4.out, O5.out⟩, DB5.out, FB5.out, DR5.out, FR5.out, S5.out, B5.out⟩
              case measure => simp [intOf]; omega
        · obtain rfl : k = m := by omega
          have HE := Lib.hid (dec_some HR.out (by rw [HREST.out, Nat.sub_self, restF_zero]))
          have hp6 : p ≤ 6 := by have := HPK.out; omega
          go_wp2_with fail
          refine (implEncodeRecord_any B p d acc _ (by omega) (Rd.of_own ho) (okW_okF HACC.out)).mono ?_
          rintro e w2 ⟨A2, n2, c2, rfl, o2, b2⟩
          have B2 := hbel.trans (b2.mono hbel.size)
          have hn2 : n2 ≤ 1099511627776 := by have h1 := own_lenB o2; have h2 := encR_len acc; omega
          replace dR := kcell b2 dR
          replace fR := kfro b2 (by omega) fR
          replace dB := kcell b2 dB
          replace ho := own_below ho b2
          have hs2 := b2.size
          clear b2
          obtain ⟨q, hq⟩ : ∃ q, q = decide (encR acc = b) := ⟨_, rfl⟩
          have HQ := Lib.hid hq
          clear hq
          go_wp2_with fail
          refine (implEqualBytes_any A2 A n2 n c2 c (encR acc) b q _ (by unfold maxLen; omega) (by unfold maxLen; omega) (Rd.of_own o2) (ha.below B2) HQ.out).mono ?_
          rintro e w3 ⟨rfl, b3⟩
          have B3 := B2.trans (b3.mono B2.size)
          replace dR := kcell b3 dR
          replace fR := kfro b3 (by omega) fR
          replace dB := kcell b3 dB
          replace ho := own_below ho b3
          have hs3 := b3.size
          clear b3
          cases q
          · have HN : Hid ((lr, r) = ([], false)) := Lib.hid (by rw [HE.out, if_neg (by simpa using HQ.out)])
            have B4 := Lib.hid (B3.setCell (p := ⟨w.heap.size, 0, none⟩) (by simp) (.slice none 0 0))
            go_wp2
            exact bodyPost_ret (v := .tuple #[.agg #[.slice none 0 0], .bool false]) (by simp [results, Try.results50, go_sem, dR]) rfl (MkRB_no HN.out B4.out)
          · have HN : Hid ((lr, r) = (acc, true)) := Lib.hid (by rw [HE.out, if_pos (by simpa using HQ.out)])
            have B4 := Lib.hid (B3.setCell (p := ⟨w.heap.size, 0, none⟩) (by simp) (.slice B p d))
            have O4 := Lib.hid (own_base (base' := w.heap.size) (ownsRow_setCell_below ho (a := ⟨w.heap.size, 0, none⟩) (by simp; omega) (.slice B p d)) (by omega))
            go_wp2
            exact bodyPost_ret (v := .tuple #[.agg #[.slice B p d], .bool true]) (by simp [results, Try.results50, go_sem, dR]) rfl (MkRB_yes HN.out O4.out B4.out)
    · have HN := Lib.hid (dec_no HR.out (by unfold readR; rw [HU.out]; simp [h6]))
      have hmn : ((6 : Int) < (m : Int)) := by omega
      go_enter Try.func50, Try.ntmps50
      go_wp2_with fail
      refine (implReadUvarint_some A n c b 0 m nx _ (by omega) (ha.alloc _) HU.out).mono ?_
      rintro e w1 ⟨rfl, b1⟩
      have d0 : w1.cell? ⟨w.heap.size, 0, none⟩ = some (.slice none 0 0) := kcell b1 (by simp)
      have f0 : w1.frozen? ⟨w.heap.size, 0, none⟩ = false := kfro b1 (by simp) (by simp [go_sem])
      have B1 : Below w.heap.size w w1 := Below.trans (al (Below.refl _ _)) (b1.mono (by simp))
      have B2 := Lib.hid (B1.setCell (p := ⟨w.heap.size, 0, none⟩) (by simp) (.slice none 0 0))
      clear b1 B1
      go_wp2
      exact bodyPost_ret (v := .tuple #[.agg #[.slice none 0 0], .bool false]) (by simp [results, Try.results50, go_sem, d0]) rfl (MkRB_no HN.out B2.out)
end Go.Proofs.Ytbbngihmjdndoaa
