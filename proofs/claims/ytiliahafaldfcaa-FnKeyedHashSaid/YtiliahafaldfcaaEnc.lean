/-
  Proved: the contracts of Encrypt and Decrypt, of the program and of the reference. Conditions: the slice reads as a list.
  By an AI agent; no person has read it.
-/
import Derived.Test.YtiliahafaldfcaaKh
import Derived.Test.YtiliahafaldfcaaUv
import Derived.RegionTactic
import Derived.Deep.RegionWith
namespace Go.Proofs.Ytiliahafaldfcaa
open Go.RowKit

/-- The key's stream. -/
def ksN (k : Int) (i : Nat) : Nat := (khF k [(i : Int)]).toNat % 256
def encF (k : Int) (l : List UInt8) : List UInt8 := l.mapIdx fun i x => x + UInt8.ofNat (ksN k i)
def decF (k : Int) (l : List UInt8) : List UInt8 := l.mapIdx fun i x => x - UInt8.ofNat (ksN k i)
theorem ksN_lt (k : Int) (i : Nat) : ksN k i < 256 := Nat.mod_lt _ (by omega)
theorem ksN_int (k : Int) (i : Nat) : khF k [(i : Int)] % 256 = (ksN k i : Int) := by
  have := (khF_rng k [(i : Int)]).1
  unfold ksN
  omega
theorem encF_len (k : Int) (l : List UInt8) : (encF k l).length = l.length := by simp [encF]
theorem decF_len (k : Int) (l : List UInt8) : (decF k l).length = l.length := by simp [decF]
/-- The first element of the part that is still as it was. -/
theorem mid_at {E l : List UInt8} {k : Nat} (h : E.length = l.length) (hk : k < l.length) : (E.take k ++ l.drop k)[k]? = l[k]? := by
  rw [List.getElem?_append_right (by simp; omega), List.getElem?_drop]
  congr 1
  simp
  omega
theorem mid_set {E l : List UInt8} {k : Nat} {y : UInt8} (h : E.length = l.length) (hy : E[k]? = some y) : ((E.take k ++ l.drop k).map bv).set k (bv y) = (E.take (k + 1) ++ l.drop (k + 1)).map bv := by
  have hk : k < E.length := (List.getElem?_eq_some_iff.1 hy).1
  have e1 : (E.take k).length = k := by simp; omega
  rw [take_snoc hy, List.drop_eq_getElem_cons (show k < l.length by omega), List.map_append, List.set_append_right _ _ (by rw [List.length_map, e1]; exact Nat.le_refl _), List.length_map, e1, Nat.sub_self, List.map_cons, List.set_cons_zero]
  simp
theorem encF_at {key : Int} {l : List UInt8} {k : Nat} {x : UInt8} (h : l[k]? = some x) : (encF key l)[k]? = some (x + UInt8.ofNat (ksN key k)) := by simp [encF, List.getElem?_mapIdx, h]
theorem decF_at {key : Int} {l : List UInt8} {k : Nat} {x : UInt8} (h : l[k]? = some x) : (decF key l)[k]? = some (x - UInt8.ofNat (ksN key k)) := by simp [decF, List.getElem?_mapIdx, h]
theorem ks_tmod (key : Int) (k : Nat) : (khF key [(k : Int)]).tmod 256 = (ksN key k : Int) := by
  rw [Int.tmod_eq_emod_of_nonneg (khF_rng _ _).1, ksN_int]
theorem enc_val (key : Int) (k : Nat) (x : UInt8) : Value.int .u8 (((x.toNat : Int) + (khF key [(k : Int)]).tmod 256 % 256) % 256) = bv (x + UInt8.ofNat (ksN key k)) := by
  have h := ksN_lt key k
  rw [ks_tmod]
  unfold bv
  rw [UInt8.toNat_add, UInt8.toNat_ofNat']
  congr 1
  all_goals omega
theorem dec_val (key : Int) (k : Nat) (x : UInt8) : Value.int .u8 (((x.toNat : Int) - (khF key [(k : Int)]).tmod 256 % 256) % 256) = bv (x - UInt8.ofNat (ksN key k)) := by
  have h := ksN_lt key k
  have hx := x.toNat_lt
  rw [ks_tmod]
  unfold bv
  rw [UInt8.toNat_sub, UInt8.toNat_ofNat']
  congr 1
  omega
theorem rd_one (w : World) (u : Value) (t : TypeId) : Rd (w.alloc (.cells #[u] t)) 1 (some ⟨w.heap.size, 0, none⟩) 1 [u] :=
  ⟨by simp, fun _ => ⟨_, _, rfl, by simp, fun j u' hu => by have := cell_one_new w u t j u' hu; rwa [addr_add] at this⟩⟩

/-- KeyedHash of one number, met behind other steps: what the walk reads is kept. -/
theorem implKh_one (k : Int) (i : Nat) (g h off : Nat) (x : Value) (W : World) (hk : -9223372036854775808 ≤ k ∧ k ≤ 9223372036854775807) (hi : i ≤ 1099511627776) (hc : W.cell? ⟨g, 0, none⟩ = some (.int .i64 (i : Int))) (hx : W.cell? ⟨h, off, none⟩ = some x) (hf : W.frozen? ⟨h, off, none⟩ = false) :
    Calls Try.prog 13 #[.int .i64 k, .slice (some ⟨g, 0, none⟩) 1 1] W fun e w' => e = .returned (.int .i64 (khF k [(i : Int)])) ∧ Below W.heap.size W w' ∧ w'.cell? ⟨h, off, none⟩ = some x ∧ w'.frozen? ⟨h, off, none⟩ = false := by
  have hg := World.block_lt_of_cell? W _ hc
  have hh := World.block_lt_of_cell? W _ hx
  refine (implKeyedHash_any k _ 1 1 [(i : Int)] W (by omega) hk ⟨by simp, fun _ => ⟨_, _, rfl, hg, fun j u hu => ?_⟩⟩ (by intro z hz; simp at hz; omega)).mono ?_
  · match j, hu with
    | 0, hu =>
      simp at hu
      subst hu
      exact hc
  · rintro e w' ⟨rfl, hb⟩
    exact ⟨rfl, hb, (hb.cell hh).trans hx, (hb.frozen hh).trans hf⟩

set_option maxRecDepth 100000 in
set_option maxHeartbeats 1000000 in
theorem implEncrypt_any (key : Int) (A : Option Addr) (n c : Nat) (l : List UInt8) (w : World) (hn : n ≤ 1099511627776) (hk : -9223372036854775808 ≤ key ∧ key ≤ 9223372036854775807) (ha : Rd w 1 A n (l.map bv)) :
    Calls Try.prog 11 #[.int .i64 key, .slice A n c] w (MkB w (encF key l)) := by
  have HL := Lib.hid ha.lenB
  have HK := Lib.hid hk
  clear hk
  go_enter Try.func11, Try.ntmps11
  go_wp2_with fail
  refine (copyBytes_any A n c l w hn ha).mono ?_
  rintro e w1 ⟨B, m, d, rfl, ho1, hb1⟩
  have hm : m = n := by rw [← own_lenB ho1]; exact HL.out
  subst hm
  go_wp2
  go_loopw [11] (fun i wr => ∃ (k : Nat), k ≤ m ∧ i = .int .i64 k ∧ wr.ownsRow w.heap.size 5 1 (.slice B m d) m (((encF key l).take k ++ l.drop k).map bv) ∧ Below w.heap.size w wr) (fun i _ => m - (intOf i).toNat)
  case atStart => exact ⟨0, Nat.zero_le _, rfl, by simpa using ho1, hb1⟩
  case round =>
    obtain ⟨k, hk, rfl, ho, hbel⟩ := hrel
    clear ho1 hb1
    by_cases hlt : k < m
    · obtain ⟨g, cap, hv, _, hglt⟩ := ho.form (by omega)
      obtain rfl : B = some ⟨g, 0, none⟩ := by injection hv
      clear hv
      obtain ⟨x, hx⟩ : ∃ x, l[k]? = some x := ⟨l[k]'(by have := HL.out; omega), List.getElem?_eq_getElem _⟩
      have hcx : wr.cell? ⟨g, k, none⟩ = some (.int .u8 (x.toNat : Int)) := by
        rw [ho.cellAt k (by omega), List.getElem?_map, mid_at (encF_len key l) (by have := HL.out; omega), hx]
        rfl
      have hfr := ho.frozenAt k
      have HX := Lib.hid hx
      clear hx
      go_wp2
      go_region_with (go_at_call 13; refine (implKh_one key k wr.heap.size g k (.int .u8 (x.toNat : Int)) _ HK.out (by omega) (by simp) (by exact (((Below.refl wr.heap.size wr).alloc (Nat.le_refl _) _).cell (p := ⟨g, k, none⟩) hglt).trans hcx) (by exact (((Below.refl wr.heap.size wr).alloc (Nat.le_refl _) _).frozen (p := ⟨g, k, none⟩) hglt).trans hfr)).mono ?_; rintro e w2 ⟨rfl, hb2, hc2, hf2⟩)
      all_goals
        have hbw : Below wr.heap.size wr w2 := (((Below.refl wr.heap.size wr).alloc (Nat.le_refl _) _).drew).trans (hb2.mono (B' := wr.heap.size) (by simp))
        have hst := (own_below ho hbw).stored k (bv (x + UInt8.ofNat (ksN key k)))
        rw [mid_set (encF_len key l) (encF_at HX.out)] at hst
        have HO := Lib.hid hst.1
        have HV := Lib.hid (enc_val key k x)
        have HB := Lib.hid ((hbel.trans (hbw.mono hbel.size)).grown hst.2 (Nat.le_trans hbel.size hbw.size) (fun z hz => by injection hz with hz; omega))
        clear hst hbw hb2
        go_wp2
        go_roundw
        case rel => exact ⟨k + 1, by omega, by go_num, by rw [HV.out]; exact HO.out, by rw [HV.out]; exact HB.out⟩
        case measure => simp [intOf]; omega
    · obtain rfl : k = m := by omega
      have HN : Hid ((encF key l).take k ++ l.drop k = encF key l) := by
        have h1 := HL.out
        rw [List.take_of_length_le (by rw [encF_len]; omega), List.drop_eq_nil_of_le (by omega), List.append_nil]
        exact rfl
      have HO := Lib.hid ho
      clear ho
      go_wp2
      go_ret
      exact ⟨_, _, _, rfl, by rw [← HN.out]; exact HO.out, hbel⟩

set_option maxRecDepth 100000 in
set_option maxHeartbeats 1000000 in
theorem implDecrypt_any (key : Int) (A : Option Addr) (n c : Nat) (l : List UInt8) (w : World) (hn : n ≤ 1099511627776) (hk : -9223372036854775808 ≤ key ∧ key ≤ 9223372036854775807) (ha : Rd w 1 A n (l.map bv)) :
    Calls Try.prog 10 #[.int .i64 key, .slice A n c] w (MkB w (decF key l)) := by
  have HL := Lib.hid ha.lenB
  have HK := Lib.hid hk
  clear hk
  go_enter Try.func10, Try.ntmps10
  go_wp2_with fail
  refine (copyBytes_any A n c l w hn ha).mono ?_
  rintro e w1 ⟨B, m, d, rfl, ho1, hb1⟩
  have hm : m = n := by rw [← own_lenB ho1]; exact HL.out
  subst hm
  go_wp2
  go_loopw [11] (fun i wr => ∃ (k : Nat), k ≤ m ∧ i = .int .i64 k ∧ wr.ownsRow w.heap.size 5 1 (.slice B m d) m (((decF key l).take k ++ l.drop k).map bv) ∧ Below w.heap.size w wr) (fun i _ => m - (intOf i).toNat)
  case atStart => exact ⟨0, Nat.zero_le _, rfl, by simpa using ho1, hb1⟩
  case round =>
    obtain ⟨k, hk, rfl, ho, hbel⟩ := hrel
    clear ho1 hb1
    by_cases hlt : k < m
    · obtain ⟨g, cap, hv, _, hglt⟩ := ho.form (by omega)
      obtain rfl : B = some ⟨g, 0, none⟩ := by injection hv
      clear hv
      obtain ⟨x, hx⟩ : ∃ x, l[k]? = some x := ⟨l[k]'(by have := HL.out; omega), List.getElem?_eq_getElem _⟩
      have hcx : wr.cell? ⟨g, k, none⟩ = some (.int .u8 (x.toNat : Int)) := by
        rw [ho.cellAt k (by omega), List.getElem?_map, mid_at (decF_len key l) (by have := HL.out; omega), hx]
        rfl
      have hfr := ho.frozenAt k
      have HX := Lib.hid hx
      clear hx
      go_wp2
      go_region_with (go_at_call 13; refine (implKh_one key k wr.heap.size g k (.int .u8 (x.toNat : Int)) _ HK.out (by omega) (by simp) (by exact (((Below.refl wr.heap.size wr).alloc (Nat.le_refl _) _).cell (p := ⟨g, k, none⟩) hglt).trans hcx) (by exact (((Below.refl wr.heap.size wr).alloc (Nat.le_refl _) _).frozen (p := ⟨g, k, none⟩) hglt).trans hfr)).mono ?_; rintro e w2 ⟨rfl, hb2, hc2, hf2⟩)
      all_goals
        have hbw : Below wr.heap.size wr w2 := (((Below.refl wr.heap.size wr).alloc (Nat.le_refl _) _).drew).trans (hb2.mono (B' := wr.heap.size) (by simp))
        have hst := (own_below ho hbw).stored k (bv (x - UInt8.ofNat (ksN key k)))
        rw [mid_set (decF_len key l) (decF_at HX.out)] at hst
        have HO := Lib.hid hst.1
        have HV := Lib.hid (dec_val key k x)
        have HB := Lib.hid ((hbel.trans (hbw.mono hbel.size)).grown hst.2 (Nat.le_trans hbel.size hbw.size) (fun z hz => by injection hz with hz; omega))
        clear hst hbw hb2
        go_wp2
        go_roundw
        case rel => exact ⟨k + 1, by omega, by go_num, by rw [HV.out]; exact HO.out, by rw [HV.out]; exact HB.out⟩
        case measure => simp [intOf]; omega
    · obtain rfl : k = m := by omega
      have HN : Hid ((decF key l).take k ++ l.drop k = decF key l) := by
        have h1 := HL.out
        rw [List.take_of_length_le (by rw [decF_len]; omega), List.drop_eq_nil_of_le (by omega), List.append_nil]
        exact rfl
      have HO := Lib.hid ho
      clear ho
      go_wp2
      go_ret
      exact ⟨_, _, _, rfl, by rw [← HN.out]; exact HO.out, hbel⟩
end Go.Proofs.Ytiliahafaldfcaa
