/-
  Proved: the contracts of the reference's Encrypt and Decrypt. Conditions: the slice reads as a list.
  By an AI agent; no person has read it.
-/
import Derived.Test.YteddjniecibjaaaEnc
import Derived.Deep.RegionLaw
namespace Go.Proofs.Yteddjniecibjaaa
open Go.RowKit

theorem push_val {w : World} {base : Nat} {E : TypeId} {v u : Value} {k : Nat} {y : UInt8} {pre : List UInt8} (h : w.ownsRow base E 1 v k (pre.map bv ++ [u])) (hu : u = bv y) : w.ownsRow base E 1 v k ((pre ++ [y]).map bv) := by
  rw [hu] at h
  simpa using h
theorem enc_valS (key : Int) (k : Nat) (x : UInt8) : Value.int .u8 (IntKind.u8.wrap ((IntKind.i64.wrap (IntKind.i64.wrap (x.toNat : Int) + (khF key [(k : Int)]).tmod 256)).tmod 256)) = bv (x + UInt8.ofNat (ksN key k)) := by
  have h := ksN_lt key k
  have hx := x.toNat_lt
  rw [ks_tmod, IntWalk.i64_in (x.toNat : Int) (by omega), IntWalk.i64_in _ (by omega), IntKind.wrap_u8, Int.tmod_eq_emod_of_nonneg (by omega)]
  unfold bv
  rw [UInt8.toNat_add, UInt8.toNat_ofNat']
  congr 1
  all_goals omega
/-- KeyedHash of one number, met behind other steps: what the walk reads is kept. -/
theorem specKh_one (k : Int) (i : Nat) (g h off : Nat) (x : Value) (W : World) (hk : -9223372036854775808 ≤ k ∧ k ≤ 9223372036854775807) (hi : i ≤ 1099511627776) (hc : W.cell? ⟨g, 0, none⟩ = some (.int .i64 (i : Int))) (hx : W.cell? ⟨h, off, none⟩ = some x) :
    Calls Try.prog 42 #[.int .i64 k, .slice (some ⟨g, 0, none⟩) 1 1] W fun e w' => e = .returned (.int .i64 (khF k [(i : Int)])) ∧ Below W.heap.size W w' ∧ w'.cell? ⟨h, off, none⟩ = some x := by
  have hg := World.block_lt_of_cell? W _ hc
  have hh := World.block_lt_of_cell? W _ hx
  refine (specKeyedHash_any k _ 1 1 [(i : Int)] W (by omega) hk ⟨by simp, fun _ => ⟨_, _, rfl, hg, fun j u hu => ?_⟩⟩ (by intro z hz; simp at hz; omega)).mono ?_
  · match j, hu with
    | 0, hu =>
      simp at hu
      subst hu
      exact hc
  · rintro e w' ⟨rfl, hb⟩
    exact ⟨rfl, hb, (hb.cell hh).trans hx⟩

set_option maxRecDepth 100000 in
set_option maxHeartbeats 1000000 in
theorem specEncrypt_any (key : Int) (A : Option Addr) (n c : Nat) (l : List UInt8) (w : World) (hn : n ≤ 1099511627776) (hk : -9223372036854775808 ≤ key ∧ key ≤ 9223372036854775807) (ha : Rd w 1 A n (l.map bv)) :
    Calls Try.prog 60 #[.int .i64 key, .slice A n c] w (MkB w (encF key l)) := by
  obtain ⟨i0, hi, hz0, hz1, hz2⟩ := info_parts infoU8
  have HL := Lib.hid ha.lenB
  have HK := Lib.hid hk
  clear hk
  go_enter Try.func60, Try.ntmps60
  go_wp2
  go_loopw [5, 6] (fun v i wr => ∃ (k : Nat) (B : Option Addr) (m d : Nat), k ≤ n ∧ i = .int .i64 k ∧ v = .slice B m d ∧ m ≤ k ∧ wr.ownsRow w.heap.size 5 1 (.slice B m d) m (((encF key l).take k).map bv) ∧ Below w.heap.size w wr) (fun _ i _ => n - (intOf i).toNat)
  case atStart => exact ⟨0, _, _, _, Nat.zero_le _, rfl, rfl, Nat.le_refl _, own_new (Nat.le_refl _), (Below.refl _ _).alloc (Nat.le_refl _) _⟩
  case round =>
    obtain ⟨k, B, m, d, hk, rfl, rfl, hm, ho, hbel⟩ := hrel
    by_cases hlt : k < n
    · obtain ⟨b, o, x, rfl, hbl, hx, hcx⟩ := (ha.below hbel).byte hlt
      have HX := Lib.hid hx
      have hx2 := byte_lt x
      clear hx
      go_wp2
      go_region_law (first | (go_simp; go_at_call 42; refine (specKh_one key k wr.heap.size b (o + k) (.int .u8 (x.toNat : Int)) _ HK.out (by omega) (by simp) (by exact (((Below.refl wr.heap.size wr).alloc (Nat.le_refl _) _).cell (p := ⟨b, o + k, none⟩) hbl).trans hcx)).mono ?_; rintro e w2 ⟨rfl, hb2, hc2⟩) | (refine step_push1 w2 (by rfl) _ _ 25 (by rfl) w.heap.size 5 i0 (.int .u8 0) 1 Try.underlying25 hi hz0 hz1 hz2 (by rfl) B m d (((encF key l).take k).map bv) (by rfl) (by exact own_below ho ((((Below.refl wr.heap.size wr).alloc (Nat.le_refl _) _).drew).trans (hb2.mono (B' := wr.heap.size) (by simp)))) _ (by rfl) (by rfl) (by unfold maxLen; omega) (by omega) (by have h1 := hb2.size; have h2 := hbel.size; simp at h1; omega) ?_; intro A3 n3 c3 w3 hn3 ho3 hb3; subst hn3))
      all_goals
        have HO := Lib.hid (push_val (y := x + UInt8.ofNat (ksN key k)) ho3 (enc_valS key k x))
        have hN : (encF key l).take k ++ [x + UInt8.ofNat (ksN key k)] = (encF key l).take (k + 1) := (take_snoc (encF_at HX.out)).symm
        have HB := Lib.hid ((hbel.trans (((((Below.refl wr.heap.size wr).alloc (Nat.le_refl _) _).drew).trans (hb2.mono (B' := wr.heap.size) (by simp))).mono hbel.size)).trans hb3)
        have HM := Lib.hid (by omega : m + 1 ≤ k + 1)
        have HN := Lib.hid hN
        clear ho3 hb2 hb3 hN
        go_wp2
        go_roundw
        case rel => exact ⟨k + 1, _, _, _, by omega, by go_num, rfl, HM.out, by rw [← HN.out]; exact HO.out, HB.out⟩
        case measure => simp [intOf]; omega
    · obtain rfl : k = n := by omega
      have HN : Hid ((encF key l).take k = encF key l) := by
        rw [List.take_of_length_le (by rw [encF_len, HL.out]; exact Nat.le_refl _)]
        exact rfl
      have HO := Lib.hid ho
      clear ho
      go_wp2
      go_ret
      exact ⟨_, _, _, rfl, by rw [← HN.out]; exact HO.out, hbel⟩

theorem i64_wrap_rng (n : Int) : -9223372036854775808 ≤ IntKind.i64.wrap n ∧ IntKind.i64.wrap n ≤ 9223372036854775807 := by
  rw [IntKind.wrap_i64]
  omega
theorem dec_valS (key : Int) (k : Nat) (x : UInt8) : Value.int .u8 (IntKind.u8.wrap (modF (IntKind.i64.wrap (IntKind.i64.wrap (x.toNat : Int) - (khF key [(k : Int)]).tmod 256)) 256)) = bv (x - UInt8.ofNat (ksN key k)) := by
  have h := ksN_lt key k
  have hx := x.toNat_lt
  rw [ks_tmod, IntWalk.i64_in (x.toNat : Int) (by omega), IntWalk.i64_in _ (by omega), IntKind.wrap_u8, modF_in (by omega) (by omega)]
  unfold bv
  rw [UInt8.toNat_sub, UInt8.toNat_ofNat']
  congr 1
  omega

set_option maxRecDepth 100000 in
set_option maxHeartbeats 1000000 in
theorem specDecrypt_any (key : Int) (A : Option Addr) (n c : Nat) (l : List UInt8) (w : World) (hn : n ≤ 1099511627776) (hk : -9223372036854775808 ≤ key ∧ key ≤ 9223372036854775807) (ha : Rd w 1 A n (l.map bv)) :
    Calls Try.prog 58 #[.int .i64 key, .slice A n c] w (MkB w (decF key l)) := by
  obtain ⟨i0, hi, hz0, hz1, hz2⟩ := info_parts infoU8
  have HL := Lib.hid ha.lenB
  have HK := Lib.hid hk
  clear hk
  go_enter Try.func58, Try.ntmps58
  go_wp2
  go_loopw [5, 6] (fun v i wr => ∃ (k : Nat) (B : Option Addr) (m d : Nat), k ≤ n ∧ i = .int .i64 k ∧ v = .slice B m d ∧ m ≤ k ∧ wr.ownsRow w.heap.size 5 1 (.slice B m d) m (((decF key l).take k).map bv) ∧ Below w.heap.size w wr) (fun _ i _ => n - (intOf i).toNat)
  case atStart => exact ⟨0, _, _, _, Nat.zero_le _, rfl, rfl, Nat.le_refl _, own_new (Nat.le_refl _), (Below.refl _ _).alloc (Nat.le_refl _) _⟩
  case round =>
    obtain ⟨k, B, m, d, hk, rfl, rfl, hm, ho, hbel⟩ := hrel
    by_cases hlt : k < n
    · obtain ⟨b, o, x, rfl, hbl, hx, hcx⟩ := (ha.below hbel).byte hlt
      have HX := Lib.hid hx
      have hx2 := byte_lt x
      clear hx
      go_wp2
      go_region_law (first | (go_simp; go_at_call 24; refine (specMod_any _ _ _ (by first | exact i64_wrap_rng _ | omega)).mono ?_; rintro e w' ⟨rfl, rfl⟩) | (go_simp; go_at_call 42; refine (specKh_one key k wr.heap.size b (o + k) (.int .u8 (x.toNat : Int)) _ HK.out (by omega) (by simp) (by exact (((Below.refl wr.heap.size wr).alloc (Nat.le_refl _) _).cell (p := ⟨b, o + k, none⟩) hbl).trans hcx)).mono ?_; rintro e w2 ⟨rfl, hb2, hc2⟩) | (refine step_push1 w2 (by rfl) _ _ 25 (by rfl) w.heap.size 5 i0 (.int .u8 0) 1 Try.underlying25 hi hz0 hz1 hz2 (by rfl) B m d (((decF key l).take k).map bv) (by rfl) (by exact own_below ho ((((Below.refl wr.heap.size wr).alloc (Nat.le_refl _) _).drew).trans (hb2.mono (B' := wr.heap.size) (by simp)))) _ (by rfl) (by rfl) (by unfold maxLen; omega) (by omega) (by have h1 := hb2.size; have h2 := hbel.size; simp at h1; omega) ?_; intro A3 n3 c3 w3 hn3 ho3 hb3; subst hn3))
      all_goals
        have HO := Lib.hid (push_val (y := x - UInt8.ofNat (ksN key k)) ho3 (dec_valS key k x))
        have hN : (decF key l).take k ++ [x - UInt8.ofNat (ksN key k)] = (decF key l).take (k + 1) := (take_snoc (decF_at HX.out)).symm
        have HB := Lib.hid ((hbel.trans (((((Below.refl wr.heap.size wr).alloc (Nat.le_refl _) _).drew).trans (hb2.mono (B' := wr.heap.size) (by simp))).mono hbel.size)).trans hb3)
        have HM := Lib.hid (by omega : m + 1 ≤ k + 1)
        have HN := Lib.hid hN
        clear ho3 hb2 hb3 hN
        go_wp2
        go_roundw
        case rel => exact ⟨k + 1, _, _, _, by omega, by go_num, rfl, HM.out, by rw [← HN.out]; exact HO.out, HB.out⟩
        case measure => simp [intOf]; omega
    · obtain rfl : k = n := by omega
      have HN : Hid ((decF key l).take k = decF key l) := by
        rw [List.take_of_length_le (by rw [decF_len, HL.out]; exact Nat.le_refl _)]
        exact rfl
      have HO := Lib.hid ho
      clear ho
      go_wp2
      go_ret
      exact ⟨_, _, _, rfl, by rw [← HN.out]; exact HO.out, hbel⟩
end Go.Proofs.Yteddjniecibjaaa
