/-
  Proved: plain laws, no program in sight: a cipher is undone; the keyed hash tells lists that differ at one place modulo the modulus; a varint, a byte string and a list of ints are read back; a varint that was read is the encoding of its number. Conditions: those that each statement names.
  By an AI agent; no person has read it.
-/
import Derived.Test.YtiliahafaldfcaaEnc
import Derived.Test.YtiliahafaldfcaaRb
import Derived.Test.YtiliahafaldfcaaAb
import Derived.Test.YtiliahafaldfcaaDi
import Derived.Test.YtiliahafaldfcaaEi
import Derived.Test.YtiliahafaldfcaaDer
namespace Go.Proofs.Ytiliahafaldfcaa
open Go.RowKit

theorem dec_enc (k : Int) (l : List UInt8) : decF k (encF k l) = l := by
  apply List.ext_getElem?
  intro i
  simp only [decF, encF, List.getElem?_mapIdx, Option.map_map]
  cases l[i]? <;> simp
theorem enc_dec (k : Int) (l : List UInt8) : encF k (decF k l) = l := by
  apply List.ext_getElem?
  intro i
  simp only [decF, encF, List.getElem?_mapIdx, Option.map_map]
  cases l[i]? <;> simp

/-! ### The keyed hash -/
theorem inv_step {M c i t d d' a q : Int} (h : d * c + a + 13 - (d' * c + a + 13) = M * q) (hi : c * i = 1 + M * t) : d - d' = M * (q * i - (d - d') * t) := by
  have h1 : (d - d') * c = M * q := by
    rw [← h, Int.sub_mul]
    omega
  have h2 : d - d' = (d - d') * (c * i - M * t) := by rw [show c * i - M * t = 1 by omega, Int.mul_one]
  have h3 : (d - d') * (c * i - M * t) = (d - d') * c * i - M * ((d - d') * t) := by rw [Int.mul_sub, Int.mul_assoc, Int.mul_left_comm M]
  rw [h1] at h3
  rw [Int.mul_sub, ← Int.mul_assoc]
  exact h2.trans h3
theorem hashS_inj_d {d d' v : Int} (h0 : 0 ≤ d) (h1 : d < 2147483647) (h2 : 0 ≤ d') (h3 : d' < 2147483647) (h : hashS d v = hashS d' v) : d = d' := by
  unfold hashS at h
  rw [Int.emod_eq_emod_iff_emod_sub_eq_zero] at h
  obtain ⟨q, hq⟩ := Int.dvd_of_emod_eq_zero h
  have hx := inv_step (i := 1523789695) (t := 709572) hq (by decide)
  clear h hq
  generalize q * 1523789695 - (d - d') * 709572 = y at hx
  omega
theorem hashS_inj_v {d v v' : Int} (h : hashS d v = hashS d v') : v % 2147483647 = v' % 2147483647 := by
  unfold hashS at h
  omega
theorem foldl_hash_inj : ∀ (l : List Int) {d d' : Int}, 0 ≤ d → d < 2147483647 → 0 ≤ d' → d' < 2147483647 → l.foldl hashS d = l.foldl hashS d' → d = d'
  | [], _, _, _, _, _, _, h => h
  | v :: l, d, d', h0, h1, h2, h3, h => by
    have r := hashS_rng d v
    have r' := hashS_rng d' v
    exact hashS_inj_d h0 h1 h2 h3 (foldl_hash_inj l r.1 r.2 r'.1 r'.2 h)
theorem khF_set {k : Int} {l : List Int} {i : Nat} {v v' : Int} (hv : l[i]? = some v) (hne : v % 2147483647 ≠ v' % 2147483647) : khF k (l.set i v') ≠ khF k l := by
  intro h
  obtain ⟨hi, rfl⟩ := List.getElem?_eq_some_iff.1 hv
  have e1 : l = l.take i ++ l[i] :: l.drop (i + 1) := by rw [← List.drop_eq_getElem_cons hi, List.take_append_drop]
  have e2 : l.set i v' = l.take i ++ v' :: l.drop (i + 1) := List.set_eq_take_append_cons_drop .. |>.trans (by rw [if_pos hi])
  rw [e2] at h
  rw [show khF k l = khF k (l.take i ++ l[i] :: l.drop (i + 1)) from by rw [← e1]] at h
  simp only [khF, hashF, List.foldl_cons, List.foldl_append, List.cons_append, List.append_assoc] at h
  have r := hashS_rng (List.foldl hashS (hashS 11 k) (l.take i)) v'
  have r' := hashS_rng (List.foldl hashS (hashS 11 k) (l.take i)) l[i]
  have h2 := foldl_hash_inj [k] (foldl_hash_rng _ _ r.1 r.2).1 (foldl_hash_rng _ _ r.1 r.2).2 (foldl_hash_rng _ _ r'.1 r'.2).1 (foldl_hash_rng _ _ r'.1 r'.2).2 h
  exact hne (hashS_inj_v (foldl_hash_inj _ r.1 r.2 r'.1 r'.2 h2)).symm
theorem derF_rng (k : Int) (l : List UInt8) : 1 ≤ derF k l ∧ derF k l ≤ 2147483646 := by
  have := khF_rng k (b2iF l)
  unfold derF
  split <;> omega

/-! ### Reading back -/
theorem readGo_canon : ∀ (f i n : Nat) (r : List UInt8) {m k : Nat}, readGo f i n r = some (m, k) → ∃ q, m = n + q * 128 ^ i ∧ r.take (k - i) = uvar q ∧ (0 < i → 0 < q)
  | 0, _, _, _, _, _, h => by simp [readGo] at h
  | f + 1, _, _, [], _, _, h => by simp [readGo] at h
  | f + 1, i, n, x :: r, m, k, h => by
    have hle := readGo_le _ _ _ _ h
    simp only [readGo] at h
    split at h
    · rename_i hx
      split at h
      · cases h
      · rename_i h2
        simp only [Option.some.injEq, Prod.mk.injEq] at h
        refine ⟨x.toNat, h.1.symm, ?_, fun hi => by omega⟩
        rw [uvar_small hx, show k - i = 1 by omega, UInt8.ofNat_toNat]
        simp
    · rename_i hx
      have hle2 := readGo_le _ _ _ _ h
      obtain ⟨q, h1, h2, h3⟩ := readGo_canon f (i + 1) _ r h
      have hq := h3 (by omega)
      have hx2 := x.toNat_lt
      refine ⟨(x.toNat - 128) + 128 * q, ?_, ?_, fun _ => by omega⟩
      · rw [h1, Nat.pow_succ, Nat.add_mul, Nat.add_assoc, Nat.mul_comm (128 ^ i) 128, ← Nat.mul_assoc, Nat.mul_comm q 128]
      · rw [uvar_big (by omega), show (x.toNat - 128 + 128 * q) % 128 + 128 = x.toNat by omega, show (x.toNat - 128 + 128 * q) / 128 = q by omega, UInt8.ofNat_toNat, ← h2,
          show k - i = (k - (i + 1)) + 1 by omega, List.take_succ_cons]
theorem readU_canon {l : List UInt8} {a : Int} {m k : Nat} (h : readU l a = some (m, k)) : (l.drop a.toNat).take (k - a.toNat) = uvar m := by
  unfold readU at h
  split at h
  · rw [Option.map_eq_some_iff] at h
    obtain ⟨⟨m', k'⟩, h2, h3⟩ := h
    simp only [Prod.mk.injEq] at h3
    obtain ⟨q, h4, h5, _⟩ := readGo_canon _ _ _ _ h2
    obtain ⟨rfl, rfl⟩ := h3
    rw [show a.toNat + k' - a.toNat = k' - 0 by omega, h5]
    congr 1
    omega
  · cases h
theorem readU_app {b : List UInt8} {n : Int} (h1 : 0 ≤ n) (h2 : n ≤ 1000000000000) : readU (appU b n) (b.length : Int) = some (n.toNat, (appU b n).length) := by
  have := readU_appU b [] h1 h2
  rw [appU_in b h1 h2]
  simpa using this
theorem readU_at_end (b : List UInt8) : readU b (b.length : Int) = none := if_neg (by omega)
theorem readB_app (b d : List UInt8) (hd : d.length ≤ 1000000) : readB (appB b d) (b.length : Int) (d.length : Int) = some (d, (appB b d).length) ∧ readB (appB b d) (b.length : Int) ((d.length : Int) - 1) = none := by
  have h := readU_appU b d (n := (d.length : Int)) (by omega) (by omega)
  have e : appB b d = b ++ uvar (d.length : Int).toNat ++ d := by unfold appB; rw [appU_in b (by omega) (by omega)]
  have e2 : (d.length : Int).toNat = d.length := Int.toNat_natCast _
  rw [e2] at e h
  have hl : (b ++ uvar d.length ++ d).length - (b.length + (uvar d.length).length) = d.length := by simp only [List.length_append]; omega
  have hdr : (b ++ uvar d.length ++ d).drop (b.length + (uvar d.length).length) = d := by rw [← List.length_append]; exact List.drop_left
  unfold readB
  rw [e, h]
  simp only []
  rw [hl, hdr]
  constructor
  · rw [if_pos ⟨Int.le_refl _, Nat.le_refl _⟩, List.take_length]
    simp only [List.length_append, Nat.add_assoc]
  · rw [if_neg (by omega)]

def encL (l : List Int) : List UInt8 := l.flatMap fun n => uvar n.toNat
theorem encI_eq : ∀ (l : List Int) (b : List UInt8), (∀ z ∈ l, 0 ≤ z ∧ z ≤ 1000000000000) → l.foldl appU b = b ++ encL l
  | [], b, _ => by simp [encL]
  | n :: l, b, h => by
    have h0 := h n (by simp)
    rw [List.foldl_cons, encI_eq l _ (fun z hz => h z (by simp [hz])), appU_in b h0.1 h0.2]
    simp [encL]
theorem decGo_enc : ∀ (l : List Int) (b : List UInt8), (∀ z ∈ l, 0 ≤ z ∧ z ≤ 1000000000000) →
    decGo (b ++ encL l) l.length (b.length : Int) = some (l, ((b ++ encL l).length : Int)) ∧ decGo (b ++ encL l) (l.length + 1) (b.length : Int) = none
  | [], b, _ => by
    constructor
    · simp [encL, decGo]
    · exact decGo_none (by simpa [encL] using readU_at_end b)
  | n :: l, b, h => by
    have h0 := h n (by simp)
    have hr := readU_appU b (encL l) h0.1 h0.2
    obtain ⟨i1, i2⟩ := decGo_enc l (b ++ uvar n.toNat) (fun z hz => h z (by simp [hz]))
    have e : b ++ encL (n :: l) = b ++ uvar n.toNat ++ encL l := by simp [encL]
    have hn : ((n.toNat : Nat) : Int) = n := by omega
    rw [List.length_append] at i1 i2
    rw [e, List.length_cons, decGo_some hr, decGo_some hr, i1, i2]
    simp [hn]
theorem decI_enc {l : List Int} (h : ∀ z ∈ l, 0 ≤ z ∧ z ≤ 1000000000000) (hl : l.length ≤ 99) :
    decI (encI l) 0 (l.length : Int) = some (l, ((encI l).length : Int)) ∧ decI (encI l) 0 ((l.length : Int) + 1) = none := by
  have e : encI l = [] ++ encL l := encI_eq l [] h
  obtain ⟨i1, i2⟩ := decGo_enc l [] h
  unfold decI
  rw [if_pos (by omega), if_pos (by omega), e]
  exact ⟨i1, i2⟩
end Go.Proofs.Ytiliahafaldfcaa
