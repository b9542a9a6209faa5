/-
  Proved: plain laws, no program in sight: a varint and a byte string are read back; a varint that was read is the encoding of its number. Conditions: those that each statement names.
  By an AI agent; no person has read it.
-/
import Derived.Test.YtbbngihmjdndoaaRb
import Derived.Test.YtbbngihmjdndoaaAb
namespace Go.Proofs.Ytbbngihmjdndoaa
open Go.RowKit

theorem readGo_canon : ∀ (f i n : Nat) (r : List UInt8) {m k : Nat}, readGo f i n r = some (m, k) → ∃ q, m = n + q * 128 ^ i ∧ r.take (k - i) = uvar q ∧ (0 < i → 0 < q)
  | 0, _, _, _, _, _, h => by simp [readGo] at h
  | f + 1, _, _, [], _, _, h => by simp [readGo] at h
  | f + 1, i, n, x :: r, m, k, h => by
    have hle := readGo_le _ _ _ _ h
    simp only [readGo] at h
    split at h
    · rename_i hx
      split at h
      · cases h
      · rename_i h2
        simp only [Option.some.injEq, Prod.mk.injEq] at h
        refine ⟨x.toNat, h.1.symm, ?_, fun hi => by omega⟩
        rw [uvar_small hx, show k - i = 1 by omega, UInt8.ofNat_toNat]
        simp
    · rename_i hx
      have hle2 := readGo_le _ _ _ _ h
      obtain ⟨q, h1, h2, h3⟩ := readGo_canon f (i + 1) _ r h
      have hq := h3 (by omega)
      have hx2 := x.toNat_lt
      refine ⟨(x.toNat - 128) + 128 * q, ?_, ?_, fun _ => by omega⟩
      · rw [h1, Nat.pow_succ, Nat.add_mul, Nat.add_assoc, Nat.mul_comm (128 ^ i) 128, ← Nat.mul_assoc, Nat.mul_comm q 128]
      · rw [uvar_big (by omega), show (x.toNat - 128 + 128 * q) % 128 + 128 = x.toNat by omega, show (x.toNat - 128 + 128 * q) / 128 = q by omega, UInt8.ofNat_toNat, ← h2,
          show k - i = (k - (i + 1)) + 1 by omega, List.take_succ_cons]
theorem readU_canon {l : List UInt8} {a : Int} {m k : Nat} (h : readU l a = some (m, k)) : (l.drop a.toNat).take (k - a.toNat) = uvar m := by
  unfold readU at h
  split at h
  · rw [Option.map_eq_some_iff] at h
    obtain ⟨⟨m', k'⟩, h2, h3⟩ := h
    simp only [Prod.mk.injEq] at h3
    obtain ⟨q, h4, h5, _⟩ := readGo_canon _ _ _ _ h2
    obtain ⟨rfl, rfl⟩ := h3
    rw [show a.toNat + k' - a.toNat = k' - 0 by omega, h5]
    congr 1
    omega
  · cases h
theorem readU_app {b : List UInt8} {n : Int} (h1 : 0 ≤ n) (h2 : n ≤ 1000000000000) : readU (appU b n) (b.length : Int) = some (n.toNat, (appU b n).length) := by
  have := readU_appU b [] h1 h2
  rw [appU_in b h1 h2]
  simpa using this
theorem readU_at_end (b : List UInt8) : readU b (b.length : Int) = none := if_neg (by omega)
theorem readB_app (b d : List UInt8) (hd : d.length ≤ 1000000) : readB (appB b d) (b.length : Int) (d.length : Int) = some (d, (appB b d).length) ∧ readB (appB b d) (b.length : Int) ((d.length : Int) - 1) = none := by
  have h := readU_appU b d (n := (d.length : Int)) (by omega) (by omega)
  have e : appB b d = b ++ uvar (d.length : Int).toNat ++ d := by unfold appB; rw [appU_in b (by omega) (by omega)]
  have e2 : (d.length : Int).toNat = d.length := Int.toNat_natCast _
  rw [e2] at e h
  have hl : (b ++ uvar d.length ++ d).length - (b.length + (uvar d.length).length) = d.length := by simp only [List.length_append]; omega
  have hdr : (b ++ uvar d.length ++ d).drop (b.length + (uvar d.length).length) = d := by rw [← List.length_append]; exact List.drop_left
  unfold readB
  rw [e, h]
  simp only []
  rw [hl, hdr]
  constructor
  · rw [if_pos ⟨Int.le_refl _, Nat.le_refl _⟩, List.take_length]
    simp only [List.length_append, Nat.add_assoc]
  · rw [if_neg (by omega)]
end Go.Proofs.Ytbbngihmjdndoaa
