/-
  Proved: the contracts of DeriveFromString, of the program and of the reference. Conditions: the string has at most 2^39 bytes.
  By an AI agent; no person has read it.
-/
import Derived.Test.YtiliahafaldfcaaKh
import Derived.Test.YtiliahafaldfcaaBti
import Derived.Test.YtiliahafaldfcaaStr
namespace Go.Proofs.Ytiliahafaldfcaa
open Go.RowKit

def derF (k : Int) (l : List UInt8) : Int := if khF k (b2iF l) = 0 then 1 else khF k (b2iF l)

theorem str_size (s : ByteArray) : s.data.toList.length = s.size := Array.length_toList

set_option maxRecDepth 100000 in
set_option maxHeartbeats 400000 in
theorem implDerive_any (k : Int) (s : ByteArray) (w : World) (hs : s.size ≤ 549755813888) (hk : -9223372036854775808 ≤ k ∧ k ≤ 9223372036854775807) :
    Calls Try.prog 19 #[.int .i64 k, .string s] w fun e w' => e = .returned (.int .i64 (derF k s.data.toList)) ∧ Below w.heap.size w w' := by
  have kc := run_bytes_of_string (P := Try.prog) w 9 22 5 s Try.underlying9 Try.underlying22 Try.underlying5
  have HK := Lib.hid hk
  clear hk
  go_enter Try.func19, Try.ntmps19
  go_wp2_with fail
  refine (implBytesToInts_any _ _ _ s.data.toList _ (by omega) (Rd.drew (rd_bytesRow w s _ _ _))).mono ?_
  rintro e w1 ⟨A1, n1, c1, rfl, ho1, hb1⟩
  have hl1 := own_lenI ho1
  rw [b2iF_len, str_size] at hl1
  have hn1 : n1 ≤ 549755813889 := by omega
  have HB1 : Hid (Below w.heap.size w w1) := (((Below.refl _ _).alloc (Nat.le_refl _) _).drew).trans (hb1.mono (by simp))
  have HO := Lib.hid ho1
  have HR := Lib.hid (b2iF_rng (l := s.data.toList) (by rw [str_size]; omega))
  clear hl1 ho1 hb1 kc
  go_wp2_with fail
  refine (implKeyedHash_any k A1 n1 c1 _ w1 (by omega) HK.out (Rd.of_own HO.out) HR.out).mono ?_
  rintro e w2 ⟨rfl, hb2⟩
  have HB2 := Lib.hid (HB1.out.trans (hb2.mono HB1.out.size))
  obtain ⟨x, hx⟩ : ∃ x, x = khF k (b2iF s.data.toList) := ⟨_, rfl⟩
  have h0 : 0 ≤ x := by rw [hx]; exact (khF_rng _ _).1
  have HD : Hid (derF k s.data.toList = if x = 0 then 1 else x) := by rw [hx]; exact rfl
  rw [← hx]
  clear hx hb2
  by_cases hz : x = 0
  · have hzb : (x == 0) = true := by rw [beq_iff_eq]; exact hz
    have HZ := Lib.hid hz
    clear hz
    go_wp2
    go_ret
    exact ⟨ret_int (by rw [HD.out, if_pos HZ.out]), HB2.out⟩
  · have hzb : (x == 0) = false := by rw [beq_eq_false_iff_ne]; exact hz
    have HZ := Lib.hid hz
    clear hz
    go_wp2
    go_ret
    exact ⟨ret_int (by rw [HD.out, if_neg HZ.out]), HB2.out⟩

end Go.Proofs.Ytiliahafaldfcaa
