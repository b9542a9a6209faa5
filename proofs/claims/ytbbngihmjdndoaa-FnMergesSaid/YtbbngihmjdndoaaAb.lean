/-
  Proved: the contracts of AppendBytes, of the program and of the reference. Conditions: the slices read as lists.
  By an AI agent; no person has read it.
-/
import Derived.Test.YtbbngihmjdndoaaUv
namespace Go.Proofs.Ytbbngihmjdndoaa
open Go.RowKit

def appB (l d : List UInt8) : List UInt8 := appU l d.length ++ d
theorem appB_len (l d : List UInt8) : (appB l d).length ≤ l.length + d.length + 6 := by
  have := appU_len l d.length
  simp only [appB, List.length_append]
  omega

set_option maxRecDepth 100000 in
set_option maxHeartbeats 400000 in
theorem specAppendBytes_any (A B : Option Addr) (n m c d : Nat) (l k : List UInt8) (w : World) (hn : n ≤ 1099511627776) (hm : m ≤ 1099511627776) (ha : Rd w 1 A n (l.map bv)) (hb : Rd w 1 B m (k.map bv)) :
    Calls Try.prog 95 #[.slice A n c, .slice B m d] w (MkB w (appB l k)) := by
  obtain ⟨i0, hi, hz0, hz1, hz2⟩ := info_parts infoU8
  have HL := Lib.hid ha.lenB
  have HM := Lib.hid hb.lenB
  go_enter Try.func95, Try.ntmps95
  go_wp2_with fail
  refine (specAppendUvarint_any A n c l (m : Int) w hn ha).mono ?_
  rintro e w1 ⟨A1, n1, c1, rfl, ho1, hb1⟩
  have hn1 : n1 ≤ 1099511627782 := by have q1 := own_lenB ho1; have q2 := appU_len l m; have q3 := HL.out; omega
  have HB1 := Lib.hid hb1
  have hbs := hb1.size
  have hb2 := hb.below hb1
  clear hb1 hb
  go_wp2_with (at_builtin; refine wpList_cat w1 rfl _ _ 58 rfl w.heap.size 5 i0 (.int .u8 0) 1 1 Try.underlying58 hi hz0 hz1 hz2 rfl (by decide) A1 n1 c1 _ (by rfl) ho1 B m d (k.map bv) (by rfl) hb2 (ones_bv k) ?c1 ?c2 ?c3 ?_)
  case c1 => unfold maxLen; omega
  case c2 => omega
  case c3 => exact hbs
  intro A2 n2 c2 w2 hk2 ho2 hb3 _
  have HO : Hid (w2.ownsRow w.heap.size 5 1 (.slice A2 n2 c2) n2 ((appB l k).map bv)) := by
    unfold appB
    rw [List.map_append, HM.out]
    exact ho2
  have HB2 := Lib.hid (HB1.out.trans hb3)
  clear hk2 ho2 hb3 ho1
  go_wp2
  go_ret
  exact ⟨_, _, _, rfl, HO.out, HB2.out⟩

set_option maxRecDepth 100000 in
set_option maxHeartbeats 400000 in
theorem implAppendBytes_any (A B : Option Addr) (n m c d : Nat) (l k : List UInt8) (w : World) (hn : n ≤ 1099511627776) (hm : m ≤ 1099511627776) (ha : Rd w 1 A n (l.map bv)) (hb : Rd w 1 B m (k.map bv)) :
    Calls Try.prog 97 #[.slice A n c, .slice B m d] w (MkB w (appB l k)) := by
  obtain ⟨i0, hi, hz0, hz1, hz2⟩ := info_parts infoU8
  have HL := Lib.hid ha.lenB
  have HM := Lib.hid hb.lenB
  go_enter Try.func97, Try.ntmps97
  go_wp2_with fail
  refine (implAppendUvarint_any A n c l (m : Int) w hn ha).mono ?_
  rintro e w1 ⟨A1, n1, c1, rfl, ho1, hb1⟩
  have hn1 : n1 ≤ 1099511627782 := by have q1 := own_lenB ho1; have q2 := appU_len l m; have q3 := HL.out; omega
  have HB1 := Lib.hid hb1
  have hbs := hb1.size
  have hb2 := hb.below hb1
  clear hb1 hb
  go_wp2_with (at_builtin; refine wpList_cat w1 rfl _ _ 58 rfl w.heap.size 5 i0 (.int .u8 0) 1 1 Try.underlying58 hi hz0 hz1 hz2 rfl (by decide) A1 n1 c1 _ (by rfl) ho1 B m d (k.map bv) (by rfl) hb2 (ones_bv k) ?c1 ?c2 ?c3 ?_)
  case c1 => unfold maxLen; omega
  case c2 => omega
  case c3 => exact hbs
  intro A2 n2 c2 w2 hk2 ho2 hb3 _
  have HO : Hid (w2.ownsRow w.heap.size 5 1 (.slice A2 n2 c2) n2 ((appB l k).map bv)) := by
    unfold appB
    rw [List.map_append, HM.out]
    exact ho2
  have HB2 := Lib.hid (HB1.out.trans hb3)
  clear hk2 ho2 hb3 ho1
  go_wp2
  go_ret
  exact ⟨_, _, _, rfl, HO.out, HB2.out⟩
end Go.Proofs.Ytbbngihmjdndoaa
