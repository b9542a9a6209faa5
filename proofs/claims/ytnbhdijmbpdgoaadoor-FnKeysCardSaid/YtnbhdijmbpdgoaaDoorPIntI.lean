/-
  Proved: the contract of the program's ParseInt. Conditions: the text's length is a length; the library's table of powers of ten and its two error variables hold what start-up lays in them.
  By an AI agent; no person has read it.
-/
import Derived.Test.YtnbhdijmbpdgoaaDoorFmtI
import Derived.Test.YtnbhdijmbpdgoaaDoorPInt
import Derived.Test.YtnbhdijmbpdgoaaDoorAtoi
import Derived.Lib.AtoiErrMem
namespace Go.Proofs.YtnbhdijmbpdgoaaDoor
open Go.RowKit Go.Lib

/-- A variable holds an error. -/
def ErrIs (w : World) (name : String) : Prop := ∃ (tp : TypeId) (p : Value), w.var? Tryd.prog name = some #[.iface tp p]
theorem ErrIs.keep {w w' : World} {name : String} (h : ErrIs w name) (hb : Below w.heap.size w w') : ErrIs w' name := by
  obtain ⟨tp, p, h⟩ := h
  refine ⟨tp, p, ?_⟩
  unfold World.var? at h ⊢
  cases hg : Tryd.prog.globalNamed name with
  | none => rw [hg] at h; cases h
  | some g =>
    rw [hg] at h
    simp only [Option.bind_some] at h ⊢
    have hlt : g < w.heap.size := by
      rcases Nat.lt_or_ge g w.heap.size with h' | h'
      · exact h'
      · rw [Array.getElem?_eq_none h'] at h; cases h
    rw [hb.block g hlt]
    exact h
/-- What start-up lays, as far as ParseInt reads it. -/
def Env (w : World) : Prop := Pow w ∧ ErrIs w "strconv.ErrSyntax" ∧ ErrIs w "strconv.ErrRange"
theorem Env.keep {w w' : World} (h : Env w) (hb : Below w.heap.size w w') : Env w' := ⟨h.1.keep hb, h.2.1.keep hb, h.2.2.keep hb⟩

/-- Atoi: an answer and no error, or an error. -/
theorem atoi_two (s : ByteArray) (w : World) (hs : s.size ≤ 281474976710656) (he : Env w) :
    Calls Tryd.prog 50 #[.string s] w fun e w' => ((∃ v : Int, e = .returned (.tuple #[.int .i64 v, .nilIface]) ∧ atoiAll s.data.toList = .ok v) ∨ (∃ (v : Int) (N : Nat), e = .returned (.tuple #[.int .i64 v, .iface 80 (.pointer (some ⟨N, 0, none⟩))]) ∧ intV s.data.toList = none)) ∧ Below w.heap.size w w' := by
  by_cases hok : ∃ v, atoiAll s.data.toList = .ok v
  · obtain ⟨v, h⟩ := hok
    refine (Tryd.strconv_Atoi_ok s (by omega) v h w).mono ?_
    rintro e w' ⟨rfl, hw⟩
    refine ⟨.inl ⟨v, rfl, h⟩, ?_⟩
    rcases hw with rfl | ⟨t, rfl⟩
    · exact Below.refl _ _
    · exact Lib.bytesWorld_below _ _ _
  have hno : ∀ v, atoiAll s.data.toList ≠ .ok v := fun v h => hok ⟨v, h⟩
  by_cases h : atoiAll s.data.toList = .range
  · obtain ⟨tp, p, hv⟩ := he.2.2
    refine (Tryd.strconv_Atoi_range_var s (by omega) h tp p w hv).mono ?_
    rintro e w' ⟨N, rfl, _, _, hb⟩
    exact ⟨.inr ⟨_, N, rfl, intV_bad hno⟩, hb⟩
  · obtain ⟨tp, p, hv⟩ := he.2.1
    refine (Tryd.strconv_Atoi_bad_var s (by omega) hno h tp p w hv).mono ?_
    rintro e w' ⟨N, rfl, _, _, hb⟩
    exact ⟨.inr ⟨_, N, rfl, intV_bad hno⟩, hb⟩

set_option maxRecDepth 100000 in
set_option maxHeartbeats 1000000 in
theorem implParseInt_any (s : ByteArray) (w : World) (hs : s.size ≤ 281474976710656) (he : Env w) :
    Calls Tryd.prog 27 #[.string s] w fun e w' => e = .returned (.tuple #[.int .i64 (piN s), .bool (piB s)]) ∧ Below w.heap.size w w' := by
  go_enter Tryd.func27, Tryd.ntmps27
  go_wp2_with fail
  refine (atoi_two s _ hs he).mono ?_
  rintro e w1 ⟨⟨v, rfl, hv⟩ | ⟨v, N, rfl, hv⟩, b1⟩
  rotate_left
  · have HP := Lib.hid (pi_none hv)
    go_wp2
    go_ret2
    exact ⟨by rw [HP.out.1, HP.out.2]; rfl, b1⟩
  have HI := Lib.hid (intV_ok hv)
  have hb := atoiAll_bounds hv
  clear hv
  by_cases h0 : v < 0
  · have HP := Lib.hid (pi_none (by rw [HI.out, if_neg (by omega)]))
    go_wp2
    go_ret2
    exact ⟨by rw [HP.out.1, HP.out.2]; rfl, b1⟩
  by_cases h1 : 1000000000000 < v
  · have HP := Lib.hid (pi_none (by rw [HI.out, if_neg (by omega)]))
    go_wp2
    go_ret2
    exact ⟨by rw [HP.out.1, HP.out.2]; rfl, b1⟩
  obtain ⟨t, ht⟩ : ∃ t, t = strOf (itoa v) := ⟨_, rfl⟩
  have HT := Lib.hid ht
  have hi1 := he.1.keep b1
  by_cases hs2 : t = s
  · have HP := Lib.hid (pi_some (n := v.toNat) (by rw [HI.out, if_pos ⟨by omega, by rw [← hs2, ht, strOf_toList]⟩]))
    have HS := Lib.hid hs2
    have HV : Hid ((v.toNat : Int) = v) := by
      show _ = _
      omega
    clear hs2 ht
    go_wp2_with fail
    refine (implFormatInt_any _ _ (by omega) hi1).mono ?_
    rw [← HT.out, HS.out]
    rintro e w2 ⟨rfl, b2⟩
    have B2 := b1.trans (b2.mono b1.size)
    clear b1 b2
    go_wp2
    go_ret2
    exact ⟨by rw [HP.out.1, HP.out.2, HV.out]; rfl, B2⟩
  · have HP := Lib.hid (pi_none (s := s) (by rw [HI.out, if_neg (by rintro ⟨_, h⟩; exact hs2 (by rw [ht, h, strOf_data]))]))
    have hne := str_beq hs2
    clear ht hs2
    go_wp2_with fail
    refine (implFormatInt_any _ _ (by omega) hi1).mono ?_
    rw [← HT.out]
    rintro e w2 ⟨rfl, b2⟩
    have B2 := b1.trans (b2.mono b1.size)
    clear b1 b2
    go_wp2
    go_ret2
    exact ⟨by rw [HP.out.1, HP.out.2]; rfl, B2⟩
end Go.Proofs.YtnbhdijmbpdgoaaDoor
