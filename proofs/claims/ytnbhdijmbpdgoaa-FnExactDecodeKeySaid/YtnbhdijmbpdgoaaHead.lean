/-
  Proved: what the words at the head of this seat's translation say, as far as every row asks it. Conditions: none.
  By an AI agent; no person has read it.
-/
import Derived.Test.YtnbhdijmbpdgoaaRows
import Derived.JoinedOf
import Derived.KernelRfl
namespace Go.Proofs.Ytnbhdijmbpdgoaa
open Go

/-- The head's signs. -/
abbrev headSigns : List Char := [
  Char.ofNat 104, Char.ofNat 97, Char.ofNat 114, Char.ofNat 110, Char.ofNat 101, Char.ofNat 115, Char.ofNat 115, Char.ofNat 32, Char.ofNat 56, Char.ofNat 48, Char.ofNat 101, Char.ofNat 50, Char.ofNat 53, Char.ofNat 100, Char.ofNat 51, Char.ofNat 100, Char.ofNat 102, Char.ofNat 97, Char.ofNat 53, Char.ofNat 101, Char.ofNat 56, Char.ofNat 56, Char.ofNat 97, Char.ofNat 100, Char.ofNat 100, Char.ofNat 51, Char.ofNat 53, Char.ofNat 99, Char.ofNat 97, Char.ofNat 57, Char.ofNat 56, Char.ofNat 53, Char.ofNat 98, Char.ofNat 49, Char.ofNat 57, Char.ofNat 97, Char.ofNat 57, Char.ofNat 98, Char.ofNat 51, Char.ofNat 53,
  Char.ofNat 51, Char.ofNat 100, Char.ofNat 52, Char.ofNat 53, Char.ofNat 51, Char.ofNat 99, Char.ofNat 57, Char.ofNat 54, Char.ofNat 98, Char.ofNat 101, Char.ofNat 100, Char.ofNat 54, Char.ofNat 49, Char.ofNat 48, Char.ofNat 57, Char.ofNat 53, Char.ofNat 102, Char.ofNat 98, Char.ofNat 99, Char.ofNat 55, Char.ofNat 52, Char.ofNat 100, Char.ofNat 54, Char.ofNat 97, Char.ofNat 50, Char.ofNat 53, Char.ofNat 52, Char.ofNat 51, Char.ofNat 54, Char.ofNat 53, Char.ofNat 50, Char.ofNat 53, Char.ofNat 32, Char.ofNat 99, Char.ofNat 117, Char.ofNat 116, Char.ofNat 32, Char.ofNat 97, Char.ofNat 116, Char.ofNat 32,
  Char.ofNat 108, Char.ofNat 111, Char.ofNat 111, Char.ofNat 112, Char.ofNat 46, Char.ofNat 101, Char.ofNat 120, Char.ofNat 97, Char.ofNat 109, Char.ofNat 112, Char.ofNat 108, Char.ofNat 101, Char.ofNat 47, Char.ofNat 103, Char.ofNat 48, Char.ofNat 48, Char.ofNat 53, Char.ofNat 56, Char.ofNat 51, Char.ofNat 47, Char.ofNat 108, Char.ofNat 97, Char.ofNat 119, Char.ofNat 115, Char.ofNat 46, Char.ofNat 70, Char.ofNat 110, Char.ofNat 69, Char.ofNat 120, Char.ofNat 97, Char.ofNat 99, Char.ofNat 116, Char.ofNat 73, Char.ofNat 115, Char.ofNat 75, Char.ofNat 101, Char.ofNat 121, Char.ofNat 32, Char.ofNat 108, Char.ofNat 111,
  Char.ofNat 111, Char.ofNat 112, Char.ofNat 46, Char.ofNat 101, Char.ofNat 120, Char.ofNat 97, Char.ofNat 109, Char.ofNat 112, Char.ofNat 108, Char.ofNat 101, Char.ofNat 47, Char.ofNat 103, Char.ofNat 48, Char.ofNat 48, Char.ofNat 53, Char.ofNat 56, Char.ofNat 51, Char.ofNat 47, Char.ofNat 108, Char.ofNat 97, Char.ofNat 119, Char.ofNat 115, Char.ofNat 46, Char.ofNat 70, Char.ofNat 110, Char.ofNat 69, Char.ofNat 120, Char.ofNat 97, Char.ofNat 99, Char.ofNat 116, Char.ofNat 67, Char.ofNat 111, Char.ofNat 109, Char.ofNat 112, Char.ofNat 97, Char.ofNat 114, Char.ofNat 101, Char.ofNat 75, Char.ofNat 101, Char.ofNat 121,
  Char.ofNat 115, Char.ofNat 32, Char.ofNat 108, Char.ofNat 111, Char.ofNat 111, Char.ofNat 112, Char.ofNat 46, Char.ofNat 101, Char.ofNat 120, Char.ofNat 97, Char.ofNat 109, Char.ofNat 112, Char.ofNat 108, Char.ofNat 101, Char.ofNat 47, Char.ofNat 103, Char.ofNat 48, Char.ofNat 48, Char.ofNat 53, Char.ofNat 56, Char.ofNat 51, Char.ofNat 47, Char.ofNat 108, Char.ofNat 97, Char.ofNat 119, Char.ofNat 115, Char.ofNat 46, Char.ofNat 70, Char.ofNat 110, Char.ofNat 69, Char.ofNat 120, Char.ofNat 97, Char.ofNat 99, Char.ofNat 116, Char.ofNat 69, Char.ofNat 110, Char.ofNat 99, Char.ofNat 111, Char.ofNat 100, Char.ofNat 101,
  Char.ofNat 75, Char.ofNat 101, Char.ofNat 121, Char.ofNat 32, Char.ofNat 108, Char.ofNat 111, Char.ofNat 111, Char.ofNat 112, Char.ofNat 46, Char.ofNat 101, Char.ofNat 120, Char.ofNat 97, Char.ofNat 109, Char.ofNat 112, Char.ofNat 108, Char.ofNat 101, Char.ofNat 47, Char.ofNat 103, Char.ofNat 48, Char.ofNat 48, Char.ofNat 53, Char.ofNat 56, Char.ofNat 51, Char.ofNat 47, Char.ofNat 108, Char.ofNat 97, Char.ofNat 119, Char.ofNat 115, Char.ofNat 46, Char.ofNat 70, Char.ofNat 110, Char.ofNat 69, Char.ofNat 120, Char.ofNat 97, Char.ofNat 99, Char.ofNat 116, Char.ofNat 73, Char.ofNat 110, Char.ofNat 82, Char.ofNat 97,
  Char.ofNat 110, Char.ofNat 103, Char.ofNat 101, Char.ofNat 79, Char.ofNat 102, Char.ofNat 32, Char.ofNat 108, Char.ofNat 111, Char.ofNat 111, Char.ofNat 112, Char.ofNat 46, Char.ofNat 101, Char.ofNat 120, Char.ofNat 97, Char.ofNat 109, Char.ofNat 112, Char.ofNat 108, Char.ofNat 101, Char.ofNat 47, Char.ofNat 103, Char.ofNat 48, Char.ofNat 48, Char.ofNat 53, Char.ofNat 56, Char.ofNat 51, Char.ofNat 47, Char.ofNat 108, Char.ofNat 97, Char.ofNat 119, Char.ofNat 115, Char.ofNat 46, Char.ofNat 70, Char.ofNat 110, Char.ofNat 69, Char.ofNat 120, Char.ofNat 97, Char.ofNat 99, Char.ofNat 116, Char.ofNat 68, Char.ofNat 101,
  Char.ofNat 99, Char.ofNat 111, Char.ofNat 100, Char.ofNat 101, Char.ofNat 75, Char.ofNat 101, Char.ofNat 121, Char.ofNat 32, Char.ofNat 108, Char.ofNat 111, Char.ofNat 111, Char.ofNat 112, Char.ofNat 46, Char.ofNat 101, Char.ofNat 120, Char.ofNat 97, Char.ofNat 109, Char.ofNat 112, Char.ofNat 108, Char.ofNat 101, Char.ofNat 47, Char.ofNat 103, Char.ofNat 48, Char.ofNat 48, Char.ofNat 53, Char.ofNat 56, Char.ofNat 51, Char.ofNat 47, Char.ofNat 108, Char.ofNat 97, Char.ofNat 119, Char.ofNat 115, Char.ofNat 46, Char.ofNat 70, Char.ofNat 110, Char.ofNat 82, Char.ofNat 97, Char.ofNat 110, Char.ofNat 103, Char.ofNat 101,
  Char.ofNat 115]
set_option maxRecDepth 100000 in
theorem head_is : Try.prog.initOrder = String.ofList headSigns := by kernel_rfl
theorem head_list : Try.prog.initOrder.toList = headSigns := by rw [head_is, String.toList_ofList]
set_option maxRecDepth 100000 in
theorem head_first : (behindMainWord (wordsSigns headSigns)).head? = some "cut".toList := by kernel_rfl
theorem head_cut : ∃ rest, behindMainWord (wordsSigns Try.prog.initOrder.toList) = "cut".toList :: rest := by
  rw [head_list]
  have h := head_first
  cases e : behindMainWord (wordsSigns headSigns) with
  | nil => rw [e] at h; cases h
  | cons c rest =>
    rw [e] at h
    simp only [List.head?_cons, Option.some.injEq] at h
    exact ⟨rest, by rw [h]⟩

theorem strip_cut (rest : List (List Char)) : stripLifts liftWords ("cut".toList :: rest) = ([], "cut".toList :: rest) := by kernel_rfl
theorem cut_gc : ("cut".toList == "gc".toList) = false := by kernel_rfl
theorem cut_spec : ("cut".toList == "spec".toList) = false := by kernel_rfl
theorem cut_carried : ("cut".toList == "carried".toList) = false := by kernel_rfl
theorem cut_cut : ("cut".toList == "cut".toList) = true := by kernel_rfl
theorem lays_no : Try.prog.laysLater = false := by kernel_rfl
theorem bears_no : Try.prog.bearsReflect = false := by kernel_rfl
theorem door_fits : Try.prog.doorFits [] = true := by kernel_rfl

section
variable {P : Program} {rest : List (List Char)}
theorem mayEnter_of (h : behindMainWord (wordsSigns P.initOrder.toList) = "cut".toList :: rest) (h1 : P.laysLater = false) (h2 : P.bearsReflect = false) (h3 : P.doorFits [] = true) : P.mayEnter = true := by
  unfold Program.mayEnter
  rw [h]
  simp only [strip_cut, h1, h2, h3, cut_gc, cut_spec, cut_carried]
  simp
theorem headLifts_of (h : behindMainWord (wordsSigns P.initOrder.toList) = "cut".toList :: rest) : P.headLifts = [] := by
  unfold Program.headLifts
  rw [h]
  simp only [strip_cut]
  simp
theorem liftsFinal_of (h : behindMainWord (wordsSigns P.initOrder.toList) = "cut".toList :: rest) : P.liftsFinal = false := by
  unfold Program.liftsFinal
  rw [h, headLifts_of h]
  simp only [List.head?_cons]
  have e : (some "cut".toList == some "carried".toList) = false := by kernel_rfl
  rw [e]
  rfl
theorem make_of (h : behindMainWord (wordsSigns P.initOrder.toList) = "cut".toList :: rest) : P.make = some .cut := by
  unfold Program.make
  rw [h]
  simp only [cut_gc, cut_spec, cut_cut]
  simp
end
theorem may_enter : Try.prog.mayEnter = true := by
  obtain ⟨rest, h⟩ := head_cut
  exact mayEnter_of h lays_no bears_no door_fits
theorem lifts_final : Try.prog.liftsFinal = false := by
  obtain ⟨rest, h⟩ := head_cut
  exact liftsFinal_of h
theorem make_is : Try.prog.make = some .cut := by
  obtain ⟨rest, h⟩ := head_cut
  exact make_of h
theorem laidOut : laidOutB Try.prog = true := by kernel_rfl
theorem mapsRowed_is : mapsRowed Try.prog = true := by kernel_rfl
theorem stops_no : (Try.prog.stops == []) = true := by kernel_rfl
theorem stopKnobs_no : (Try.prog.stopKnobs == []) = true := by kernel_rfl
theorem plainKeys_is : Try.prog.plainKeys = true := by kernel_rfl
theorem stopsHeard_is : Try.prog.stopsHeard = true := by kernel_rfl

/-- The closed facts of a row that hang on its own function and cells. -/
def lawFacts (P : Program) (f : FuncId) (fn : Func) (s : ChangeSpec) (c : OpenClaim) : Bool :=
  c.wf (OpenSpec.ofChange s) && fn.params.all (P.readableRec ·) && namedTie P c.named s.vars && (c.stops == []) && (c.knobs == []) &&
  (c.inPlace == P.inPlace f) && (c.unfollowed == P.unfollowed f) && (c.recurses == P.recurses f) && (c.named == P.varsNamed f) &&
  (c.maps == (fn.params.toList ++ s.plain.varTypes P).any (P.mapsRec ·)) && (c.ifaces == (fn.params.toList ++ s.plain.varTypes P).any (P.ifacesRec ·)) && (c.mapsOut == P.mapsAmong fn.resultTypes.toList) &&
  (c.loops == (fn.params.toList ++ s.plain.varTypes P).any (P.loopsFrom ·)) && (c.wideKeys == (fn.params.toList ++ s.plain.varTypes P ++ fn.resultTypes.toList).any (P.wideKeysFrom ·)) &&
  s.vars.all (P.varReadable ·) && fn.resultTypes.all (fun t => P.readableRec t && decide (t < P.types.size)) && (c.ifacesOut == fn.resultTypes.toList.any (P.ifacesRec ·)) && (c.loopsOut == fn.resultTypes.toList.any (P.loopsFrom ·)) &&
  (c.plainKeys == true) && c.shortTexts.isNone && (c.lifted == false) && (c.make == Make.cut) &&
  (c.kinds == (if c.domain.isEmpty then [] else fn.params.toList.map fun t => match P.underlying t with | some (.int k) => some k | _ => none)) && (c.pinned == c.pinnedBy) &&
  (c.veiled == (fn.params.toList ++ s.plain.varTypes P ++ fn.resultTypes.toList).any (P.veiledRec ·)) && c.veiledFits P fn.params.toList (fn.params.toList ++ s.plain.varTypes P ++ fn.resultTypes.toList)

set_option maxRecDepth 100000 in
theorem joined_of {f : FuncId} {fn : Func} {s : ChangeSpec} {c : OpenClaim} (h : lawFacts Try.prog f fn s c = true) : joinedFacts Try.prog f fn s c = true := by
  have e1 := laidOut
  have e2 := mapsRowed_is
  have e3 := stops_no
  have e4 := stopKnobs_no
  have e6 := stopsHeard_is
  have e7 := may_enter
  simp only [lawFacts, Bool.and_eq_true] at h
  obtain ⟨⟨⟨⟨⟨⟨⟨⟨⟨⟨⟨⟨⟨⟨⟨⟨⟨⟨⟨⟨⟨⟨⟨⟨⟨k1, k4⟩, k5⟩, k6⟩, k8⟩, k10⟩, k11⟩, k12⟩, k13⟩, k14⟩, k15⟩, k16⟩, k17⟩, k18⟩, k19⟩, k20⟩, k21⟩, k22⟩, k23⟩, k24⟩, k27⟩, k28⟩, k29⟩, k30⟩, k31⟩, k32⟩ := h
  have d23 : (c.plainKeys == Try.prog.plainKeys) = true := by rw [plainKeys_is]; exact k23
  have d27 : (c.lifted == Try.prog.liftsFinal) = true := by rw [lifts_final]; exact k27
  have d28 : (Try.prog.make == some c.make) = true := by
    rw [make_is]
    have := eq_of_beq k28
    rw [this]
    rfl
  simp only [joinedFacts, Bool.and_eq_true]
  exact ⟨⟨⟨⟨⟨⟨⟨⟨⟨⟨⟨⟨⟨⟨⟨⟨⟨⟨⟨⟨⟨⟨⟨⟨⟨⟨⟨⟨⟨⟨⟨k1, e1⟩, e2⟩, k4⟩, k5⟩, k6⟩, e3⟩, k8⟩, e4⟩, k10⟩, k11⟩, k12⟩, k13⟩, k14⟩, k15⟩, k16⟩, k17⟩, k18⟩, k19⟩, k20⟩, k21⟩, k22⟩, d23⟩, k24⟩, e6⟩, e7⟩, d27⟩, d28⟩, k29⟩, k30⟩, k31⟩, k32⟩
end Go.Proofs.Ytnbhdijmbpdgoaa
