/-
  Proved: what a row that lists the library's tables and strconv's two error variables gives a walk, and a world that meets such a row's condition. Conditions: none.
  By an AI agent; no person has read it.
-/
import Derived.Test.YtnbhdijmbpdgoaaDoorLaid
import Derived.Test.YtnbhdijmbpdgoaaDoorPIntI
namespace Go.Proofs.YtnbhdijmbpdgoaaDoor
open Go.ChangeShapes Go.WideShapes Go.ChangeAt Go.RowKit

theorem err_of {W : World} {name nm : String} {d : DataW Unit} {r : List (String × DataW Unit)} {g : Nat} {ti : TypeId} {ms : Array (String × TypeId)} (h : laidMet Tryd.prog ((name, .iface nm d) :: r) W)
    (hg : Tryd.prog.globalNamed name = some g) (ht : (Tryd.prog.globals[g]?).map (·.type) = some ti) (hi : Tryd.prog.underlying ti = some (.interface ms)) : ErrIs W name := by
  obtain ⟨ps, ⟨g0, t0, cs0, f0, p0, q0, hg0, ht0, hv0, hd0, _, e0⟩, _, hrows⟩ := h
  obtain rfl := Option.some.inj (hg.symm.trans hg0)
  obtain rfl := Option.some.inj (ht.symm.trans ht0)
  obtain ⟨l0⟩ := cs0
  obtain ⟨f', u, v, hcs, _, _⟩ := iface_of_trod hi hd0
  simp only at hcs
  subst hcs
  exact ⟨u, v, hv0⟩
theorem errs_of {W : World} (h : laidMet Tryd.prog [("math/bits.deBruijn32tab", Rows.laid_math_bits_deBruijn32tab), ("math/bits.deBruijn64tab", Rows.laid_math_bits_deBruijn64tab), ("internal/strconv.uint64pow10", Rows.laid_internal_strconv_uint64pow10), ("strconv.ErrRange", Rows.laid_strconv_ErrRange), ("strconv.ErrSyntax", Rows.laid_strconv_ErrSyntax)] W) : Env W :=
  ⟨pow_of (laidMet.tail (laidMet.tail h)),
   err_of (laidMet.tail (laidMet.tail (laidMet.tail (laidMet.tail h)))) (g := 1) (ti := 66) (by kernel_rfl) (by kernel_rfl) Tryd.underlying66,
   err_of (laidMet.tail (laidMet.tail (laidMet.tail h))) (g := 2) (ti := 66) (by kernel_rfl) (by kernel_rfl) Tryd.underlying66⟩

/-- The settled world, the three tables and the two errors laid. -/
noncomputable def tabWorld5 (os : Os) : World :=
  let w0 := tabWorld os
  let w1 := w0.alloc (.cells #[.string ⟨#[118, 97, 108, 117, 101, 32, 111, 117, 116, 32, 111, 102, 32, 114, 97, 110, 103, 101]⟩] 108)
  let w2 := w1.alloc (.cells #[.string ⟨#[105, 110, 118, 97, 108, 105, 100, 32, 115, 121, 110, 116, 97, 120]⟩] 108)
  putRow3 (putRow3 w2 2 #[.iface 106 (.pointer (some ⟨w0.heap.size, 0, none⟩))]) 1 #[.iface 106 (.pointer (some ⟨w1.heap.size, 0, none⟩))]
end Go.Proofs.YtnbhdijmbpdgoaaDoor
