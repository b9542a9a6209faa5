/-
  Proved: append at an operation that is guarded, where the guard lets it by. Conditions: those that each statement names.
  By an AI agent; no person has read it.
-/
import Derived.Test.YtbbngihmjdndoaaTypes
import Derived.StillTailTactics
import Derived.Test.YtbbngihmjdndoaaArith
namespace Go.Proofs.Ytbbngihmjdndoaa
open Go.RowKit
section
variable {P : Program} (w : World)
/-- append of a slice that reads as a list, to a row of the run's own: at the operation. -/
theorem wpList_catG {ops : Array Oper} {rest : List Oper} {o : Oper} {a : Act} {Q : Exit → Act → World → Prop} (hgd : Region.wanted o (yielded ops a.tmps) = true) (s x : Operand) (t : TypeId)
    (ho : o.op = .call { callee := .builtin .append, args := #[s, x], argTypes := #[t, t] })
    (base : Nat) (e : TypeId) (i : TypeInfo) (z : Value) (size bytes : Nat) (ht : P.underlying t = some (.slice e)) (hi : P.info? e = some i) (hz : i.zero = some z)
    (hsize : i.size = size) (hby : i.bytes = bytes) (hzs : z.cells.size = size) (hsz : 0 < size)
    (A : Option Addr) (n c : Nat) (xs : List Value) (hs : a.eval s = .slice A n c) (hown : w.ownsRow base e size (.slice A n c) n xs)
    (A2 : Option Addr) (m c2 : Nat) (news : List Value) (hx : a.eval x = .slice A2 m c2) (hr : Rd w size A2 m news) (h1 : ∀ u ∈ news, u.oneCell' = true)
    (h63 : n + m ≤ maxLen) (hbytes : (n + m) * bytes ≤ 140737488355328) (hbase : base ≤ w.heap.size)
    (h : ∀ A' k' c' w', k' = n + m → w'.ownsRow base e size (.slice A' k' c') k' (xs ++ news) → Below base w w' → w.grownBy w' (A.map (·.block)) → wpList P ops Q rest (a.put o.dst (.slice A' k' c')) w') : wpList P ops Q (o :: rest) a w := by
  refine wpList_step fun K hK => ?_
  rw [if_pos hgd]
  obtain ⟨A', c', w', hrun, h2, h3, h4⟩ := run_cat (P := P) w base t o.type e i z size bytes ht hi hz hsize hby hzs hsz A n c xs hown A2 m c2 news hr h1 h63 hbytes hbase
  unfold Oper.wp execOp
  simp only [ho, resolve, invoke, builtin, Sem.run_bind, Sem.run_pure, Result.andThen_ok, List.map_toArray, List.map_cons, List.map_nil, hs, hx, hrun]
  exact hK _ _ (h A' (n + m) c' w' rfl h2 h3 h4)

theorem wpList_pushG {ops : Array Oper} {rest : List Oper} {o : Oper} {a : Act} {Q : Exit → Act → World → Prop} (hgd : Region.wanted o (yielded ops a.tmps) = true) (s x : Operand) (t : TypeId)
    (ho : o.op = .call { callee := .builtin .append, args := #[s, x], argTypes := #[t, t] })
    (base : Nat) (e : TypeId) (i : TypeInfo) (z : Value) (bytes : Nat) (ht : P.underlying t = some (.slice e)) (hi : P.info? e = some i) (hz : i.zero = some z)
    (hsize : i.size = 1) (hby : i.bytes = bytes) (hzs : z.cells.size = 1)
    (A : Option Addr) (n c : Nat) (xs : List Value) (hs : a.eval s = .slice A n c) (hown : w.ownsRow base e 1 (.slice A n c) n xs)
    (u : Value) (hx : a.eval x = .slice (some ⟨w.heap.size, 0, none⟩) 1 1) (h1 : u.oneCell' = true)
    (h63 : n + 1 ≤ maxLen) (hbytes : (n + 1) * bytes ≤ 140737488355328) (hbase : base ≤ w.heap.size)
    (h : ∀ A' k' c' w', k' = n + 1 → w'.ownsRow base e 1 (.slice A' k' c') k' (xs ++ [u]) → Below base w w' → wpList P ops Q rest (a.put o.dst (.slice A' k' c')) w') : wpList P ops Q (o :: rest) a (w.alloc (.cells #[u] e)) := by
  refine wpList_catG (w.alloc (.cells #[u] e)) hgd s x t ho base e i z 1 bytes ht hi hz hsize hby hzs (by decide) A n c xs hs (hown.alloc _) (some ⟨w.heap.size, 0, none⟩) 1 1 [u] hx ⟨by simp, fun _ => ⟨_, _, rfl, by simp, fun j u' hu => ?_⟩⟩ (by simpa using h1) h63 hbytes (by simp; omega) (fun A' k' c' w' hk h2 h3 _ => h A' k' c' w' hk h2 (((Below.refl _ _).alloc hbase _).trans h3))
  have := cell_one_new w u e j u' hu
  rwa [addr_add] at this
end
section
variable {P : Program}
end
end Go.Proofs.Ytbbngihmjdndoaa
