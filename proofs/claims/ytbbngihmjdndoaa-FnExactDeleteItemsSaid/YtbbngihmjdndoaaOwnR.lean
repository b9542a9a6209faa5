/-
  Proved: rows of the run's own, of elements of any size: a part of a row as a row, an append within the capacity, an append of a make, a copy into a row, clearing behind the row; no program is named. Conditions: those that each statement names.
  By an AI agent; no person has read it.
-/
import Derived.Test.YtbbngihmjdndoaaBase
import Derived.Laws.CopyOwn
import Derived.Deep.RegionLaw
namespace Go.Proofs.Ytbbngihmjdndoaa
open Go.RowKit

section
variable {P : Program} {w : World} {base : Nat} {e : TypeId} {size : Nat}
/-- A row's head as a row. -/
theorem own_head {g n c k : Nat} {xs : List Value} (h : w.ownsRow base e size (.slice (some ⟨g, 0, none⟩) n c) n xs) (hk : k ≤ n) : w.ownsRow base e size (.slice (some ⟨g, 0, none⟩) k c) k (xs.take (k * size)) := by
  have hks : k * size ≤ n * size := Nat.mul_le_mul_right _ hk
  refine ⟨by rw [List.length_take, h.1]; omega, ?_⟩
  rcases h.2 with ⟨hv, _⟩ | ⟨g', cap, cur, hv, hg, hh, h1, h2, h3, h4⟩
  · cases hv
  · injection hv with e1 e2 e3
    subst e3
    refine .inr ⟨g', c, cur, by rw [e1], hg, hh, by omega, h2, h3, ?_⟩
    rw [← h4, List.take_take, Nat.min_eq_left hks]
/-- What stands from element k on reads as a list (also where k is the length: the address is not asked then). -/
theorem own_tail {g n c k : Nat} {xs : List Value} {A : Option Addr} (h : w.ownsRow base e size (.slice (some ⟨g, 0, none⟩) n c) n xs) (hk : k ≤ n) (hA : k < n → A = some ⟨g, k * size, none⟩) : Rd w size A (n - k) (xs.drop (k * size)) := by
  refine ⟨by rw [List.length_drop, h.1, Nat.sub_mul], fun hn => ?_⟩
  have hlt : g < w.heap.size := (h.lt g rfl).2
  refine ⟨g, k * size, hA (by omega), hlt, fun j u hu => ?_⟩
  rw [List.getElem?_drop] at hu
  have := h.cells (g := g) rfl (k * size + j) u hu
  rwa [addr_add, Nat.zero_add] at this
theorem rd_cells {ad : Addr} {m : Nat} {news : List Value} (hr : Rd w size (some ad) m news) (hm : m * size = 0 → news = []) : ∀ j u, news[j]? = some u → w.cell? (ad.add j) = some u := by
  intro j u hu
  rcases Nat.eq_zero_or_pos m with h0 | h0
  · rw [hm (by rw [h0, Nat.zero_mul])] at hu
    simp at hu
  · obtain ⟨b, o, h, _, hc⟩ := hr.2 h0
    injection h with h
    subst h
    rw [addr_add]
    exact hc j u hu
theorem rd_nil {A : Option Addr} {m : Nat} {news : List Value} (hr : Rd w size A m news) : m * size = 0 → news = [] := fun h => List.eq_nil_of_length_eq_zero (hr.1.trans h)
/-- append within the capacity, at a step of a region that draws. -/
theorem step_fits {ops : Array Oper} {o : Oper} {a : Act} {K : Act → World → Prop} {Q : Exit → Act → World → Prop} {E : Prop} (hgd : o.guard = none) (s x : Operand) (t : TypeId)
    (ho : o.op = .call { callee := .builtin .append, args := #[s, x], argTypes := #[t, t] }) (base : Nat) (e : TypeId) (i : TypeInfo) (size : Nat) (ht : P.underlying t = some (.slice e)) (hi : P.info? e = some i) (hsize : i.size = size)
    (g n c : Nat) (xs : List Value) (hs : a.eval s = .slice (some ⟨g, 0, none⟩) n c) (hown : w.ownsRow base e size (.slice (some ⟨g, 0, none⟩) n c) n xs)
    (ad : Addr) (m c2 : Nat) (news : List Value) (hx : a.eval x = .slice (some ad) m c2) (hr : Rd w size (some ad) m news) (h1 : ∀ u ∈ news, u.oneCell' = true) (hroom : n + m ≤ c)
    (h : ∀ p w', p = n + m → w'.ownsRow base e size (.slice (some ⟨g, 0, none⟩) p c) p (xs ++ news) → w.grownBy w' (some g) → K (a.put o.dst (.slice (some ⟨g, 0, none⟩) p c)) w') :
    if Region.wanted o (yielded ops a.tmps) = true then Oper.wp P o a w K Q else E := by
  have hw : Region.wanted o (yielded ops a.tmps) = true := by simp [Region.wanted, hgd]
  rw [if_pos hw]
  obtain ⟨w', hrun, h2, h3⟩ := run_append_fits (P := P) w base t o.type e i size ht hi hsize g n c xs hown ad m c2 news hr.1 (rd_cells hr (rd_nil hr)) h1 hroom
  unfold Oper.wp execOp
  simp only [ho, resolve, invoke, builtin, Sem.run_bind, Sem.run_pure, Result.andThen_ok, List.map_toArray, List.map_cons, List.map_nil, hs, hx, hrun]
  exact h _ w' rfl h2 h3
/-- A store of many cells into a row's block. -/
theorem own_store {g n c off : Nat} {xs vs : List Value} (h : w.ownsRow base e size (.slice (some ⟨g, 0, none⟩) n c) n xs) (hfit : off + vs.length ≤ c * size) (h1 : ∀ v ∈ vs, v.oneCell' = true) :
    ∃ w', (storeCells ⟨g, off, none⟩ vs).run P w = .ok () w' ∧ w.grownBy w' (some g) ∧ ∀ k ys, k ≤ c → k * size ≤ off + vs.length → (off ≤ k * size → ys = xs.take off ++ vs.take (k * size - off)) → off ≤ n * size → (k * size < off → ys = xs.take (k * size)) → w'.ownsRow base e size (.slice (some ⟨g, 0, none⟩) k c) k ys := by
  rcases h.2 with ⟨hv, _⟩ | ⟨g', cap, cur, hv, hg, hh, h2, h3, h4, h5⟩
  · cases hv
  · injection hv with e1 e2 e3
    subst e3
    injection e1 with e1
    injection e1 with e1
    subst e1
    have hrun := run_storeCells_at P g off e vs 0 cur w hh (by omega) h1
    simp only [Nat.add_zero] at hrun
    refine ⟨_, hrun, ⟨rfl, rfl, rfl, by simp [World.setRow], fun k _ hk => setRow_other w g k _ (fun e => hk (by rw [e]))⟩, ?_⟩
    intro k ys hk hkl hys hoff hys2
    have hl : (cur.toList.take off ++ vs ++ cur.toList.drop (off + vs.length)).length = c * size := by
      simp only [List.length_append, List.length_take, List.length_drop, Array.length_toList]
      omega
    have hks : k * size ≤ c * size := Nat.mul_le_mul_right _ hk
    have hyt : ys = (cur.toList.take off ++ vs ++ cur.toList.drop (off + vs.length)).take (k * size) := by
      have hxt : ∀ j, j ≤ n * size → xs.take j = cur.toList.take j := fun j hj => by rw [← h5, List.take_take, Nat.min_eq_left hj]
      have hlen : (cur.toList.take off).length = off := by rw [List.length_take, Array.length_toList]; omega
      by_cases h6 : off ≤ k * size
      · rw [hys h6, hxt off hoff, List.append_assoc, List.take_append, hlen, List.take_of_length_le (l := cur.toList.take off) (by omega), List.take_append_of_le_length (by omega)]
      · rw [hys2 (by omega), hxt _ (by omega), List.append_assoc, List.take_append_of_le_length (by omega), List.take_take, Nat.min_eq_left (by omega)]
    refine ⟨by rw [hyt, List.length_take, hl]; omega, .inr ⟨g, c, _, rfl, hg, setRow_heap w g cur _ e _ hh, hk, h3, by rw [List.size_toArray]; exact hl, hyt.symm⟩⟩
/-- 'clear' of a part behind the row, within the capacity. -/
theorem run_clear_own (t ty : TypeId) (z : Value) (ht : P.underlying t = some (.slice e)) (hv : ∀ w, (zeroValue e).run P w = .ok z w) (hz : z.cells.size = size) (h1 : ∀ v ∈ z.cells.toList, v.oneCell' = true) (hsz : 0 < size)
    (g n c m c2 : Nat) (xs : List Value) (hown : w.ownsRow base e size (.slice (some ⟨g, 0, none⟩) n c) n xs) (hm : 0 < m) (hroom : n + m ≤ c) :
    ∃ w', (Builtin.clear_ #[t] ty #[.slice (some ⟨g, n * size, none⟩) m c2]).run P w = .ok (.tuple #[]) w' ∧ w'.ownsRow base e size (.slice (some ⟨g, 0, none⟩) n c) n xs ∧ w.grownBy w' (some g) := by
  have hl : (Builtin.zeroCells z.cells m).toList.length = m * size := by rw [Array.length_toList, size_zeroCells, hz]
  have hones : ∀ v ∈ (Builtin.zeroCells z.cells m).toList, v.oneCell' = true := by
    intro v hv
    simp only [Builtin.zeroCells, Array.toList_map, List.mem_map] at hv
    obtain ⟨i, _, rfl⟩ := hv
    have hi : i % z.cells.size < z.cells.size := Nat.mod_lt _ (by omega)
    rw [getElem!_pos z.cells _ hi]
    exact h1 _ (by simp)
  obtain ⟨w', hrun, hg, hk⟩ := own_store (P := P) (off := n * size) (vs := (Builtin.zeroCells z.cells m).toList) hown (by rw [hl, ← Nat.add_mul]; exact Nat.mul_le_mul_right _ hroom) hones
  have hx : xs.take (n * size) = xs := List.take_of_length_le (Nat.le_of_eq hown.1)
  obtain ⟨m', rfl⟩ : ∃ m', m = m' + 1 := ⟨m - 1, by omega⟩
  refine ⟨w', ?_, hk n xs (by omega) (by omega) (fun _ => by rw [hx, Nat.sub_self]; simp) (Nat.le_refl _) (fun h => absurd h (by omega)), hg⟩
  simp [Builtin.clear_, run_underlying ht, hv, hrun]
/-- The operation 'clear', known by its run, in a region that keeps the text's order. -/
theorem wpList_clear {ops : Array Oper} {rest : List Oper} {o : Oper} {a : Act} {Q : Exit → Act → World → Prop} (hgd : o.guard = none) (s : Operand) (t : TypeId)
    (ho : o.op = .call { callee := .builtin .clear, args := #[s], argTypes := #[t] }) (v : Value) (hs : a.eval s = v) (w' : World) (hr : (Builtin.clear_ #[t] o.type #[v]).run P w = .ok (.tuple #[]) w')
    (h : wpList P ops Q rest (a.put o.dst (.tuple #[])) w') : wpList P ops Q (o :: rest) a w := by
  refine wpList_plain hgd fun K hK => ?_
  unfold Oper.wp execOp
  simp only [ho, resolve, invoke, builtin, Sem.run_bind, Sem.run_pure, Result.andThen_ok, List.map_toArray, List.map_cons, List.map_nil, hs, hr]
  exact hK _ _ h
/-- A store of many cells inside a row. -/
theorem own_store_mid {g n c off : Nat} {xs vs : List Value} (h : w.ownsRow base e size (.slice (some ⟨g, 0, none⟩) n c) n xs) (hfit : off + vs.length ≤ n * size) (h1 : ∀ v ∈ vs, v.oneCell' = true) :
    ∃ w', (storeCells ⟨g, off, none⟩ vs).run P w = .ok () w' ∧ w.grownBy w' (some g) ∧ w'.ownsRow base e size (.slice (some ⟨g, 0, none⟩) n c) n (xs.take off ++ vs ++ xs.drop (off + vs.length)) := by
  rcases h.2 with ⟨hv, _⟩ | ⟨g', cap, cur, hv, hg, hh, h2, h3, h4, h5⟩
  · cases hv
  · injection hv with e1 e2 e3
    subst e3
    injection e1 with e1
    injection e1 with e1
    subst e1
    have hks : n * size ≤ c * size := Nat.mul_le_mul_right _ h2
    have hrun := run_storeCells_at P g off e vs 0 cur w hh (by omega) h1
    simp only [Nat.add_zero] at hrun
    refine ⟨_, hrun, ⟨rfl, rfl, rfl, by simp [World.setRow], fun k _ hk => setRow_other w g k _ (fun e => hk (by rw [e]))⟩, ?_⟩
    have hl : (cur.toList.take off ++ vs ++ cur.toList.drop (off + vs.length)).length = c * size := by
      simp only [List.length_append, List.length_take, List.length_drop, Array.length_toList]
      omega
    have hxl : xs.length = n * size := h.1
    refine ⟨by simp only [List.length_append, List.length_take, List.length_drop]; omega, .inr ⟨g, c, _, rfl, hg, setRow_heap w g cur _ e _ hh, h2, h3, by rw [List.size_toArray]; exact hl, ?_⟩⟩
    rw [← h5]
    apply List.ext_getElem?
    intro t
    simp only [List.getElem?_take, List.getElem?_append, List.getElem?_drop, List.length_take, List.length_append, Array.length_toList]
    have ho : min off cur.size = off := Nat.min_eq_left (by omega)
    have ho2 : min off (min (n * size) cur.size) = off := by omega
    rw [ho, ho2]
    by_cases t1 : t < off
    · have : t < n * size := by omega
      simp [t1, this, show t < off + vs.length by omega]
    · by_cases t2 : t < off + vs.length
      · have : t < n * size := by omega
        simp [t1, t2, this]
      · by_cases t3 : t < n * size
        · have e1 : off + vs.length + (t - (off + vs.length)) = t := by omega
          simp [t2, t3, e1]
        · have e1 : off + vs.length + (t - (off + vs.length)) = t := by omega
          simp [t2, t3, e1]
theorem run_copy_to (dT sT ty : TypeId) (i : TypeInfo) (hu : P.underlying dT = some (.slice e)) (hi : P.info? e = some i) (hsize : i.size = size) (b : Addr) (dLen dCap : Nat)
    (A : Option Addr) (m c2 q : Nat) (cs : List Value) (hq : Nat.min m dLen = q) (hr : Rd w size A q cs) {w' : World} (hst : (storeCells b cs).run P w = .ok () w') :
    (Builtin.copy_ #[dT, sT] ty #[.slice (some b) dLen dCap, .slice A m c2]).run P w = .ok (goInt q) w' := by
  subst hsize
  cases A with
  | none =>
    have hm : q = 0 := by
      rcases Nat.eq_zero_or_pos q with h0 | h0
      · exact h0
      · obtain ⟨b, o, h, _⟩ := hr.2 h0
        cases h
    have hn : cs = [] := List.eq_nil_of_length_eq_zero (by rw [hr.1, hm, Nat.zero_mul])
    subst hn
    simp [Builtin.copy_, run_underlying hu, Builtin.lenOf, Builtin.firstCells, sizeOf, typeInfo, hi, hst, hq]
  | some ad =>
    have hf := run_firstCells_some (P := P) w i.size q ad m c2 cs hr.1 (rd_cells hr (rd_nil hr))
    simp [Builtin.copy_, run_underlying hu, Builtin.lenOf, sizeOf, typeInfo, hi, hq, hf, hst]
/-- A copy that ends behind what is known of a row of the run's own, or at its end: the row reaches to the copy's end. -/
theorem run_copy_own (dT sT ty : TypeId) (i : TypeInfo) (hu : P.underlying dT = some (.slice e)) (hi : P.info? e = some i) (hsize : i.size = size)
    (g n n' c off dLen dCap : Nat) (xs : List Value) (hown : w.ownsRow base e size (.slice (some ⟨g, 0, none⟩) n c) n xs)
    (A : Option Addr) (m c2 q : Nat) (cs : List Value) (hq : Nat.min m dLen = q) (hr : Rd w size A q cs) (h1 : ∀ u ∈ cs, u.oneCell' = true) (ho : off ≤ n * size) (hoff : off + q * size = n' * size) (hnc : n' ≤ c) :
    ∃ w', (Builtin.copy_ #[dT, sT] ty #[.slice (some ⟨g, off, none⟩) dLen dCap, .slice A m c2]).run P w = .ok (goInt q) w' ∧ w'.ownsRow base e size (.slice (some ⟨g, 0, none⟩) n' c) n' (xs.take off ++ cs) ∧ w.grownBy w' (some g) := by
  have hcl := hr.1
  obtain ⟨w', hrun, hg, hk⟩ := own_store (P := P) (off := off) (vs := cs) hown (by rw [hcl, hoff]; exact Nat.mul_le_mul_right _ hnc) h1
  exact ⟨w', run_copy_to dT sT ty i hu hi hsize _ dLen dCap A m c2 q cs hq hr hrun, hk n' (xs.take off ++ cs) hnc (by omega) (fun _ => by rw [List.take_of_length_le (l := cs) (by omega)]) ho (fun h => absurd h (by omega)), hg⟩
/-- A copy into the midst of a row of the run's own. -/
theorem run_copy_mid (dT sT ty : TypeId) (i : TypeInfo) (hu : P.underlying dT = some (.slice e)) (hi : P.info? e = some i) (hsize : i.size = size)
    (g n c off dLen dCap : Nat) (xs : List Value) (hown : w.ownsRow base e size (.slice (some ⟨g, 0, none⟩) n c) n xs)
    (A : Option Addr) (m c2 q : Nat) (cs : List Value) (hq : Nat.min m dLen = q) (hr : Rd w size A q cs) (h1 : ∀ u ∈ cs, u.oneCell' = true) (ho : off + q * size ≤ n * size) :
    ∃ w', (Builtin.copy_ #[dT, sT] ty #[.slice (some ⟨g, off, none⟩) dLen dCap, .slice A m c2]).run P w = .ok (goInt q) w' ∧ w'.ownsRow base e size (.slice (some ⟨g, 0, none⟩) n c) n (xs.take off ++ cs ++ xs.drop (off + q * size)) ∧ w.grownBy w' (some g) := by
  have hcl := hr.1
  obtain ⟨w', hrun, hg, hk⟩ := own_store_mid (P := P) (off := off) (vs := cs) hown (by rw [hcl]; exact ho) h1
  rw [hcl] at hk
  exact ⟨w', run_copy_to dT sT ty i hu hi hsize _ dLen dCap A m c2 q cs hq hr hrun, hk, hg⟩
/-- The operation 'copy', known by its run; and as a step of a region that draws. -/
theorem wpList_copyR {ops : Array Oper} {rest : List Oper} {o : Oper} {a : Act} {Q : Exit → Act → World → Prop} (hgd : o.guard = none) (d s : Operand) (t t' : TypeId)
    (ho : o.op = .call { callee := .builtin .copy, args := #[d, s], argTypes := #[t, t'] }) (v u : Value) (hd : a.eval d = v) (hs : a.eval s = u) (r : Value) (w' : World) (hr : (Builtin.copy_ #[t, t'] o.type #[v, u]).run P w = .ok r w')
    (h : wpList P ops Q rest (a.put o.dst r) w') : wpList P ops Q (o :: rest) a w := by
  refine wpList_plain hgd fun K hK => ?_
  unfold Oper.wp execOp
  simp only [ho, resolve, invoke, builtin, Sem.run_bind, Sem.run_pure, Result.andThen_ok, List.map_toArray, List.map_cons, List.map_nil, hd, hs, hr]
  exact hK _ _ h
theorem step_copyR {ops : Array Oper} {o : Oper} {a : Act} {K : Act → World → Prop} {Q : Exit → Act → World → Prop} {E : Prop} (hgd : o.guard = none) (d s : Operand) (t t' : TypeId)
    (ho : o.op = .call { callee := .builtin .copy, args := #[d, s], argTypes := #[t, t'] }) (v u : Value) (hd : a.eval d = v) (hs : a.eval s = u) (r : Value) (w' : World) (hr : (Builtin.copy_ #[t, t'] o.type #[v, u]).run P w = .ok r w')
    (h : K (a.put o.dst r) w') : if Region.wanted o (yielded ops a.tmps) = true then Oper.wp P o a w K Q else E := by
  have hw : Region.wanted o (yielded ops a.tmps) = true := by simp [Region.wanted, hgd]
  rw [if_pos hw]
  unfold Oper.wp execOp
  simp only [ho, resolve, invoke, builtin, Sem.run_bind, Sem.run_pure, Result.andThen_ok, List.map_toArray, List.map_cons, List.map_nil, hd, hs, hr]
  exact h
/-- append(s[:k], make([]T, m)...) where it must grow: a new row, whose head is s[:k]. -/
theorem run_make_grow (t tn ty : TypeId) (i : TypeInfo) (z : Value) (bytes : Nat) (kn : IntKind) (ht : P.underlying t = some (.slice e)) (htn : P.underlying tn = some (.int kn)) (hi : P.info? e = some i) (hz : i.zero = some z)
    (hsize : i.size = size) (hby : i.bytes = bytes) (hzs : z.cells.size = size) (hsz : 0 < size)
    (g k c m : Nat) (xs : List Value) (hown : w.ownsRow base e size (.slice (some ⟨g, 0, none⟩) k c) k xs) (hm : 0 < m) (hno : c < k + m) (h63 : k + m ≤ 1099511627776) (hbytes : (k + m) * bytes ≤ 140737488355328) (hbase : base ≤ w.heap.size) :
    ∃ G cap w', (Builtin.append_ #[t, tn] ty #[.slice (some ⟨g, 0, none⟩) k c, .int .i64 (m : Int)]).run P w = .ok (.slice (some ⟨G, 0, none⟩) (k + m) cap) w' ∧ (∃ ys, w'.ownsRow base e size (.slice (some ⟨G, 0, none⟩) (k + m) cap) (k + m) (xs ++ ys)) ∧ Below w.heap.size w w' ∧ w.heap.size ≤ G := by
  subst hsize
  subst hby
  have hw : IntKind.i64.wrap (m : Int) = m := by rw [IntKind.wrap_i64]; omega
  have hneg : ¬ ((m : Int) < 0) := by omega
  have hns : ¬ (m * i.size = 0) := Nat.mul_ne_zero (by omega) (by omega)
  have hmb : m * i.bytes ≤ (k + m) * i.bytes := Nat.mul_le_mul_right _ (by omega)
  have h48i : ¬ (281474976710656 < (m : Int) * (i.bytes : Int)) := by
    rw [← Int.natCast_mul]
    omega
  have h48' : ¬ (281474976710656 < Builtin.nextslicecap (k + m) c * i.bytes) := by
    have := growslice_fits (old := c) (need := k + m) (bytes := i.bytes) (by omega) hbytes
    omega
  have h63' : ¬ (9223372036854775807 < (k : Int) + (m : Int)) := by omega
  have hroom : ¬ (k + m ≤ c) := by omega
  have hold := run_firstCells_some (P := P) w.drew i.size k ⟨g, 0, none⟩ k c xs hown.1 (fun j u hu => hown.cells (g := g) rfl j u hu)
  have hge := grownCap_ge w (k + m) c e
  have hcm : grownCap w (k + m) c e ≤ maxLen := grownCap_le_maxLen w (k + m) c e (by unfold maxLen; omega)
  refine ⟨w.heap.size, grownCap w (k + m) c e, w.drew.alloc (.cells (xs.toArray ++ Builtin.zeroCells z.cells m ++ Builtin.zeroCells z.cells (grownCap w (k + m) c e - (k + m))) e), ?_, ⟨(Builtin.zeroCells z.cells m).toList, ?_⟩, ?_, Nat.le_refl _⟩
  · simp [Builtin.append_, run_underlying ht, run_underlying htn, sizeOf, typeInfo, zeroValue, hi, hz, asInt, asIntOf, hw, hneg, hns, h63', h48', h48i, hroom, Question.forced, hold, newRow, grownCap]
  · have hlen : (xs ++ (Builtin.zeroCells z.cells m).toList).length = (k + m) * i.size := by rw [List.length_append, hown.1, Array.length_toList, size_zeroCells, hzs, Nat.add_mul]
    refine ⟨hlen, .inr ⟨w.heap.size, _, _, rfl, hbase, heap_alloc_new w.drew _, hge, hcm, ?_, ?_⟩⟩
    · simp only [Array.size_append, List.size_toArray, size_zeroCells, hzs, hown.1, ← Nat.add_mul]
      congr 1
      omega
    · simp only [Array.toList_append]
      rw [← hlen]
      exact List.take_left
  · exact ((Below.refl w.heap.size w).drew).alloc (Nat.le_refl _) _
end
end Go.Proofs.Ytbbngihmjdndoaa
