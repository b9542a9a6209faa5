/-
  Proved: the contract of MergeRecords of the program. Conditions: the slices read as lists.
  By an AI agent; no person has read it.
-/
import Derived.Test.YtbbngihmjdndoaaMrgN
import Derived.Test.YtbbngihmjdndoaaFldI
import Derived.Test.YtbbngihmjdndoaaFldSt
import Derived.Test.YtbbngihmjdndoaaFldD
import Derived.Deep.CutBlock
import Derived.Deep.CutRange
import Derived.Deep.DeepCutAuto
namespace Go.Proofs.Ytbbngihmjdndoaa
open Go.RowKit

theorem infoStr : (Try.prog.info? 9).map (fun i => (i.zero, i.size, i.bytes)) = some (some (.string ⟨#[]⟩), 1, 16) := by kernel_rfl
/-- One of three. -/
def pick3 {α : Type} (a b c : α) (j : Nat) : α := if j = 0 then a else if j = 1 then b else c
/-- The names of the first j of three records. -/
def nm3 (lo la lb : List Fld) (j : Nat) : List Nm := if j = 0 then [] else if j = 1 then nmF lo else if j = 2 then nmF lo ++ nmF la else nmF lo ++ nmF la ++ nmF lb
theorem nm3_step {lo la lb : List Fld} {j : Nat} (h : j < 3) : nm3 lo la lb j ++ nmF (pick3 lo la lb j) = nm3 lo la lb (j + 1) := by
  rcases (by omega : j = 0 ∨ j = 1 ∨ j = 2) with rfl | rfl | rfl <;> simp [nm3, pick3]
theorem nmF_len (l : List Fld) : (nmF l).length = l.length := by simp [nmF]
theorem nm3_len {lo la lb : List Fld} (h0 : lo.length ≤ 1048576) (h1 : la.length ≤ 1048576) (h2 : lb.length ≤ 1048576) (j : Nat) : (nm3 lo la lb j).length ≤ 3145728 := by
  unfold nm3
  split
  · simp
  · split
    · rw [nmF_len]; omega
    · split
      · rw [List.length_append, nmF_len, nmF_len]; omega
      · rw [List.length_append, List.length_append, nmF_len, nmF_len, nmF_len]; omega
theorem nmF_snoc {l : List Fld} {k : Nat} {s : ByteArray} {x : Int} (hx : l[k]? = some (s, x)) : nmF (l.take (k + 1)) = nmF (l.take k) ++ [s.data.toList] := by
  rw [take_snoc hx]
  simp [nmF]

theorem getF_rng {l : List Fld} (h : okF l) (nm : ByteArray) : -9223372036854775808 ≤ (getF l nm).1 ∧ (getF l nm).1 ≤ 9223372036854775807 := by
  unfold getF
  split
  · rename_i f hf
    exact (h f (find_some_mem hf).1).2
  · exact ⟨by decide, by decide⟩
theorem mgF_rng {o x y : Int × Bool} (hx : -9223372036854775808 ≤ x.1 ∧ x.1 ≤ 9223372036854775807) (hy : -9223372036854775808 ≤ y.1 ∧ y.1 ≤ 9223372036854775807) : -9223372036854775808 ≤ (mgF o x y).1 ∧ (mgF o x y).1 ≤ 9223372036854775807 := by
  unfold mgF
  split
  · exact hy
  · split
    · exact hx
    · show -9223372036854775808 ≤ max x.1 y.1 ∧ max x.1 y.1 ≤ _
      omega
theorem okF_mgL {lo la lb : List Fld} (ha : okF la) (hb : okF lb) (ns : List ByteArray) : okF (mgL lo la lb ns) := by
  intro f hf
  obtain ⟨nm, _, hm⟩ := List.mem_filterMap.1 hf
  obtain ⟨h1, h2⟩ := mgO_some hm
  refine ⟨?_, ?_⟩
  · have hs : sideN la lb nm := by
      apply Classical.byContradiction
      intro hn
      rw [mgO_off hn] at hm
      cases hm
    rw [h1]
    rcases hs with ⟨x, hx⟩ | ⟨x, hx⟩
    · exact (ha _ hx).1
    · exact (hb _ hx).1
  · have h3 := mgF_rng (o := getF lo nm) (getF_rng ha nm) (getF_rng hb nm)
    have h4 : (mgF (getF lo nm) (getF la nm) (getF lb nm)).1 = f.2 := congrArg Prod.fst h2
    rw [h4] at h3
    exact h3
theorem mg_parts {v xo xa xb : Int} {h bo ba bb : Bool} (e : (v, h) = mgF (xo, bo) (xa, ba) (xb, bb)) : (xa = xo ∧ ba = bo ∧ v = xb ∧ h = bb) ∨ ((xa = xo → (ba == bo) = false) ∧ xb = xo ∧ bb = bo ∧ v = xa ∧ h = ba) ∨ ((xa = xo → (ba == bo) = false) ∧ (xb = xo → (bb == bo) = false) ∧ v = max xa xb ∧ h = (ba || bb)) := by
  unfold mgF at e
  by_cases h1 : (xa, ba) = (xo, bo)
  · rw [if_pos h1] at e
    obtain ⟨a1, a2⟩ := Prod.mk.inj h1
    obtain ⟨c1, c2⟩ := Prod.mk.inj e
    exact .inl ⟨a1, a2, c1, c2⟩
  · have n1 : xa = xo → (ba == bo) = false := fun q => beq_eq_false_iff_ne.2 (fun q2 => h1 (by rw [q, q2]))
    rw [if_neg h1] at e
    by_cases h2 : (xb, bb) = (xo, bo)
    · rw [if_pos h2] at e
      obtain ⟨a1, a2⟩ := Prod.mk.inj h2
      obtain ⟨c1, c2⟩ := Prod.mk.inj e
      exact .inr (.inl ⟨n1, a1, a2, c1, c2⟩)
    · rw [if_neg h2] at e
      obtain ⟨c1, c2⟩ := Prod.mk.inj e
      exact .inr (.inr ⟨n1, fun q => beq_eq_false_iff_ne.2 (fun q2 => h2 (by rw [q, q2])), c1, c2⟩)
theorem max_spell (a b : Int) : max a b = if a ≤ b then b else a := by omega
theorem cell_apartM {w w' : World} {A : Option Addr} {b o : Nat} {v : Value} (hg : w.grownBy w' (A.map (·.block))) (h : w.cell? ⟨b, o, none⟩ = some v) (hA : ∀ ad, A = some ad → ad.block ≠ b) : w'.cell? ⟨b, o, none⟩ = some v :=
  (World.cell?_of_block (a := ⟨b, o, none⟩) (grown_blk hg (World.block_lt_of_cell? w _ h) hA)).trans h
theorem own_belowB {w w' : World} {base B : Nat} {e : TypeId} {size : Nat} {A : Option Addr} {n c : Nat} {xs : List Value} (h : w.ownsRow base e size (.slice A n c) n xs) (hb : Below B w w') (hA : ∀ ad, A = some ad → ad.block < B) : w'.ownsRow base e size (.slice A n c) n xs := by
  refine ⟨h.1, ?_⟩
  rcases h.2 with h2 | ⟨g, cap, cur, hv, hg, hh, r⟩
  · exact .inl h2
  · have hA2 : A = some ⟨g, 0, none⟩ := by injection hv
    exact .inr ⟨g, cap, cur, hv, hg, by rw [hb.block g (hA _ hA2)]; exact hh, r⟩
theorem mgL_snoc {lo la lb : List Fld} {ns : List Nm} {k : Nat} {a : Nm} (h : ns[k]? = some a) : mgL lo la lb ((ns.take (k + 1)).map strOf) = mgL lo la lb ((ns.take k).map strOf) ++ (if (mgN lo la lb (strOf a)).2 then [(strOf a, (mgN lo la lb (strOf a)).1)] else []) := by
  unfold mgL
  rw [take_snoc h, List.map_append, List.filterMap_append]
  congr 1
  simp only [List.map_cons, List.map_nil, List.filterMap_cons, List.filterMap_nil, mgO]
  split <;> rename_i h1 <;> split at h1 <;> simp_all
theorem mgL_len {lo la lb : List Fld} (ns : List ByteArray) : (mgL lo la lb ns).length ≤ ns.length := List.length_filterMap_le _ _
theorem heap_at {w : World} {o : Obj} {g : Nat} (h : g = w.heap.size) : (w.alloc o).heap[g]? = some o := by
  subst h
  exact heap_alloc_new w o
theorem heap_keep {w : World} {o x : Obj} {g : Nat} (h : w.heap[g]? = some x) : (w.alloc o).heap[g]? = some x := by
  rw [heap_alloc_old w o (Array.getElem?_eq_some_iff.1 h).1]
  exact h
section
variable {P : Program} (w : World)
/-- append of one new element of one cell to a row of the run's own, what else stands told: at the operation. -/
theorem wpList_pushS {ops : Array Oper} {rest : List Oper} {o : Oper} {a : Act} {Q : Exit → Act → World → Prop} (hgd : o.guard = none) (s x : Operand) (t : TypeId)
    (ho : o.op = .call { callee := .builtin .append, args := #[s, x], argTypes := #[t, t] })
    (base : Nat) (e : TypeId) (i : TypeInfo) (z : Value) (bytes : Nat) (ht : P.underlying t = some (.slice e)) (hi : P.info? e = some i) (hz : i.zero = some z)
    (hsize : i.size = 1) (hby : i.bytes = bytes) (hzs : z.cells.size = 1)
    (A : Option Addr) (n c : Nat) (xs : List Value) (hs : a.eval s = .slice A n c) (hown : w.ownsRow base e 1 (.slice A n c) n xs)
    (u : Value) (g : Nat) (hg : g = w.heap.size) (hx : a.eval x = .slice (some ⟨g, 0, none⟩) 1 1) (h1 : u.oneCell' = true)
    (h63 : n + 1 ≤ maxLen) (hbytes : (n + 1) * bytes ≤ 140737488355328) (hbase : base ≤ w.heap.size)
    (h : ∀ A' k' c' w', k' = n + 1 → w'.ownsRow base e 1 (.slice A' k' c') k' (xs ++ [u]) → Below base w w' → w.grownBy w' (A.map (·.block)) → wpList P ops Q rest (a.put o.dst (.slice A' k' c')) w') : wpList P ops Q (o :: rest) a (w.alloc (.cells #[u] e)) := by
  subst hg
  refine wpList_cat (w.alloc (.cells #[u] e)) hgd s x t ho base e i z 1 bytes ht hi hz hsize hby hzs (by decide) A n c xs hs (hown.alloc _) (some ⟨w.heap.size, 0, none⟩) 1 1 [u] hx ⟨by simp, fun _ => ⟨_, _, rfl, by simp, fun j u' hu => ?_⟩⟩ (by simpa using h1) h63 hbytes (by simp; omega) (fun A' k' c' w' hk h2 h3 h4 => h A' k' c' w' hk h2 (((Below.refl _ _).alloc hbase _).trans h3) ((World.grownBy_alloc w _ _).trans h4))
  have := cell_one_new w u e j u' hu
  rwa [addr_add] at this
end

set_option maxRecDepth 100000 in
set_option maxHeartbeats 4000000 in
theorem implMergeRecords_any (Ao Aa Ab : Option Addr) (no na nb co ca cb : Nat) (lo la lb : List Fld) (lr : List Fld) (r : Bool) (w : World) (hno : no ≤ 1048576) (hna : na ≤ 1048576) (hnb : nb ≤ 1048576)
    (ho : Rd w 2 Ao no (fl lo)) (ha : Rd w 2 Aa na (fl la)) (hb : Rd w 2 Ab nb (fl lb)) (oko : okF lo) (oka : okF la) (okb : okF lb) (hr : (lr, r) = mrgR lo la lb) :
    Calls Try.prog 22 #[.agg #[.slice Ao no co], .agg #[.slice Aa na ca], .agg #[.slice Ab nb cb]] w (MkRB w lr r) := by
  obtain ⟨ft, fi, fz0, fz1, fz2⟩ := info_parts infoF
  obtain ⟨jt, ji, jz0, jz1, jz2⟩ := info_parts infoStr
  have HR := Lib.hid hr
  have LO := Lib.hid ho.lenF
  have LA := Lib.hid ha.lenF
  have LB := Lib.hid hb.lenF
  clear hr
  go_enter Try.func22, Try.ntmps22
  go_wp2
  obtain ⟨V, hV⟩ : ∃ V, V = (((((w.alloc (.cells #[.slice Ao no co] 28)).alloc (.cells #[.slice Aa na ca] 28)).alloc (.cells #[.slice Ab nb cb] 28)).alloc (.cells #[.slice none 0 0] 28)).alloc (.cells #[] 9)).alloc (.cells #[.slice Ao no co, .slice Aa na ca, .slice Ab nb cb] 28) := ⟨_, rfl⟩
  have BV : Below w.heap.size w V := by rw [hV]; exact al (al (al (al (al (al (Below.refl _ _))))))
  have dO : V.cell? ⟨w.heap.size, 0, none⟩ = some (.slice Ao no co) := by rw [hV]; simp [go_sem]
  have dA : V.cell? ⟨w.heap.size + 1, 0, none⟩ = some (.slice Aa na ca) := by rw [hV]; simp [go_sem]
  have dB : V.cell? ⟨w.heap.size + 1 + 1, 0, none⟩ = some (.slice Ab nb cb) := by rw [hV]; simp [go_sem]
  have dR : V.cell? ⟨w.heap.size + 1 + 1 + 1, 0, none⟩ = some (.slice none 0 0) := by rw [hV]; simp [go_sem]
  have fR : V.frozen? ⟨w.heap.size + 1 + 1 + 1, 0, none⟩ = false := by rw [hV]; simp [go_sem]
  have H5 : V.heap[w.heap.size + 1 + 1 + 1 + 1 + 1]? = some (.cells #[.slice Ao no co, .slice Aa na ca, .slice Ab nb cb] 28 (0, 0)) := by rw [hV]; exact heap_at (by simp)
  have oN : V.ownsRow (w.heap.size + 1 + 1 + 1 + 1) 9 1 (.slice (some ⟨w.heap.size + 1 + 1 + 1 + 1, 0, none⟩) 0 0) 0 [] := by
    rw [hV]
    exact (own_newA (by simp) (by simp)).alloc _
  have hsV : w.heap.size + 1 + 1 + 1 + 1 + 1 < V.heap.size := by rw [hV]; simp
  rw [← hV]
  clear hV
  go_loopw [8, 30] (fun v i wr => ∃ (j : Nat) (B : Option Addr) (m d : Nat), j ≤ 3 ∧ i = .int .i64 j ∧ v = .slice B m d ∧ wr.ownsRow (w.heap.size + 1 + 1 + 1 + 1) 9 1 (.slice B m d) m ((nm3 lo la lb j).map eS) ∧ Below w.heap.size w wr ∧ wr.cell? ⟨w.heap.size, 0, none⟩ = some (.slice Ao no co) ∧ wr.cell? ⟨w.heap.size + 1, 0, none⟩ = some (.slice Aa na ca) ∧ wr.cell? ⟨w.heap.size + 1 + 1, 0, none⟩ = some (.slice Ab nb cb) ∧ wr.cell? ⟨w.heap.size + 1 + 1 + 1, 0, none⟩ = some (.slice none 0 0) ∧ wr.frozen? ⟨w.heap.size + 1 + 1 + 1, 0, none⟩ = false ∧ wr.heap[w.heap.size + 1 + 1 + 1 + 1 + 1]? = some (.cells #[.slice Ao no co, .slice Aa na ca, .slice Ab nb cb] 28 (0, 0)) ∧ w.heap.size + 1 + 1 + 1 + 1 + 1 < wr.heap.size) (fun _ i _ => 3 - (intOf i).toNat)
  case atStart => exact ⟨0, _, _, _, Nat.zero_le _, rfl, rfl, oN, BV, dO, dA, dB, dR, fR, H5, hsV⟩
  case round =>
    obtain ⟨j, B, m, d, hj, rfl, rfl, oN, hbel, dO, dA, dB, dR, fR, H5, hsz⟩ := hrel
    have H0 := Lib.hid H5
    have HOW := Lib.hid oN
    clear BV H5 oN
    by_cases hlt : j < 3
    · obtain ⟨A, n, c, l, hcell, hrd, hn, hnm⟩ : ∃ (A : Option Addr) (n c : Nat) (l : List Fld), wr.cell? ⟨w.heap.size + 1 + 1 + 1 + 1 + 1, j, none⟩ = some (.slice A n c) ∧ Rd w 2 A n (fl l) ∧ n ≤ 1048576 ∧ nm3 lo la lb j ++ nmF l = nm3 lo la lb (j + 1) := by
        rcases (by omega : j = 0 ∨ j = 1 ∨ j = 2) with rfl | rfl | rfl
        · exact ⟨Ao, no, co, lo, by simp [World.cell?, H0.out], ho, hno, nm3_step (by omega)⟩
        · exact ⟨Aa, na, ca, la, by simp [World.cell?, H0.out], ha, hna, nm3_step (by omega)⟩
        · exact ⟨Ab, nb, cb, lb, by simp [World.cell?, H0.out], hb, hnb, nm3_step (by omega)⟩
      have HNM := Lib.hid hnm
      have i0 : (0 : Int) ≤ (j : Int) := by omega
      have i1 : (j : Int) < 3 := by omega
      clear hnm
      obtain ⟨wo, rfl⟩ : ∃ wo : World, wo = wr := ⟨_, rfl⟩
      go_wp2
      obtain ⟨U, hU⟩ : ∃ U, U = wo.alloc (.cells #[.slice A n c] 28) := ⟨_, rfl⟩
      have BU : Below wo.heap.size wo U := by rw [hU]; exact al (Below.refl _ _)
      have HOU : Hid (U.ownsRow (w.heap.size + 1 + 1 + 1 + 1) 9 1 (.slice B m d) m ((nm3 lo la lb j ++ nmF (l.take 0)).map eS)) := by
        rw [show nm3 lo la lb j ++ nmF (l.take 0) = nm3 lo la lb j by simp [nmF]]
        exact own_below HOW.out BU
      have H5U : Hid (U.heap[w.heap.size + 1 + 1 + 1 + 1 + 1]? = some (.cells #[.slice Ao no co, .slice Aa na ca, .slice Ab nb cb] 28 (0, 0))) := by rw [hU]; exact heap_keep H0.out
      have hszU : w.heap.size + 1 + 1 + 1 + 1 + 1 < U.heap.size := Nat.lt_of_lt_of_le hsz BU.size
      have BWU : Below w.heap.size w U := hbel.trans (BU.mono hbel.size)
      have eO := kcell BU dO
      have eA := kcell BU dA
      have eB := kcell BU dB
      have eR := kcell BU dR
      have eF := kfro BU (by omega) fR
      rw [← hU]
      clear hU BU hcell dO dA dB dR fR hbel hsz HOW H0
      go_loopw [8, 37] (fun v i wr => ∃ (k : Nat) (B : Option Addr) (m d : Nat), k ≤ n ∧ i = .int .i64 k ∧ v = .slice B m d ∧ wr.ownsRow (w.heap.size + 1 + 1 + 1 + 1) 9 1 (.slice B m d) m ((nm3 lo la lb j ++ nmF (l.take k)).map eS) ∧ Below w.heap.size w wr ∧ wr.cell? ⟨w.heap.size, 0, none⟩ = some (.slice Ao no co) ∧ wr.cell? ⟨w.heap.size + 1, 0, none⟩ = some (.slice Aa na ca) ∧ wr.cell? ⟨w.heap.size + 1 + 1, 0, none⟩ = some (.slice Ab nb cb) ∧ wr.cell? ⟨w.heap.size + 1 + 1 + 1, 0, none⟩ = some (.slice none 0 0) ∧ wr.frozen? ⟨w.heap.size + 1 + 1 + 1, 0, none⟩ = false ∧ wr.heap[w.heap.size + 1 + 1 + 1 + 1 + 1]? = some (.cells #[.slice Ao no co, .slice Aa na ca, .slice Ab nb cb] 28 (0, 0)) ∧ w.heap.size + 1 + 1 + 1 + 1 + 1 < wr.heap.size) (fun _ i _ => n - (intOf i).toNat)
      case atStart => exact ⟨0, B, m, d, Nat.zero_le _, rfl, rfl, HOU.out, BWU, eO, eA, eB, eR, eF, H5U.out, hszU⟩
      case round =>
        clear HOU BWU eO eA eB eR eF H5U hszU
        obtain ⟨k, B, m, d, hk, rfl, rfl, oN, hbel, dO, dA, dB, dR, fR, H5, hsz⟩ := hrel
        have H0 := Lib.hid H5
        have HOW := Lib.hid oN
        clear H5 oN
        by_cases hltk : k < n
        · obtain ⟨b, o, s, x, rfl, _hb1, hx, hc0, hc1⟩ := (hrd.below hbel).fld hltk
          have HX := Lib.hid (nmF_snoc hx)
          have hm : m ≤ 4194304 := by
            have h1 := HOW.out.1
            rw [List.length_map, List.length_append, nmF_len, List.length_take] at h1
            have h2 := nm3_len (lo := lo) (la := la) (lb := lb) (by have := LO.out; omega) (by have := LA.out; omega) (by have := LB.out; omega) j
            omega
          have k0 : (0 : Int) ≤ (k : Int) := by omega
          have k1 : (k : Int) < (n : Int) := by omega
          have HW2 : Hid ((wr.alloc (.cells #[.string s, .int .i64 x] 91)).ownsRow (w.heap.size + 1 + 1 + 1 + 1) 9 1 (.slice B m d) m ((nm3 lo la lb j ++ nmF (l.take k)).map eS)) := own_below HOW.out (al (Below.refl _ _))
          clear hx
          go_wp2_with (at_builtin; refine wpList_pushS (wr.alloc (.cells #[.string s, .int .i64 x] 91)) rfl _ _ 94 (by rfl) (w.heap.size + 1 + 1 + 1 + 1) 9 jt (.string ⟨#[]⟩) 16 Try.underlying94 ji jz0 jz1 jz2 rfl B m d _ (by rfl) HW2.out (.string s) (wr.heap.size + 1) ?c0 (by rfl) rfl ?c1 ?c2 ?c3 ?_)
          case c0 => simp
          case c1 => unfold maxLen; omega
          case c2 => omega
          case c3 => simp; omega
          intro B2 m2 d2 w2 hm2 o2 b2 g2
          have hA : ∀ ad, B = some ad → ad.block ≠ w.heap.size + 1 + 1 + 1 + 1 + 1 := own_ne_type HOW.out H0.out (by decide)
          have H2 : Hid (w2.heap[w.heap.size + 1 + 1 + 1 + 1 + 1]? = some (.cells #[.slice Ao no co, .slice Aa na ca, .slice Ab nb cb] 28 (0, 0))) := (grown_blk g2 (by simp; omega) hA).trans (heap_keep H0.out)
          have O2 : Hid (w2.ownsRow (w.heap.size + 1 + 1 + 1 + 1) 9 1 (.slice B2 m2 d2) m2 ((nm3 lo la lb j ++ nmF (l.take (k + 1))).map eS)) := by
            have e : (nm3 lo la lb j ++ nmF (l.take (k + 1))).map eS = (nm3 lo la lb j).map eS ++ ((nmF (l.take k)).map eS ++ [Value.string s]) := by
              rw [HX.out, List.map_append, List.map_append, List.map_cons, List.map_nil, eS_name]
            rw [e]
            exact o2
          have hs2 : wr.heap.size + 1 ≤ w2.heap.size := by have := b2.size; simp at this; omega
          have B2' : Below w.heap.size w w2 := (al hbel).trans (b2.mono (by omega))
          have dO2 : w2.cell? ⟨w.heap.size, 0, none⟩ = _ := (b2.cell (p := ⟨w.heap.size, 0, none⟩) (by simp; omega)).trans (kcell (al (Below.refl _ _)) dO)
          have dA2 : w2.cell? ⟨w.heap.size + 1, 0, none⟩ = _ := (b2.cell (p := ⟨w.heap.size + 1, 0, none⟩) (by simp; try omega)).trans (kcell (al (Below.refl _ _)) dA)
          have dB2 : w2.cell? ⟨w.heap.size + 1 + 1, 0, none⟩ = _ := (b2.cell (p := ⟨w.heap.size + 1 + 1, 0, none⟩) (by simp; try omega)).trans (kcell (al (Below.refl _ _)) dB)
          have dR2 : w2.cell? ⟨w.heap.size + 1 + 1 + 1, 0, none⟩ = _ := (b2.cell (p := ⟨w.heap.size + 1 + 1 + 1, 0, none⟩) (by simp)).trans (kcell (al (Below.refl _ _)) dR)
          have fR2 : w2.frozen? ⟨w.heap.size + 1 + 1 + 1, 0, none⟩ = _ := (b2.frozen (p := ⟨w.heap.size + 1 + 1 + 1, 0, none⟩) (by simp)).trans (kfro (al (Below.refl _ _)) (by omega) fR)
          clear o2 b2 g2 hA hm2
          go_wp2
          go_roundw
          case rel => exact ⟨k + 1, B2, m2, d2, by omega, by go_num, rfl, O2.out, B2', dO2, dA2, dB2, dR2, fR2, H2.out, by omega⟩
          case measure => simp [intOf]; omega
        · obtain rfl : k = n := by omega
          have O2 : Hid (wr.ownsRow (w.heap.size + 1 + 1 + 1 + 1) 9 1 (.slice B m d) m ((nm3 lo la lb (j + 1)).map eS)) := by
            have h1 := HOW.out
            rw [List.take_of_length_le (Nat.le_of_eq hrd.lenF), HNM.out] at h1
            exact h1
          go_wp2
          go_roundw
          case rel => exact ⟨j + 1, B, m, d, by omega, by go_num, rfl, O2.out, hbel, dO, dA, dB, dR, fR, H0.out, hsz⟩
          case measure => simp [intOf]; omega
    · obtain rfl : j = 3 := by omega
      have hm : m ≤ 3145728 := by
        have h1 := HOW.out.1
        rw [List.length_map] at h1
        have h2 := nm3_len (lo := lo) (la := la) (lb := lb) (by have := LO.out; omega) (by have := LA.out; omega) (by have := LB.out; omega) 3
        omega
      go_wp2_with fail
      refine (sortNames_any (w.heap.size + 1 + 1 + 1 + 1) B m d (nm3 lo la lb 3) _ (by omega) (by omega) HOW.out).mono ?_
      rintro e w1 ⟨rfl, o1, b1⟩
      have hs1 : w.heap.size + 1 + 1 + 1 + 1 + 1 < w1.heap.size := Nat.lt_of_lt_of_le hsz b1.size
      have hB1 : Hid (∀ ad, B = some ad → ad.block < w1.heap.size) := Lib.hid (fun ad h => (own_rng o1 ad h).2)
      have B1 : Below w.heap.size w w1 := hbel.trans (b1.mono (by omega))
      replace dO : w1.cell? ⟨w.heap.size, 0, none⟩ = _ := (b1.cell (p := ⟨w.heap.size, 0, none⟩) (by simp; try omega)).trans dO
      replace dA : w1.cell? ⟨w.heap.size + 1, 0, none⟩ = _ := (b1.cell (p := ⟨w.heap.size + 1, 0, none⟩) (by simp; try omega)).trans dA
      replace dB : w1.cell? ⟨w.heap.size + 1 + 1, 0, none⟩ = _ := (b1.cell (p := ⟨w.heap.size + 1 + 1, 0, none⟩) (by simp; try omega)).trans dB
      replace dR : w1.cell? ⟨w.heap.size + 1 + 1 + 1, 0, none⟩ = _ := (b1.cell (p := ⟨w.heap.size + 1 + 1 + 1, 0, none⟩) (by simp)).trans dR
      replace fR : w1.frozen? ⟨w.heap.size + 1 + 1 + 1, 0, none⟩ = _ := (b1.frozen (p := ⟨w.heap.size + 1 + 1 + 1, 0, none⟩) (by simp)).trans fR
      clear b1 hbel hsz HOW H0
      go_wp2_with fail
      refine (compactNames_any (w.heap.size + 1 + 1 + 1 + 1) B m d (srtN (nm3 lo la lb 3)) _ (by omega) (by simp; omega) (own_below o1 (al (Below.refl _ _)))).mono ?_
      rintro e w2 ⟨rfl, o2, b2, g2⟩
      obtain ⟨ns, hns⟩ : ∃ ns, ns = namesK (nm3 lo la lb 3) := ⟨_, rfl⟩
      have HNS := Lib.hid hns
      have hnc : Lib.compact (srtN (nm3 lo la lb 3)) = ns := hns.symm
      rw [hnc] at o2 ⊢
      obtain ⟨q, hq⟩ : ∃ q, q = ns.length := ⟨_, rfl⟩
      have hql : q ≤ 3145728 := by
        have h1 := namesK_len (nm3 lo la lb 3)
        have h2 := nm3_len (lo := lo) (la := la) (lb := lb) (by have := LO.out; omega) (by have := LA.out; omega) (by have := LB.out; omega) 3
        rw [hq, hns]
        omega
      rw [← hq] at o2 ⊢
      have HQ := Lib.hid hq
      clear hq hnc hns
      have hs2 : w1.heap.size + 1 ≤ w2.heap.size := by have := b2.size; simp at this; omega
      have B2 : Below w.heap.size w w2 := (al B1).trans (b2.mono (by omega))
      have dG : w2.cell? ⟨w1.heap.size, 0, none⟩ = some (.slice none 0 0) := cell_apartM g2 (by simp) (fun ad h => Nat.ne_of_lt (hB1.out ad h))
      have fG : w2.frozen? ⟨w1.heap.size, 0, none⟩ = false := (World.frozen?_of_block (a := ⟨w1.heap.size, 0, none⟩) (grown_blk g2 (by simp) (fun ad h => Nat.ne_of_lt (hB1.out ad h)))).trans (by simp [go_sem])
      replace dO := (b2.cell (p := ⟨w.heap.size, 0, none⟩) (by simp; try omega)).trans (kcell (al (Below.refl _ _)) dO)
      replace dA := (b2.cell (p := ⟨w.heap.size + 1, 0, none⟩) (by simp; try omega)).trans (kcell (al (Below.refl _ _)) dA)
      replace dB := (b2.cell (p := ⟨w.heap.size + 1 + 1, 0, none⟩) (by simp; try omega)).trans (kcell (al (Below.refl _ _)) dB)
      replace dR := (b2.cell (p := ⟨w.heap.size + 1 + 1 + 1, 0, none⟩) (by simp; try omega)).trans (kcell (al (Below.refl _ _)) dR)
      replace fR := (b2.frozen (p := ⟨w.heap.size + 1 + 1 + 1, 0, none⟩) (by simp)).trans (kfro (al (Below.refl _ _)) (by omega) fR)
      have hs2' : w.heap.size + 1 + 1 + 1 + 1 + 1 < w1.heap.size := hs1
      have HON := Lib.hid o2
      clear b2 g2 o1 o2 B1 hs1
      go_wp2
      go_loopw [54] (fun i wr => ∃ (k : Nat) (O : Option Addr) (p c : Nat), k ≤ q ∧ i = .int .i64 k ∧ wr.ownsRow (w.heap.size + 1 + 1 + 1 + 1) 9 1 (.slice B q d) q (ns.map eS) ∧ wr.ownsRow (w1.heap.size + 1) 91 2 (.slice O p c) p (fl (mgL lo la lb ((ns.take k).map strOf))) ∧ Below w.heap.size w wr ∧ wr.cell? ⟨w.heap.size, 0, none⟩ = some (.slice Ao no co) ∧ wr.cell? ⟨w.heap.size + 1, 0, none⟩ = some (.slice Aa na ca) ∧ wr.cell? ⟨w.heap.size + 1 + 1, 0, none⟩ = some (.slice Ab nb cb) ∧ wr.cell? ⟨w.heap.size + 1 + 1 + 1, 0, none⟩ = some (.slice none 0 0) ∧ wr.frozen? ⟨w.heap.size + 1 + 1 + 1, 0, none⟩ = false ∧ wr.cell? ⟨w1.heap.size, 0, none⟩ = some (.slice O p c) ∧ wr.frozen? ⟨w1.heap.size, 0, none⟩ = false ∧ w1.heap.size + 1 ≤ wr.heap.size) (fun i _ => q - (intOf i).toNat)
      case atStart => exact ⟨0, none, 0, 0, Nat.zero_le _, rfl, HON.out, by (simp only [List.take_zero, List.map_nil]; exact own_nilF), B2, dO, dA, dB, dR, fR, dG, fG, hs2⟩
      case round =>
        clear HON B2 dO dA dB dR fR dG fG hs2
        obtain ⟨k, O, p, c, hk, rfl, oN, oF, hbel, dO, dA, dB, dR, fR, dG, fG, hsz⟩ := hrel
        have HON := Lib.hid oN
        have HOF := Lib.hid oF
        clear oN oF
        by_cases hltk : k < q
        rotate_left
        · obtain rfl : k = q := by omega
          have HE : Hid ((lr, r) = if recB lo && recB la && recB lb && recB (mgL lo la lb (ns.map strOf)) then (mgL lo la lb (ns.map strOf), true) else (la, false)) := by
            show _ = _
            rw [HR.out]
            refine mrg_impl ?_ ?_
            · rw [HNS.out]
              exact namesK_sortedN _
            · intro nm hnm
              rw [HNS.out]
              exact nmF_side hnm
          obtain ⟨M, hM⟩ : ∃ M, M = mgL lo la lb (ns.map strOf) := ⟨_, rfl⟩
          have HM := Lib.hid hM
          have HOM : Hid (okF M) := by
            show okF M
            rw [hM]
            exact okF_mgL oka okb _
          replace HOF : Hid (wr.ownsRow (w1.heap.size + 1) 91 2 (.slice O p c) p (fl M)) := by
            have h1 := HOF.out
            rw [List.take_of_length_le (Nat.le_of_eq HQ.out.symm), ← hM] at h1
            exact h1
          replace HE : Hid ((lr, r) = if recB lo && recB la && recB lb && recB M then (M, true) else (la, false)) := by
            have h1 := HE.out
            rw [← hM] at h1
            exact h1
          have hp : p ≤ 3145728 := by
            have h1 := own_lenF HOF.out
            have h2 := mgL_len (lo := lo) (la := la) (lb := lb) (ns.map strOf)
            rw [← hM, List.length_map] at h2
            have h3 := HQ.out
            omega
          clear hM HON
          obtain ⟨ro, hro⟩ : ∃ x, x = recB lo := ⟨_, rfl⟩
          have Ho := Lib.hid hro
          clear hro
          go_wp2_with fail
          refine (implIsRecord_any Ao no co lo ro _ (by unfold maxLen; omega) (ho.below hbel) oko Ho.out).mono ?_
          rintro e v1 ⟨rfl, cv1⟩
          have C1 := hbel.trans (cv1.mono hbel.size)
          replace dO := kcell cv1 dO
          replace dA := kcell cv1 dA
          replace dB := kcell cv1 dB
          replace dG := kcell cv1 dG
          replace dR := kcell cv1 dR
          replace fR := kfro cv1 (by omega) fR
          have hsv1 := cv1.size
          replace HOF : Hid (v1.ownsRow (w1.heap.size + 1) 91 2 (.slice O p c) p (fl M)) := own_below HOF.out cv1
          clear cv1
          cases ro
          · go_wp2_with fail
            refine (copyRecord_any Aa na ca la _ (by omega) (ha.below C1)).mono ?_
            rintro e u0 ⟨A9, n9, c9, rfl, q9, t9⟩
            have C9 := C1.trans (t9.mono C1.size)
            replace dR := kcell t9 dR
            replace fR := kfro t9 (by omega) fR
            have B9 := Lib.hid (C9.setCell (p := ⟨w.heap.size + 1 + 1 + 1, 0, none⟩) (by show w.heap.size ≤ w.heap.size + 1 + 1 + 1; omega) (.slice A9 n9 c9))
            have O9 := Lib.hid (own_base (base' := w.heap.size) (ownsRow_setCell_below q9 (a := ⟨w.heap.size + 1 + 1 + 1, 0, none⟩) (by show w.heap.size + 1 + 1 + 1 < v1.heap.size; omega) (.slice A9 n9 c9)) (by omega))
            have HN := (Lib.hid (HE.out.trans (if_neg (by rw [← Ho.out]; simp))) : Hid ((lr, r) = (la, false)))
            clear t9 q9 C9
            go_wp2
            exact bodyPost_ret (v := .tuple #[.agg #[.slice A9 n9 c9], .bool false]) (by simp [results, Try.results22, go_sem, dR]) rfl (MkRB_mk HN.out O9.out B9.out)
          · skip
            obtain ⟨ra, hra⟩ : ∃ x, x = recB la := ⟨_, rfl⟩
            have Ha := Lib.hid hra
            clear hra
            go_wp2_with fail
            refine (implIsRecord_any Aa na ca la ra _ (by unfold maxLen; omega) (ha.below C1) oka Ha.out).mono ?_
            rintro e v2 ⟨rfl, cv2⟩
            have C2 := C1.trans (cv2.mono C1.size)
            replace dO := kcell cv2 dO
            replace dA := kcell cv2 dA
            replace dB := kcell cv2 dB
            replace dG := kcell cv2 dG
            replace dR := kcell cv2 dR
            replace fR := kfro cv2 (by omega) fR
            have hsv2 := cv2.size
            replace HOF : Hid (v2.ownsRow (w1.heap.size + 1) 91 2 (.slice O p c) p (fl M)) := own_below HOF.out cv2
            clear cv2
            cases ra
            · go_wp2_with fail
              refine (copyRecord_any Aa na ca la _ (by omega) (ha.below C2)).mono ?_
              rintro e u1 ⟨A9, n9, c9, rfl, q9, t9⟩
              have C9 := C2.trans (t9.mono C2.size)
              replace dR := kcell t9 dR
              replace fR := kfro t9 (by omega) fR
              have B9 := Lib.hid (C9.setCell (p := ⟨w.heap.size + 1 + 1 + 1, 0, none⟩) (by show w.heap.size ≤ w.heap.size + 1 + 1 + 1; omega) (.slice A9 n9 c9))
              have O9 := Lib.hid (own_base (base' := w.heap.size) (ownsRow_setCell_below q9 (a := ⟨w.heap.size + 1 + 1 + 1, 0, none⟩) (by show w.heap.size + 1 + 1 + 1 < v2.heap.size; omega) (.slice A9 n9 c9)) (by omega))
              have HN := (Lib.hid (HE.out.trans (if_neg (by rw [← Ho.out, ← Ha.out]; simp))) : Hid ((lr, r) = (la, false)))
              clear t9 q9 C9
              go_wp2
              exact bodyPost_ret (v := .tuple #[.agg #[.slice A9 n9 c9], .bool false]) (by simp [results, Try.results22, go_sem, dR]) rfl (MkRB_mk HN.out O9.out B9.out)
            · skip
              obtain ⟨rb, hrb⟩ : ∃ x, x = recB lb := ⟨_, rfl⟩
              have Hb := Lib.hid hrb
              clear hrb
              go_wp2_with fail
              refine (implIsRecord_any Ab nb cb lb rb _ (by unfold maxLen; omega) (hb.below C2) okb Hb.out).mono ?_
              rintro e v3 ⟨rfl, cv3⟩
              have C3 := C2.trans (cv3.mono C2.size)
              replace dO := kcell cv3 dO
              replace dA := kcell cv3 dA
              replace dB := kcell cv3 dB
              replace dG := kcell cv3 dG
              replace dR := kcell cv3 dR
              replace fR := kfro cv3 (by omega) fR
              have hsv3 := cv3.size
              replace HOF : Hid (v3.ownsRow (w1.heap.size + 1) 91 2 (.slice O p c) p (fl M)) := own_below HOF.out cv3
              clear cv3
              cases rb
              · go_wp2_with fail
                refine (copyRecord_any Aa na ca la _ (by omega) (ha.below C3)).mono ?_
                rintro e u2 ⟨A9, n9, c9, rfl, q9, t9⟩
                have C9 := C3.trans (t9.mono C3.size)
                replace dR := kcell t9 dR
                replace fR := kfro t9 (by omega) fR
                have B9 := Lib.hid (C9.setCell (p := ⟨w.heap.size + 1 + 1 + 1, 0, none⟩) (by show w.heap.size ≤ w.heap.size + 1 + 1 + 1; omega) (.slice A9 n9 c9))
                have O9 := Lib.hid (own_base (base' := w.heap.size) (ownsRow_setCell_below q9 (a := ⟨w.heap.size + 1 + 1 + 1, 0, none⟩) (by show w.heap.size + 1 + 1 + 1 < v3.heap.size; omega) (.slice A9 n9 c9)) (by omega))
                have HN := (Lib.hid (HE.out.trans (if_neg (by rw [← Ho.out, ← Ha.out, ← Hb.out]; simp))) : Hid ((lr, r) = (la, false)))
                clear t9 q9 C9
                go_wp2
                exact bodyPost_ret (v := .tuple #[.agg #[.slice A9 n9 c9], .bool false]) (by simp [results, Try.results22, go_sem, dR]) rfl (MkRB_mk HN.out O9.out B9.out)
              · skip
                obtain ⟨rm, hrm⟩ : ∃ x, x = recB M := ⟨_, rfl⟩
                have Hm := Lib.hid hrm
                clear hrm
                go_wp2_with fail
                refine (implIsRecord_any O p c M rm _ (by unfold maxLen; omega) (Rd.of_own HOF.out) HOM.out Hm.out).mono ?_
                rintro e v4 ⟨rfl, cv4⟩
                have C4 := C3.trans (cv4.mono C3.size)
                replace dO := kcell cv4 dO
                replace dA := kcell cv4 dA
                replace dB := kcell cv4 dB
                replace dG := kcell cv4 dG
                replace dR := kcell cv4 dR
                replace fR := kfro cv4 (by omega) fR
                have hsv4 := cv4.size
                replace HOF : Hid (v4.ownsRow (w1.heap.size + 1) 91 2 (.slice O p c) p (fl M)) := own_below HOF.out cv4
                clear cv4
                cases rm
                · go_wp2_with fail
                  refine (copyRecord_any Aa na ca la _ (by omega) (ha.below C4)).mono ?_
                  rintro e u4 ⟨A9, n9, c9, rfl, q9, t9⟩
                  have C9 := C4.trans (t9.mono C4.size)
                  replace dR := kcell t9 dR
                  replace fR := kfro t9 (by omega) fR
                  have B9 := Lib.hid (C9.setCell (p := ⟨w.heap.size + 1 + 1 + 1, 0, none⟩) (by show w.heap.size ≤ w.heap.size + 1 + 1 + 1; omega) (.slice A9 n9 c9))
                  have O9 := Lib.hid (own_base (base' := w.heap.size) (ownsRow_setCell_below q9 (a := ⟨w.heap.size + 1 + 1 + 1, 0, none⟩) (by show w.heap.size + 1 + 1 + 1 < v4.heap.size; omega) (.slice A9 n9 c9)) (by omega))
                  have HN := (Lib.hid (HE.out.trans (if_neg (by rw [← Ho.out, ← Ha.out, ← Hb.out, ← Hm.out]; simp))) : Hid ((lr, r) = (la, false)))
                  clear t9 q9 C9
                  go_wp2
                  exact bodyPost_ret (v := .tuple #[.agg #[.slice A9 n9 c9], .bool false]) (by simp [results, Try.results22, go_sem, dR]) rfl (MkRB_mk HN.out O9.out B9.out)
                · have HN : Hid ((lr, r) = (M, true)) := Lib.hid (HE.out.trans (if_pos (by rw [← Ho.out, ← Ha.out, ← Hb.out, ← Hm.out]; rfl)))
                  have B9 := Lib.hid (C4.setCell (p := ⟨w.heap.size + 1 + 1 + 1, 0, none⟩) (by show w.heap.size ≤ w.heap.size + 1 + 1 + 1; omega) (.slice O p c))
                  have O9 := Lib.hid (own_base (base' := w.heap.size) (ownsRow_setCell_below HOF.out (a := ⟨w.heap.size + 1 + 1 + 1, 0, none⟩) (by show w.heap.size + 1 + 1 + 1 < w1.heap.size + 1; omega) (.slice O p c)) (by omega))
                  go_wp2
                  exact bodyPost_ret (v := .tuple #[.agg #[.slice O p c], .bool true]) (by simp [results, Try.results22, go_sem, dR]) rfl (MkRB_mk HN.out O9.out B9.out)
        obtain ⟨bn, on, u, hBn, _hbn, hu, hcn⟩ := (Rd.of_own HON.out).at1 hltk
        rw [List.getElem?_map, Option.map_eq_some_iff] at hu
        obtain ⟨a, ha2, rfl⟩ := hu
        have hcn2 : wr.cell? ⟨bn, on + k, none⟩ = some (.string (strOf a)) := hcn
        subst hBn
        have HST := Lib.hid (mgL_snoc (lo := lo) (la := la) (lb := lb) ha2)
        have hp : p ≤ 3145728 := by
          have h1 := own_lenF HOF.out
          have h2 := mgL_len (lo := lo) (la := la) (lb := lb) ((ns.take k).map strOf)
          rw [List.length_map, List.length_take] at h2
          omega
        clear ha2 hcn
        obtain ⟨xo, bo, hxo⟩ : ∃ x b, (x, b) = getF lo (strOf a) := ⟨_, _, rfl⟩
        obtain ⟨xa, ba, hxa⟩ : ∃ x b, (x, b) = getF la (strOf a) := ⟨_, _, rfl⟩
        obtain ⟨xb, bb, hxb⟩ : ∃ x b, (x, b) = getF lb (strOf a) := ⟨_, _, rfl⟩
        have HXo := Lib.hid hxo
        have HXa := Lib.hid hxa
        have HXb := Lib.hid hxb
        have HM : Hid (mgN lo la lb (strOf a) = mgF (xo, bo) (xa, ba) (xb, bb)) := by
          show mgF _ _ _ = _
          rw [hxo, hxa, hxb]
        clear hxo hxa hxb
        have k0 : (0 : Int) ≤ (k : Int) := by omega
        have k1 : (k : Int) < (q : Int) := by omega
        go_wp2_with fail
        refine (implGetField_any Ao no co lo (strOf a) xo bo _ (by unfold maxLen; omega) (ho.below hbel) HXo.out).mono ?_
        rintro e w4 ⟨rfl, q4⟩
        have B4 : Below w.heap.size w w4 := hbel.trans (q4.mono hbel.size)
        replace dO := kcell q4 dO
        replace dA := kcell q4 dA
        replace dB := kcell q4 dB
        replace dR := kcell q4 dR
        replace dG := kcell q4 dG
        replace fR := kfro q4 (by omega) fR
        replace fG := kfro q4 (by omega) fG
        replace HON : Hid (w4.ownsRow (w.heap.size + 1 + 1 + 1 + 1) 9 1 (.slice (some ⟨bn, on, none⟩) q d) q (ns.map eS)) := own_below HON.out q4
        replace HOF : Hid (w4.ownsRow (w1.heap.size + 1) 91 2 (.slice O p c) p (fl (mgL lo la lb ((ns.take k).map strOf)))) := own_below HOF.out q4
        have hs4 : w1.heap.size + 1 ≤ w4.heap.size := Nat.le_trans hsz q4.size
        clear q4
        go_wp2_with fail
        refine (implGetField_any Aa na ca la (strOf a) xa ba _ (by unfold maxLen; omega) (ha.below B4) HXa.out).mono ?_
        rintro e w5 ⟨rfl, q5⟩
        have B5 : Below w.heap.size w w5 := B4.trans (q5.mono B4.size)
        replace dO := kcell q5 dO
        replace dA := kcell q5 dA
        replace dB := kcell q5 dB
        replace dR := kcell q5 dR
        replace dG := kcell q5 dG
        replace fR := kfro q5 (by omega) fR
        replace fG := kfro q5 (by omega) fG
        replace HON : Hid (w5.ownsRow (w.heap.size + 1 + 1 + 1 + 1) 9 1 (.slice (some ⟨bn, on, none⟩) q d) q (ns.map eS)) := own_below HON.out q5
        replace HOF : Hid (w5.ownsRow (w1.heap.size + 1) 91 2 (.slice O p c) p (fl (mgL lo la lb ((ns.take k).map strOf)))) := own_below HOF.out q5
        have hs5 : w1.heap.size + 1 ≤ w5.heap.size := Nat.le_trans hs4 q5.size
        clear q5
        go_wp2_with fail
        refine (implGetField_any Ab nb cb lb (strOf a) xb bb _ (by unfold maxLen; omega) (hb.below B5) HXb.out).mono ?_
        rintro e w6 ⟨rfl, q6⟩
        have B6 : Below w.heap.size w w6 := B5.trans (q6.mono B5.size)
        replace dO := kcell q6 dO
        replace dA := kcell q6 dA
        replace dB := kcell q6 dB
        replace dR := kcell q6 dR
        replace dG := kcell q6 dG
        replace fR := kfro q6 (by omega) fR
        replace fG := kfro q6 (by omega) fG
        replace HON : Hid (w6.ownsRow (w.heap.size + 1 + 1 + 1 + 1) 9 1 (.slice (some ⟨bn, on, none⟩) q d) q (ns.map eS)) := own_below HON.out q6
        replace HOF : Hid (w6.ownsRow (w1.heap.size + 1) 91 2 (.slice O p c) p (fl (mgL lo la lb ((ns.take k).map strOf)))) := own_below HOF.out q6
        have hs6 : w1.heap.size + 1 ≤ w6.heap.size := Nat.le_trans hs5 q6.size
        clear q6
        obtain ⟨v, h, hvh⟩ : ∃ v h, (v, h) = mgF (xo, bo) (xa, ba) (xb, bb) := ⟨_, _, rfl⟩
        have HVH := Lib.hid hvh
        have HMX := Lib.hid (max_spell xa xb)
        clear hvh
        go_upto_region 19 with fail
        go_cut [22, 23] from 55 to 114 (fun x y wx => x = .int .i64 (max xa xb) ∧ y = .bool (ba || bb) ∧ w6 = wx)
        case first =>
          cases ba
          all_goals
            go_wp2_with fail
            go_meet
            exact ⟨rfl, rfl, rfl⟩
        case rest =>
        obtain ⟨rfl, rfl, rfl⟩ := hcut
        go_upto_block 6 with fail
        go_cut [22, 23] from 55 to 114 (fun x y wx => x = .int .i64 v ∧ y = .bool h ∧ w6 = wx)
        case first =>
          have HP := HVH.out
          have HN1 := Lib.hid (mg_parts HP)
          clear HVH HM HXo HXa HXb HP HMX
          rcases HN1.out with ⟨e1, e2, h1, h2⟩ | ⟨hne, e1, e2, h1, h2⟩ | ⟨hne, hne2, h1, h2⟩
          · have HV1 := Lib.hid h1
            have HV2 := Lib.hid h2
            clear h1 h2 HN1
            subst e1
            subst e2
            go_wp2_with fail
            all_goals
              go_meet
              exact ⟨(congrArg (Value.int .i64) (by have := HV1.out; omega)), by rw [HV2.out], rfl⟩
          · have HV1 := Lib.hid h1
            have HV2 := Lib.hid h2
            have HNE := Lib.hid hne
            clear h1 h2 HN1 hne
            subst e1
            subst e2
            by_cases ex : xa = xb
            · have ex2 : (ba == bb) = false := HNE.out ex
              subst ex
              go_wp2_with fail
              all_goals
                go_meet
                exact ⟨(congrArg (Value.int .i64) (by have := HV1.out; omega)), by rw [HV2.out], rfl⟩
            · skip
              go_wp2_with fail
              all_goals
                go_meet
                exact ⟨(congrArg (Value.int .i64) (by have := HV1.out; omega)), by rw [HV2.out], rfl⟩
          · have HV1 := Lib.hid h1
            have HV2 := Lib.hid h2
            have HNE := Lib.hid hne
            have HNE2 := Lib.hid hne2
            clear h1 h2 HN1 hne hne2
            by_cases ex : xa = xo
            · have ex2 : (ba == bo) = false := HNE.out ex
              subst ex
              by_cases ey : xb = xa
              · have ey2 : (bb == bo) = false := HNE2.out ey
                subst ey
                go_wp2_with fail
                all_goals
                  go_meet
                  exact ⟨(congrArg (Value.int .i64) (by have := HV1.out; omega)), by rw [HV2.out], rfl⟩
              · skip
                go_wp2_with fail
                all_goals
                  go_meet
                  exact ⟨(congrArg (Value.int .i64) (by have := HV1.out; omega)), by rw [HV2.out], rfl⟩
            · by_cases ey : xb = xo
              · have ey2 : (bb == bo) = false := HNE2.out ey
                subst ey
                go_wp2_with fail
                all_goals
                  go_meet
                  exact ⟨(congrArg (Value.int .i64) (by have := HV1.out; omega)), by rw [HV2.out], rfl⟩
              · skip
                go_wp2_with fail
                all_goals
                  go_meet
                  exact ⟨(congrArg (Value.int .i64) (by have := HV1.out; omega)), by rw [HV2.out], rfl⟩
        case rest =>
        obtain ⟨rfl, rfl, rfl⟩ := hcut
        have HVM : Hid (mgN lo la lb (strOf a) = (v, h)) := by
          show _ = _
          rw [HM.out, ← HVH.out]
        clear HM HVH HMX
        cases h
        · have HOF2 : Hid (w6.ownsRow (w1.heap.size + 1) 91 2 (.slice O p c) p (fl (mgL lo la lb ((ns.take (k + 1)).map strOf)))) := by
            show World.ownsRow _ _ _ _ _ _ _
            rw [HST.out, HVM.out]
            simpa using HOF.out
          go_wp2
          go_roundw
          case rel => exact ⟨k + 1, O, p, c, by omega, by go_num, HON.out, HOF2.out, B6, dO, dA, dB, dR, fR, dG, fG, hs6⟩
          case measure => simp [intOf]; omega
        · go_wp2_with (at_builtin; refine wpList_pushF w6 rfl _ _ 26 (by rfl) (w1.heap.size + 1) 91 ft (.agg #[.string ⟨#[]⟩, .int .i64 0]) 24 Try.underlying26 fi fz0 fz1 fz2 rfl O p c _ (by rfl) HOF.out (strOf a) v (by rfl) ?c1 ?c2 ?c3 ?_)
          case c1 => unfold maxLen; omega
          case c2 => omega
          case c3 => exact hs6
          intro A7 p7 c7 w7 hp7 o7 b7 g7
          have hs7 : w1.heap.size + 1 ≤ w7.heap.size := by have := b7.size; omega
          have HOF2 : Hid (w7.ownsRow (w1.heap.size + 1) 91 2 (.slice A7 p7 c7) p7 (fl (mgL lo la lb ((ns.take (k + 1)).map strOf)))) := by
            show World.ownsRow _ _ _ _ _ _ _
            rw [HST.out, HVM.out]
            simpa [List.map_take] using o7
          have HO8 := Lib.hid (ownsRow_setCell_below HOF2.out (a := ⟨w1.heap.size, 0, none⟩) (by simp) (.slice A7 p7 c7))
          have HN7 := own_belowB HON.out b7 (fun ad h => by have := hB1.out ad h; omega)
          have HN8 := Lib.hid (own_belowB HN7 ((Below.refl w1.heap.size w7).setCell (p := ⟨w1.heap.size, 0, none⟩) (Nat.le_refl _) (.slice A7 p7 c7)) (fun ad h => hB1.out ad h))
          have B7 := B6.trans (b7.mono (by omega))
          have B8 := Lib.hid (B7.setCell (p := ⟨w1.heap.size, 0, none⟩) (by show w.heap.size ≤ w1.heap.size; omega) (.slice A7 p7 c7))
          replace dO := (b7.cell (p := ⟨w.heap.size, 0, none⟩) (by show w.heap.size < w1.heap.size + 1; omega)).trans dO
          have dO8 : Hid ((w7.setCell ⟨w1.heap.size, 0, none⟩ (.slice A7 p7 c7)).cell? ⟨w.heap.size, 0, none⟩ = some (.slice Ao no co)) := by
            show _ = _
            rw [World.cell?_setCell_far w7 ⟨w1.heap.size, 0, none⟩ ⟨w.heap.size, 0, none⟩ _ (by show w1.heap.size ≠ w.heap.size; omega)]
            exact dO
          replace dA := (b7.cell (p := ⟨w.heap.size + 1, 0, none⟩) (by show w.heap.size + 1 < w1.heap.size + 1; omega)).trans dA
          have dA8 : Hid ((w7.setCell ⟨w1.heap.size, 0, none⟩ (.slice A7 p7 c7)).cell? ⟨w.heap.size + 1, 0, none⟩ = some (.slice Aa na ca)) := by
            show _ = _
            rw [World.cell?_setCell_far w7 ⟨w1.heap.size, 0, none⟩ ⟨w.heap.size + 1, 0, none⟩ _ (by show w1.heap.size ≠ w.heap.size + 1; omega)]
            exact dA
          replace dB := (b7.cell (p := ⟨w.heap.size + 1 + 1, 0, none⟩) (by show w.heap.size + 1 + 1 < w1.heap.size + 1; omega)).trans dB
          have dB8 : Hid ((w7.setCell ⟨w1.heap.size, 0, none⟩ (.slice A7 p7 c7)).cell? ⟨w.heap.size + 1 + 1, 0, none⟩ = some (.slice Ab nb cb)) := by
            show _ = _
            rw [World.cell?_setCell_far w7 ⟨w1.heap.size, 0, none⟩ ⟨w.heap.size + 1 + 1, 0, none⟩ _ (by show w1.heap.size ≠ w.heap.size + 1 + 1; omega)]
            exact dB
          replace dR := (b7.cell (p := ⟨w.heap.size + 1 + 1 + 1, 0, none⟩) (by show w.heap.size + 1 + 1 + 1 < w1.heap.size + 1; omega)).trans dR
          have dR8 : Hid ((w7.setCell ⟨w1.heap.size, 0, none⟩ (.slice A7 p7 c7)).cell? ⟨w.heap.size + 1 + 1 + 1, 0, none⟩ = some (.slice none 0 0)) := by
            show _ = _
            rw [World.cell?_setCell_far w7 ⟨w1.heap.size, 0, none⟩ ⟨w.heap.size + 1 + 1 + 1, 0, none⟩ _ (by show w1.heap.size ≠ w.heap.size + 1 + 1 + 1; omega)]
            exact dR
          replace fR := (b7.frozen (p := ⟨w.heap.size + 1 + 1 + 1, 0, none⟩) (by show w.heap.size + 1 + 1 + 1 < w1.heap.size + 1; omega)).trans fR
          have fR8 : Hid ((w7.setCell ⟨w1.heap.size, 0, none⟩ (.slice A7 p7 c7)).frozen? ⟨w.heap.size + 1 + 1 + 1, 0, none⟩ = false) := Lib.hid (by simp [fR])
          replace dG : w7.cell? ⟨w1.heap.size, 0, none⟩ = some (.slice O p c) := (b7.cell (p := ⟨w1.heap.size, 0, none⟩) (by simp)).trans dG
          replace fG : w7.frozen? ⟨w1.heap.size, 0, none⟩ = false := (b7.frozen (p := ⟨w1.heap.size, 0, none⟩) (by simp)).trans fG
          have dG8 : Hid ((w7.setCell ⟨w1.heap.size, 0, none⟩ (.slice A7 p7 c7)).cell? ⟨w1.heap.size, 0, none⟩ = some (.slice A7 p7 c7)) := Lib.hid (by simp [go_sem, dG])
          have fG8 : Hid ((w7.setCell ⟨w1.heap.size, 0, none⟩ (.slice A7 p7 c7)).frozen? ⟨w1.heap.size, 0, none⟩ = false) := Lib.hid (by simp [fG])
          have hs8 : Hid (w1.heap.size + 1 ≤ (w7.setCell ⟨w1.heap.size, 0, none⟩ (.slice A7 p7 c7)).heap.size) := Lib.hid (by simpa using hs7)
          clear o7 b7 g7 hp7 HN7 B7
          go_wp2
          go_roundw
          case rel => exact ⟨k + 1, A7, p7, c7, by omega, by go_num, HN8.out, HO8.out, B8.out, dO8.out, dA8.out, dB8.out, dR8.out, fR8.out, dG8.out, fG8.out, hs8.out⟩
          case measure => simp [intOf]; omega
end Go.Proofs.Ytbbngihmjdndoaa
