/- lines: the program's Read. NOT DONE: see NOTES.md (LineReads: what is left). -/
import Derived.OrdersIn
import Derived.Test.YtloilknkhloegaaDoorIterT
import Derived.Test.YtloilknkhloegaaDoorLinRG
import Derived.Test.YtloilknkhloegaaDoorIterH
import Derived.Test.YtloilknkhloegaaDoorLinB
set_option linter.unusedSimpArgs false
set_option linter.unusedVariables false
namespace Go.Proofs.YtloilknkhloegaaDoor
open Go.RowKit
attribute [local go_sem] Oper.semAt_some

set_option maxHeartbeats 2000000 in
set_option maxRecDepth 100000 in
theorem lread_long (s : List UInt8) (w : World) (hl : 65536 < s.length) (hsl : s.length ≤ maxLen) :
    Calls Tryd.prog 19 #[.string (bs s)] w (ReadIs w (readF s)) := by
  unfold maxLen at hsl
  have HR : Hid (readF s = ([], 0, 11)) := Lib.hid (if_neg (by omega))
  go_enter Tryd.func19, Tryd.ntmps19
  go_wp2
  refine bodyPost_ret (v := .tuple #[.slice none 0 0, .int .i64 0, .int .i64 11]) (by simp [results, Tryd.results19, go_sem]) rfl ?_
  exact read_nil (n := 0) HR.out ((((Below.refl _ _).alloc (Nat.le_refl _) _).alloc (by simp) _).alloc (by simp <;> omega) _)
/-- behind the count of a line and a call. -/
theorem RdS.next {w W W2 : World} {r n : Nat} {l : List PEn} (h : RdS w r n l W) (b2 : Below (W.setCell ⟨r + 4, 0, none⟩ (.int .i64 ((n : Int) + 1))).heap.size (W.setCell ⟨r + 4, 0, none⟩ (.int .i64 ((n : Int) + 1))) W2) (hw : r ≤ w.heap.size) : RdS w r (n + 1) l W2 := by
  obtain ⟨v, v1, v2, v3⟩ := h.c3
  have lt4 := (Array.getElem?_eq_some_iff.1 h.c4).1
  have k : ∀ q ob, W.heap[q]? = some ob → q ≠ r + 4 → W2.heap[q]? = some ob := fun q ob hq hn => (b2.block _ (by have := (Array.getElem?_eq_some_iff.1 hq).1; simpa using this)).trans ((heap_setCell_other hn).trans hq)
  refine ⟨k _ _ h.c0 (by omega), k _ _ h.c1 (by omega), k _ _ h.c2 (by omega), ⟨v, k _ _ v1 (by omega), ownsRow_block v2 fun x hx => ?_, v3⟩, ?_, (h.bel.setCell (by dsimp only; omega) _).trans (b2.mono (by simp; exact Nat.le_trans hw h.bel.size)), by have := b2.size; have := h.sz; simp at *; omega⟩
  · obtain ⟨ob, q1, -⟩ := row_cells v2 hx
    rw [q1]
    exact k _ _ q1 (by have := v3 x hx; omega)
  · rw [b2.block _ (by simpa using lt4), heap_setCell_same h.c4]
    simp
theorem RdS.keeps {w W W2 : World} {r n : Nat} {l : List PEn} (h : RdS w r n l W) (hw : r ≤ w.heap.size) (k : ∀ (q : Nat) (ob : Obj), W.heap[q]? = some ob → W2.heap[q]? = some ob) (b : Below r w W2) (hs : W.heap.size ≤ W2.heap.size) : RdS w r n l W2 := by
  obtain ⟨v, v1, v2, v3⟩ := h.c3
  refine ⟨k _ _ h.c0, k _ _ h.c1, k _ _ h.c2, ⟨v, k _ _ v1, ownsRow_block v2 fun x hx => ?_, v3⟩, k _ _ h.c4, b, Nat.le_trans h.sz hs⟩
  obtain ⟨ob, q1, -⟩ := row_cells v2 hx
  rw [q1]
  exact k _ _ q1
theorem RdS.alloc {w W : World} {r n : Nat} {l : List PEn} (h : RdS w r n l W) (hw : r ≤ w.heap.size) (o : Obj) : RdS w r n l (W.alloc o) :=
  h.keeps hw (fun q ob hq => (heap_alloc_old W o q (Array.getElem?_eq_some_iff.1 hq).1).trans hq) (h.bel.alloc (Nat.le_trans hw h.bel.size) _) (by simp)
theorem RdS.drew {w W : World} {r n : Nat} {l : List PEn} (h : RdS w r n l W) : RdS w r n l W.drew :=
  ⟨h.c0, h.c1, h.c2, h.c3, h.c4, h.bel.drew, h.sz⟩
theorem keeps_below {W W' : World} (b : Below W.heap.size W W') : KeepsOthers W W' :=
  ⟨b.size, fun k o hk _ => (b.block k (Array.getElem?_eq_some_iff.1 hk).1).trans hk⟩
theorem grown_box {W W' : World} {row : Option Nat} (hg : W.grownBy W' row) {b : Nat} {o : Obj} (h : W.heap[b]? = some o) (hne : row ≠ some b) : W'.heap[b]? = some o :=
  (hg.block b (Array.getElem?_eq_some_iff.1 h).1 (fun e => hne e.symm)).trans h
/-- behind an append of an entry, stored. -/
theorem RdS.put {w W2 W3 W5 : World} {r n : Nat} {l : List PEn} {z : PEn} {v v5 : Value} (h : RdS w r n l W2) (hw : r ≤ w.heap.size) (o1 o2 : Obj) (hW3 : W3 = (W2.alloc o1).alloc o2)
    (hv1 : W2.heap[r + 3]? = some (.cells #[v] 45)) (hv3 : ∀ x, v.ownBlock = some x → r + 7 < x) (hcell : ∀ x, v.ownBlock = some x → ∃ o : Obj, W2.heap[x]? = some o ∧ o.isCells = true) (hg : W3.grownBy W5 v.ownBlock) (hown : W5.ownsRow 0 54 8 v5 (l.length + 1) (entL l ++ entC z)) (hnew : ∀ k, v5.ownBlock = some k → v.ownBlock = some k ∨ W3.heap.size ≤ k) :
    RdS w r n (l ++ [z]) (W5.setCell ⟨r + 3, 0, none⟩ v5) ∧ KeepsOthers W2 (W5.setCell ⟨r + 3, 0, none⟩ v5) ∧ (∀ b o, W2.heap[b]? = some o → b ≠ r + 3 → (∀ x, v.ownBlock = some x → b ≠ x) → (W5.setCell ⟨r + 3, 0, none⟩ v5).heap[b]? = some o) := by
  have k3 : ∀ (q : Nat) (ob : Obj), W2.heap[q]? = some ob → W3.heap[q]? = some ob := fun q ob hq => by
    have hlt := (Array.getElem?_eq_some_iff.1 hq).1
    rw [hW3]
    exact (heap_alloc_old (W2.alloc o1) o2 q (by simp; omega)).trans ((heap_alloc_old W2 o1 q hlt).trans hq)
  have k5 : ∀ (q : Nat) (ob : Obj), W2.heap[q]? = some ob → (∀ x, v.ownBlock = some x → q ≠ x) → W5.heap[q]? = some ob := fun q ob hq hn => grown_box hg (k3 q ob hq) (fun e => hn _ e rfl)
  have hne : ∀ j, j ≤ 7 → ∀ x, v.ownBlock = some x → r + j ≠ x := fun j hj x hx => by have := hv3 x hx; omega
  have k6 : ∀ (b : Nat) (o : Obj), W2.heap[b]? = some o → b ≠ r + 3 → (∀ x, v.ownBlock = some x → b ≠ x) → (W5.setCell ⟨r + 3, 0, none⟩ v5).heap[b]? = some o := fun b o hb hb3 hn => (heap_setCell_other (by simpa using hb3)).trans (k5 b o hb hn)
  have hs3 : W2.heap.size ≤ W3.heap.size := by rw [hW3]; simp; omega
  have hr3 := (Array.getElem?_eq_some_iff.1 hv1).1
  have hc4 := (Array.getElem?_eq_some_iff.1 h.c4).1
  have hb8 : ∀ x, v5.ownBlock = some x → r + 3 < x := fun x hx => by
    rcases hnew x hx with h1 | h1
    · have := hv3 x h1; omega
    · omega
  refine ⟨⟨k6 _ _ h.c0 (by omega) (hne 0 (by omega)), k6 _ _ h.c1 (by omega) (hne 1 (by omega)), k6 _ _ h.c2 (by omega) (hne 2 (by omega)), ⟨v5, ?_, ?_, ?_⟩, k6 _ _ h.c4 (by omega) (hne 4 (by omega)), ?_, ?_⟩, ?_, k6⟩
  · rw [heap_setCell_same (k5 _ _ hv1 (hne 3 (by omega)))]
    simp
  · rw [entL_snoc, List.length_append]
    exact ownsRow_block hown fun x hx => heap_setCell_other (by have := hb8 x hx; simp; omega)
  · intro x hx
    rcases hnew x hx with h1 | h1
    · exact hv3 x h1
    · have := h.sz; omega
  · refine Below.setCell ?_ (by dsimp only; omega) _
    have b3 : Below r w W3 := by
      rw [hW3]
      exact (h.bel.alloc (Nat.le_trans hw h.bel.size) _).alloc (by have := h.bel.size; simp; omega) _
    exact b3.grown hg (Nat.le_trans hw b3.size) (fun k e => by have := hv3 k e; omega)
  · have := h.sz; have := hg.size; simp; omega
  · refine KeepsOthers.trans ?_ (KeepsOthers.setCell _ _ _)
    have q3 : KeepsOthers W2 W3 := by rw [hW3]; exact (KeepsOthers.alloc _ _).trans (KeepsOthers.alloc _ _)
    refine q3.trans (KeepsOthers.of_grownBy hg fun j o e ho => ?_)
    obtain ⟨o', h1, h2⟩ := hcell j e
    have := k3 j o' h1
    rw [ho] at this
    cases this
    exact h2
theorem rd_out {w W3 : World} {r n : Nat} {l : List PEn} (h : RdS w r n l W3) (hw : r ≤ w.heap.size) (m x : Int) :
    let W4 := (((W3.setCell ⟨r, 0, none⟩ (.slice none 0 0)).setCell ⟨r + 1, 0, none⟩ (.int .i64 m)).setCell ⟨r + 1 + 1, 0, none⟩ (.int .i64 x)).drew
    W4.heap[r]? = some (.cells #[.slice none 0 0] 45) ∧ W4.heap[r + 1]? = some (.cells #[.int .i64 m] 3) ∧ W4.heap[r + 2]? = some (.cells #[.int .i64 x] 24) ∧ Below r w W4 := by
  refine ⟨?_, ?_, ?_, ?_⟩
  · exact (heap_setCell_other (by simp <;> omega)).trans ((heap_setCell_other (by simp <;> omega)).trans ((heap_setCell_same h.c0)))
  · exact (heap_setCell_other (by simp <;> omega)).trans (heap_setCell_same ((heap_setCell_other (by simp <;> omega)).trans h.c1))
  · exact heap_setCell_same ((heap_setCell_other (by simp <;> omega)).trans ((heap_setCell_other (by simp <;> omega)).trans h.c2))
  · exact (((h.bel.setCell (by simp <;> omega) _).setCell (by simp <;> omega) _).setCell (by simp <;> omega) _).drew
theorem wpLIn_append {F : Fence} {N : Nat} {P : Program} {w : World} {t : TypeId} {ops : Array Oper} {rest : List Oper} {o : Oper} {a : Act} {Q : Exit → Act → World → Prop} (hgd : o.guard = none) (s x : Operand)
    (ho : o.op = .call { callee := .builtin .append, args := #[s, x], argTypes := #[t, t] })
    (e : TypeId) (i : TypeInfo) (z : Value) (size bytes : Nat) (ht : P.underlying t = some (.slice e)) (hi : P.info? e = some i) (hz : i.zero = some z)
    (hsize : i.size = size) (hby : i.bytes = bytes) (hzs : z.cells.size = size) (hsz : 0 < size)
    (v : Value) (n : Nat) (xs : List Value) (hs : a.eval s = v) (hown : w.ownsRow 0 e size v n xs)
    (ad : Addr) (m c : Nat) (news : List Value) (hx : a.eval x = .slice (some ad) m c) (hl : news.length = m * size) (hnews : ∀ j u, news[j]? = some u → w.cell? (ad.add j) = some u) (h1 : ∀ u ∈ news, u.oneCell' = true)
    (h63 : n + m ≤ maxLen) (hbytes : (n + m) * bytes ≤ 140737488355328)
    (h : ∀ v' w', w'.ownsRow 0 e size v' (n + m) (xs ++ news) → w.grownBy w' v.ownBlock → (∀ k, v'.ownBlock = some k → v.ownBlock = some k ∨ w.heap.size ≤ k) → wpListIn F N P ops Q rest (a.put o.dst v') w') : wpListIn F N P ops Q (o :: rest) a w := by
  refine wpListIn_plain hgd fun K hK' => ?_
  obtain ⟨v', w', hr, h2, h3, h4, h5⟩ := run_append_new (P := P) (w := w) t o.type e i z size bytes ht hi hz hsize hby hzs hsz v n xs hown ad m c news hl hnews h1 h63 hbytes
  unfold Oper.wpIn
  refine ⟨?_, ?_⟩
  · simp [Oper.about, ho, resolve, Target.leads, Sem.run_pure]
  · rw [Oper.semAt_plain F _ _ (by rw [ho]; intro c hc'; cases hc')]
    simp [execOp, ho, resolve, invoke, builtin, hs, hx, hr, Result.andThen]
    exact hK' _ _ (h v' w' h2 h3 h4)
theorem wpIn_at {F : Fence} {n : Nat} {P : Program} {c : Code} {Q : Exit → Act → World → Prop} {a : Act} {w : World} (h : ∀ wz, wz = w → c.wpIn F n P Q a wz) : c.wpIn F n P Q a w := h w rfl
theorem eight_new (w : World) (a b c d e f g h : Obj) (W : World) (hW : W = (((((((w.alloc a).alloc b).alloc c).alloc d).alloc e).alloc f).alloc g).alloc h) :
    W.heap[w.heap.size]? = some a ∧ W.heap[w.heap.size + 1]? = some b ∧ W.heap[w.heap.size + 2]? = some c ∧ W.heap[w.heap.size + 3]? = some d ∧ W.heap[w.heap.size + 4]? = some e ∧ W.heap[w.heap.size + 5]? = some f ∧ W.heap[w.heap.size + 6]? = some g ∧ W.heap[w.heap.size + 7]? = some h ∧ W.heap.size = w.heap.size + 8 ∧ Below w.heap.size w W := by
  subst hW
  refine ⟨?_, ?_, ?_, ?_, ?_, ?_, ?_, ?_, by simp, (((((((((Below.refl _ _).alloc (Nat.le_refl _) _).alloc (by simp) _).alloc (by simp <;> omega) _).alloc (by simp <;> omega) _).alloc (by simp <;> omega) _).alloc (by simp <;> omega) _).alloc (by simp <;> omega) _).alloc (by simp <;> omega) _)⟩
  all_goals
    simp only [show ∀ (w : World) (o : Obj), (w.alloc o).heap = w.heap.push o from fun _ _ => rfl, Array.getElem?_push, Array.size_push]
    repeat (first | rfl | (rw [if_neg (by omega)]) | (rw [if_pos (by omega)]))
set_option maxHeartbeats 2000000 in
set_option maxRecDepth 100000 in
theorem lread_short (s : List UInt8) (w : World) (hl : s.length ≤ 65536) (hO : LnOk w) :
    Calls Tryd.prog 19 #[.string (bs s)] w (ReadIs w (readF s)) := by
  have HR : Hid (readF s = readL (cutAt 10 s) 0 []) := Lib.hid (if_pos hl)
  refine (callsIn_wide (n := 10)).1 ?_
  refine callsIn_of_wp_marks Tryd.func19 rfl trivial ?_ rfl
  simp only [Tryd.ntmps19, List.size_toArray, List.length_cons, List.length_nil, Nat.reduceAdd, Nat.reduceSub, Array.replicate_succ, Array.replicate_zero, List.push_toArray, List.append_toArray, List.nil_append, List.cons_append]
  gi_wp2_with (refine ⟨trivial, ?_⟩; gi_at_call 36; refine (callsIn_wide.2 (splitseq_any s _)).mono ?_; rintro e w' ⟨rfl, rfl⟩)
  refine wpIn_at fun W0 hW0 => ?_
  obtain ⟨h0, h1, h2, h3, h4, h5, h6, h7, hz, hB⟩ := eight_new w _ _ _ _ _ _ _ _ W0 hW0
  clear hW0
  obtain ⟨m, hm⟩ := hO.now.len
  have hG : 3 < w.heap.size := World.block_lt_of_cell? w _ hm
  have hm0 : W0.cell? ⟨3, 0, none⟩ = some (.int .i64 m) := (hB.cell (p := ⟨3, 0, none⟩) hG).trans hm
  have hRow : RdS w w.heap.size 0 [] W0 := ⟨h0, h1, h2, ⟨_, h3, ⟨by simp [entL], Or.inl ⟨rfl, rfl⟩⟩, by simp [Value.ownBlock]⟩, h4, hB, by omega⟩
  have hBx : Bx3 (w.heap.size + 1 + 1 + 1 + 1 + 1) s W0 := ⟨h5, h6, h7⟩
  refine wpIn_range_cells rfl (by omega) (gf := 60) (lb := #[.pointer (some ⟨w.heap.size + 1 + 1 + 1 + 1 + 1 + 1, 0, none⟩), .pointer (some ⟨w.heap.size + 1 + 1 + 1 + 1 + 1, 0, none⟩), .pointer (some ⟨w.heap.size + 1 + 1 + 1 + 1 + 1 + 2, 0, none⟩)]) rfl trivial (enters_of Tryd.func60 (by kernel_rfl) rfl)
    (split_cells _ (by omega) (w.heap.size + 1 + 1 + 1 + 1 + 1) s (by omega) m W0 hBx hm0 (by omega)) (by simp; omega) (by simp; omega) (Below.refl _ _) (fun _ => rfl)
    (fun pre W => ∃ l, RdPre pre l ∧ RdS w w.heap.size pre.length l W)
    (fun c pre W => c = .ret ∧ ∃ x : Int, (∀ rest, readL (pre ++ rest) 0 [] = ([], pre.length, x)) ∧ W.heap[w.heap.size]? = some (.cells #[.slice none 0 0] 45) ∧ W.heap[w.heap.size + 1]? = some (.cells #[.int .i64 pre.length] 3) ∧ W.heap[w.heap.size + 2]? = some (.cells #[.int .i64 x] 24) ∧ Below w.heap.size w W)
    (RdS.bears w _ (Nat.le_refl _) _ (by omega)) ?hix ⟨[], rdi_start, hRow⟩ (fun x => { tmps := #[.string (bs s), undef, .pointer (some ⟨w.heap.size, 0, none⟩), .pointer (some ⟨w.heap.size + 1, 0, none⟩), .pointer (some ⟨w.heap.size + 1 + 1, 0, none⟩), .pointer (some ⟨w.heap.size + 1 + 1 + 1, 0, none⟩), .pointer (some ⟨w.heap.size + 1 + 1 + 1 + 1, 0, none⟩), .string (bs x), undef, undef, .string (bs s), .int .i64 s.length, .bool (decide ((65536 : Int) < s.length)), .string (bs s), .func (.func 60) #[] #[.pointer (some ⟨w.heap.size + 1 + 1 + 1 + 1 + 1 + 1, 0, none⟩), .pointer (some ⟨w.heap.size + 1 + 1 + 1 + 1 + 1, 0, none⟩), .pointer (some ⟨w.heap.size + 1 + 1 + 1 + 1 + 1 + 2, 0, none⟩)], .string (bs x), undef, undef, undef, undef, undef, undef, undef, undef, undef, undef, undef, undef, undef, undef, undef, undef, undef, undef, undef, undef, undef, undef, undef, undef, undef, undef, undef, undef, undef], defers := [] }) ?assign ?body ?done ?stop
  case hix =>
    rintro c pre A A' row ⟨rfl, x, hx, g0, g1, g2, gb⟩ hg hr
    have hr2 : ∀ q, row = some q → q ∈ [w.heap.size + 5] ∨ (W0.heap.size ≤ q ∧ ∃ o : Obj, A.heap[q]? = some o ∧ o.isCells = false) := hr
    refine ⟨rfl, x, hx, cells_bear hg hr2 (by simp) g0 rfl, cells_bear hg hr2 (by simp) g1 rfl, cells_bear hg hr2 (by simp) g2 rfl, gb.grown hg gb.size fun q e => ?_⟩
    rcases hr2 q e with h | ⟨h, -⟩
    · simp at h; omega
    · omega
  case assign =>
    intro l x W K hK
    gi_wp2
    exact hK
  case body =>
    rintro L pre t W ⟨l, hp, hs⟩ ⟨rest, hsp⟩
    obtain ⟨v, v1, v2, v3⟩ := hs.c3
    obtain ⟨pa, pc, rfl⟩ := srow_shape v2
    have d3 := cell?_of_heap (o := 0) v1
    have d4 := cell?_of_heap (o := 0) hs.c4
    have f4 := frozen?_of_heap (o := 0) hs.c4
    simp at d3 d4
    have hfew := hp.few
    have hpl : pre.length ≤ 70000 := by
      have h1 := line_cut_len s
      rw [← hsp] at h1
      simp at h1
      omega
    have htl : t.length ≤ 70000 := by
      have h1 := line_piece_len s t (by rw [← hsp]; simp)
      omega
    cases t with
    | nil =>
      gi_wp2
      refine ⟨KeepsOthers.setCell _ _ _, fun q hq => ?_, l, rdi_skip hp rfl, (heap_setCell_other (by omega)).trans hs.c0, (heap_setCell_other (by omega)).trans hs.c1, (heap_setCell_other (by omega)).trans hs.c2, ⟨_, (heap_setCell_other (by omega)).trans v1, ownsRow_block v2 fun x hx => heap_setCell_other (by have := v3 x hx; omega), v3⟩, ?_, hs.bel.setCell (by dsimp only; omega) _, by have := hs.sz; simp; omega⟩
      · simp at hq
        exact heap_setCell_other (by omega)
      · rw [heap_setCell_same hs.c4]
        simp
    | cons c q =>
      have hsz0 : 0 < (bs (c :: q)).size := by simp [ByteArray.size]
      have hcb0 : (bs (c :: q))[0]'hsz0 = c := rfl
      by_cases h35 : c = 35
      · subst h35
        gi_wp2
        refine ⟨KeepsOthers.setCell _ _ _, fun q hq => ?_, l, rdi_skip hp rfl, (heap_setCell_other (by omega)).trans hs.c0, (heap_setCell_other (by omega)).trans hs.c1, (heap_setCell_other (by omega)).trans hs.c2, ⟨_, (heap_setCell_other (by omega)).trans v1, ownsRow_block v2 fun x hx => heap_setCell_other (by have := v3 x hx; omega), v3⟩, ?_, hs.bel.setCell (by dsimp only; omega) _, by have := hs.sz; simp; omega⟩
        · simp at hq
          exact heap_setCell_other (by omega)
        · rw [heap_setCell_same hs.c4]
          simp
      · have hq35 : ((c.toNat : Int) == 35) = false := by
          rw [beq_eq_false_iff_ne]
          intro e
          exact h35 (UInt8.toNat_inj.1 (by simpa using (by omega : c.toNat = 35)))
        have hsk : skipB (c :: q) = false := by simpa [skipB] using h35
        have b1 : Below w.heap.size w (W.setCell ⟨w.heap.size + 4, 0, none⟩ (.int .i64 (pre.length + 1))) := hs.bel.setCell (by dsimp only; omega) _
        have HP := Lib.hid (lparse_any (c :: q) (W.setCell ⟨w.heap.size + 4, 0, none⟩ (.int .i64 (pre.length + 1))) (by omega) (hO.step b1))
        gi_wp2_with (refine ⟨trivial, ?_⟩; gi_at_call 24; refine (CallsIn.inRound L (callsIn_wide.2 HP.out)).mono ?_)
        have hk1 : KeepsOthers W (W.setCell ⟨w.heap.size + 4, 0, none⟩ (.int .i64 (pre.length + 1))) := KeepsOthers.setCell _ _ _
        rintro en W2 (⟨z, hz2, rfl, b2⟩ | ⟨hz2, rfl, b2⟩)
        · have hs2 := hs.next b2 (Nat.le_refl _)
          have hk2 := hk1.trans (keeps_below b2)
          obtain ⟨v', v1', v2', v3'⟩ := hs2.c3
          obtain ⟨pb, pd, rfl⟩ := srow_shape v2'
          have d3' := cell?_of_heap (o := 0) v1'
          have f3' := frozen?_of_heap (o := 0) v1'
          simp at d3'
          have hz3 := (Array.getElem?_eq_some_iff.1 v1').1
          unfold enV
          by_cases h400 : l.length = 400
          · have hq4 : ((l.length : Int) == 400) = true := by simp; omega
            gi_wp2
            refine wpIn_at fun W3 hW3 => ?_
            have hs3 : RdS w w.heap.size (pre.length + 1) l W3 := by
              rw [hW3]
              exact hs2.alloc (Nat.le_refl _) _
            have hk3 : KeepsOthers W W3 := by
              rw [hW3]
              exact hk2.trans (KeepsOthers.alloc _ _)
            clear hW3 hs2
            have e0 := cell?_of_heap (o := 0) hs3.c0
            have e1 := cell?_of_heap (o := 0) hs3.c1
            have e2 := cell?_of_heap (o := 0) hs3.c2
            have e4 := cell?_of_heap (o := 0) hs3.c4
            have g0 := frozen?_of_heap (o := 0) hs3.c0
            have g1 := frozen?_of_heap (o := 0) hs3.c1
            have g2 := frozen?_of_heap (o := 0) hs3.c2
            simp at e0 e1 e2 e4
            refine wpIn_region_held_drew (S := fun w' => w'.cell? ⟨w.heap.size + 4, 0, none⟩ = some (.int .i64 (pre.length + 1))) (by kernel_rfl) (by kernel_rfl) ?_ (fun hHeld => ?_)
            · exact e4
            refine wpAnyH_take (i := 0) (oi := _) (v := ?_) rfl (by kernel_rfl) (by kernel_rfl) (by kernel_rfl) (fun _ _ _ h => h) (Or.inl ⟨by rfl, ?_⟩) (by assumption) ?_
            rotate_left
            · intro w hSw; (try dsimp only at hSw); go_simp; try with_reducible rfl
            try simp only [Act.put, List.getElem_toArray, List.getElem_cons_zero, List.setIfInBounds_toArray, List.set_cons_zero, List.set_cons_succ]
            refine wpAnyH_ready (rs := [1]) (by kernel_rfl) (by simp) ?_
            refine AllReadyH.cons (o := _) rfl (fun K hK => ?_) AllReadyH.nil
            go_simp
            refine hK.out _ _ ?_ (fun hHeld => ?_)
            · exact (World.cell?_of_block (a := ⟨w.heap.size + 4, 0, none⟩) (heap_setCell_other (by dsimp only; omega))).trans hHeld
            clear hK K
            try simp only [Act.put, List.getElem_toArray, List.getElem_cons_zero, List.getElem_cons_succ, List.setIfInBounds_toArray, List.set_cons_zero, List.set_cons_succ]
            refine wpAnyH_ready (rs := [2]) (by kernel_rfl) (by simp) ?_
            refine AllReadyH.cons (o := _) rfl (fun K hK => ?_) AllReadyH.nil
            go_simp
            refine hK.out _ _ ?_ (fun hHeld => ?_)
            · exact (World.cell?_of_block (a := ⟨w.heap.size + 4, 0, none⟩) (heap_setCell_other (by dsimp only; omega))).trans hHeld
            clear hK K
            try simp only [Act.put, List.getElem_toArray, List.getElem_cons_zero, List.getElem_cons_succ, List.setIfInBounds_toArray, List.set_cons_zero, List.set_cons_succ]
            refine wpAnyH_ready (rs := [3]) (by kernel_rfl) (by simp) ?_
            refine AllReadyH.cons (o := _) rfl (fun K hK => ?_) AllReadyH.nil
            go_simp
            refine hK.out _ _ ?_ (fun hHeld => ?_)
            · exact (World.cell?_of_block (a := ⟨w.heap.size + 4, 0, none⟩) (heap_setCell_other (by dsimp only; omega))).trans hHeld
            clear hK K
            try simp only [Act.put, List.getElem_toArray, List.getElem_cons_zero, List.getElem_cons_succ, List.setIfInBounds_toArray, List.set_cons_zero, List.set_cons_succ]
            refine wpAnyH_done (by kernel_rfl) ?_ _
            refine NoPanic.normal ?_
            refine Only.normal ?_
            gi_wp2
            obtain ⟨q0, q1, q2, q3⟩ := rd_out hs3 (Nat.le_refl _) (pre.length + 1) 11
            refine ⟨(((hk3.trans (KeepsOthers.setCell _ _ _)).trans (KeepsOthers.setCell _ _ _)).trans (KeepsOthers.setCell _ _ _)).trans (KeepsOthers.drew _), rfl, 11, rdi_many hp hsk hz2 h400, q0, ?_, q2, q3⟩
            rw [List.length_append]
            exact q1
          · have hq4 : ((l.length : Int) == 400) = false := by simp; omega
            have HI := infoEnt
            cases i0 : Tryd.prog.info? 54 with
            | none => rw [i0] at HI; cases HI
            | some ii =>
            rw [i0] at HI
            simp only [Option.map_some, Option.some.injEq, Prod.mk.injEq] at HI
            have hrow := (v2'.alloc (.cells (entC z).toArray 54)).alloc (.cells (entC z).toArray 54)
            gi_wp2_with (gi_at_builtin; go_must (refine wpLIn_append rfl _ _ rfl 54 ii (.agg #[.int .i64 0, .int .i64 0, .int .i64 0, .int .i64 0, .int .i64 0, .int .i64 0, .int .i64 0, .int .i64 0]) 8 64 Tryd.underlying45 i0 HI.1 HI.2.1 HI.2.2 rfl (by decide) (.slice pb l.length pd) l.length (entL l) rfl hrow ⟨W2.heap.size + 1, 0, none⟩ 1 1 (entC z) rfl rfl ?c0 ?c1 ?c2 ?c3 ?_); go_must (case c0 => (have := cell_news (W2.alloc (.cells (entC z).toArray 54)) (entC z) 54; simpa [entC] using this)); go_must (case c1 => (simp [entC, Value.oneCell'])); go_must (case c2 => (unfold maxLen; omega)); go_must (case c3 => (omega)); go_must (intro v5 w5 hown5 hg5 hnew5); go_must (obtain ⟨pe, pf, rfl⟩ := srow_shape hown5); go_must (have hb5 := grown_box hg5 ((heap_alloc_old _ _ _ (by simp; omega)).trans ((heap_alloc_old _ _ _ hz3).trans v1')) (fun e => absurd (v3' _ e) (by omega))); go_must (have d5 := cell?_of_heap (o := 0) hb5); go_must (have f5 := frozen?_of_heap (o := 0) hb5); go_must (simp at d5))
            obtain ⟨u1, u2, u3⟩ := hs2.put (z := z) (Nat.le_refl _) _ _ rfl v1' v3' (fun x hx => row_cells v2' hx) hg5 hown5 hnew5
            refine ⟨hk2.trans u2, fun b hb => ?_, l ++ [z], rdi_more hp hsk hz2 h400, ?_⟩
            · have hbl : b < w.heap.size + 8 ∧ b ≠ w.heap.size + 4 ∧ b ≠ w.heap.size + 3 := by simp at hb; omega
              have hsz := hs.sz
              have hlt : b < W.heap.size := by omega
              have hob := Array.getElem?_eq_getElem hlt
              rw [hob]
              refine u3 b _ ?_ hbl.2.2 (fun x hx e => by have := v3' x hx; omega)
              exact (b2.block _ (by simpa using hlt)).trans ((heap_setCell_other (by simpa using hbl.2.1)).trans hob)
            · rw [List.length_append]
              exact u1
        · have hs2 := hs.next b2 (Nat.le_refl _)
          have hk2 := hk1.trans (keeps_below b2)
          unfold enV PEn.none
          gi_wp2
          refine wpIn_at fun W3 hW3 => ?_
          have hs3 : RdS w w.heap.size (pre.length + 1) l W3 := by
            rw [hW3]
            exact hs2.alloc (Nat.le_refl _) _
          have hk3 : KeepsOthers W W3 := by
            rw [hW3]
            exact hk2.trans (KeepsOthers.alloc _ _)
          clear hW3 hs2
          have e0 := cell?_of_heap (o := 0) hs3.c0
          have e1 := cell?_of_heap (o := 0) hs3.c1
          have e2 := cell?_of_heap (o := 0) hs3.c2
          have e4 := cell?_of_heap (o := 0) hs3.c4
          have g0 := frozen?_of_heap (o := 0) hs3.c0
          have g1 := frozen?_of_heap (o := 0) hs3.c1
          have g2 := frozen?_of_heap (o := 0) hs3.c2
          simp at e0 e1 e2 e4
          refine wpIn_region_held_drew (S := fun w' => w'.cell? ⟨w.heap.size + 4, 0, none⟩ = some (.int .i64 (pre.length + 1))) (by kernel_rfl) (by kernel_rfl) ?_ (fun hHeld => ?_)
          · exact e4
          refine wpAnyH_take (i := 0) (oi := _) (v := ?_) rfl (by kernel_rfl) (by kernel_rfl) (by kernel_rfl) (fun _ _ _ h => h) (Or.inl ⟨by rfl, ?_⟩) (by assumption) ?_
          rotate_left
          · intro w hSw; (try dsimp only at hSw); go_simp; try with_reducible rfl
          try simp only [Act.put, List.getElem_toArray, List.getElem_cons_zero, List.setIfInBounds_toArray, List.set_cons_zero, List.set_cons_succ]
          refine wpAnyH_ready (rs := [1]) (by kernel_rfl) (by simp) ?_
          refine AllReadyH.cons (o := _) rfl (fun K hK => ?_) AllReadyH.nil
          go_simp
          refine hK.out _ _ ?_ (fun hHeld => ?_)
          · exact (World.cell?_of_block (a := ⟨w.heap.size + 4, 0, none⟩) (heap_setCell_other (by dsimp only; omega))).trans hHeld
          clear hK K
          try simp only [Act.put, List.getElem_toArray, List.getElem_cons_zero, List.getElem_cons_succ, List.setIfInBounds_toArray, List.set_cons_zero, List.set_cons_succ]
          refine wpAnyH_ready (rs := [2]) (by kernel_rfl) (by simp) ?_
          refine AllReadyH.cons (o := _) rfl (fun K hK => ?_) AllReadyH.nil
          go_simp
          refine hK.out _ _ ?_ (fun hHeld => ?_)
          · exact (World.cell?_of_block (a := ⟨w.heap.size + 4, 0, none⟩) (heap_setCell_other (by dsimp only; omega))).trans hHeld
          clear hK K
          try simp only [Act.put, List.getElem_toArray, List.getElem_cons_zero, List.getElem_cons_succ, List.setIfInBounds_toArray, List.set_cons_zero, List.set_cons_succ]
          refine wpAnyH_ready (rs := [3]) (by kernel_rfl) (by simp) ?_
          refine AllReadyH.cons (o := _) rfl (fun K hK => ?_) AllReadyH.nil
          go_simp
          refine hK.out _ _ ?_ (fun hHeld => ?_)
          · exact (World.cell?_of_block (a := ⟨w.heap.size + 4, 0, none⟩) (heap_setCell_other (by dsimp only; omega))).trans hHeld
          clear hK K
          try simp only [Act.put, List.getElem_toArray, List.getElem_cons_zero, List.getElem_cons_succ, List.setIfInBounds_toArray, List.set_cons_zero, List.set_cons_succ]
          refine wpAnyH_done (by kernel_rfl) ?_ _
          refine NoPanic.normal ?_
          refine Only.normal ?_
          gi_wp2
          obtain ⟨q0, q1, q2, q3⟩ := rd_out hs3 (Nat.le_refl _) (pre.length + 1) 10
          refine ⟨(((hk3.trans (KeepsOthers.setCell _ _ _)).trans (KeepsOthers.setCell _ _ _)).trans (KeepsOthers.setCell _ _ _)).trans (KeepsOthers.drew _), rfl, 10, rdi_none hp hsk hz2, q0, ?_, q2, q3⟩
          rw [List.length_append]
          exact q1
  case done =>
    rintro D ys W hD rfl ⟨l, hp, hs⟩ hK
    obtain ⟨v, v1, v2, v3⟩ := hs.c3
    obtain ⟨pa, pc, rfl⟩ := srow_shape v2
    have d3 := cell?_of_heap (o := 0) v1
    have d4 := cell?_of_heap (o := 0) hs.c4
    have d0 := cell?_of_heap (o := 0) hs.c0
    have d1 := cell?_of_heap (o := 0) hs.c1
    have d2 := cell?_of_heap (o := 0) hs.c2
    simp at d0 d1 d2 d3 d4
    have f0 := frozen?_of_heap (o := 0) hs.c0
    have f1 := frozen?_of_heap (o := 0) hs.c1
    have f2 := frozen?_of_heap (o := 0) hs.c2
    gi_wp2
    gi_region
    all_goals gi_wp2
    have hDr : w.heap.size + 8 ≤ D := by omega
    have hK2 : ((((W.setCell ⟨w.heap.size, 0, none⟩ (.slice pa l.length pc)).setCell ⟨w.heap.size + 1, 0, none⟩ (.int .i64 (cutAt 10 s).length)).setCell ⟨w.heap.size + 1 + 1, 0, none⟩ (.int .i64 0)).drew).heap[D]? = some (.deferred (some [])) := (heap_setCell_other (by omega)).trans ((heap_setCell_other (by omega)).trans ((heap_setCell_other (by omega)).trans hK))
    have hne : ∀ x, (Value.slice pa l.length pc).ownBlock = some x → x ≠ D := fun x hx e => by
      obtain ⟨ob, q1, q2⟩ := row_cells v2 hx
      rw [e, hK] at q1
      cases q1
      cases q2
    have r0 : ((((W.setCell ⟨w.heap.size, 0, none⟩ (.slice pa l.length pc)).setCell ⟨w.heap.size + 1, 0, none⟩ (.int .i64 (cutAt 10 s).length)).setCell ⟨w.heap.size + 1 + 1, 0, none⟩ (.int .i64 0)).drew.putObj D (.deferred none)).heap[w.heap.size]? = some (.cells #[.slice pa l.length pc] 45) := (World.putObj_heap_other (by omega)).trans ((heap_setCell_other (by omega)).trans ((heap_setCell_other (by omega)).trans (heap_setCell_same hs.c0)))
    have r1 : ((((W.setCell ⟨w.heap.size, 0, none⟩ (.slice pa l.length pc)).setCell ⟨w.heap.size + 1, 0, none⟩ (.int .i64 (cutAt 10 s).length)).setCell ⟨w.heap.size + 1 + 1, 0, none⟩ (.int .i64 0)).drew.putObj D (.deferred none)).heap[w.heap.size + 1]? = some (.cells #[.int .i64 (cutAt 10 s).length] 3) := (World.putObj_heap_other (by omega)).trans ((heap_setCell_other (by omega)).trans (heap_setCell_same ((heap_setCell_other (by omega)).trans hs.c1)))
    have r2 : ((((W.setCell ⟨w.heap.size, 0, none⟩ (.slice pa l.length pc)).setCell ⟨w.heap.size + 1, 0, none⟩ (.int .i64 (cutAt 10 s).length)).setCell ⟨w.heap.size + 1 + 1, 0, none⟩ (.int .i64 0)).drew.putObj D (.deferred none)).heap[w.heap.size + 1 + 1]? = some (.cells #[.int .i64 0] 24) := (World.putObj_heap_other (by omega)).trans (heap_setCell_same ((heap_setCell_other (by omega)).trans ((heap_setCell_other (by omega)).trans hs.c2)))
    have k0 := cell?_of_heap (o := 0) r0
    have k1 := cell?_of_heap (o := 0) r1
    have k2 := cell?_of_heap (o := 0) r2
    simp only [List.getElem?_toArray, List.getElem?_cons_zero] at k0 k1 k2
    refine ⟨by simp, .inl ⟨_, _, rfl, run_takeDeferred hK2, ?_⟩⟩
    refine ⟨.tuple #[.slice pa l.length pc, .int .i64 (cutAt 10 s).length, .int .i64 0], by simp [results, Tryd.results19, go_sem, k0, k1, k2], ?_⟩
    rw [HR.out, rdi_done hp]
    refine ⟨pa, pc, rfl, ownsRow_block v2 fun x hx => ?_, fun x hx => by have := v3 x hx; omega, ?_⟩
    · have := v3 x hx
      exact (World.putObj_heap_other (hne x hx)).trans ((heap_setCell_other (by omega)).trans ((heap_setCell_other (by omega)).trans (heap_setCell_other (by omega))))
    · exact ((((hs.bel.setCell (Nat.le_refl _) _).setCell (by dsimp only; omega) _).setCell (by dsimp only; omega) _).drew).grown (grownBy_putObj' _ D _) (by simp; exact hs.bel.size) (fun q e => by cases e; omega)
  case stop =>
    rintro D c pre W hD ⟨rest, hpre⟩ ⟨rfl, x, hx, g0, g1, g2, gb⟩ hK
    have d0 := cell?_of_heap (o := 0) g0
    have d1 := cell?_of_heap (o := 0) g1
    have d2 := cell?_of_heap (o := 0) g2
    simp at d0 d1 d2
    gi_wp2
    refine ⟨by simp, .inl ⟨_, _, rfl, run_takeDeferred hK, ?_⟩⟩
    have hDr : w.heap.size + 8 ≤ D := by omega
    have k0 : (W.putObj D (.deferred none)).cell? ⟨w.heap.size, 0, none⟩ = some (.slice none 0 0) := (World.cell?_of_block (a := ⟨w.heap.size, 0, none⟩) (World.putObj_heap_other (by dsimp only; omega))).trans d0
    have k1 : (W.putObj D (.deferred none)).cell? ⟨w.heap.size + 1, 0, none⟩ = some (.int .i64 pre.length) := (World.cell?_of_block (a := ⟨w.heap.size + 1, 0, none⟩) (World.putObj_heap_other (by dsimp only; omega))).trans d1
    have k2 : (W.putObj D (.deferred none)).cell? ⟨w.heap.size + 1 + 1, 0, none⟩ = some (.int .i64 x) := (World.cell?_of_block (a := ⟨w.heap.size + 2, 0, none⟩) (World.putObj_heap_other (by dsimp only; omega))).trans d2
    have hres : readF s = ([], pre.length, x) := by rw [HR.out, ← hpre]; exact hx rest
    refine ⟨.tuple #[.slice none 0 0, .int .i64 pre.length, .int .i64 x], by simp [results, Tryd.results19, go_sem, k0, k1, k2], ?_⟩
    exact read_nil (n := pre.length) hres (gb.grown (grownBy_putObj' W D _) gb.size (fun q e => by cases e; omega))
end Go.Proofs.YtloilknkhloegaaDoor
