/- maps whose keys are pairs of numbers, as sets: for the pending lines. -/
import Derived.Test.YtdfjgaeiodjmnaaHeap
import Derived.DeepKeys4
import Derived.Maps.RangeWalk
set_option linter.unusedSimpArgs false
set_option linter.unusedVariables false
namespace Go.Proofs.Ytdfjgaeiodjmnaa
open Go.RowKit
open Go.ChangeMaps (setBlock)

def pairKey (p : Int × Int) : Value := .agg #[.int .i64 p.1, .int .i64 p.2]
theorem pairKey_inj {p q : Int × Int} (h : pairKey p = pairKey q) : p = q := by
  simp [pairKey] at h
  exact Prod.ext h.1 h.2
def I64p (p : Int × Int) : Prop := (-9223372036854775808 ≤ p.1 ∧ p.1 ≤ 9223372036854775807) ∧ (-9223372036854775808 ≤ p.2 ∧ p.2 ≤ 9223372036854775807)

/-- what the walk needs of the key's type. -/
structure PairLaw (P : Program) (k : TypeId) : Prop where
  law : WideMaps.KeyLaw P k
  key : ∀ p, I64p p → ∃ l, keyOf P k (pairKey p) = some l

/-- the entries, and what they are. -/
structure PEs (es : Array MapEntry) (clk : Nat) (l : List (Int × Int)) : Prop where
  kv : es.toList.map (fun e => (e.key, e.val)) = l.map (fun p => (pairKey p, Value.int .i64 1))
  nd : l.Nodup
  lt : ∀ e ∈ es.toList, e.born < clk
  bnd : (es.toList.map (·.born)).Nodup
  wf : ∀ p ∈ l, I64p p
def PMap (w : World) (b : Nat) (l : List (Int × Int)) : Prop := ∃ es clk, w.heap[b]? = some (.map es clk) ∧ PEs es clk l

theorem PMap.block {w w' : World} {b : Nat} {l : List (Int × Int)} (h : PMap w b l) (hb : w'.heap[b]? = w.heap[b]?) : PMap w' b l := by
  obtain ⟨es, clk, h1, h2⟩ := h
  exact ⟨es, clk, hb.trans h1, h2⟩
theorem PMap.made (w : World) : PMap (w.alloc (.map #[] 0)) w.heap.size [] := ⟨#[], 0, heap_alloc_new w _, rfl, by simp, by simp, by simp, by simp⟩
theorem PMap.lt {w : World} {b : Nat} {l : List (Int × Int)} (h : PMap w b l) : b < w.heap.size := by
  obtain ⟨es, clk, h1, -⟩ := h
  exact (Array.getElem?_eq_some_iff.1 h1).1

section
variable {es : Array MapEntry} {clk : Nat} {l : List (Int × Int)}
theorem PEs.keys (h : PEs es clk l) : es.toList.map (·.key) = l.map pairKey := by
  have := congrArg (List.map Prod.fst) h.kv
  simpa [List.map_map, Function.comp_def] using this
theorem PEs.mem (h : PEs es clk l) {e : MapEntry} (he : e ∈ es.toList) : ∃ p ∈ l, e.key = pairKey p ∧ e.val = .int .i64 1 := by
  have h1 : (e.key, e.val) ∈ es.toList.map (fun e => (e.key, e.val)) := List.mem_map.2 ⟨e, he, rfl⟩
  rw [h.kv] at h1
  obtain ⟨p, hp, h2⟩ := List.mem_map.1 h1
  simp only [Prod.mk.injEq] at h2
  exact ⟨p, hp, h2.1.symm, h2.2.symm⟩
theorem PEs.at_ (h : PEs es clk l) {j : Nat} {e : MapEntry} (he : es[j]? = some e) : ∃ p, l[j]? = some p ∧ e.key = pairKey p ∧ e.val = .int .i64 1 := by
  have h1 : (es.toList.map (fun e => (e.key, e.val)))[j]? = some (e.key, e.val) := by simp [he]
  rw [h.kv] at h1
  simp only [List.getElem?_map, Option.map_eq_some_iff, Prod.mk.injEq] at h1
  obtain ⟨p, hp, h2, h3⟩ := h1
  exact ⟨p, hp, h2.symm, h3.symm⟩
theorem PEs.has (h : PEs es clk l) {p : Int × Int} (hp : p ∈ l) : ∃ e ∈ es.toList, e.key = pairKey p := by
  have h1 : pairKey p ∈ l.map pairKey := List.mem_map.2 ⟨p, hp, rfl⟩
  rw [← h.keys] at h1
  obtain ⟨e, he, h2⟩ := List.mem_map.1 h1
  exact ⟨e, he, h2⟩
theorem PEs.law {P : Program} {k : TypeId} (h : PEs es clk l) (K : PairLaw P k) : ∀ e ∈ es.toList, ∃ x, keyOf P k e.key = some x := by
  intro e he
  obtain ⟨p, hp, h1, -⟩ := h.mem he
  rw [h1]
  exact K.key p (h.wf p hp)
theorem nodup_inj {α β : Type} {f : α → β} : ∀ {l : List α}, (l.map f).Nodup → ∀ {x y : α}, x ∈ l → y ∈ l → f x = f y → x = y
  | [], _, _, _, hx, _, _ => by simp at hx
  | a :: l, hn, x, y, hx, hy, h => by
    obtain ⟨h1, h2⟩ := List.nodup_cons.1 hn
    rcases List.mem_cons.1 hx with ex | hx' <;> rcases List.mem_cons.1 hy with ey | hy'
    · rw [ex, ey]
    · exact absurd (List.mem_map.2 ⟨y, hy', by rw [← h, ex]⟩) h1
    · exact absurd (List.mem_map.2 ⟨x, hx', by rw [h, ey]⟩) h1
    · exact nodup_inj h2 hx' hy' h
theorem nodup_pairs {l : List (Int × Int)} (h : l.Nodup) : (l.map pairKey).Nodup := by
  unfold List.Nodup at h ⊢
  rw [List.pairwise_map]
  exact h.imp fun hne e => hne (pairKey_inj e)
theorem filt_keys {p : Int × Int} {n : Nat} : ∀ {L : List MapEntry} {rem : List (Int × Int)}, L.map (·.key) = rem.map pairKey → (∀ x ∈ L, (x.born = n ↔ x.key = pairKey p)) →
    (L.filter fun x => !(x.born == n)).map (·.key) = (rem.filter fun q => q ≠ p).map pairKey
  | [], [], _, _ => rfl
  | [], _ :: _, h, _ => by simp at h
  | _ :: _, [], h, _ => by simp at h
  | x :: L, q :: rem, h, hx => by
    simp only [List.map_cons, List.cons.injEq] at h
    have ih := filt_keys (p := p) (n := n) h.2 (fun y hy => hx y (by simp [hy]))
    have h1 := hx x (by simp)
    rw [h.1] at h1
    by_cases hq : q = p
    · subst hq
      have hb : x.born = n := h1.2 rfl
      rw [List.filter_cons, if_neg (by simp [hb]), List.filter_cons, if_neg (by simp)]
      exact ih
    · have hb : x.born ≠ n := fun e => hq (pairKey_inj (h1.1 e))
      rw [List.filter_cons, if_pos (by simp [hb]), List.filter_cons, if_pos (by simpa using hq), List.map_cons, List.map_cons, ih, h.1]
end

/-! ### the operations -/
section
variable {P : Program} {w : World} {t K E : TypeId} {b : Nat} {l : List (Int × Int)}

theorem grown_set {o o' : Obj} (hb : w.heap[b]? = some o) : w.grownBy { w with heap := w.heap.setIfInBounds b o' } (some b) ∧ ({ w with heap := w.heap.setIfInBounds b o' } : World).heap[b]? = some o' :=
  ⟨⟨rfl, rfl, rfl, by simp, fun i _ hi => (MapKept.heap_set hb).2 i (fun e => hi (by rw [e]))⟩, (MapKept.heap_set hb).1⟩

theorem run_pupdate (h : PMap w b l) (L : PairLaw P K) (ht : P.underlying t = some (.map K E)) {p : Int × Int} (hp : I64p p) :
    ∃ w', (Instr.mapUpdate t (.map (some b)) (pairKey p) (.int .i64 1)).run P w = .ok () w' ∧ PMap w' b (if p ∈ l then l else l ++ [p]) ∧ w.grownBy w' (some b) := by
  obtain ⟨es, clk, hb, hes⟩ := h
  obtain ⟨x, hx⟩ := L.key p hp
  have hck := L.law.check w false hx
  rcases L.law.find w hx es.toList (hes.law L) with ⟨hf, hno⟩ | ⟨j, e, hf, hj, hk⟩
  · have hnp : p ∉ l := fun hm => by
      obtain ⟨e, he, h1⟩ := hes.has hm
      exact hno e he h1
    rw [if_neg hnp]
    refine ⟨_, ?_, ⟨es.push { key := pairKey p, val := .int .i64 1, born := clk }, clk + 1, (grown_set hb).2, ?_⟩, (grown_set hb).1⟩
    · simp [Instr.mapUpdate, run_underlying ht, hck, hf, MapKept.run_getObj_map hb, MapKept.run_setObj_map _ hb, Result.andThen]
    · refine ⟨by simp [hes.kv], ?_, ?_, ?_, ?_⟩
      · rw [List.nodup_append]
        exact ⟨hes.nd, by simp, fun a ha c hc => by simp at hc; subst hc; exact fun e => hnp (e ▸ ha)⟩
      · intro e he
        simp at he
        rcases he with he | rfl
        · have := hes.lt e (by simpa using he); omega
        · show clk < clk + 1; omega
      · simp only [Array.toList_push, List.map_append, List.map_cons, List.map_nil, List.nodup_append]
        refine ⟨hes.bnd, by simp, fun a ha c hc => ?_⟩
        simp at hc
        subst hc
        obtain ⟨e, he, rfl⟩ := List.mem_map.1 ha
        have := hes.lt e he
        omega
      · intro q hq
        simp at hq
        rcases hq with hq | rfl
        · exact hes.wf q hq
        · exact hp
  · have hj' : es[j]? = some e := by simpa using hj
    obtain ⟨q, hq, h1, h2⟩ := hes.at_ hj'
    have hqp : q = p := pairKey_inj (h1.symm.trans hk)
    subst hqp
    have hm : q ∈ l := List.mem_of_getElem? hq
    rw [if_pos hm]
    have hst : (Instr.keyThatStays (((es[j]?).map (·.key)).getD (pairKey q)) (pairKey q)).run P w = .ok (pairKey q) w := by
      rw [hj']; simp only [Option.map_some, Option.getD_some, hk]; exact L.law.stays w hx
    have hme : es.modify j (fun e => { e with key := pairKey q, val := .int .i64 1 }) = es := by
      apply Array.ext'
      apply List.ext_getElem?
      intro i
      simp only [Array.toList_modify, List.getElem?_modify]
      by_cases hij : j = i
      · subst hij
        have hee : es.toList[j]? = some e := by simpa using hj'
        rw [hee]
        simp [← h1, ← h2]
      · simp [hij]
    refine ⟨_, ?_, ⟨es, clk, (grown_set hb).2, hes⟩, (grown_set hb).1⟩
    simp only [Instr.mapUpdate]
    rw [hj'] at hst
    simp only [Option.map_some, Option.getD_some] at hst
    simp [run_underlying ht, hck, hf, MapKept.run_getObj_map hb, MapKept.run_setObj_map _ hb, hj', hst, Result.andThen, hme]

theorem erase_filter {l : List (Int × Int)} (hn : l.Nodup) {j : Nat} {p : Int × Int} (hj : l[j]? = some p) : l.eraseIdx j = l.filter fun q => q ≠ p := by
  induction l generalizing j with
  | nil => simp at hj
  | cons a r ih =>
    obtain ⟨hn1, hn2⟩ := List.nodup_cons.1 hn
    cases j with
    | zero =>
      simp at hj
      subst hj
      have : r.filter (fun q => decide (q ≠ a)) = r := List.filter_eq_self.2 (fun q hq => by simp; exact fun e => hn1 (e ▸ hq))
      rw [List.eraseIdx_cons_zero, List.filter_cons, if_neg (by simp)]
      exact this.symm
    | succ j =>
      have hj2 : r[j]? = some p := by simpa using hj
      have hne : a ≠ p := fun e => hn1 (e ▸ List.mem_of_getElem? hj2)
      rw [List.eraseIdx_cons_succ, ih hn2 hj2, List.filter_cons, if_pos (by simpa using hne)]

theorem nodup_eraseIdx {α : Type} {l : List α} (h : l.Nodup) (j : Nat) : (l.eraseIdx j).Nodup := h.sublist (List.eraseIdx_sublist l j)

theorem run_pdelete (h : PMap w b l) (L : PairLaw P K) (ht : P.underlying t = some (.map K E)) {p : Int × Int} (hp : I64p p) (ty : TypeId) :
    ∃ w', (Builtin.delete_ #[t, K] ty #[.map (some b), pairKey p]).run P w = .ok (.tuple #[]) w' ∧ PMap w' b (l.filter fun q => q ≠ p) ∧ w.grownBy w' (some b) := by
  obtain ⟨es, clk, hb, hes⟩ := h
  obtain ⟨x, hx⟩ := L.key p hp
  have hck := L.law.check w es.isEmpty hx
  rcases L.law.find w hx es.toList (hes.law L) with ⟨hf, hno⟩ | ⟨j, e, hf, hj, hk⟩
  · have hfl : (l.filter fun q => q ≠ p) = l := List.filter_eq_self.2 (fun q hq => by
      simp
      intro e
      subst e
      obtain ⟨e, he, h1⟩ := hes.has hq
      exact hno e he h1)
    rw [hfl]
    refine ⟨_, ?_, ⟨es, clk, (grown_set hb).2, hes⟩, (grown_set hb).1⟩
    simp [Builtin.delete_, run_underlying ht, hck, hf, MapKept.run_getObj_map hb, MapKept.run_setObj_map _ hb, Result.andThen]
  · have hj' : es[j]? = some e := by simpa using hj
    obtain ⟨q, hq, h1, h2⟩ := hes.at_ hj'
    have hqp : q = p := pairKey_inj (h1.symm.trans hk)
    subst hqp
    rw [← erase_filter hes.nd hq]
    have htl : (es.eraseIdxIfInBounds j).toList = es.toList.eraseIdx j := by
      have hjs := (Array.getElem?_eq_some_iff.1 hj').1
      simp [Array.eraseIdxIfInBounds, hjs]
    refine ⟨_, ?_, ⟨es.eraseIdxIfInBounds j, clk, (grown_set hb).2, ?_⟩, (grown_set hb).1⟩
    · simp [Builtin.delete_, run_underlying ht, hck, hf, MapKept.run_getObj_map hb, MapKept.run_setObj_map _ hb, Result.andThen]
    · refine ⟨?_, nodup_eraseIdx hes.nd j, ?_, ?_, fun p hp => hes.wf p (List.mem_of_mem_eraseIdx hp)⟩
      · rw [htl, Go.ChangeMaps.map_eraseIdx, hes.kv, Go.ChangeMaps.map_eraseIdx]
      · intro e he
        rw [htl] at he
        exact hes.lt e (List.mem_of_mem_eraseIdx he)
      · rw [htl, Go.ChangeMaps.map_eraseIdx]
        exact nodup_eraseIdx hes.bnd j

theorem run_pclear (h : PMap w b l) (ht : P.underlying t = some (.map K E)) (ty : TypeId) :
    ∃ w', (Builtin.clear_ #[t] ty #[.map (some b)]).run P w = .ok (.tuple #[]) w' ∧ PMap w' b [] ∧ w.grownBy w' (some b) := by
  obtain ⟨es, clk, hb, hes⟩ := h
  refine ⟨_, ?_, ⟨#[], clk, (grown_set hb).2, rfl, by simp, by simp, by simp, by simp⟩, (grown_set hb).1⟩
  simp [Builtin.clear_, run_underlying ht, MapKept.run_getObj_map hb, MapKept.run_setObj_map _ hb, Result.andThen]

/-! ### a range under way -/
/-- rem: the pairs that are still to come. -/
def PRng (w : World) (b r : Nat) (l rem : List (Int × Int)) : Prop := ∃ es clk since seen c0, w.heap[b]? = some (.map es clk) ∧ PEs es clk l ∧ w.heap[r]? = some (.mapIter (some b) since seen c0) ∧
  (∀ e ∈ es.toList, e.born < since) ∧ since ≤ c0 ∧ since ≤ clk ∧ (leftOf es seen).toList.map (·.key) = rem.map pairKey ∧ (∀ p ∈ rem, p ∈ l)

theorem PRng.map {r : Nat} {rem : List (Int × Int)} (h : PRng w b r l rem) : PMap w b l := by
  obtain ⟨es, clk, _, _, _, h1, h2, _⟩ := h
  exact ⟨es, clk, h1, h2⟩
theorem PRng.lt {r : Nat} {rem : List (Int × Int)} (h : PRng w b r l rem) : r < w.heap.size := by
  obtain ⟨es, clk, _, _, _, h1, h2, h3, _⟩ := h
  exact (Array.getElem?_eq_some_iff.1 h3).1
theorem PRng.block {w' : World} {r : Nat} {rem : List (Int × Int)} (h : PRng w b r l rem) (h1 : w'.heap[b]? = w.heap[b]?) (h2 : w'.heap[r]? = w.heap[r]?) : PRng w' b r l rem := by
  obtain ⟨es, clk, s, n, c, q1, q2, q3, q4⟩ := h
  exact ⟨es, clk, s, n, c, h1.trans q1, q2, h2.trans q3, q4⟩

theorem run_prange (h : PMap w b l) (ht : P.underlying t = some (.map K E)) :
    ∃ w', (Instr.range t (.map (some b))).run P w = .ok (.pointer (some ⟨w.heap.size, 0, none⟩)) w' ∧ PRng w' b w.heap.size l l ∧ Below w.heap.size w w' ∧ w'.heap.size = w.heap.size + 1 := by
  have hlt := h.lt
  obtain ⟨es, clk, hb, hes⟩ := h
  refine ⟨_, run_range_map w t K E b es clk ht hb, ⟨es, clk, clk, #[], clk, ((MapKept.heap_alloc w _).2 b hlt).trans hb, hes, (MapKept.heap_alloc w _).1, hes.lt, Nat.le_refl _, Nat.le_refl _, ?_, fun p hp => hp⟩, (Below.refl _ _).alloc (Nat.le_refl _) _, by simp⟩
  rw [← hes.keys]
  congr 1
  unfold leftOf
  simp

theorem left_push (es : Array MapEntry) (seen : Array Nat) (x : Nat) : (leftOf es (seen.push x)).toList = (leftOf es seen).toList.filter fun e => !(e.born == x) := by
  unfold leftOf
  simp only [Array.toList_filter, List.filter_filter]
  congr 1
  funext e
  rw [Array.contains_push, Bool.not_or, Bool.and_comm, Bool.beq_comm]

theorem run_pnext {r : Nat} {rem : List (Int × Int)} (h : PRng w b r l rem) (ty : TypeId) :
    (rem = [] ∧ (Instr.next (.pointer (some ⟨r, 0, none⟩)) false ty).run P w = .ok (.tuple #[.bool false]) w) ∨
    ∃ p w', p ∈ rem ∧ (Instr.next (.pointer (some ⟨r, 0, none⟩)) false ty).run P w = .ok (.tuple #[.bool true, pairKey p, .int .i64 1]) w' ∧ PRng w' b r l (rem.filter fun q => q ≠ p) ∧ w.grownBy w' (some r) ∧ w'.heap.size = w.heap.size ∧
      (Instr.entry (.pointer (some ⟨r, 0, none⟩))).run P w' = .ok (.tuple #[pairKey p, .int .i64 1]) w' := by
  obtain ⟨es, clk, since, seen, c0, hb, hes, hr, hold, hsc, hsk, hrem, hsub⟩ := h
  have hne : r ≠ b := by intro e; subst e; rw [hb] at hr; cases hr
  rcases run_next_at (P := P) w ty r b since c0 seen es clk hr hb hold hsc with ⟨h0, hrun⟩ | ⟨e, he, w1, hal, hrun⟩
  · refine Or.inl ⟨?_, hrun⟩
    have hz : (leftOf es seen).toList = [] := List.eq_nil_of_length_eq_zero (by simpa using h0)
    rw [hz] at hrem
    simpa using hrem.symm
  · have hem : e ∈ es.toList := by unfold leftOf at he; simp at he; simpa using he.1
    obtain ⟨p, hpl, hk, hv⟩ := hes.mem hem
    have hpr : p ∈ rem := by
      have h1 : e.key ∈ (leftOf es seen).toList.map (·.key) := List.mem_map.2 ⟨e, he, rfl⟩
      rw [hrem, hk] at h1
      obtain ⟨q, hq, h2⟩ := List.mem_map.1 h1
      rwa [← pairKey_inj h2]
    have hr1 : w1.heap[r]? = some (.mapIter (some b) since seen c0) := by rcases hal with rfl | rfl <;> exact hr
    have hb1 : w1.heap[b]? = some (.map es clk) := by rcases hal with rfl | rfl <;> exact hb
    have hset := MapKept.heap_set (o' := .mapIter (some b) since (seen.push e.born) clk) hr1
    have hb' : (setBlock w1 r (.mapIter (some b) since (seen.push e.born) clk)).heap[b]? = some (.map es clk) := (hset.2 b (fun e1 => hne e1.symm)).trans hb1
    refine Or.inr ⟨p, _, hpr, by rw [← hk, ← hv]; exact hrun, ⟨es, clk, since, seen.push e.born, clk, hb', hes, hset.1, hold, hsk, hsk, ?_, ?_⟩, ?_, ?_, by rw [← hk, ← hv]; exact run_entry_at _ r b since seen es clk e hset.1 hb' hem hes.bnd⟩
    · rw [left_push]
      have hkn : (es.toList.map (·.key)).Nodup := by
        rw [hes.keys]
        exact nodup_pairs hes.nd
      refine filt_keys hrem fun x hx => ?_
      have hxm : x ∈ es.toList := by unfold leftOf at hx; simp at hx; simpa using hx.1
      exact ⟨fun h => by rw [nodup_inj hes.bnd hxm hem h, hk], fun h => by rw [nodup_inj hkn hxm hem (h.trans hk.symm)]⟩
    · intro q hq
      exact hsub q (List.mem_filter.1 hq).1
    · rcases hal with rfl | rfl <;> exact ⟨rfl, rfl, rfl, by simp [setBlock], fun i _ hi => hset.2 i (fun e1 => hi (by rw [e1]))⟩
    · rcases hal with rfl | rfl <;> simp [setBlock]

/-! ### at the operations -/
variable {ops : Array Oper} {rest : List Oper} {o : Oper} {a : Act} {Q : Exit → Act → World → Prop}

theorem wpL_pupdate (hg : o.guard = none) (m x y : Operand) (hop : o.op = Op.mapUpdate t m x y) (h : PMap w b l) (L : PairLaw P K) (ht : P.underlying t = some (.map K E)) (p : Int × Int) (hp : I64p p)
    (hm : a.eval m = .map (some b)) (hx : a.eval x = pairKey p) (hy : a.eval y = .int .i64 1)
    (hK' : ∀ w', PMap w' b (if p ∈ l then l else l ++ [p]) → w.grownBy w' (some b) → wpList P ops Q rest (a.put o.dst undef) w') :
    wpList P ops Q (o :: rest) a w := by
  refine wpList_plain hg fun K2 hK2 => ?_
  obtain ⟨w', hrun, h1, h2⟩ := run_pupdate (P := P) h L ht hp
  unfold Oper.wp
  simp [execOp, hop, hm, hx, hy, hrun, Result.andThen]
  exact hK2 _ _ (hK' w' h1 h2)

theorem wpL_pdelete (hg : o.guard = none) (m x : Operand) (hop : o.op = Op.call { callee := Callee.builtin Builtin.delete, args := #[m, x], argTypes := #[t, K] }) (h : PMap w b l) (L : PairLaw P K) (ht : P.underlying t = some (.map K E)) (p : Int × Int) (hp : I64p p)
    (hm : a.eval m = .map (some b)) (hx : a.eval x = pairKey p)
    (hK' : ∀ w', PMap w' b (l.filter fun q => q ≠ p) → w.grownBy w' (some b) → wpList P ops Q rest (a.put o.dst (.tuple #[])) w') :
    wpList P ops Q (o :: rest) a w := by
  refine wpList_plain hg fun K2 hK2 => ?_
  obtain ⟨w', hrun, h1, h2⟩ := run_pdelete (P := P) h L ht hp o.type
  unfold Oper.wp
  simp [execOp, hop, hm, hx, resolve, invoke, builtin, hrun, Result.andThen]
  exact hK2 _ _ (hK' w' h1 h2)

theorem wpL_pclear (hg : o.guard = none) (m : Operand) (hop : o.op = Op.call { callee := Callee.builtin Builtin.clear, args := #[m], argTypes := #[t] }) (h : PMap w b l) (ht : P.underlying t = some (.map K E))
    (hm : a.eval m = .map (some b))
    (hK' : ∀ w', PMap w' b [] → w.grownBy w' (some b) → wpList P ops Q rest (a.put o.dst (.tuple #[])) w') :
    wpList P ops Q (o :: rest) a w := by
  refine wpList_plain hg fun K2 hK2 => ?_
  obtain ⟨w', hrun, h1, h2⟩ := run_pclear (P := P) h ht o.type
  unfold Oper.wp
  simp [execOp, hop, hm, resolve, invoke, builtin, hrun, Result.andThen]
  exact hK2 _ _ (hK' w' h1 h2)

theorem wpL_prange (hg : o.guard = none) (m : Operand) (hop : o.op = Op.range t m) (h : PMap w b l) (ht : P.underlying t = some (.map K E)) (hm : a.eval m = .map (some b))
    (hK' : ∀ w', PRng w' b w.heap.size l l → Below w.heap.size w w' → w'.heap.size = w.heap.size + 1 → wpList P ops Q rest (a.put o.dst (.pointer (some ⟨w.heap.size, 0, none⟩))) w') :
    wpList P ops Q (o :: rest) a w := by
  refine wpList_plain hg fun K2 hK2 => ?_
  obtain ⟨w', hrun, h1, h2, h3⟩ := run_prange (P := P) h ht
  unfold Oper.wp
  simp [execOp, hop, hm, hrun, Result.andThen]
  exact hK2 _ _ (hK' w' h1 h2 h3)

theorem wpL_pnext (hg : o.guard = none) (it : Operand) (hop : o.op = Op.next it false) {r : Nat} {rem : List (Int × Int)} (h : PRng w b r l rem) (hit : a.eval it = .pointer (some ⟨r, 0, none⟩))
    (hDone : rem = [] → wpList P ops Q rest (a.put o.dst (.tuple #[.bool false])) w)
    (hMore : ∀ p w', p ∈ rem → PRng w' b r l (rem.filter fun q => q ≠ p) → w.grownBy w' (some r) → w'.heap.size = w.heap.size → (Instr.entry (.pointer (some ⟨r, 0, none⟩))).run P w' = .ok (.tuple #[pairKey p, .int .i64 1]) w' →
      wpList P ops Q rest (a.put o.dst (.tuple #[.bool true, pairKey p, .int .i64 1])) w') :
    wpList P ops Q (o :: rest) a w := by
  refine wpList_plain hg fun K2 hK2 => ?_
  unfold Oper.wp
  rcases run_pnext (P := P) h o.type with ⟨h0, hrun⟩ | ⟨p, w', hp, hrun, h1, h2, h3, h4⟩
  · simp [execOp, hop, hit, hrun, Result.andThen]
    exact hK2 _ _ (hDone h0)
  · simp [execOp, hop, hit, hrun, Result.andThen]
    exact hK2 _ _ (hMore p w' hp h1 h2 h3 h4)
end
end Go.Proofs.Ytdfjgaeiodjmnaa
