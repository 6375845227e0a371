/- view: Put. -/
import Derived.Test.YtcicmljnjdhkjaaGreatView
import Derived.Deep.AppendLies
namespace Go.Proofs.YtcicmljnjdhkjaaGreat
open Go.RowKit

/-- how a view is put together again behind a change. -/
theorem PVs.rebuild {w w' : World} {b : Nat} {S : Nat → Prop} {s s' : VS} {fv wv rv pv rv' pv' : Value} {rd pt : Nat} (hv : PVs w b S s fv wv rv pv rd pt) (F : Fr S w w')
    (hc : w'.heap[b]? = some (.cells #[.int .i64 s'.n, fv, wv, .map (some rd), rv', .map (some pt), pv', .int .i64 (missI s'), .bool s'.miss.isSome] 109))
    (hmr : MapIs w' rd (readRows s'.reads)) (hmp : MapIs w' pt (putRows s'.writes))
    (hrr : w'.ownsRow 0 3 1 rv' s'.reads.length (intCells s'.reads)) (hpr : w'.ownsRow 0 119 2 pv' s'.writes.length (pairCells s'.writes))
    (hir : ∀ k, rv'.ownBlock = some k → S k ∨ w.heap.size ≤ k) (hip : ∀ k, pv'.ownBlock = some k → S k ∨ w.heap.size ≤ k)
    (hsrc : ∀ k, k < w.heap.size → (∃ cur, w.heap[k]? = some (.cells cur 37 (0, 0))) → w'.heap[k]? = w.heap[k]?)
    (hn : s'.n = s.n) (hk : s'.known = s.known) (hi : s'.Inv) : Now w b S s' w' := by
  obtain ⟨SF, hSF, mkSrc⟩ := hv.src.elem
  have su : ∀ k, S k → upd S w w' k := fun k hk => Or.inl hk
  refine ⟨⟨fv, wv, rv', pv', rd, pt, hc, hmr, hmp, hrr, hpr, ?_, hv.ne, su _ hv.inb, su _ hv.inr, su _ hv.inp, ?_, ?_, ?_, hi⟩, F⟩
  · exact mkSrc _ _ _ hn hk (fun k hk => su k (hSF k hk).1) (fun k hk => hsrc k (hSF k hk).2.1 (hSF k hk).2.2)
  · intro k hk
    rcases hir k hk with h | h
    · exact Or.inl h
    · exact Or.inr ⟨h, ownsRow_lt hrr hk⟩
  · intro k hk
    rcases hip k hk with h | h
    · exact Or.inl h
    · exact Or.inr ⟨h, ownsRow_lt hpr hk⟩
  · intro k hk
    rcases hk with hk | hk
    · exact Nat.lt_of_lt_of_le (hv.lt k hk) F.size
    · exact hk.2

theorem put_no (b : Nat) (i v : Int) (w : World) (S : Nat → Prop) (s : VS) (h : PV w b S s) (ht : s.there i = false) :
    Calls Tryz.prog 46 #[.pointer (some ⟨b, 0, none⟩), .int .i64 i, .int .u32 v] w fun e w' => e = .returned (.tuple #[]) ∧ w = w' := by
  have H := there_any b i w S s h
  rw [ht] at H
  have HH := Lib.hid H
  clear H
  go_enter Tryz.func46, Tryz.ntmps46
  go_wp2_with fail
  refine HH.out.mono ?_
  rintro e w1 ⟨rfl, rfl⟩
  go_wp2
  refine bodyPost_ret (results_none rfl _ _ _) rfl ?_
  exact ⟨rfl, rfl⟩

theorem pairCells_set {l : List (Nat × Int)} {j i : Nat} {u v : Int} (h : l[j]? = some (i, u)) : pairCells (l.set j (i, v)) = (pairCells l).set (j * 2 + 1) (.int .u32 v) := by
  induction l generalizing j with
  | nil => simp at h
  | cons p r ih =>
    cases j with
    | zero => simp at h; subst h; simp [pairCells]
    | succ j =>
      have := ih (j := j) (by simpa using h)
      unfold pairCells at this ⊢
      have e1 : (j + 1) * 2 + 1 = (j * 2 + 1) + 2 := by omega
      rw [e1]
      simp [this]

theorem put_old (b : Nat) (i v : Int) (w : World) (S : Nat → Prop) (s : VS) (h : PV w b S s) (hv : VS.U32 v) (ht : s.there i = true) (j : Nat) (hj : wix s.writes i.toNat = some j) :
    Calls Tryz.prog 46 #[.pointer (some ⟨b, 0, none⟩), .int .i64 i, .int .u32 v] w fun e w' => e = .returned (.tuple #[]) ∧ Now w b S (s.put i v) w' := by
  have H := there_any b i w S s h
  rw [ht] at H
  have HH := Lib.hid H
  clear H
  have hinv := h.inv.put i v hv
  have hput : s.put i v = { s with writes := s.writes.set j (i.toNat, v) } := by simp [VS.put, ht, VS.setW, hj]
  rw [hput] at hinv ⊢
  obtain ⟨h0, h1, -⟩ := VS.there_iff.1 ht
  obtain ⟨n, rfl⟩ := Int.eq_ofNat_of_zero_le h0
  simp only [Int.toNat_natCast] at hj hinv ⊢
  obtain ⟨fv, wv, rv, pv, rd, pt, hp⟩ := h
  obtain ⟨hjl, u, hu⟩ := wix_some hj
  obtain ⟨g, cap, rfl⟩ := Joins.ownsRow_form hp.pr (by omega)
  have hc1 := (hp.pr.cellAt (j * 2 + 1) (by omega)).trans (pair_cell hu).2
  have hf1 := hp.pr.frozenAt (j * 2 + 1)
  have ha : assoc (putRows s.writes) (n : Int) = some (j : Int) := by rw [assoc_put, hj]; rfl
  have c5 := hp.cell 5
  have c6 := hp.cell 6
  simp at c5 c6
  have hmp := Lib.hid hp.mp
  have hw := hp.inv.writes_le
  have hn := hp.inv.small
  have HV := Lib.hid hp
  have hU := Lib.hid hu
  have HI := Lib.hid hinv
  have HJ := Lib.hid hj
  clear hp ht hj hv hu hinv hput
  go_enter Tryz.func46, Tryz.ntmps46
  go_wp2_with fail
  refine HH.out.mono ?_
  rintro e w1 ⟨rfl, rfl⟩
  go_wp2_with (at_lookup; refine wpL_lookup rfl _ _ true rfl uMap Tryz.underlying3 (zInt _) pt (putRows s.writes) n rfl hmp.out rfl ?_; simp only [ha, if_true, Option.getD_some, Option.isSome_some])
  go_end0
  refine ⟨rfl, HV.out.rebuild ((Fr.refl _ _).setCell _ _ (Or.inl (HV.out.inpv g rfl))) ?_ ?_ ?_ ?_ ?_ (fun k hk => Or.inl (HV.out.inrv k hk)) (fun k hk => Or.inl (HV.out.inpv k hk)) ?_ rfl rfl HI.out⟩
  · have hne : b ≠ g := fun e => ownsRow_elem HV.out.pr HV.out.cells (by decide) (congrArg some e.symm)
    exact (Below.heap_setCell w ⟨g, j * 2 + 1, none⟩ _ b hne).trans HV.out.cells
  · exact HV.out.mr.block (Below.heap_setCell _ _ _ _ (fun e => ownsRow_map HV.out.pr HV.out.mr (congrArg some e.symm)))
  · show MapIs _ pt (putRows (s.writes.set j (n, v)))
    rw [putRows_some v HJ.out]
    exact HV.out.mp.block (Below.heap_setCell _ _ _ _ (fun e => ownsRow_map HV.out.pr HV.out.mp (congrArg some e.symm)))
  · refine ownsRow_block HV.out.rr fun k hk => Below.heap_setCell _ _ _ _ ?_
    rintro rfl
    rcases HV.out.pr.2 with ⟨h5, -⟩ | ⟨g', cap', cur, h5, -, hg, -⟩
    · simp at h5
    · simp at h5
      obtain ⟨rfl, -⟩ := h5
      exact ownsRow_elem HV.out.rr hg (by decide) hk
  · show World.ownsRow _ 0 _ 2 _ (s.writes.set j (n, v)).length (pairCells (s.writes.set j (n, v)))
    rw [pairCells_set hU.out, List.length_set]
    exact (HV.out.pr.stored _ _).1
  · rintro k hk ⟨cur, hcur⟩
    refine Below.heap_setCell _ _ _ _ ?_
    rintro rfl
    exact ownsRow_elem HV.out.pr hcur (by decide) rfl

theorem infoPair : (Tryz.prog.info? 119).map (fun i => (i.zero, i.size, i.bytes)) = some (some (.agg #[.int .i64 0, .int .u32 0]), 2, 16) := by kernel_rfl

/-- where the walk of a new put stands behind the append. -/
theorem put_facts {w w1 w2 : World} {b : Nat} {S : Nat → Prop} {s : VS} {fv wv rv pv : Value} {rd pt n g' cap' : Nat} {T : TypeId} (hv : PVs w b S s fv wv rv pv rd pt) (hg1 : w.grownBy w1 (some pt))
    (hg2 : (w1.alloc (.cells #[.int .i64 n, .int .u32 0] T)).grownBy w2 pv.ownBlock) (hown : w2.ownsRow 0 119 2 (.slice (some ⟨g', 0, none⟩) (s.writes.length + 1) cap') (s.writes.length + 1) (pairCells s.writes ++ [.int .i64 n, .int .u32 0]))
    (hnew : ∀ k, (Value.slice (some ⟨g', 0, none⟩) (s.writes.length + 1) cap').ownBlock = some k → pv.ownBlock = some k ∨ (w1.alloc (.cells #[.int .i64 n, .int .u32 0] T)).heap.size ≤ k) :
    w2.cell? ⟨b, 6, none⟩ = some pv ∧ w2.frozen? ⟨b, 6, none⟩ = false ∧ w2.cell? ⟨g', s.writes.length * 2 + 1, none⟩ = some (.int .u32 0) ∧ w2.frozen? ⟨g', s.writes.length * 2 + 1, none⟩ = false ∧ b ≠ g' := by
  have hblt : b < w.heap.size := (Array.getElem?_eq_some_iff.1 hv.cells).1
  have hz1 := hg1.size
  have bb : w2.heap[b]? = w.heap[b]? := by
    rw [hg2.block b (by simp; omega) (fun e => ownsRow_elem hv.pr hv.cells (by decide) e.symm), Below.heap_alloc _ _ _ (by omega), hg1.block b hblt (by simpa using cells_map hv.cells hv.mp)]
  have hc := bb.trans hv.cells
  refine ⟨by rw [cell?_of_heap hc]; rfl, frozen_of_cells _ _ _ hc _, ?_, hown.frozenAt _, ?_⟩
  · rw [hown.cellAt _ (by omega)]
    have hl := pairCells_length s.writes
    rw [List.getElem?_append_right (by omega), hl]
    have : s.writes.length * 2 + 1 - s.writes.length * 2 = 1 := by omega
    rw [this]; rfl
  · rintro rfl
    rcases hnew b rfl with h | h
    · exact ownsRow_elem hv.pr hv.cells (by decide) h
    · simp at h; omega

theorem pairCells_add (l : List (Nat × Int)) (n : Nat) (v : Int) : pairCells (l ++ [(n, v)]) = pairCells l ++ [.int .i64 n, .int .u32 v] := by simp [pairCells]

theorem now_put {w w1 w2 : World} {b : Nat} {S : Nat → Prop} {s : VS} {fv wv rv pv : Value} {rd pt n g' cap' : Nat} {v : Int} {T : TypeId} (hv : PVs w b S s fv wv rv pv rd pt) (hg1 : w.grownBy w1 (some pt))
    (hg2 : (w1.alloc (.cells #[.int .i64 n, .int .u32 0] T)).grownBy w2 pv.ownBlock) (hown : w2.ownsRow 0 119 2 (.slice (some ⟨g', 0, none⟩) (s.writes.length + 1) cap') (s.writes.length + 1) (pairCells s.writes ++ [.int .i64 n, .int .u32 0]))
    (hnew : ∀ k, (Value.slice (some ⟨g', 0, none⟩) (s.writes.length + 1) cap').ownBlock = some k → pv.ownBlock = some k ∨ (w1.alloc (.cells #[.int .i64 n, .int .u32 0] T)).heap.size ≤ k)
    (hm1 : MapIs w1 pt (upsert (putRows s.writes) n s.writes.length)) (hbg : b ≠ g') (_hn : n ∉ s.writes.map (·.1)) (hj : wix s.writes n = none) (hi : VS.Inv { s with writes := s.writes ++ [(n, v)] }) :
    Now w b S { s with writes := s.writes ++ [(n, v)] } ((w2.setCell ⟨b, 6, none⟩ (.slice (some ⟨g', 0, none⟩) (s.writes.length + 1) cap')).setCell ⟨g', s.writes.length * 2 + 1, none⟩ (.int .u32 v)) := by
  have hblt : b < w.heap.size := (Array.getElem?_eq_some_iff.1 hv.cells).1
  have hbr := cells_map hv.cells hv.mr
  have hbp := cells_map hv.cells hv.mp
  have hz1 := hg1.size
  have hz2 := hg2.size
  simp only [World.size_alloc] at hz2
  have hg' := hnew g' rfl
  have hins : S g' ∨ w.heap.size ≤ g' := by
    rcases hg' with h | h
    · exact Or.inl (hv.inpv _ h)
    · simp at h; exact Or.inr (by omega)
  -- a block that is none of these is as it was
  have blk2 : ∀ k, k < w.heap.size → k ≠ pt → pv.ownBlock ≠ some k → w2.heap[k]? = w.heap[k]? := by
    intro k hk h1 h2
    rw [hg2.block k (by simp; omega) (fun e => h2 e.symm), Below.heap_alloc _ _ _ (by omega), hg1.block k hk (by simpa using h1)]
  have blk : ∀ k, k < w.heap.size → k ≠ pt → pv.ownBlock ≠ some k → k ≠ b → ((w2.setCell ⟨b, 6, none⟩ (.slice (some ⟨g', 0, none⟩) (s.writes.length + 1) cap')).setCell ⟨g', s.writes.length * 2 + 1, none⟩ (.int .u32 v)).heap[k]? = w.heap[k]? := by
    intro k hk h1 h2 h3
    have hkg : k ≠ g' := by
      rintro rfl
      rcases hg' with h | h
      · exact h2 h
      · simp at h; omega
    rw [Below.heap_setCell _ _ _ _ (by simpa using hkg), Below.heap_setCell _ _ _ _ (by simpa using h3)]
    exact blk2 k hk h1 h2
  have hpnm := ownsRow_map hv.pr hv.mp
  have hpnr := ownsRow_map hv.pr hv.mr
  have bb : w2.heap[b]? = w.heap[b]? := blk2 b hblt hbp (ownsRow_elem hv.pr hv.cells (by decide))
  have hc2 := Joins.block_setCell (i := 6) (bb.trans hv.cells) (.slice (some ⟨g', 0, none⟩) (s.writes.length + 1) cap')
  have F : Fr S w ((w2.setCell ⟨b, 6, none⟩ (.slice (some ⟨g', 0, none⟩) (s.writes.length + 1) cap')).setCell ⟨g', s.writes.length * 2 + 1, none⟩ (.int .u32 v)) :=
    ((((((Fr.refl S w).grown hg1 (fun k hk => by cases hk; exact Or.inl hv.inp)).alloc _).grown hg2 (fun k hk => Or.inl (hv.inpv k hk))).setCell _ _ (Or.inl hv.inb)).setCell _ _ hins)
  refine hv.rebuild (pv' := .slice (some ⟨g', 0, none⟩) (s.writes.length + 1) cap') F ?_ ?_ ?_ ?_ ?_ (fun k hk => Or.inl (hv.inrv k hk)) ?_ ?_ rfl rfl hi
  · rw [Below.heap_setCell _ _ _ _ (by simpa using hbg), hc2]
    rfl
  · refine hv.mr.block (blk rd hv.mr.lt hv.ne hpnr (fun e => hbr e.symm))
  · show MapIs _ pt (putRows (s.writes ++ [(n, v)]))
    rw [putRows_none v hj]
    have hpg : pt ≠ g' := by
      rintro rfl
      rcases hg' with h | h
      · exact hpnm h
      · simp at h; have := hv.mp.lt; omega
    refine hm1.block ?_
    rw [Below.heap_setCell _ _ _ _ (by simpa using hpg), Below.heap_setCell _ _ _ _ (by simpa using fun e => hbp e.symm), hg2.block pt (by simp; have := hm1.lt; omega) (fun e => hpnm e.symm), Below.heap_alloc _ _ _ hm1.lt]
  · refine ownsRow_block hv.rr fun k hk => blk k (ownsRow_lt hv.rr hk) ?_ ?_ ?_
    · exact fun e => ownsRow_map hv.rr hv.mp (by rw [hk, e])
    · intro e
      rcases hv.pr.2 with ⟨h5, -⟩ | ⟨g, cap, cur, h5, -, hg, -⟩
      · rw [h5] at e; simp [Value.ownBlock] at e
      · rw [h5] at e
        simp [Value.ownBlock] at e
        subst e
        exact ownsRow_elem hv.rr hg (by decide) hk
    · exact fun e => ownsRow_elem hv.rr hv.cells (by decide) (by rw [hk, e])
  · have h1 : (w2.setCell ⟨b, 6, none⟩ (.slice (some ⟨g', 0, none⟩) (s.writes.length + 1) cap')).ownsRow 0 119 2 (.slice (some ⟨g', 0, none⟩) (s.writes.length + 1) cap') (s.writes.length + 1) (pairCells s.writes ++ [.int .i64 n, .int .u32 0]) :=
      ownsRow_block hown fun k hk => Below.heap_setCell _ _ _ _ (by simp [Value.ownBlock] at hk; subst hk; simpa using fun e => hbg e.symm)
    have h2 := (h1.stored (s.writes.length * 2 + 1) (.int .u32 v)).1
    have h3 : (pairCells s.writes ++ [Value.int .i64 n, .int .u32 0]).set (s.writes.length * 2 + 1) (.int .u32 v) = pairCells (s.writes ++ [(n, v)]) := by
      have hl := pairCells_length s.writes
      rw [pairCells_add, List.set_append_right _ _ (by omega), hl]
      have : s.writes.length * 2 + 1 - s.writes.length * 2 = 1 := by omega
      rw [this]; rfl
    rw [h3] at h2
    simpa using h2
  · intro k hk
    simp [Value.ownBlock] at hk
    subst hk
    exact hins
  · rintro k hk ⟨cur, hcur⟩
    refine blk k hk (cells_map hcur hv.mp) (fun e => ownsRow_elem hv.pr hcur (by decide) e) ?_
    rintro rfl
    have := hv.cells
    rw [hcur] at this
    simp at this

set_option maxRecDepth 100000 in
theorem put_new (b : Nat) (i v : Int) (w : World) (S : Nat → Prop) (s : VS) (h : PV w b S s) (hv : VS.U32 v) (ht : s.there i = true) (hj : wix s.writes i.toNat = none) :
    Calls Tryz.prog 46 #[.pointer (some ⟨b, 0, none⟩), .int .i64 i, .int .u32 v] w fun e w' => e = .returned (.tuple #[]) ∧ Now w b S (s.put i v) w' := by
  have H := there_any b i w S s h
  rw [ht] at H
  have HH := Lib.hid H
  clear H
  have hinv := h.inv.put i v hv
  have hput : s.put i v = { s with writes := s.writes ++ [(i.toNat, v)] } := by simp [VS.put, ht, VS.setW, hj]
  rw [hput] at hinv ⊢
  obtain ⟨h0, h1, -⟩ := VS.there_iff.1 ht
  obtain ⟨n, rfl⟩ := Int.eq_ofNat_of_zero_le h0
  simp only [Int.toNat_natCast] at hj hinv ⊢
  obtain ⟨fv, wv, rv, pv, rd, pt, hp⟩ := h
  have hlen : ∃ a m c, pv = .slice a m c ∧ m = s.writes.length := by
    rcases hp.pr.2 with ⟨h5, h6⟩ | ⟨g', cap', cur, h5, -⟩
    · exact ⟨_, _, _, h5, h6.symm⟩
    · exact ⟨_, _, _, h5, rfl⟩
  obtain ⟨pa, pm, pc, rfl, rfl⟩ := hlen
  have ha : assoc (putRows s.writes) (n : Int) = none := by rw [assoc_put, hj]; rfl
  have c5 := hp.cell 5
  have c6 := hp.cell 6
  simp at c5 c6
  have hmp := Lib.hid hp.mp
  have hpr := Lib.hid hp.pr
  have hw := hp.inv.writes_le
  have hn := hp.inv.small
  have hbp := cells_map hp.cells hp.mp
  have hblt : b < w.heap.size := (Array.getElem?_eq_some_iff.1 hp.cells).1
  have hpnb := Lib.hid (ownsRow_elem hp.pr hp.cells (by decide))
  have hpnm := Lib.hid (ownsRow_map hp.pr hp.mp)
  have HV := Lib.hid hp
  have HI := Lib.hid hinv
  have HJ := Lib.hid hj
  obtain ⟨i0, hi0, hi1, hi2, hi3⟩ := info_parts infoPair
  have HT := Lib.hid (And.intro hi0 (And.intro hi1 (And.intro hi2 hi3)))
  clear hp ht hj hv hinv hput hi0 hi1 hi2 hi3
  go_enter Tryz.func46, Tryz.ntmps46
  go_wp2_with fail
  refine HH.out.mono ?_
  rintro e w1 ⟨rfl, rfl⟩
  go_wp2_with (first | (at_lookup; refine wpL_lookup rfl _ _ true rfl uMap Tryz.underlying3 (zInt _) pt (putRows s.writes) n rfl hmp.out rfl ?_; simp only [ha, if_true, Option.getD_none, Option.isSome_none]) | (at_mapUpdate; go_must (refine wpL_update rfl _ _ _ rfl uMap Tryz.underlying3 pt (putRows s.writes) n s.writes.length rfl hmp.out rfl rfl ?_); go_must (intro w1 hm1 hg1); go_must (have d6 : w1.cell? ⟨b, 6, none⟩ = some (.slice pa s.writes.length pc) := hg1.cell c6 (by simpa using hbp))) | (at_builtin; go_must (refine wpL_append rfl _ _ rfl 119 i0 (.agg #[.int .i64 0, .int .u32 0]) 2 16 Tryz.underlying59 HT.out.1 HT.out.2.1 HT.out.2.2.1 HT.out.2.2.2 rfl (by decide) (.slice pa s.writes.length pc) s.writes.length (pairCells s.writes) rfl ((hpr.out.kept hg1 (Or.inr hpnm.out)).alloc _) ⟨w1.heap.size, 0, none⟩ 1 1 [.int .i64 n, .int .u32 0] rfl rfl (World.news_of_block (heap_alloc_new w1 _)) ?c1 ?c2 ?c3 ?_); go_must (case c1 => (simp [Value.oneCell'])); go_must (case c2 => (unfold maxLen; omega)); go_must (case c3 => (omega)); go_must (intro v' w2 hown2 hg2 hnew2 hnil2); clear hnil2; go_must (obtain ⟨g', cap', rfl⟩ := Joins.ownsRow_form hown2 (by omega)); go_must (obtain ⟨e6, f6, x7, f7, hbg⟩ := put_facts HV.out hg1 hg2 hown2 hnew2)))
  go_end0
  exact ⟨rfl, now_put HV.out hg1 hg2 hown2 hnew2 hm1 hbg (wix_none.1 HJ.out) HJ.out HI.out⟩

theorem put_any (b : Nat) (i v : Int) (w : World) (S : Nat → Prop) (s : VS) (h : PV w b S s) (hv : VS.U32 v) :
    Calls Tryz.prog 46 #[.pointer (some ⟨b, 0, none⟩), .int .i64 i, .int .u32 v] w fun e w' => e = .returned (.tuple #[]) ∧ Now w b S (s.put i v) w' := by
  cases ht : s.there i with
  | false =>
    have e : s.put i v = s := by simp [VS.put, ht]
    rw [e]
    exact (put_no b i v w S s h ht).mono fun e w' ⟨h1, h2⟩ => ⟨h1, h2 ▸ Now.refl h⟩
  | true =>
    cases hj : wix s.writes i.toNat with
    | some j => exact put_old b i v w S s h hv ht j hj
    | none => exact put_new b i v w S s h hv ht hj

end Go.Proofs.YtcicmljnjdhkjaaGreat
