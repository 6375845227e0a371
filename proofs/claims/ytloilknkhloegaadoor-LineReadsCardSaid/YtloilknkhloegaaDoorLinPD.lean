/- lines: the document's Parse. -/
import Derived.Test.YtloilknkhloegaaDoorLinOA
import Derived.Test.YtloilknkhloegaaDoorLinU
import Derived.Test.YtloilknkhloegaaDoorLinS
import Derived.Test.YtloilknkhloegaaDoorLinX
set_option linter.unusedSimpArgs false
set_option linter.unusedVariables false
namespace Go.Proofs.YtloilknkhloegaaDoor
open Go.RowKit

def lints (l : List Int) : List Value := l.map (Value.int .i64)
theorem infoL64 : (Tryd.prog.info? 2).map (fun i => (i.zero, i.size, i.bytes)) = some (some (.int .i64 0), 1, 8) := by kernel_rfl
theorem rown_of {w : World} {p : Option Addr} {cap : Nat} {ns : List Int} (h : w.ownsRow 0 2 1 (.slice p ns.length cap) ns.length (lints ns)) : RowN w p ns := by
  intro j u hj
  have hpos : 0 < ns.length := by
    have := (List.getElem?_eq_some_iff.1 hj).1
    omega
  obtain ⟨g, cap', hf⟩ := Joins.ownsRow_form h hpos
  simp only [Value.slice.injEq, true_and] at hf
  obtain ⟨rfl, rfl⟩ := hf
  refine ⟨g, rfl, ownsRow_lt h rfl, ?_⟩
  have := h.cells (g := g) rfl j (.int .i64 u) (by simp [lints, hj])
  by_cases h0 : j = 0
  · subst h0
    simpa [Addr.add] using this
  · simpa [Addr.add, h0] using this
structure PQ (w1 : World) (r : List (List UInt8)) (k : Nat) (ns : List Int) (out : Value) (wr : World) : Prop where
  le : k ≤ r.length
  nums : numsV (r.take k) = some ns
  row : wr.ownsRow 0 2 1 out ns.length (lints ns)
  own : ∀ x, out.ownBlock = some x → w1.heap.size ≤ x
  bel : Below w1.heap.size w1 wr
def PQR (w1 : World) (r : List (List UInt8)) (out i : Value) (wr : World) : Prop := ∃ (k : Nat) (ns : List Int), i = .int .i64 ((k : Int) + 1) ∧ out ≠ .slice none 0 0 ∧ PQ w1 r k ns out wr
theorem pq_next {w1 wr W2 w5 : World} {r : List (List UInt8)} {k : Nat} {ns : List Int} {n : Int} {y : List UInt8} {pa : Option Addr} {pc : Nat} {v' : Value} {o : Obj} (hp : Hid (PQ w1 r k ns (.slice pa ns.length pc) wr)) (hk : k < r.length) (hy : r[k]? = some y) (hn : numV y = some n) (b2 : Below wr.heap.size wr W2)
    (h5 : w5.ownsRow 0 2 1 v' (ns.length + 1) (lints ns ++ [.int .i64 n])) (hg : (W2.alloc o).grownBy w5 (Value.slice pa ns.length pc).ownBlock) (hnew : ∀ x, v'.ownBlock = some x → (Value.slice pa ns.length pc).ownBlock = some x ∨ (W2.alloc o).heap.size ≤ x) :
    PQ w1 r (k + 1) (ns ++ [n]) v' w5 := by
  have hz := hp.out.bel.size
  have hz2 := b2.size
  have b3 : Below w1.heap.size w1 W2 := hp.out.bel.trans (b2.mono hz)
  refine ⟨by omega, ?_, by simpa [lints] using h5, fun x hx => ?_, (b3.alloc b3.size _).grown hg (by simp; omega) (fun x hx => hp.out.own x hx)⟩
  · have ht : r.take (k + 1) = r.take k ++ [y] := by rw [List.take_add_one, hy]; rfl
    rw [ht]
    exact numsV_snoc hp.out.nums hn
  · rcases hnew x hx with h1 | h1
    · exact hp.out.own x h1
    · simp at h1
      omega
set_option maxHeartbeats 2000000 in
set_option maxRecDepth 100000 in
theorem rparse_any (s : List UInt8) (w : World) (hl : s.length ≤ 100000) :
    Calls Tryd.prog 25 #[.string (bs s)] w (ParseP w s) := by
  obtain ⟨i0, hi0, hi1, hi2, hi3⟩ := info_parts infoL64
  have HI := Lib.hid (And.intro hi0 (And.intro hi1 (And.intro hi2 hi3)))
  clear hi0 hi1 hi2 hi3
  obtain ⟨x, r, hc⟩ : ∃ x r, cutAt 32 s = x :: r := by
    cases h : cutAt 32 s with
    | nil => exact absurd h (cutAt_ne 32 s)
    | cons x r => exact ⟨x, r, rfl⟩
  have HCut := Lib.hid hc
  have HW := Lib.hid (fun w => dwords_any s w hl)
  have hrl : r.length ≤ 100000 := by have := cut_len s; rw [hc] at this; simp at this; omega
  have HYL := Lib.hid (fun y (hy : y ∈ r) => (by have h1 := piece_len s y (by rw [hc]; exact List.mem_cons_of_mem _ hy); omega : y.length ≤ 100000))
  clear hc
  go_enter Tryd.func25, Tryd.ntmps25
  go_wp2_with fail
  refine (HW.out _).mono ?_
  rintro e w1 ⟨g, cap, rfl, hrow, hg, hb⟩
  rw [HCut.out] at hrow ⊢
  simp only [List.length_cons] at hrow ⊢
  have box1 : BoxE w1 w.heap.size PEn.none := (hb.block _ (by simp)).trans (heap_alloc_new w _)
  have bel1 : Below w.heap.size w w1 := ((Below.refl _ _).alloc (Nat.le_refl _) _).trans (hb.mono (by simp))
  have hgl : g < w1.heap.size := ownsRow_lt hrow rfl
  have hbl : w.heap.size < w1.heap.size := (Array.getElem?_eq_some_iff.1 box1).1
  have HCell : Hid (∀ j y, (x :: r)[j]? = some y → w1.cell? ⟨g, j, none⟩ = some (.string (bs y))) := Lib.hid (by
    intro j y hj
    have := hrow.cells (g := g) rfl j (.string (bs y)) (by
      have h2 : (strs ((x :: r).map bs))[j]? = ((x :: r)[j]?).map (fun y => Value.string (bs y)) := by rw [strs, List.map_map, List.getElem?_map]; rfl
      rw [h2, hj]
      rfl)
    by_cases h0 : j = 0
    · subst h0
      simpa [Addr.add] using this
    · simpa [Addr.add, h0] using this)
  have HBox := Lib.hid box1
  have HBel := Lib.hid bel1
  clear hrow hg hb box1 bel1
  go_wp2
  go_loopw [5, 6] (fun n i wr => PQR w1 r n i wr) (fun _ i _ => r.length + 1 - (intOf i).toNat)
  case atStart => exact ⟨0, [], rfl, by simp, by simp, rfl, by simpa [lints] using lrow_empty w1 2 1, by simp [Value.ownBlock], (Below.refl _ _).alloc (Nat.le_refl _) _⟩
  case round =>
    obtain ⟨k, ns, rfl, hnn, hp⟩ := hrel
    have HP := Lib.hid hp
    obtain ⟨pa, pc, rfl⟩ := srow_shape hp.row
    have hz := hp.bel.size
    have hk := hp.le
    have HBox2 : Hid (BoxE wr w.heap.size PEn.none) := Lib.hid ((hp.bel.block _ hbl).trans HBox.out)
    have HBel2 : Hid (Below w.heap.size w wr) := Lib.hid (HBel.out.trans (hp.bel.mono (by omega)))
    have hnl : ns.length ≤ 100000 := by have := (numsV_len hp.nums).1; rw [this, List.length_take]; omega
    by_cases hlt : k < r.length
    · obtain ⟨y, hy⟩ : ∃ y, r[k]? = some y := ⟨_, List.getElem?_eq_getElem hlt⟩
      have c1 : wr.cell? ⟨g, k + 1, none⟩ = some (.string (bs y)) := (hp.bel.cell (p := ⟨g, k + 1, none⟩) hgl).trans (HCell.out (k + 1) y (by simpa using hy))
      have hki : (k : Int) + 1 < (r.length : Int) + 1 := by omega
      have hki2 : (k : Int) ≤ 100000 := by omega
      have HN := Lib.hid (rnumber_any y wr (HYL.out y (List.mem_of_getElem? hy)))
      have HY := Lib.hid hy
      clear hp hy
      go_wp2_with fail
      refine HN.out.mono ?_
      rintro e W2 (⟨n, hn, rfl, b2⟩ | ⟨hn, ⟨v, rfl⟩, b2⟩)
      · have HN2 := Lib.hid hn
        have HB2 := Lib.hid b2
        have HR2 := Lib.hid (row_below HP.out.row b2)
        clear hn b2 c1
        go_wp2_with (at_builtin; go_must (refine wpL_append rfl _ _ rfl 2 i0 (.int .i64 0) 1 8 Tryd.underlying85 HI.out.1 HI.out.2.1 HI.out.2.2.1 HI.out.2.2.2 rfl (by decide) (.slice pa ns.length pc) ns.length (lints ns) rfl (HR2.out.alloc _) ⟨W2.heap.size, 0, none⟩ 1 1 [.int .i64 n] rfl rfl (cell_one_new _ _ _) ?c1 ?c2 ?c3 ?_); go_must (case c1 => (simp [Value.oneCell'])); go_must (case c2 => (unfold maxLen; omega)); go_must (case c3 => (omega)); go_must (intro v' w5 hown5 hg5 hnew5 hnil5))
        have hnn5 : v' ≠ .slice none 0 0 := fun e => by have := (hnil5.1 e).2; cases this
        have HPQ := Lib.hid (pq_next HP hlt HY.out HN2.out HB2.out hown5 hg5 hnew5)
        clear hown5 hg5 hnew5 hnil5
        go_wp2
        go_roundw
        case rel => exact ⟨k + 1, _, by go_num, hnn5, HPQ.out⟩
        case measure => simp [intOf] <;> omega
      · have HNone := Lib.hid (parse_nonum HCut.out (numsV_none (List.mem_of_getElem? HY.out) hn))
        have bx2 : BoxE W2 w.heap.size PEn.none := (b2.block _ (by omega)).trans HBox2.out
        have HB := Lib.hid (HBel2.out.trans (b2.mono (by omega)))
        have lt0 : w.heap.size < W2.heap.size := (Array.getElem?_eq_some_iff.1 bx2).1
        have dx := fun o => cell?_of_heap (o := o) bx2
        have ex := fun o => frozen?_of_heap (o := o) bx2
        have d0 := dx 0
        have e0 := ex 0
        have d1 := dx 1
        have e1 := ex 1
        have d2 := dx 2
        have e2 := ex 2
        have d3 := dx 3
        have e3 := ex 3
        have d4 := dx 4
        have e4 := ex 4
        have d5 := dx 5
        have e5 := ex 5
        have d6 := dx 6
        have e6 := ex 6
        have d7 := dx 7
        have e7 := ex 7
        simp [PEn.none] at d0 d1 d2 d3 d4 d5 d6 d7
        clear dx ex bx2 b2 hn c1
        go_wp2
        refine bodyPost_ret (v := .tuple #[enV PEn.none, .bool false]) (by simp [results, Tryd.results25, go_sem, enV, PEn.none, d0, d1, d2, d3, d4, d5, d6, d7, e0, e1, e2, e3, e4, e5, e6, e7, lt0]) rfl (Or.inr ⟨HNone.out, rfl, ?_⟩)
        exact set8_below (Nat.le_refl _) HB.out
    · obtain rfl : k = r.length := by omega
      have hns : numsV r = some ns := by have := hp.nums; rwa [List.take_length] at this
      have c0 : wr.cell? ⟨g, 0, none⟩ = some (.string (bs x)) := (hp.bel.cell (p := ⟨g, 0, none⟩) hgl).trans (HCell.out 0 x rfl)
      have HOne := Lib.hid (one_any x ns pa pc wr (rown_of hp.row))
      have HPF : Hid (parseF s = oneF x ns) := Lib.hid (by rw [parse_cut HCut.out, hns])
      have hki2 : (r.length : Int) ≤ 100000 := by omega
      clear hp hns
      go_wp2_with fail
      refine HOne.out.mono ?_
      rintro e W2 (⟨z, hz2, rfl, b2⟩ | ⟨hz2, rfl, b2⟩)
      · have HB := Lib.hid (HBel2.out.trans (b2.mono (by omega)))
        have bx2 : BoxE W2 w.heap.size PEn.none := (b2.block _ (by omega)).trans HBox2.out
        have HZ := Lib.hid (HPF.out.trans hz2)
        have lt0 : w.heap.size < W2.heap.size := (Array.getElem?_eq_some_iff.1 bx2).1
        have dx := fun o => cell?_of_heap (o := o) bx2
        have ex := fun o => frozen?_of_heap (o := o) bx2
        have d0 := dx 0
        have e0 := ex 0
        have d1 := dx 1
        have e1 := ex 1
        have d2 := dx 2
        have e2 := ex 2
        have d3 := dx 3
        have e3 := ex 3
        have d4 := dx 4
        have e4 := ex 4
        have d5 := dx 5
        have e5 := ex 5
        have d6 := dx 6
        have e6 := ex 6
        have d7 := dx 7
        have e7 := ex 7
        simp [PEn.none] at d0 d1 d2 d3 d4 d5 d6 d7
        clear dx ex bx2 b2 hz2 c0
        unfold enV
        go_wp2
        refine bodyPost_ret (v := .tuple #[enV z, .bool true]) (by simp [results, Tryd.results25, go_sem, enV, PEn.none, d0, d1, d2, d3, d4, d5, d6, d7, e0, e1, e2, e3, e4, e5, e6, e7, lt0]) rfl (Or.inl ⟨z, HZ.out, rfl, ?_⟩)
        exact set8_below (Nat.le_refl _) HB.out
      · have HB := Lib.hid (HBel2.out.trans (b2.mono (by omega)))
        have bx2 : BoxE W2 w.heap.size PEn.none := (b2.block _ (by omega)).trans HBox2.out
        have HZ := Lib.hid (HPF.out.trans hz2)
        have lt0 : w.heap.size < W2.heap.size := (Array.getElem?_eq_some_iff.1 bx2).1
        have dx := fun o => cell?_of_heap (o := o) bx2
        have ex := fun o => frozen?_of_heap (o := o) bx2
        have d0 := dx 0
        have e0 := ex 0
        have d1 := dx 1
        have e1 := ex 1
        have d2 := dx 2
        have e2 := ex 2
        have d3 := dx 3
        have e3 := ex 3
        have d4 := dx 4
        have e4 := ex 4
        have d5 := dx 5
        have e5 := ex 5
        have d6 := dx 6
        have e6 := ex 6
        have d7 := dx 7
        have e7 := ex 7
        simp [PEn.none] at d0 d1 d2 d3 d4 d5 d6 d7
        clear dx ex bx2 b2 hz2 c0
        unfold enV
        go_wp2
        refine bodyPost_ret (v := .tuple #[enV PEn.none, .bool false]) (by simp [results, Tryd.results25, go_sem, enV, PEn.none, d0, d1, d2, d3, d4, d5, d6, d7, e0, e1, e2, e3, e4, e5, e6, e7, lt0]) rfl (Or.inr ⟨HZ.out, rfl, ?_⟩)
        exact set8_below (Nat.le_refl _) HB.out
end Go.Proofs.YtloilknkhloegaaDoor
