/- the document's view: Put. -/
import Derived.Test.YtkfcjlampnjfbaaRefGet
namespace Go.Proofs.Ytkfcjlampnjfbaa
open Go.RowKit

theorem rput_no (b : Nat) (i v : Int) (w : World) (S : Nat → Prop) (s : VS) (h : RV w b S s) (ht : s.there i = false) :
    Calls Try.prog 65 #[.pointer (some ⟨b, 0, none⟩), .int .i64 i, .int .u32 v] w fun e w' => e = .returned (.tuple #[]) ∧ w = w' := by
  obtain ⟨kv, vv, iv, tv, rv, wv, all, hv⟩ := h
  have h0 := hv.cell 0
  have h7 := hv.cell 7
  simp at h0 h7
  clear hv
  by_cases h1 : i < 0
  · clear h0 h7 ht
    go_enter Try.func65, Try.ntmps65
    go_wp2
    refine bodyPost_ret (results_none rfl _ _ _) rfl ?_
    exact ⟨rfl, rfl⟩
  · by_cases h2 : (s.n : Int) ≤ i
    · clear h7 ht
      go_enter Try.func65, Try.ntmps65
      go_wp2
      refine bodyPost_ret (results_none rfl _ _ _) rfl ?_
      exact ⟨rfl, rfl⟩
    · have h3 : ∃ j, s.miss = some j := by
        cases hm : s.miss with
        | none => simp [VS.there, hm] at ht; omega
        | some j => exact ⟨j, rfl⟩
      obtain ⟨j, hj⟩ := h3
      have hm : missI s = (j : Int) := by simp [missI, hj]
      rw [hm] at h7
      have h8 : (0 : Int) ≤ (j : Int) := by omega
      clear ht hj hm
      go_enter Try.func65, Try.ntmps65
      go_wp2
      refine bodyPost_ret (results_none rfl _ _ _) rfl ?_
      exact ⟨rfl, rfl⟩

/-- what a put makes of the rows of puts. -/
theorem put_rows {w : World} {s : VS} {n : Nat} {v : Int} {gi ci gt ct : Nat} (ir : w.ownsRow 0 4 1 (.slice (some ⟨gi, 0, none⟩) s.n ci) s.n (rowF s.n (isF s))) (tr : w.ownsRow 0 72 1 (.slice (some ⟨gt, 0, none⟩) s.n ct) s.n (rowF s.n (toF s))) (hne : gi ≠ gt) :
    ((w.setCell ⟨gi, n, none⟩ (.bool true)).setCell ⟨gt, n, none⟩ (.int .u32 v)).ownsRow 0 4 1 (.slice (some ⟨gi, 0, none⟩) s.n ci) s.n (rowF s.n (isF { s with writes := VS.setW s.writes n v })) ∧
    ((w.setCell ⟨gi, n, none⟩ (.bool true)).setCell ⟨gt, n, none⟩ (.int .u32 v)).ownsRow 0 72 1 (.slice (some ⟨gt, 0, none⟩) s.n ct) s.n (rowF s.n (toF { s with writes := VS.setW s.writes n v })) := by
  obtain ⟨w1, w2⟩ := wr_put s n v
  have e1 : (rowF s.n (isF s)).set n (.bool true) = rowF s.n (isF { s with writes := VS.setW s.writes n v }) :=
    rowF_set _ _ _ (by simp [isF, w1]) (fun j hj => by simp [isF, w2 j hj])
  have e2 : (rowF s.n (toF s)).set n (.int .u32 v) = rowF s.n (toF { s with writes := VS.setW s.writes n v }) :=
    rowF_set _ _ _ (by simp [toF, w1]) (fun j hj => by simp [toF, w2 j hj])
  constructor
  · have a1 := (ir.stored n (.bool true)).1
    rw [e1] at a1
    exact ownsRow_block a1 fun k hk => Below.heap_setCell _ _ _ _ (by simp [Value.ownBlock] at hk; subst hk; simpa using hne)
  · have a1 := ownsRow_block (w' := w.setCell ⟨gi, n, none⟩ (.bool true)) tr fun k hk => Below.heap_setCell _ _ _ _ (by simp [Value.ownBlock] at hk; subst hk; simpa using fun e => hne e.symm)
    have a2 := (a1.stored n (.int .u32 v)).1
    rw [e2] at a2
    exact a2

theorem now_rput_old {w : World} {b : Nat} {S : Nat → Prop} {s : VS} {kv vv rv wv : Value} {all : Bool} {n gi ci gt ct : Nat} {v : Int}
    (h : RVs w b S s kv vv (.slice (some ⟨gi, 0, none⟩) s.n ci) (.slice (some ⟨gt, 0, none⟩) s.n ct) rv wv all) (hj : (wix s.writes n).isSome = true) (hi : VS.Inv { s with writes := VS.setW s.writes n v }) :
    NowR w b S { s with writes := VS.setW s.writes n v } ((w.setCell ⟨gi, n, none⟩ (.bool true)).setCell ⟨gt, n, none⟩ (.int .u32 v)) := by
  have ib := ownsRow_elem h.ir h.cells (by decide)
  have tb := ownsRow_elem h.tr h.cells (by decide)
  have hne : gi ≠ gt := fun e => ownsRow_ne h.ir h.tr (by decide) (k := gt) rfl (by rw [e]; rfl)
  have F : Fr S w ((w.setCell ⟨gi, n, none⟩ (.bool true)).setCell ⟨gt, n, none⟩ (.int .u32 v)) :=
    ((Fr.refl S w).setCell _ _ (Or.inl (h.ini gi rfl))).setCell _ _ (Or.inl (h.int gt rfl))
  have hbl : ∀ k, k ≠ gi → k ≠ gt → ((w.setCell ⟨gi, n, none⟩ (.bool true)).setCell ⟨gt, n, none⟩ (.int .u32 v)).heap[k]? = w.heap[k]? := fun k h1 h2 => by
    rw [Below.heap_setCell _ _ _ _ (by simpa using h2), Below.heap_setCell _ _ _ _ (by simpa using h1)]
  obtain ⟨r1, r2⟩ := put_rows (n := n) (v := v) h.ir h.tr hne
  have ek : (VS.setW s.writes n v).map (·.1) = s.writes.map (·.1) := by
    unfold VS.setW
    cases hw : wix s.writes n with
    | none => rw [hw] at hj; simp at hj
    | some j => exact VS.setW_keys_some hw
  have el : (VS.setW s.writes n v).length = s.writes.length := by simpa using congrArg List.length ek
  refine h.rebuild (rv' := rv) (wv' := wv) F ?_ rfl rfl ?_ ?_ r1 r2 ?_ ?_ h.d3 (fun k hk => Or.inl (h.inr k hk)) (fun k hk => Or.inl (h.inw k hk)) hi
  · exact (hbl b (fun e => ib (by rw [e]; rfl)) (fun e => tb (by rw [e]; rfl))).trans h.cells
  · exact fun k hk => hbl k (fun e => h.d1 k hk (by rw [e]; rfl)) (fun e => ownsRow_ne h.kr h.tr (by decide) (k := gt) rfl (by rw [hk, e]))
  · exact fun k hk => hbl k (fun e => ownsRow_ne h.vr h.ir (by decide) (k := gi) rfl (by rw [hk, e])) (fun e => h.d2 k hk (by rw [e]; rfl))
  · exact ownsRow_block h.rr fun k hk => hbl k (fun e => ownsRow_ne h.rr h.ir (by decide) (k := gi) rfl (by rw [hk, e])) (fun e => ownsRow_ne h.rr h.tr (by decide) (k := gt) rfl (by rw [hk, e]))
  · show World.ownsRow _ 0 _ 1 wv (VS.setW s.writes n v).length (intCells ((VS.setW s.writes n v).map (·.1)))
    rw [ek, el]
    exact ownsRow_block h.wr fun k hk => hbl k (fun e => ownsRow_ne h.wr h.ir (by decide) (k := gi) rfl (by rw [hk, e])) (fun e => ownsRow_ne h.wr h.tr (by decide) (k := gt) rfl (by rw [hk, e]))

theorem rput_old (b : Nat) (i v : Int) (w : World) (S : Nat → Prop) (s : VS) (h : RV w b S s) (hu : VS.U32 v) (ht : s.there i = true) (u : Int) (hw : s.wr i.toNat = some u) :
    Calls Try.prog 65 #[.pointer (some ⟨b, 0, none⟩), .int .i64 i, .int .u32 v] w fun e w' => e = .returned (.tuple #[]) ∧ NowR w b S (s.put i v) w' := by
  have hinv := (keepsRV.inv h).put i v hu
  have e : s.put i v = { s with writes := VS.setW s.writes i.toNat v } := by simp [VS.put, ht]
  rw [e] at hinv ⊢
  obtain ⟨hi0, hi1, hm⟩ := VS.there_iff.1 ht
  obtain ⟨n, rfl⟩ := Int.eq_ofNat_of_zero_le hi0
  simp only [Int.toNat_natCast] at hw hinv ⊢
  have hj : (wix s.writes n).isSome = true := by
    cases hx : wix s.writes n with
    | none => rw [wr_none.2 hx] at hw; simp at hw
    | some _ => rfl
  obtain ⟨kv, vv, iv, tv, rv, wv, all, hv⟩ := h
  have h0 := hv.cell 0
  have h3 := hv.cell 3
  have h4 := hv.cell 4
  have h7 := hv.cell 7
  have e7 : missI s = -1 := by simp [missI, hm]
  simp [e7] at h0 h3 h4 h7
  obtain ⟨gi, ci, rfl⟩ := Joins.ownsRow_form hv.ir (by omega)
  obtain ⟨gt, ct, rfl⟩ := Joins.ownsRow_form hv.tr (by omega)
  have ci0 : w.cell? ⟨gi, n, none⟩ = some (.bool true) := by rw [hv.ir.cellAt n (by omega), rowF_get _ (by omega)]; simp [isF, hw]
  have ct0 : w.cell? ⟨gt, n, none⟩ = some (.int .u32 u) := by rw [hv.tr.cellAt n (by omega), rowF_get _ (by omega)]; simp [toF, hw]
  have fi0 := hv.ir.frozenAt n
  have ft0 := hv.tr.frozenAt n
  have hbi : b ≠ gi := fun x => ownsRow_elem hv.ir hv.cells (by decide) (by rw [x]; rfl)
  have hbt : b ≠ gt := fun x => ownsRow_elem hv.tr hv.cells (by decide) (by rw [x]; rfl)
  have hit : gi ≠ gt := fun e => ownsRow_ne hv.ir hv.tr (by decide) (k := gt) rfl (by rw [e]; rfl)
  have hib := Ne.symm hbi
  have htb := Ne.symm hbt
  have hti := Ne.symm hit
  have HV := Lib.hid hv
  have HI := Lib.hid hinv
  have HJ := Lib.hid hj
  clear hv hm ht hw e7 hinv e hu hj
  go_enter Try.func65, Try.ntmps65
  go_wp2
  go_end0
  exact ⟨rfl, now_rput_old HV.out HJ.out HI.out⟩

theorem now_rput_new {w w2 : World} {b : Nat} {S : Nat → Prop} {s : VS} {kv vv rv wv : Value} {all : Bool} {n gi ci gt ct g' cap' : Nat} {v : Int} {X : Obj}
    (h : RVs w b S s kv vv (.slice (some ⟨gi, 0, none⟩) s.n ci) (.slice (some ⟨gt, 0, none⟩) s.n ct) rv wv all) (hg : (w.alloc X).grownBy w2 wv.ownBlock)
    (hown : w2.ownsRow 0 3 1 (.slice (some ⟨g', 0, none⟩) (s.writes.length + 1) cap') (s.writes.length + 1) (intCells (s.writes.map (·.1)) ++ [.int .i64 n]))
    (hnew : ∀ k, (Value.slice (some ⟨g', 0, none⟩) (s.writes.length + 1) cap').ownBlock = some k → wv.ownBlock = some k ∨ (w.alloc X).heap.size ≤ k)
    (hj : wix s.writes n = none) (hi : VS.Inv { s with writes := VS.setW s.writes n v }) :
    NowR w b S { s with writes := VS.setW s.writes n v } (((w2.setCell ⟨b, 6, none⟩ (.slice (some ⟨g', 0, none⟩) (s.writes.length + 1) cap')).setCell ⟨gi, n, none⟩ (.bool true)).setCell ⟨gt, n, none⟩ (.int .u32 v)) := by
  have ib := ownsRow_elem h.ir h.cells (by decide)
  have tb := ownsRow_elem h.tr h.cells (by decide)
  have wb := ownsRow_elem h.wr h.cells (by decide)
  have hne : gi ≠ gt := fun e => ownsRow_ne h.ir h.tr (by decide) (k := gt) rfl (by rw [e]; rfl)
  have hg' := hnew g' rfl
  have g'b : g' ≠ b := by
    rintro rfl
    rcases hg' with x | x
    · exact wb x
    · have := h.lt _ h.inb; simp at x; omega
  have g'i : g' ≠ gi := by
    rintro rfl
    rcases hg' with x | x
    · exact ownsRow_ne h.wr h.ir (by decide) (k := g') rfl x
    · have := h.lt _ (h.ini g' rfl); simp at x; omega
  have g't : g' ≠ gt := by
    rintro rfl
    rcases hg' with x | x
    · exact ownsRow_ne h.wr h.tr (by decide) (k := g') rfl x
    · have := h.lt _ (h.int g' rfl); simp at x; omega
  have bi : b ≠ gi := fun e => ib (by rw [e]; rfl)
  have bt : b ≠ gt := fun e => tb (by rw [e]; rfl)
  have F : Fr S w (((w2.setCell ⟨b, 6, none⟩ (.slice (some ⟨g', 0, none⟩) (s.writes.length + 1) cap')).setCell ⟨gi, n, none⟩ (.bool true)).setCell ⟨gt, n, none⟩ (.int .u32 v)) :=
    (((((Fr.refl S w).alloc X).grown hg (fun k hk => Or.inl (h.inw k hk))).setCell _ _ (Or.inl h.inb)).setCell _ _ (Or.inl (h.ini gi rfl))).setCell _ _ (Or.inl (h.int gt rfl))
  have hset : ∀ k, k ≠ gi → k ≠ gt → k ≠ b → (((w2.setCell ⟨b, 6, none⟩ (.slice (some ⟨g', 0, none⟩) (s.writes.length + 1) cap')).setCell ⟨gi, n, none⟩ (.bool true)).setCell ⟨gt, n, none⟩ (.int .u32 v)).heap[k]? = w2.heap[k]? := fun k h1 h2 h3 => by
    rw [Below.heap_setCell _ _ _ _ (by simpa using h2), Below.heap_setCell _ _ _ _ (by simpa using h1), Below.heap_setCell _ _ _ _ (by simpa using h3)]
  have hbl : ∀ k, S k → wv.ownBlock ≠ some k → k ≠ gi → k ≠ gt → k ≠ b → (((w2.setCell ⟨b, 6, none⟩ (.slice (some ⟨g', 0, none⟩) (s.writes.length + 1) cap')).setCell ⟨gi, n, none⟩ (.bool true)).setCell ⟨gt, n, none⟩ (.int .u32 v)).heap[k]? = w.heap[k]? := fun k hk h0 h1 h2 h3 =>
    (hset k h1 h2 h3).trans (h.blk X hg hk h0)
  have i2 : (w2.setCell ⟨b, 6, none⟩ (.slice (some ⟨g', 0, none⟩) (s.writes.length + 1) cap')).heap[gi]? = w.heap[gi]? := by
    rw [Below.heap_setCell _ _ _ _ (by simpa using fun e => bi e.symm)]; exact h.blk X hg (h.ini gi rfl) (ownsRow_ne h.wr h.ir (by decide) rfl)
  have t2 : (w2.setCell ⟨b, 6, none⟩ (.slice (some ⟨g', 0, none⟩) (s.writes.length + 1) cap')).heap[gt]? = w.heap[gt]? := by
    rw [Below.heap_setCell _ _ _ _ (by simpa using fun e => bt e.symm)]; exact h.blk X hg (h.int gt rfl) (ownsRow_ne h.wr h.tr (by decide) rfl)
  obtain ⟨r1, r2⟩ := put_rows (n := n) (v := v) (ownsRow_block (w' := w2.setCell ⟨b, 6, none⟩ (.slice (some ⟨g', 0, none⟩) (s.writes.length + 1) cap')) h.ir (fun k hk => by simp [Value.ownBlock] at hk; subst hk; exact i2)) (ownsRow_block (w' := w2.setCell ⟨b, 6, none⟩ (.slice (some ⟨g', 0, none⟩) (s.writes.length + 1) cap')) h.tr (fun k hk => by simp [Value.ownBlock] at hk; subst hk; exact t2)) hne
  have bb : w2.heap[b]? = w.heap[b]? := h.blk X hg h.inb wb
  have es : VS.setW s.writes n v = s.writes ++ [(n, v)] := by simp [VS.setW, hj]
  refine h.rebuild (rv' := rv) (wv' := .slice (some ⟨g', 0, none⟩) (s.writes.length + 1) cap') F ?_ rfl rfl ?_ ?_ r1 r2 ?_ ?_ ?_ (fun k hk => Or.inl (h.inr k hk)) ?_ hi
  · have := Joins.block_setCell (i := 6) (bb.trans h.cells) (.slice (some ⟨g', 0, none⟩) (s.writes.length + 1) cap')
    rw [Below.heap_setCell _ _ _ _ (by simpa using bt), Below.heap_setCell _ _ _ _ (by simpa using bi), this]; rfl
  · exact fun k hk => hbl k (h.ink k hk) (ownsRow_ne h.wr h.kr (by decide) hk) (fun e => h.d1 k hk (by rw [e]; rfl)) (fun e => ownsRow_ne h.kr h.tr (by decide) (k := gt) rfl (by rw [hk, e])) (fun e => ownsRow_elem h.kr h.cells (by decide) (by rw [hk, e]))
  · exact fun k hk => hbl k (h.inv' k hk) (ownsRow_ne h.wr h.vr (by decide) hk) (fun e => ownsRow_ne h.vr h.ir (by decide) (k := gi) rfl (by rw [hk, e])) (fun e => h.d2 k hk (by rw [e]; rfl)) (fun e => ownsRow_elem h.vr h.cells (by decide) (by rw [hk, e]))
  · exact ownsRow_block h.rr fun k hk => hbl k (h.inr k hk) (fun e => h.d3 k hk e) (fun e => ownsRow_ne h.rr h.ir (by decide) (k := gi) rfl (by rw [hk, e])) (fun e => ownsRow_ne h.rr h.tr (by decide) (k := gt) rfl (by rw [hk, e])) (fun e => ownsRow_elem h.rr h.cells (by decide) (by rw [hk, e]))
  · show World.ownsRow _ 0 _ 1 _ (VS.setW s.writes n v).length (intCells ((VS.setW s.writes n v).map (·.1)))
    rw [es]
    have := ownsRow_block (w' := ((w2.setCell ⟨b, 6, none⟩ (.slice (some ⟨g', 0, none⟩) (s.writes.length + 1) cap')).setCell ⟨gi, n, none⟩ (.bool true)).setCell ⟨gt, n, none⟩ (.int .u32 v)) hown (fun k hk => by simp [Value.ownBlock] at hk; subst hk; exact hset _ g'i g't g'b)
    simpa [intCells] using this
  · intro k hk hk2
    rcases hnew k hk2 with x | x
    · exact h.d3 k hk x
    · have := ownsRow_lt h.rr hk; simp at x; omega
  · intro k hk
    rcases hnew k hk with x | x
    · exact Or.inl (h.inw k x)
    · simp at x; exact Or.inr (by omega)

set_option maxRecDepth 100000 in
theorem rput_new (b : Nat) (i v : Int) (w : World) (S : Nat → Prop) (s : VS) (h : RV w b S s) (hu : VS.U32 v) (ht : s.there i = true) (hw : s.wr i.toNat = none) :
    Calls Try.prog 65 #[.pointer (some ⟨b, 0, none⟩), .int .i64 i, .int .u32 v] w fun e w' => e = .returned (.tuple #[]) ∧ NowR w b S (s.put i v) w' := by
  have hinv := (keepsRV.inv h).put i v hu
  have e : s.put i v = { s with writes := VS.setW s.writes i.toNat v } := by simp [VS.put, ht]
  rw [e] at hinv ⊢
  obtain ⟨hi0, hi1, hm⟩ := VS.there_iff.1 ht
  obtain ⟨n, rfl⟩ := Int.eq_ofNat_of_zero_le hi0
  simp only [Int.toNat_natCast] at hw hinv ⊢
  have hj := wr_none.1 hw
  obtain ⟨kv, vv, iv, tv, rv, wv, all, hv⟩ := h
  have h0 := hv.cell 0
  have h3 := hv.cell 3
  have h6 := hv.cell 6
  have h7 := hv.cell 7
  have e7 : missI s = -1 := by simp [missI, hm]
  simp [e7] at h0 h3 h6 h7
  obtain ⟨gi, ci, rfl⟩ := Joins.ownsRow_form hv.ir (by omega)
  obtain ⟨gt, ct, rfl⟩ := Joins.ownsRow_form hv.tr (by omega)
  have ci0 : w.cell? ⟨gi, n, none⟩ = some (.bool false) := by rw [hv.ir.cellAt n (by omega), rowF_get _ (by omega)]; simp [isF, hw]
  have ct0 : w.cell? ⟨gt, n, none⟩ = some (.int .u32 0) := by rw [hv.tr.cellAt n (by omega), rowF_get _ (by omega)]; simp [toF, hw]
  have CI := Lib.hid ci0
  have CT := Lib.hid ct0
  have fi0 := Lib.hid (hv.ir.frozenAt n)
  have ft0 := Lib.hid (hv.tr.frozenAt n)
  have hbi : b ≠ gi := fun x => ownsRow_elem hv.ir hv.cells (by decide) (by rw [x]; rfl)
  have hbt : b ≠ gt := fun x => ownsRow_elem hv.tr hv.cells (by decide) (by rw [x]; rfl)
  have hit : gi ≠ gt := fun e => ownsRow_ne hv.ir hv.tr (by decide) (k := gt) rfl (by rw [e]; rfl)
  have hib := Ne.symm hbi
  have htb := Ne.symm hbt
  have hti := Ne.symm hit
  have hl := hv.inv.writes_le
  have hs := hv.inv.small
  have HV := Lib.hid hv
  have HI := Lib.hid hinv
  have HJ := Lib.hid hj
  obtain ⟨i0, hx0, hx1, hx2, hx3⟩ := info_parts infoInt
  have HT := Lib.hid (And.intro hx0 (And.intro hx1 (And.intro hx2 hx3)))
  clear hv hm ht hw e7 hinv e hu hj ct0 hx0 hx1 hx2 hx3
  go_enter Try.func65, Try.ntmps65
  go_wp2_with (at_builtin; go_must (refine wpL_append rfl _ _ rfl 3 i0 (.int .i64 0) 1 8 Try.underlying32 HT.out.1 HT.out.2.1 HT.out.2.2.1 HT.out.2.2.2 rfl (by decide) wv s.writes.length (intCells (s.writes.map (·.1))) rfl (HV.out.wr.alloc _) ⟨w.heap.size, 0, none⟩ 1 1 [.int .i64 n] rfl rfl (cell_one_new _ _ _) ?c1 ?c2 ?c3 ?_); go_must (case c1 => (simp [Value.oneCell'])); go_must (case c2 => (unfold maxLen; omega)); go_must (case c3 => (omega)); go_must (intro v' w2 hown2 hg2 hnew2 hnil2); clear hnil2; go_must (obtain ⟨g', cap', rfl⟩ := Joins.ownsRow_form hown2 (by omega)); go_must (have bb : w2.heap[b]? = w.heap[b]? := HV.out.blk _ hg2 HV.out.inb (ownsRow_elem HV.out.wr HV.out.cells (by decide))); go_must (have e6 : w2.cell? ⟨b, 6, none⟩ = some wv := (World.cell?_of_block (a := ⟨b, 6, none⟩) bb).trans h6); go_must (have f6 : w2.frozen? ⟨b, 6, none⟩ = false := frozen_of_cells _ _ _ (bb.trans HV.out.cells) _); go_must (have e3 : w2.cell? ⟨b, 3, none⟩ = some (.slice (some ⟨gi, 0, none⟩) s.n ci) := (World.cell?_of_block (a := ⟨b, 3, none⟩) bb).trans ((HV.out.cell 3).trans rfl)); go_must (have e4 : w2.cell? ⟨b, 4, none⟩ = some (.slice (some ⟨gt, 0, none⟩) s.n ct) := (World.cell?_of_block (a := ⟨b, 4, none⟩) bb).trans ((HV.out.cell 4).trans rfl)); go_must (have bi2 := HV.out.blk _ hg2 (HV.out.ini gi rfl) (ownsRow_ne HV.out.wr HV.out.ir (by decide) rfl)); go_must (have bt2 := HV.out.blk _ hg2 (HV.out.int gt rfl) (ownsRow_ne HV.out.wr HV.out.tr (by decide) rfl)); go_must (have ei : w2.cell? ⟨gi, n, none⟩ = some (.bool false) := (World.cell?_of_block (a := ⟨gi, n, none⟩) bi2).trans CI.out); go_must (have et : w2.cell? ⟨gt, n, none⟩ = some (.int .u32 0) := (World.cell?_of_block (a := ⟨gt, n, none⟩) bt2).trans CT.out); go_must (have fi : w2.frozen? ⟨gi, n, none⟩ = false := (World.frozen?_of_block (a := ⟨gi, n, none⟩) bi2).trans fi0.out); go_must (have ft : w2.frozen? ⟨gt, n, none⟩ = false := (World.frozen?_of_block (a := ⟨gt, n, none⟩) bt2).trans ft0.out); clear bb bi2 bt2)
  go_end0
  exact ⟨rfl, now_rput_new HV.out hg2 hown2 hnew2 HJ.out HI.out⟩

theorem rput_any (b : Nat) (i v : Int) (w : World) (S : Nat → Prop) (s : VS) (h : RV w b S s) (hu : VS.U32 v) :
    Calls Try.prog 65 #[.pointer (some ⟨b, 0, none⟩), .int .i64 i, .int .u32 v] w fun e w' => e = .returned (.tuple #[]) ∧ NowR w b S (s.put i v) w' := by
  cases ht : s.there i with
  | false =>
    have e : s.put i v = s := by simp [VS.put, ht]
    rw [e]
    exact (rput_no b i v w S s h ht).mono fun _ _ ⟨h1, h2⟩ => ⟨h1, h2 ▸ NowR.refl h⟩
  | true =>
    cases hw : s.wr i.toNat with
    | some u => exact rput_old b i v w S s h hu ht u hw
    | none => exact rput_new b i v w S s h hu ht hw

end Go.Proofs.Ytkfcjlampnjfbaa
