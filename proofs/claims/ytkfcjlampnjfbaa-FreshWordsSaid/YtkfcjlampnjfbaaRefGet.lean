/- the document's view: Get whole, and Put. -/
import Derived.Test.YtkfcjlampnjfbaaRefV
namespace Go.Proofs.Ytkfcjlampnjfbaa
open Go.RowKit

theorem wix_congr {i : Nat} : ∀ {l l' : List (Nat × Int)}, l.map (·.1) = l'.map (·.1) → wix l i = wix l' i
  | [], [], _ => rfl
  | [], _ :: _, h => by simp at h
  | _ :: _, [], h => by simp at h
  | p :: r, p' :: r', h => by
    simp only [List.map_cons, List.cons.injEq] at h
    simp only [wix, h.1, wix_congr (i := i) h.2]
theorem wix_add (i k : Nat) (v : Int) : ∀ l : List (Nat × Int), wix (l ++ [(i, v)]) k = match wix l k with | some j => some j | none => if i = k then some l.length else none
  | [] => by simp [wix]
  | p :: r => by
    simp only [List.cons_append, wix, wix_add i k v r]
    split
    · rfl
    · cases wix r k with
      | some j => rfl
      | none => by_cases h : i = k <;> simp [h]
theorem wr_put (s : VS) (i : Nat) (v : Int) : ({ s with writes := VS.setW s.writes i v } : VS).wr i = some v ∧ ∀ j, j ≠ i → ({ s with writes := VS.setW s.writes i v } : VS).wr j = s.wr j := by
  unfold VS.wr VS.setW
  cases hw : wix s.writes i with
  | some m =>
    obtain ⟨h1, u, h2⟩ := wix_some hw
    have hk := VS.setW_keys_some (v := v) hw
    simp only
    refine ⟨?_, fun j hj => ?_⟩
    · rw [wix_congr hk, hw]; simp [h1]
    · rw [wix_congr hk]
      cases hj2 : wix s.writes j with
      | none => rfl
      | some m2 =>
        obtain ⟨h3, u2, h4⟩ := wix_some hj2
        have hne : m ≠ m2 := by
          rintro rfl
          rw [h2] at h4
          simp at h4
          exact hj h4.1.symm
        simp [List.getElem?_set, hne]
  | none =>
    simp only
    refine ⟨?_, fun j hj => ?_⟩
    · rw [wix_add, hw]; simp
    · rw [wix_add]
      cases hj2 : wix s.writes j with
      | none => simp only [if_neg (fun e : i = j => hj e.symm)]; rfl
      | some m2 =>
        obtain ⟨h3, u2, h4⟩ := wix_some hj2
        simp [List.getElem?_append_left h3]
theorem wr_none {s : VS} {i : Nat} : s.wr i = none ↔ wix s.writes i = none := by
  unfold VS.wr
  cases hw : wix s.writes i with
  | none => simp
  | some m => obtain ⟨h1, u, h2⟩ := wix_some hw; simp [h2]

/-- the rows of the document's view behind a growth of one of them. -/
theorem RVs.blk {w w2 : World} {b : Nat} {S : Nat → Prop} {s : VS} {kv vv iv tv rv wv gv : Value} {all : Bool} (h : RVs w b S s kv vv iv tv rv wv all) (X : Obj) (hg : (w.alloc X).grownBy w2 gv.ownBlock) {k : Nat} (hk : S k) (hn : gv.ownBlock ≠ some k) : w2.heap[k]? = w.heap[k]? := by
  have hl := h.lt k hk
  rw [hg.block k (by simp; omega) (fun e => hn e.symm), Below.heap_alloc _ _ _ hl]

theorem RVs.rebuild {w w' : World} {b : Nat} {S : Nat → Prop} {s s' : VS} {kv vv iv tv rv wv rv' wv' : Value} {all : Bool} (h : RVs w b S s kv vv iv tv rv wv all) (F : Fr S w w')
    (hc : w'.heap[b]? = some (.cells #[.int .i64 s'.n, kv, vv, iv, tv, rv', wv', .int .i64 (missI s'), .bool all] 92)) (hn : s'.n = s.n) (hk : s'.known = s.known)
    (bk : ∀ k, kv.ownBlock = some k → w'.heap[k]? = w.heap[k]?) (bv : ∀ k, vv.ownBlock = some k → w'.heap[k]? = w.heap[k]?)
    (ir : w'.ownsRow 0 4 1 iv s.n (rowF s.n (isF s'))) (tr : w'.ownsRow 0 72 1 tv s.n (rowF s.n (toF s')))
    (rr : w'.ownsRow 0 3 1 rv' s'.reads.length (intCells s'.reads)) (wr : w'.ownsRow 0 3 1 wv' s'.writes.length (intCells (s'.writes.map (·.1))))
    (d3 : ∀ k, rv'.ownBlock = some k → wv'.ownBlock ≠ some k)
    (hr : ∀ k, rv'.ownBlock = some k → S k ∨ w.heap.size ≤ k) (hw : ∀ k, wv'.ownBlock = some k → S k ∨ w.heap.size ≤ k) (hi : s'.Inv) : NowR w b S s' w' := by
  have su : ∀ k, S k → upd S w w' k := fun k hk => Or.inl hk
  refine ⟨⟨kv, vv, iv, tv, rv', wv', all, hc, ?_, ?_, by rw [hn]; exact ir, by rw [hn]; exact tr, rr, wr, h.d1, h.d2, d3, su _ h.inb, fun k hk => su k (h.ink k hk), fun k hk => su k (h.inv' k hk), fun k hk => su k (h.ini k hk), fun k hk => su k (h.int k hk), ?_, ?_, ?_, hi, by rw [hn, hk]; exact h.tot⟩, F⟩
  · have e : knowF s' = knowF s := by funext i; simp [knowF, hk]
    rw [hn, e]; exact ownsRow_block h.kr bk
  · have e : valF s' = valF s := by funext i; simp [valF, hk]
    rw [hn, e]; exact ownsRow_block h.vr bv
  · intro k hk
    rcases hr k hk with x | x
    · exact Or.inl x
    · exact Or.inr ⟨x, ownsRow_lt rr hk⟩
  · intro k hk
    rcases hw k hk with x | x
    · exact Or.inl x
    · exact Or.inr ⟨x, ownsRow_lt wr hk⟩
  · intro k hk
    rcases hk with hk | hk
    · exact Nat.lt_of_lt_of_le (h.lt k hk) F.size
    · exact hk.2

theorem isF_wr {s s' : VS} (h : s'.wr = s.wr) : isF s' = isF s ∧ toF s' = toF s := by
  constructor <;> (funext i; simp [isF, toF, h])

theorem now_rread {w w2 : World} {b : Nat} {S : Nat → Prop} {s : VS} {kv vv iv tv rv wv : Value} {all : Bool} {n g' cap' : Nat} {X : Obj} (h : RVs w b S s kv vv iv tv rv wv all) (hg : (w.alloc X).grownBy w2 rv.ownBlock)
    (hown : w2.ownsRow 0 3 1 (.slice (some ⟨g', 0, none⟩) (s.reads.length + 1) cap') (s.reads.length + 1) (intCells s.reads ++ [.int .i64 n]))
    (hnew : ∀ k, (Value.slice (some ⟨g', 0, none⟩) (s.reads.length + 1) cap').ownBlock = some k → rv.ownBlock = some k ∨ (w.alloc X).heap.size ≤ k) (hi : VS.Inv { s with reads := s.reads ++ [n] }) :
    NowR w b S { s with reads := s.reads ++ [n] } (w2.setCell ⟨b, 5, none⟩ (.slice (some ⟨g', 0, none⟩) (s.reads.length + 1) cap')) := by
  have rb := ownsRow_elem h.rr h.cells (by decide)
  have bb : w2.heap[b]? = w.heap[b]? := h.blk X hg h.inb rb
  have hg' := hnew g' rfl
  have hbl : ∀ k, S k → rv.ownBlock ≠ some k → k ≠ b → (w2.setCell ⟨b, 5, none⟩ (.slice (some ⟨g', 0, none⟩) (s.reads.length + 1) cap')).heap[k]? = w.heap[k]? := fun k hk h1 h2 => by
    rw [Below.heap_setCell _ _ _ _ (by simpa using h2)]; exact h.blk X hg hk h1
  have hgb : g' ≠ b := by
    rintro rfl
    rcases hg' with x | x
    · exact rb x
    · have := h.lt _ h.inb; simp at x; omega
  have F : Fr S w (w2.setCell ⟨b, 5, none⟩ (.slice (some ⟨g', 0, none⟩) (s.reads.length + 1) cap')) :=
    (((Fr.refl S w).alloc X).grown hg (fun k hk => Or.inl (h.inr k hk))).setCell _ _ (Or.inl h.inb)
  refine h.rebuild (rv' := .slice (some ⟨g', 0, none⟩) (s.reads.length + 1) cap') (wv' := wv) F ?_ rfl rfl ?_ ?_ ?_ ?_ ?_ ?_ ?_ ?_ (fun k hk => Or.inl (h.inw k hk)) hi
  · have := Joins.block_setCell (i := 5) (bb.trans h.cells) (.slice (some ⟨g', 0, none⟩) (s.reads.length + 1) cap')
    rw [this]; rfl
  · exact fun k hk => hbl k (h.ink k hk) (ownsRow_ne h.rr h.kr (by decide) hk) (fun e => ownsRow_elem h.kr h.cells (by decide) (by rw [hk, e]))
  · exact fun k hk => hbl k (h.inv' k hk) (ownsRow_ne h.rr h.vr (by decide) hk) (fun e => ownsRow_elem h.vr h.cells (by decide) (by rw [hk, e]))
  · exact ownsRow_block h.ir fun k hk => hbl k (h.ini k hk) (ownsRow_ne h.rr h.ir (by decide) hk) (fun e => ownsRow_elem h.ir h.cells (by decide) (by rw [hk, e]))
  · exact ownsRow_block h.tr fun k hk => hbl k (h.int k hk) (ownsRow_ne h.rr h.tr (by decide) hk) (fun e => ownsRow_elem h.tr h.cells (by decide) (by rw [hk, e]))
  · have := ownsRow_block (w' := w2.setCell ⟨b, 5, none⟩ (.slice (some ⟨g', 0, none⟩) (s.reads.length + 1) cap')) hown (fun k hk => Below.heap_setCell _ _ _ _ (by simp [Value.ownBlock] at hk; subst hk; simpa using hgb))
    simpa [intCells] using this
  · exact ownsRow_block h.wr fun k hk => hbl k (h.inw k hk) (fun e => h.d3 k e hk) (fun e => ownsRow_elem h.wr h.cells (by decide) (by rw [hk, e]))
  · intro k hk hk2
    rcases hnew k hk with x | x
    · exact h.d3 k x hk2
    · have := ownsRow_lt h.wr hk2; simp at x; omega
  · intro k hk
    rcases hnew k hk with x | x
    · exact Or.inl (h.inr k x)
    · simp at x; exact Or.inr (by omega)

set_option maxRecDepth 100000 in
theorem rget_new (b : Nat) (i : Int) (w : World) (S : Nat → Prop) (s : VS) (h : RV w b S s) (ht : s.there i = true) (v : Int) (hw : s.wr i.toNat = none) (hk : s.known i.toNat = some v) (hr : i.toNat ∉ s.reads) :
    Calls Try.prog 64 #[.pointer (some ⟨b, 0, none⟩), .int .i64 i] w fun e w' => e = .returned (.int .u32 v) ∧ NowR w b S { s with reads := s.reads ++ [i.toNat] } w' := by
  have hinv := (keepsRV.inv h).get i
  have e : s.get i = (v, { s with reads := s.reads ++ [i.toNat] }) := by simp [VS.get, ht, hw, hk, VS.read1, hr]
  rw [e] at hinv
  obtain ⟨hi0, hi1, hm⟩ := VS.there_iff.1 ht
  obtain ⟨n, rfl⟩ := Int.eq_ofNat_of_zero_le hi0
  simp only [Int.toNat_natCast] at hw hk hr hinv ⊢
  obtain ⟨kv, vv, iv, tv, rv, wv, all, hv⟩ := h
  have h0 := hv.cell 0
  have h1 := hv.cell 1
  have h3 := hv.cell 3
  have h5 := hv.cell 5
  have h7 := hv.cell 7
  have e7 : missI s = -1 := by simp [missI, hm]
  simp [e7] at h0 h1 h3 h5 h7
  obtain ⟨gi, ci, rfl⟩ := Joins.ownsRow_form hv.ir (by omega)
  obtain ⟨gk, ck, rfl⟩ := Joins.ownsRow_form hv.kr (by omega)
  obtain ⟨gv, cv, rfl⟩ := Joins.ownsRow_form hv.vr (by omega)
  have ci0 : w.cell? ⟨gi, n, none⟩ = some (.bool false) := by rw [hv.ir.cellAt n (by omega), rowF_get _ (by omega)]; simp [isF, hw]
  have ck0 : w.cell? ⟨gk, n, none⟩ = some (.bool true) := by rw [hv.kr.cellAt n (by omega), rowF_get _ (by omega)]; simp [knowF, hk]
  have cv0 : w.cell? ⟨gv, n, none⟩ = some (.int .u32 v) := by rw [hv.vr.cellAt n (by omega), rowF_get _ (by omega)]; simp [valF, hk]
  have hl := hv.inv.reads_le
  have hs := hv.inv.small
  have H := has_any s.reads n rv w hv.rr (by omega)
  simp only [hr, decide_false] at H
  have HH := Lib.hid H
  have HV := Lib.hid hv
  have HI := Lib.hid hinv
  have HC := Lib.hid cv0
  have hbv : b ≠ gv := fun x => ownsRow_elem hv.vr hv.cells (by decide) (by rw [x]; rfl)
  obtain ⟨i0, hi0, hi1, hi2, hi3⟩ := info_parts infoInt
  have HT := Lib.hid (And.intro hi0 (And.intro hi1 (And.intro hi2 hi3)))
  clear hv hm ht hw hk hr e7 H hinv e cv0 hi0 hi1 hi2 hi3
  go_enter Try.func64, Try.ntmps64
  go_wp2_with (first | (go_at_call 103; go_must (refine HH.out.mono ?_); rintro e w1 ⟨rfl, rfl⟩) | (at_builtin; go_must (refine wpL_append rfl _ _ rfl 3 i0 (.int .i64 0) 1 8 Try.underlying32 HT.out.1 HT.out.2.1 HT.out.2.2.1 HT.out.2.2.2 rfl (by decide) rv s.reads.length (intCells s.reads) rfl (HV.out.rr.alloc _) ⟨w.heap.size, 0, none⟩ 1 1 [.int .i64 n] rfl rfl (cell_one_new _ _ _) ?c1 ?c2 ?c3 ?_); go_must (case c1 => (simp [Value.oneCell'])); go_must (case c2 => (unfold maxLen; omega)); go_must (case c3 => (omega)); go_must (intro v' w2 hown2 hg2 hnew2 hnil2); clear hnil2; go_must (obtain ⟨g', cap', rfl⟩ := Joins.ownsRow_form hown2 (by omega)); go_must (have bb : w2.heap[b]? = w.heap[b]? := HV.out.blk _ hg2 HV.out.inb (ownsRow_elem HV.out.rr HV.out.cells (by decide))); go_must (have e5 : w2.cell? ⟨b, 5, none⟩ = some rv := (World.cell?_of_block (a := ⟨b, 5, none⟩) bb).trans h5); go_must (have f5 : w2.frozen? ⟨b, 5, none⟩ = false := frozen_of_cells _ _ _ (bb.trans HV.out.cells) _); go_must (have e2 : w2.cell? ⟨b, 2, none⟩ = some (.slice (some ⟨gv, 0, none⟩) s.n cv) := (World.cell?_of_block (a := ⟨b, 2, none⟩) bb).trans ((HV.out.cell 2).trans rfl)); go_must (have ev : w2.cell? ⟨gv, n, none⟩ = some (.int .u32 v) := (World.cell?_of_block (a := ⟨gv, n, none⟩) (HV.out.blk _ hg2 (HV.out.inv' gv rfl) (ownsRow_ne HV.out.rr HV.out.vr (by decide) rfl))).trans HC.out)))
  go_ret
  exact ⟨rfl, now_rread HV.out hg2 hown2 hnew2 HI.out⟩

theorem rget_any (b : Nat) (i : Int) (w : World) (S : Nat → Prop) (s : VS) (h : RV w b S s) :
    Calls Try.prog 64 #[.pointer (some ⟨b, 0, none⟩), .int .i64 i] w fun e w' => e = .returned (.int .u32 (s.get i).1) ∧ NowR w b S (s.get i).2 w' := by
  cases ht : s.there i with
  | false =>
    have e : s.get i = (0, s) := by simp [VS.get, ht]
    rw [e]
    exact (rget_no b i w S s h ht).mono fun _ _ ⟨h1, h2⟩ => ⟨h1, h2 ▸ NowR.refl h⟩
  | true =>
    obtain ⟨h0, h1, -⟩ := VS.there_iff.1 ht
    cases hw : s.wr i.toNat with
    | some v =>
      have e : s.get i = (v, s) := by simp [VS.get, ht, hw]
      rw [e]
      exact (rget_put b i w S s h ht v hw).mono fun _ _ ⟨h1, h2⟩ => ⟨h1, h2 ▸ NowR.refl h⟩
    | none =>
      obtain ⟨v, hk⟩ : ∃ v, s.known i.toNat = some v := by
        obtain ⟨kv, vv, iv, tv, rv, wv, all, hv⟩ := h
        exact hv.tot _ (by omega)
      by_cases hr : i.toNat ∈ s.reads
      · have e : s.get i = (v, s) := by simp [VS.get, ht, hw, hk, VS.read1, hr]
        rw [e]
        exact (rget_old b i w S s h ht v hw hk hr).mono fun _ _ ⟨h1, h2⟩ => ⟨h1, h2 ▸ NowR.refl h⟩
      · have e : s.get i = (v, { s with reads := s.reads ++ [i.toNat] }) := by simp [VS.get, ht, hw, hk, VS.read1, hr]
        rw [e]
        exact rget_new b i w S s h ht v hw hk hr

end Go.Proofs.Ytkfcjlampnjfbaa
