/- a call under way that makes new blocks alone: its own boxes, and what lies below. -/
import Derived.Test.YtloilknkhloegaaDoorGen
set_option linter.unusedSimpArgs false
set_option linter.unusedVariables false
namespace Go.Proofs.YtloilknkhloegaaDoor
open Go.RowKit

/-- since w0 nothing below has turned; the boxes Ls are the call's own. -/
structure BS (w0 : World) (Ls : List Nat) (w : World) : Prop where
  bel : Below w0.heap.size w0 w
  ls : ∀ L ∈ Ls, L < w.heap.size ∧ w0.heap.size ≤ L

section
variable {w0 w w' : World} {Ls : List Nat}

theorem BS.start (w0 : World) : BS w0 [] w0 := ⟨Below.refl _ _, by simp⟩

theorem BS.below (h : BS w0 Ls w) (hb : Below w.heap.size w w') : BS w0 Ls w' :=
  ⟨h.bel.trans (hb.mono h.bel.size), fun L hL => ⟨Nat.lt_of_lt_of_le (h.ls L hL).1 hb.size, (h.ls L hL).2⟩⟩

theorem BS.alloc (h : BS w0 Ls w) (o : Obj) : BS w0 (w.heap.size :: Ls) (w.alloc o) := by
  refine ⟨h.bel.alloc h.bel.size o, fun L hL => ?_⟩
  simp at hL
  rcases hL with rfl | hL
  · exact ⟨by simp, h.bel.size⟩
  · have := h.ls L hL; exact ⟨by simp; omega, this.2⟩

theorem BS.drew (h : BS w0 Ls w) : BS w0 Ls w.drew := ⟨h.bel.drew, h.ls⟩

theorem BS.setCell (h : BS w0 Ls w) {L : Nat} (hL : L ∈ Ls) (o : Nat) (v : Value) : BS w0 Ls (w.setCell ⟨L, o, none⟩ v) :=
  ⟨h.bel.setCell (h.ls L hL).2 v, fun M hM => ⟨by simpa using (h.ls M hM).1, (h.ls M hM).2⟩⟩

theorem BS.sub (h : BS w0 Ls w) (Ls' : List Nat) (hL : ∀ L ∈ Ls', L ∈ Ls) : BS w0 Ls' w := ⟨h.bel, fun L hm => h.ls L (hL L hm)⟩

theorem BS.grown (h : BS w0 Ls w) {row : Option Nat} (hg : w.grownBy w' row) (hr : ∀ k, row = some k → k ∈ Ls) (Ls' : List Nat) (hL : ∀ L ∈ Ls', L ∈ Ls ∨ (w.heap.size ≤ L ∧ L < w'.heap.size)) : BS w0 Ls' w' := by
  refine ⟨h.bel.grown hg h.bel.size (fun k hk => (h.ls k (hr k hk)).2), fun L hm => ?_⟩
  have := h.bel.size
  rcases hL L hm with y | y
  · exact ⟨Nat.lt_of_lt_of_le (h.ls L y).1 hg.size, (h.ls L y).2⟩
  · exact ⟨y.2, by omega⟩

/-- a call that makes new blocks alone. -/
theorem calls_b {P : Program} {f : FuncId} {args : Array Value} {val : Value} (h : BS w0 Ls w)
    (hc : Calls P f args w fun e w' => e = .returned val ∧ Below w.heap.size w w') :
    Calls P f args w fun e w' => e = .returned val ∧ BS w0 Ls w' ∧ ∀ L ∈ Ls, w'.heap[L]? = w.heap[L]? :=
  hc.mono fun _ _ ⟨he, hb⟩ => ⟨he, h.below hb, fun L hL => hb.block L (h.ls L hL).1⟩

/-- a cell of what lay there before. -/
theorem BS.old (h : BS w0 Ls w) {a : Addr} {u : Value} (hc : w0.cell? a = some u) : w.cell? a = some u :=
  (h.bel.cell (World.block_lt_of_cell? w0 a hc)).trans hc
end

theorem BS.oldbox {w0 w : World} {Ls : List Nat} {b : Nat} {cs : Array Value} (h : BS w0 Ls w) (hc : ∀ o : Nat, w0.cell? ⟨b, o, none⟩ = cs[o]?) (hb : b < w0.heap.size) : ∀ o : Nat, w.cell? ⟨b, o, none⟩ = cs[o]? :=
  fun o => (h.bel.cell (p := ⟨b, o, none⟩) hb).trans (hc o)

theorem BS.row {w0 w : World} {Ls : List Nat} {e sz n : Nat} {v : Value} {xs : List Value} (h : BS w0 Ls w) (hr : w0.ownsRow 0 e sz v n xs) : w.ownsRow 0 e sz v n xs :=
  ownsRow_block hr fun k hk => h.bel.block k (ownsRow_lt hr hk)

theorem world_gen {F : World → Prop} {W : World} (h : ∀ W', W' = W → F W') : F W := h W rfl

/-- behind an append to the row v, which a box went ahead of. -/
theorem BS.append {w0 w w' : World} {L : Nat} {v v' : Value} {ob : Obj} {e sz n : Nat} {xs : List Value} (h : BS w0 (L :: v.ownBlock.toList) w) (hg : (w.alloc ob).grownBy w' v.ownBlock)
    (hnew : ∀ k, v'.ownBlock = some k → v.ownBlock = some k ∨ (w.alloc ob).heap.size ≤ k) (hown : w'.ownsRow 0 e sz v' n xs) : BS w0 (L :: v'.ownBlock.toList) w' := by
  refine (h.alloc ob).grown hg (fun k hk => by simp [hk]) _ fun M hM => ?_
  simp at hM
  rcases hM with rfl | hM
  · exact Or.inl (by simp)
  · rcases hnew M hM with h1 | h1
    · exact Or.inl (by simp [h1])
    · exact Or.inr ⟨h1, ownsRow_lt hown hM⟩

/-- a box of the call's own, beside the others. -/
structure BA (w0 : World) (Ls : List Nat) (LA : Nat) (cs : Array Value) (T : TypeId) (w : World) : Prop where
  bs : BS w0 (LA :: Ls) w
  box : w.heap[LA]? = some (.cells cs T)
  ne : ∀ L ∈ Ls, L ≠ LA
section
variable {w0 w w' : World} {Ls : List Nat} {LA : Nat} {cs : Array Value} {T : TypeId}
theorem BS.allocd (h : BS w0 Ls w) (cs : Array Value) (T : TypeId) : BA w0 Ls w.heap.size cs T (w.alloc (.cells cs T)) :=
  ⟨h.alloc _, heap_alloc_new w _, fun L hL e => by have := (h.ls L hL).1; omega⟩
theorem BA.step (h : BA w0 Ls LA cs T w) (hV : BS w0 (LA :: Ls) w') (hl : ∀ L ∈ LA :: Ls, w'.heap[L]? = w.heap[L]?) : BA w0 Ls LA cs T w' :=
  ⟨hV, (hl _ (by simp)).trans h.box, h.ne⟩
theorem frozen?_of_heap {o : Nat} (h : w.heap[LA]? = some (.cells cs T)) : w.frozen? ⟨LA, o, none⟩ = false := by
  simp [World.frozen?, h]
theorem heap_setCell_same {L o : Nat} {v : Value} (h : w.heap[L]? = some (.cells cs T)) : (w.setCell ⟨L, o, none⟩ v).heap[L]? = some (.cells (cs.setIfInBounds o v) T) := by
  simp only [World.setCell]
  rw [Array.getElem?_modify, if_pos rfl, h]
  rfl
theorem heap_setCell_other {L M o : Nat} {v : Value} (h : M ≠ L) : (w.setCell ⟨L, o, none⟩ v).heap[M]? = w.heap[M]? := by
  simp only [World.setCell]
  rw [Array.getElem?_modify, if_neg (Ne.symm h)]
theorem BA.set (h : BA w0 Ls LA cs T w) (o : Nat) (v : Value) : BA w0 Ls LA (cs.setIfInBounds o v) T (w.setCell ⟨LA, o, none⟩ v) :=
  ⟨h.bs.setCell (by simp) _ _, heap_setCell_same h.box, h.ne⟩
theorem BA.loc (h : BA w0 Ls LA cs T w) {L : Nat} {ds : Array Value} (hm : L ∈ Ls) (o : Nat) (v : Value) (hc : ∀ i : Nat, w.cell? ⟨L, i, none⟩ = ds[i]?) : ∀ i : Nat, (w.setCell ⟨LA, o, none⟩ v).cell? ⟨L, i, none⟩ = ds[i]? :=
  fun i => (World.cell?_of_block (a := ⟨L, i, none⟩) (heap_setCell_other (h.ne L hm))).trans (hc i)
theorem BA.hloc (h : BA w0 Ls LA cs T w) {L : Nat} {x : Option Obj} (hm : L ∈ Ls) (o : Nat) (v : Value) (hc : w.heap[L]? = x) : (w.setCell ⟨LA, o, none⟩ v).heap[L]? = x :=
  (heap_setCell_other (h.ne L hm)).trans hc
theorem BA.grown (h : BA w0 Ls LA cs T w) {ob : Obj} {row : Option Nat} (hg : (w.alloc ob).grownBy w' row) (hr : ∀ k, row = some k → k < w0.heap.size) : ∀ o : Nat, w'.cell? ⟨LA, o, none⟩ = cs[o]? := by
  have hl := h.bs.ls LA (by simp)
  exact loc_grown hg (by simp; omega) (fun e => by have := hr _ e; omega) (loc_old ob hl.1 fun o => cell?_of_heap h.box)
/-- what a box of three cells offers the walk. -/
theorem BA.cells3 {x y z : Value} (h : BA w0 Ls LA #[x, y, z] T w) : (w.cell? ⟨LA, 0, none⟩ = some x ∧ w.cell? ⟨LA, 1, none⟩ = some y ∧ w.cell? ⟨LA, 2, none⟩ = some z) ∧ w.frozen? ⟨LA, 0, none⟩ = false ∧ w.frozen? ⟨LA, 1, none⟩ = false ∧ w.frozen? ⟨LA, 2, none⟩ = false ∧ LA < w.heap.size ∧ w0.heap.size ≤ LA ∧ Below w0.heap.size w0 w :=
  ⟨⟨cell?_of_heap h.box, cell?_of_heap h.box, cell?_of_heap h.box⟩, frozen?_of_heap h.box, frozen?_of_heap h.box, frozen?_of_heap h.box, (h.bs.ls LA (by simp)).1, (h.bs.ls LA (by simp)).2, h.bs.bel⟩
theorem cells3 {L : Nat} {x y z : Value} (h : w.heap[L]? = some (.cells #[x, y, z] T)) : (w.cell? ⟨L, 0, none⟩ = some x ∧ w.cell? ⟨L, 1, none⟩ = some y ∧ w.cell? ⟨L, 2, none⟩ = some z) ∧ w.frozen? ⟨L, 0, none⟩ = false ∧ w.frozen? ⟨L, 1, none⟩ = false ∧ w.frozen? ⟨L, 2, none⟩ = false :=
  ⟨⟨cell?_of_heap h, cell?_of_heap h, cell?_of_heap h⟩, frozen?_of_heap h, frozen?_of_heap h, frozen?_of_heap h⟩
end

/-- a configuration's values: the slice (ad, n, c) holds a heap's cells. -/
structure XV (w : World) (t p s : Int) (ad : Addr) (n : Nat) (vs : List Int) : Prop where
  right : rightB t p s = true
  few : p ≤ 64
  len : vs.length = n
  num : (n : Int) = 30 + 4 * t + 6 * p
  u32 : ∀ v ∈ vs, VS.U32 v
  cells : ∀ k, k < n → w.cell? (ad.add k) = some (.int .u32 (vs.getD k 0))

theorem XV.keep {w w' : World} {t p s : Int} {ad : Addr} {n : Nat} {vs : List Int} (h : XV w t p s ad n vs) (hb : Below w.heap.size w w') : XV w' t p s ad n vs :=
  ⟨h.right, h.few, h.len, h.num, h.u32, fun k hk => (hb.cell (World.block_lt_of_cell? w _ (h.cells k hk))).trans (h.cells k hk)⟩

/-- the place of a page's cell. -/
def cix (t q part : Int) : Nat := (30 + 4 * t + 6 * q + part).toNat
def gv (vs : List Int) (t q part : Int) : Int := vs.getD (cix t q part) 0

theorem add_block (a : Addr) (k : Nat) : (a.add k).block = a.block := by unfold Addr.add; split <;> rfl

theorem getD_u32 {vs : List Int} (h : ∀ v ∈ vs, VS.U32 v) (k : Nat) : VS.U32 (vs.getD k 0) := by
  by_cases hk : k < vs.length
  · have e : vs.getD k 0 = vs[k] := by simp [hk]
    rw [e]; exact h _ (List.getElem_mem hk)
  · have e : vs.getD k 0 = 0 := by simp [show ¬ k < vs.length from hk]
    rw [e]; exact VS.u32_zero

section
variable {w : World} {t p s : Int} {ad : Addr} {n : Nat} {vs : List Int}
theorem XV.bd (h : XV w t p s ad n vs) : 1 ≤ t ∧ t ≤ 16 ∧ 4 ≤ p ∧ p ≤ 64 ∧ 10 ≤ s ∧ s ≤ 20 ∧ (n : Int) = 30 + 4 * t + 6 * p := by
  have := right_bd h.right
  have := h.few
  have := h.num
  omega
theorem XV.of (h : XV w t p s ad n vs) {q part : Int} (h1 : 0 ≤ q) (h2 : q < p) : ofF t p s q part = 30 + 4 * t + 6 * q + part := by
  simp [ofF, h.right, h1, h2]
theorem XV.cx (h : XV w t p s ad n vs) {q part : Int} (h1 : 0 ≤ q) (h2 : q < p) (h3 : 0 ≤ part) (h4 : part ≤ 5) : cix t q part < n ∧ ofF t p s q part = ((cix t q part : Nat) : Int) := by
  have b := h.bd
  rw [h.of h1 h2]
  unfold cix
  omega
theorem XV.gu (h : XV w t p s ad n vs) (q part : Int) : 0 ≤ gv vs t q part ∧ gv vs t q part < 4294967296 := getD_u32 h.u32 _
end

end Go.Proofs.YtloilknkhloegaaDoor
