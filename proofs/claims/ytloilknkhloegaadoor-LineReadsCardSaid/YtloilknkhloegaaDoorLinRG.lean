/- lines: what the program's Read keeps between two lines. -/
import Derived.Test.YtloilknkhloegaaDoorIterT
import Derived.Test.YtloilknkhloegaaDoorLinRP
import Derived.Test.YtloilknkhloegaaDoorLinRD
set_option linter.unusedSimpArgs false
set_option linter.unusedVariables false
namespace Go.Proofs.YtloilknkhloegaaDoor
open Go.RowKit

/-- cells that are none of bs stay. -/
theorem cells_bear {bs : List Nat} {B : Nat} {A A' : World} {row : Option Nat} (hg : A.grownBy A' row) (hr : ∀ r, row = some r → r ∈ bs ∨ (B ≤ r ∧ ∃ o : Obj, A.heap[r]? = some o ∧ o.isCells = false)) {k : Nat} {o : Obj} (hk : k ∉ bs) (h : A.heap[k]? = some o) (hc : o.isCells = true) : A'.heap[k]? = some o := by
  refine (hg.block k (Array.getElem?_eq_some_iff.1 h).1 fun e => ?_).trans h
  rcases hr k e.symm with h1 | ⟨-, o2, h2, h3⟩
  · exact hk h1
  · rw [h] at h2
    cases h2
    rw [hc] at h3
    cases h3
structure RdS (w : World) (r nn : Nat) (l : List PEn) (W : World) : Prop where
  c0 : W.heap[r]? = some (.cells #[.slice none 0 0] 45)
  c1 : W.heap[r + 1]? = some (.cells #[.int .i64 0] 3)
  c2 : W.heap[r + 2]? = some (.cells #[.int .i64 0] 24)
  c3 : ∃ v, W.heap[r + 3]? = some (.cells #[v] 45) ∧ W.ownsRow 0 54 8 v l.length (entL l) ∧ ∀ x, v.ownBlock = some x → r + 7 < x
  c4 : W.heap[r + 4]? = some (.cells #[.int .i64 nn] 3)
  bel : Below r w W
  sz : r + 8 ≤ W.heap.size
/-- the row's block is cells. -/
theorem row_cells {W : World} {e sz n : Nat} {v : Value} {xs : List Value} (h : W.ownsRow 0 e sz v n xs) {x : Nat} (hx : v.ownBlock = some x) : ∃ o : Obj, W.heap[x]? = some o ∧ o.isCells = true := by
  rcases h.2 with ⟨rfl, -⟩ | ⟨g, cap, cur, rfl, -, hg, -⟩
  · cases hx
  · cases hx
    exact ⟨_, hg, rfl⟩
theorem RdS.bears (w : World) (r : Nat) (hw : r ≤ w.heap.size) (B : Nat) (hB : r ≤ B) : BearsB [r + 5] B (fun (pre : List (List UInt8)) W => ∃ l, RdPre pre l ∧ RdS w r pre.length l W) := by
  rintro pre A A' row ⟨l, hp, h⟩ hg hr
  obtain ⟨v, v1, v2, v3⟩ := h.c3
  refine ⟨l, hp, cells_bear hg hr (by simp) h.c0 rfl, cells_bear hg hr (by simp) h.c1 rfl, cells_bear hg hr (by simp) h.c2 rfl, ⟨v, cells_bear hg hr (by simp) v1 rfl, ownsRow_block v2 fun x hx => ?_, v3⟩, cells_bear hg hr (by simp) h.c4 rfl, h.bel.grown hg (Nat.le_trans hw h.bel.size) fun k e => ?_, Nat.le_trans h.sz hg.size⟩
  · obtain ⟨o, h1, h2⟩ := row_cells v2 hx
    have hlt := v3 x hx
    rw [h1]
    exact cells_bear hg hr (by simp; omega) h1 h2
  · rcases hr k e with h1 | ⟨h1, -⟩
    · simp at h1
      omega
    · omega
end Go.Proofs.YtloilknkhloegaaDoor
