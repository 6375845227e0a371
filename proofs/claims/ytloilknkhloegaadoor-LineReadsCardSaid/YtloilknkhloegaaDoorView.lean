/- view: the program's view, as memory; Get and Put. -/
import Derived.Test.YtloilknkhloegaaDoorRows
import Derived.Test.YtloilknkhloegaaDoorVS
set_option linter.unusedSimpArgs false
set_option linter.unusedVariables false
namespace Go.Proofs.YtloilknkhloegaaDoor
open Go.RowKit

def missI (s : VS) : Int := match s.miss with | none => -1 | some i => (i : Int)

theorem zInt (w : World) : (zeroValue 3).run Tryd.prog w = .ok (.int .i64 0) w := by kernel_rfl

/-- the cell of the value of the j-th pair. -/
theorem pair_cell {l : List (Nat × Int)} {j i : Nat} {v : Int} (h : l[j]? = some (i, v)) : (pairCells l)[j * 2]? = some (.int .i64 i) ∧ (pairCells l)[j * 2 + 1]? = some (.int .u32 v) := by
  induction l generalizing j with
  | nil => simp at h
  | cons p r ih =>
    cases j with
    | zero => simp at h; subst h; simp [pairCells]
    | succ j =>
      have := ih (j := j) (by simpa using h)
      unfold pairCells at this ⊢
      simp only [List.flatMap_cons]
      have e1 : (j + 1) * 2 = j * 2 + 2 := by omega
      rw [e1]
      simpa using this
theorem pairCells_length (l : List (Nat × Int)) : (pairCells l).length = l.length * 2 := by
  induction l with
  | nil => rfl
  | cons p r ih => unfold pairCells at ih ⊢; simp [ih]; omega

theorem frozen_of_cells (w : World) (b : Nat) (cs : Array Value) {T : TypeId} (h : w.heap[b]? = some (.cells cs T)) (o : Nat) : w.frozen? ⟨b, o, none⟩ = false := by simp [World.frozen?, h]

theorem infoInt : (Tryd.prog.info? 3).map (fun i => (i.zero, i.size, i.bytes)) = some (some (.int .i64 0), 1, 8) := by kernel_rfl

theorem ownsRow_elem {w : World} {e e2 size g : Nat} {v : Value} {n : Nat} {xs : List Value} {cur : Array Value} {fr : Nat × Nat} (h : w.ownsRow 0 e size v n xs) (hg : w.heap[g]? = some (.cells cur e2 fr)) (hne : e ≠ e2) : v.ownBlock ≠ some g := by
  intro hv
  rcases h.2 with ⟨rfl, -⟩ | ⟨g', cap, cur', rfl, -, hg', -⟩
  · simp [Value.ownBlock] at hv
  · simp [Value.ownBlock] at hv
    subst hv
    rw [hg] at hg'
    simp only [Option.some.injEq, Obj.cells.injEq] at hg'
    exact hne hg'.2.1.symm
theorem ownsRow_map {w : World} {e size g : Nat} {v : Value} {n : Nat} {xs : List Value} {l : List (Int × Int)} (h : w.ownsRow 0 e size v n xs) (hg : MapIs w g l) : v.ownBlock ≠ some g := by
  intro hv
  obtain ⟨es, clk, hm, -⟩ := hg
  rcases h.2 with ⟨rfl, -⟩ | ⟨g', cap, cur', rfl, -, hg', -⟩
  · simp [Value.ownBlock] at hv
  · simp [Value.ownBlock] at hv
    subst hv
    rw [hm] at hg'
    simp at hg'
theorem cells_map {w : World} {b g : Nat} {cs : Array Value} {e : TypeId} {fr : Nat × Nat} {l : List (Int × Int)} (h : w.heap[b]? = some (.cells cs e fr)) (hg : MapIs w g l) : b ≠ g := by
  intro hv
  obtain ⟨es, clk, hm, -⟩ := hg
  subst hv
  rw [h] at hm
  simp at hm
theorem MapIs.block {w w' : World} {b : Nat} {l : List (Int × Int)} (h : MapIs w b l) (hb : w'.heap[b]? = w.heap[b]?) : MapIs w' b l := by
  obtain ⟨es, clk, h1, h2⟩ := h
  exact ⟨es, clk, hb.trans h1, h2⟩
theorem MapIs.lt {w : World} {b : Nat} {l : List (Int × Int)} (h : MapIs w b l) : b < w.heap.size := by
  obtain ⟨es, clk, h1, h2⟩ := h
  exact (Array.getElem?_eq_some_iff.1 h1).1

theorem block_kept {w w1 : World} {row : Option Nat} (h : w.grownBy w1 row) {k : Nat} (hk : k < w.heap.size) (hn : some k ≠ row) : w1.heap[k]? = w.heap[k]? := h.block k hk hn
theorem ownsRow_lt {w : World} {e size : Nat} {v : Value} {n : Nat} {xs : List Value} (h : w.ownsRow 0 e size v n xs) {k : Nat} (hk : v.ownBlock = some k) : k < w.heap.size := (h.lt k hk).2
/-- an owned row in a world in which its block is as it was. -/
theorem ownsRow_block {w w' : World} {e size : Nat} {v : Value} {n : Nat} {xs : List Value} (h : w.ownsRow 0 e size v n xs) (hb : ∀ k, v.ownBlock = some k → w'.heap[k]? = w.heap[k]?) : w'.ownsRow 0 e size v n xs := by
  refine ⟨h.1, ?_⟩
  rcases h.2 with hn | ⟨g, cap, cur, rfl, hb', hgg, rest⟩
  · exact .inl hn
  · exact .inr ⟨g, cap, cur, rfl, hb', (hb g rfl).trans hgg, rest⟩
end Go.Proofs.YtloilknkhloegaaDoor
