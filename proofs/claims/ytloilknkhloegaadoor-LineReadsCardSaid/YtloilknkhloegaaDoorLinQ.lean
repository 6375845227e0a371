/- lines: the program's forms, and how one is found. -/
import Derived.Test.YtloilknkhloegaaDoorLinP
set_option linter.unusedSimpArgs false
set_option linter.unusedVariables false
namespace Go.Proofs.YtloilknkhloegaaDoor
open Go.RowKit

def fmC (f : Fm) : List Value := [.string (bs f.w), .int .i64 f.k, .int .i64 f.o, .string (bs f.ns)]
def fmV (f : Fm) : Value := .agg (fmC f).toArray
def formsC : Array Value := (formsL.flatMap fmC).toArray

set_option maxHeartbeats 2000000 in
set_option maxRecDepth 100000 in
theorem forms_any (w : World) :
    Calls Tryd.prog 52 #[] w fun e w' => e = .returned (.slice (some ⟨w.heap.size, 0, none⟩) 14 14) ∧ w' = w.alloc (.cells formsC 76) := by
  go_enter Tryd.func52, Tryd.ntmps52
  go_wp2
  go_ret
  exact ⟨rfl, rfl⟩

/-- the piece of a line that its word is, as the closure sees it. -/
structure Word0 (w : World) (b : Nat) (x : List UInt8) : Prop where
  box : ∃ g n c, w.cell? ⟨b, 0, none⟩ = some (.slice (some ⟨g, 0, none⟩) (n + 1) c) ∧ w.cell? ⟨g, 0, none⟩ = some (.string (bs x))
theorem Word0.step {w w' : World} {b : Nat} {x : List UInt8} (h : Word0 w b x) (hb : Below w.heap.size w w') : Word0 w' b x := by
  obtain ⟨g, n, c, h1, h2⟩ := h.box
  exact ⟨g, n, c, (hb.cell (World.block_lt_of_cell? w _ h1)).trans h1, (hb.cell (World.block_lt_of_cell? w _ h2)).trans h2⟩
set_option maxHeartbeats 1000000 in
set_option maxRecDepth 100000 in
theorem parse1_any (f : Fm) (b : Nat) (x : List UInt8) (w : World) (h : Word0 w b x) :
    Calls Tryd.prog 39 #[.agg #[.string (bs f.w), .int .i64 f.k, .int .i64 f.o, .string (bs f.ns)], .pointer (some ⟨b, 0, none⟩)] w fun e w' => e = .returned (.bool (f.w == x)) ∧ Below w.heap.size w w' := by
  obtain ⟨g, n, c, h1, h2⟩ := h.box
  have l1 := World.block_lt_of_cell? w _ h1
  have l2 := World.block_lt_of_cell? w _ h2
  simp only at l1 l2
  clear h
  have h1a : ∀ o, (w.alloc o).cell? ⟨b, 0, none⟩ = some (.slice (some ⟨g, 0, none⟩) (n + 1) c) := fun o => (World.cell?_alloc_lt _ _ _ l1).trans h1
  have h2a : ∀ o, (w.alloc o).cell? ⟨g, 0, none⟩ = some (.string (bs x)) := fun o => (World.cell?_alloc_lt _ _ _ l2).trans h2
  clear h1 h2
  go_enter Tryd.func39, Tryd.ntmps39
  go_wp2
  go_region
  go_wp2
  go_ret
  refine ⟨rfl, ?_⟩
  (repeat (first | exact Below.refl _ _ | assumption | refine Below.setCell ?_ (by first | omega | (simp; done) | (simp; omega)) _ | refine Below.alloc ?_ (by first | omega | (simp; done) | (simp; omega)) _ | refine Below.drew ?_ | refine Below.trans ?_ (Below.mono ‹Below _ _ _› (by first | omega | (simp; done) | (simp; omega)))))
theorem text1_any (f : Fm) (b : Nat) (k z o : Int) (w : World) (h0 : w.cell? ⟨b, 0, none⟩ = some (.int .i64 k)) (h3 : w.cell? ⟨b, 3, none⟩ = some (.int .i64 o)) :
    Calls Tryd.prog 45 #[.agg #[.string (bs f.w), .int .i64 f.k, .int .i64 f.o, .string (bs f.ns)], .pointer (some ⟨b, 0, none⟩)] w fun e w' => e = .returned (.bool (f.k == k && f.o == o)) ∧ Below w.heap.size w w' := by
  have l1 := World.block_lt_of_cell? w _ h0
  simp only at l1
  have h1a : ∀ o, (w.alloc o).cell? ⟨b, 0, none⟩ = some (.int .i64 k) := fun o => (World.cell?_alloc_lt _ _ _ l1).trans h0
  have h2a : ∀ x, (w.alloc x).cell? ⟨b, 3, none⟩ = some (.int .i64 o) := fun x => (World.cell?_alloc_lt _ _ _ l1).trans h3
  clear h0 h3
  go_enter Tryd.func45, Tryd.ntmps45
  go_wp2
  all_goals
    go_ret
    refine ⟨ret_bool (by simp [*]), ?_⟩
    (repeat (first | exact Below.refl _ _ | assumption | refine Below.setCell ?_ (by first | omega | (simp; done) | (simp; omega)) _ | refine Below.alloc ?_ (by first | omega | (simp; done) | (simp; omega)) _ | refine Below.drew ?_ | refine Below.trans ?_ (Below.mono ‹Below _ _ _› (by first | omega | (simp; done) | (simp; omega)))))

/-- the cells of the k-th form. -/
theorem form_cells {w : World} {g : Nat} (h : w.heap[g]? = some (.cells formsC 76)) (k : Nat) (f : Fm) (hf : formsL[k]? = some f) :
    w.cell? ⟨g, k * 4, none⟩ = some (.string (bs f.w)) ∧ w.cell? ⟨g, k * 4 + 1, none⟩ = some (.int .i64 f.k) ∧ w.cell? ⟨g, k * 4 + 2, none⟩ = some (.int .i64 f.o) ∧ w.cell? ⟨g, k * 4 + 3, none⟩ = some (.string (bs f.ns)) := by
  have hc : ∀ o, w.cell? ⟨g, o, none⟩ = formsC[o]? := fun o => cell?_of_heap h
  have hk : k < 14 := (List.getElem?_eq_some_iff.1 hf).1
  have hall : ∀ k : Fin 14, formsC[k.val * 4]? = (formsL[k.val]?).map (fun f => Value.string (bs f.w)) ∧ formsC[k.val * 4 + 1]? = (formsL[k.val]?).map (fun f => Value.int .i64 f.k) ∧ formsC[k.val * 4 + 2]? = (formsL[k.val]?).map (fun f => Value.int .i64 f.o) ∧ formsC[k.val * 4 + 3]? = (formsL[k.val]?).map (fun f => Value.string (bs f.ns)) := by
    intro ⟨k, hk⟩
    match k, hk with
    | 0, _ | 1, _ | 2, _ | 3, _ | 4, _ | 5, _ | 6, _ | 7, _ | 8, _ | 9, _ | 10, _ | 11, _ | 12, _ | 13, _ => exact ⟨rfl, rfl, rfl, rfl⟩
  have h4 := hall ⟨k, hk⟩
  simp only [hf, Option.map_some] at h4
  exact ⟨(hc _).trans h4.1, (hc _).trans h4.2.1, (hc _).trans h4.2.2.1, (hc _).trans h4.2.2.2⟩
/-- where the first form is that answers so. -/
def idxF (p : Fm → Bool) : List Fm → Nat → Int
  | [], _ => -1
  | f :: r, k => if p f then k else idxF p r (k + 1)
def IdxW (w : World) (k : Nat) (i : Value) (wr : World) : Prop := i = .int .i64 k ∧ Below w.heap.size w wr
def IdxL (p : Fm → Bool) (w : World) (i : Value) (wr : World) : Prop := ∃ k : Nat, k ≤ 14 ∧ i = .int .i64 k ∧ idxF p (formsL.drop k) k = idxF p formsL 0 ∧ Below w.heap.size w wr
theorem idxF_step (p : Fm → Bool) (k : Nat) (f : Fm) (h : formsL[k]? = some f) : idxF p (formsL.drop k) k = if p f then (k : Int) else idxF p (formsL.drop (k + 1)) (k + 1) := by
  have : formsL.drop k = f :: formsL.drop (k + 1) := by
    obtain ⟨hl, he⟩ := List.getElem?_eq_some_iff.1 h
    rw [← he]
    exact List.drop_eq_getElem_cons hl
  rw [this]
  rfl
end Go.Proofs.YtloilknkhloegaaDoor
