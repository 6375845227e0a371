/- view: Vals; the document's Vals. -/
import Derived.Test.YtdfjgaeiodjmnaaBSt
set_option linter.unusedSimpArgs false
set_option linter.unusedVariables false
namespace Go.Proofs.Ytdfjgaeiodjmnaa
open Go.RowKit

/-- two rows of values are held against one another. -/
def ValsRel (a b : List Int) (w : World) (i : Value) (wr : World) : Prop := ∃ k : Nat, k ≤ a.length ∧ i = .int .i64 k ∧ (∀ j, j < k → a[j]? = b[j]?) ∧ Below w.heap.size w wr

/-- the values behind k writes. -/
def setN (vals : List Int) (ws : List (Nat × Int)) (k : Nat) : List Int := (ws.take k).foldl (fun l x => l.set x.1 x.2) vals
theorem setN_len (vals : List Int) (ws : List (Nat × Int)) (k : Nat) : (setN vals ws k).length = vals.length := by
  unfold setN
  generalize ws.take k = l
  induction l generalizing vals with
  | nil => rfl
  | cons x l ih => simp [ih]
theorem setN_step {vals : List Int} {ws : List (Nat × Int)} {k : Nat} {x : Nat × Int} (h : ws[k]? = some x) : setN vals ws (k + 1) = (setN vals ws k).set x.1 x.2 := by
  unfold setN
  rw [List.take_add_one, h]
  simp [List.foldl_append]

structure VaRel (w : World) (n : Nat) (vals : List Int) (ws : List (Nat × Int)) (v18 : Value) (wr : World) (k : Nat) (g c : Nat) : Prop where
  hk : v18 = .int .i64 k
  le : k ≤ ws.length
  row : wr.ownsRow 0 64 1 (.slice (some ⟨g, 0, none⟩) n c) n (uints (setN vals ws k))
  far : w.heap.size ≤ g
  bel : Below w.heap.size w wr
def VaRelE (w : World) (n : Nat) (vals : List Int) (ws : List (Nat × Int)) (g c : Nat) (v18 : Value) (wr : World) : Prop := ∃ k, VaRel w n vals ws v18 wr k g c

/-- what Vals answers: a row of its own. -/
def ValsP (w : World) (l : List Int) (e : Ending) (w' : World) : Prop :=
  ∃ v, e = .returned v ∧ w'.ownsRow 0 64 1 v l.length (uints l) ∧ (∀ k, v.ownBlock = some k → w.heap.size ≤ k) ∧ Below w.heap.size w w'

end Go.Proofs.Ytdfjgaeiodjmnaa
