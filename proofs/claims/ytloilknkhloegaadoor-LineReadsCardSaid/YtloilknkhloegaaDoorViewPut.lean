/- view: Put. -/
import Derived.Test.YtloilknkhloegaaDoorView
import Derived.Deep.AppendLies
set_option linter.unusedSimpArgs false
set_option linter.unusedVariables false
namespace Go.Proofs.YtloilknkhloegaaDoor
open Go.RowKit

theorem pairCells_set {l : List (Nat × Int)} {j i : Nat} {u v : Int} (h : l[j]? = some (i, u)) : pairCells (l.set j (i, v)) = (pairCells l).set (j * 2 + 1) (.int .u32 v) := by
  induction l generalizing j with
  | nil => simp at h
  | cons p r ih =>
    cases j with
    | zero => simp at h; subst h; simp [pairCells]
    | succ j =>
      have := ih (j := j) (by simpa using h)
      unfold pairCells at this ⊢
      have e1 : (j + 1) * 2 + 1 = (j * 2 + 1) + 2 := by omega
      rw [e1]
      simp [this]

theorem pairCells_add (l : List (Nat × Int)) (n : Nat) (v : Int) : pairCells (l ++ [(n, v)]) = pairCells l ++ [.int .i64 n, .int .u32 v] := by simp [pairCells]

end Go.Proofs.YtloilknkhloegaaDoor
