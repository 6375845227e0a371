/- slices.Clone at four types; the program's Whole, Reads, Writes, Missing. -/
import Derived.Test.YtloilknkhloegaaDoorWalkGen
set_option linter.unusedSimpArgs false
set_option linter.unusedVariables false
namespace Go.Proofs.YtloilknkhloegaaDoor
open Go.RowKit

/-- the slice v of n elements reads as xs. -/
def Rd (w : World) (v : Value) (sz n : Nat) (xs : List Value) : Prop :=
  xs.length = n * sz ∧ ((v = .slice none 0 0 ∧ n = 0) ∨ ∃ ad c, v = .slice (some ad) n c ∧ ∀ j u, xs[j]? = some u → w.cell? (ad.add j) = some u)

theorem Rd.of_row {w : World} {e sz n : Nat} {v : Value} {xs : List Value} (h : w.ownsRow 0 e sz v n xs) : Rd w v sz n xs := by
  refine ⟨h.1, ?_⟩
  rcases h.2 with ⟨h1, h2⟩ | ⟨g, cap, cur, rfl, -⟩
  · exact Or.inl ⟨h1, h2⟩
  · exact Or.inr ⟨_, _, rfl, h.cells (g := g) rfl⟩

/-- a copy of its own comes back. -/
def CloneP (w : World) (E sz n : Nat) (xs : List Value) (e : Ending) (w' : World) : Prop :=
  ∃ v', e = .returned v' ∧ w'.ownsRow 0 E sz v' n xs ∧ (∀ k, v'.ownBlock = some k → w.heap.size ≤ k) ∧ Below w.heap.size w w'

theorem infoU32 : (Tryd.prog.info? 31).map (fun i => (i.zero, i.size, i.bytes)) = some (some (.int .u32 0), 1, 4) := by kernel_rfl

/-- the values of all cells, at first. -/
def wholeVS (vals : List Int) : VS := { n := vals.length, known := fun i => vals[i]?, reads := [], writes := [], miss := none }
def uints (l : List Int) : List Value := l.map (.int .u32)

theorem row_shape {w : World} {e sz n : Nat} {v : Value} {xs : List Value} (h : w.ownsRow 0 e sz v n xs) : ∃ a c, v = .slice a n c := by
  rcases h.2 with ⟨rfl, rfl⟩ | ⟨g, cap, cur, rfl, -⟩
  · exact ⟨_, _, rfl⟩
  · exact ⟨_, _, rfl⟩

end Go.Proofs.YtloilknkhloegaaDoor
