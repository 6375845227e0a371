/- the document's view, as memory; its Get. -/
import Derived.Test.YtdfjgaeiodjmnaaRef
set_option linter.unusedSimpArgs false
set_option linter.unusedVariables false
namespace Go.Proofs.Ytdfjgaeiodjmnaa
open Go.RowKit

def rowF (n : Nat) (f : Nat → Value) : List Value := (List.range n).map f
theorem rowF_length (n : Nat) (f : Nat → Value) : (rowF n f).length = n := by simp [rowF]
theorem rowF_get {n i : Nat} (f : Nat → Value) (h : i < n) : (rowF n f)[i]? = some (f i) := by simp [rowF, h]
theorem rowF_set {n i : Nat} (f g : Nat → Value) (v : Value) (hi : g i = v) (hg : ∀ j, j ≠ i → g j = f j) : (rowF n f).set i v = rowF n g := by
  apply List.ext_getElem?
  intro j
  simp only [rowF, List.getElem?_set, List.getElem?_map, List.length_map, List.length_range]
  by_cases hj : i = j
  · subst hj
    by_cases hn : i < n
    · simp [hn, hi]
    · simp [hn]
  · rw [if_neg hj]
    by_cases hn : j < n
    · simp [hn, hg j (fun e => hj e.symm)]
    · simp [hn]

def knowF (s : VS) (i : Nat) : Value := .bool (s.known i).isSome
def valF (s : VS) (i : Nat) : Value := .int .u32 ((s.known i).getD 0)
def isF (s : VS) (i : Nat) : Value := .bool (s.wr i).isSome
def toF (s : VS) (i : Nat) : Value := .int .u32 ((s.wr i).getD 0)

theorem ownsRow_ne {w : World} {e e2 sz sz2 : Nat} {v v2 : Value} {n n2 : Nat} {xs xs2 : List Value} (h : w.ownsRow 0 e sz v n xs) (h2 : w.ownsRow 0 e2 sz2 v2 n2 xs2) (hne : e ≠ e2) {k : Nat} (hk : v2.ownBlock = some k) : v.ownBlock ≠ some k := by
  rcases h2.2 with ⟨rfl, -⟩ | ⟨g, cap, cur, rfl, -, hg, -⟩
  · simp [Value.ownBlock] at hk
  · simp [Value.ownBlock] at hk; subst hk; exact ownsRow_elem h hg hne

end Go.Proofs.Ytdfjgaeiodjmnaa
