/- fresh: the document's Vals, whole. -/
import Derived.Test.YtcicmljnjdhkjaaGreatFreshR
import Derived.Deep.Cut
namespace Go.Proofs.YtcicmljnjdhkjaaGreat
open Go.RowKit

def refL (N i0 i1 K P : Nat) : List Int := ((((List.replicate N (0 : Int)).set 0 P).set (2 + K) 1).set i0 (1 + 16 * P)).set i1 1
theorem uints_set (l : List Int) (i : Nat) (v : Int) : (uints l).set i (.int .u32 v) = uints (l.set i v) := by simp [uints, List.map_set]
theorem row_cell {w : World} {g c n : Nat} {l : List Int} (h : w.ownsRow 0 37 1 (.slice (some ⟨g, 0, none⟩) n c) n (uints l)) {i : Nat} (hi : i < n) : ∃ z, w.cell? ⟨g, i, none⟩ = some z := by
  refine ⟨_, (h.cellAt i (by omega)).trans (List.getElem?_eq_getElem ?_)⟩
  have := h.1
  omega

end Go.Proofs.YtcicmljnjdhkjaaGreat
