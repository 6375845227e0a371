/- FreshVals: the page's example; the law's walk. -/
import Derived.Test.YtcicmljnjdhkjaaGreatFreshW
namespace Go.Proofs.YtcicmljnjdhkjaaGreat
open Go.RowKit

theorem live_list : (freshL 1 8 10).length = 82 ∧ (freshL 1 8 10)[0]? = some 8 ∧ (freshL 1 8 10)[5]? = some 1 ∧ (freshL 1 8 10)[34]? = some 129 ∧ (freshL 1 8 10)[77]? = some 1 := by decide +kernel

theorem flive_any (w : World) : Calls Tryz.prog 14 #[] w fun e w' => e = .returned (.bool true) ∧ Below w.heap.size w w' := by
  have HF := Lib.hid (fun w => fresh_right 1 8 10 w (by decide))
  obtain ⟨hl, h0, h5, h34, h77⟩ := live_list
  generalize freshL 1 8 10 = l at *
  go_enter Tryz.func14, Tryz.ntmps14
  go_wp2_with fail
  refine (HF.out w).mono ?_
  rintro e w1 ⟨v, rfl, ho, hf, hb⟩
  rw [hl] at ho
  obtain ⟨g, cap, rfl⟩ := Joins.ownsRow_form ho (by omega)
  have q0 := ho.cellAt 0 (by omega)
  have q5 := ho.cellAt 5 (by omega)
  have q34 := ho.cellAt 34 (by omega)
  have q77 := ho.cellAt 77 (by omega)
  simp only [uints, List.getElem?_map, h0, h5, h34, h77, Option.map_some] at q0 q5 q34 q77
  clear ho hf HF hl h0 h5 h34 h77
  go_wp2
  go_ret
  exact ⟨rfl, hb⟩

end Go.Proofs.YtcicmljnjdhkjaaGreat
