/-
  OpenBytes: of every words and bytes, which bytes words are and which words bytes are is as the document says, and each is those of the other; the law returns true and leaves its arguments alone.
  No condition: every input, every start.
-/
import Derived.Test.YtcbikgafdclhaaaGreatMob1
import Derived.Test.YtcbikgafdclhaaaGreatMob2
import Derived.Test.YtcbikgafdclhaaaGreatMob3
import Derived.Test.YtcbikgafdclhaaaGreatMob4
import Derived.Test.YtcbikgafdclhaaaGreatMob5
import Derived.Test.YtcbikgafdclhaaaGreatMob6
import Derived.Test.YtcbikgafdclhaaaGreatMob7
import Derived.Test.YtcbikgafdclhaaaGreatMob8
import Derived.Test.YtcbikgafdclhaaaGreatMob9

import Derived.Lib.SmallJoins
set_option linter.unusedSimpArgs false
set_option linter.unusedVariables false
namespace Go.Proofs.YtcbikgafdclhaaaGreat.OpenBytesP
open Go.ChangeShapes Go.WideShapes Go.ChangeAt Go.RowKit Go.Joins

theorem own : ownKnob Tryz.prog.godebug = none := by kernel_rfl
theorem laidOut : laidOutB Tryz.prog = true := by kernel_rfl

set_option maxRecDepth 100000 in
theorem lifted (os : Os) (started : os.Started) (H : Type) (enc : TypeId × Value → H) :
    ReturnsInHanded {} Tryz.checked os 3 .any (Rows.openBytesSpec.pre6 enc Tryz.prog Tryz.f3 Rows.openBytesRow.domain false) (Rows.openBytesSpec.post enc Tryz.prog Tryz.f3 false true false false) := by
  refine returnsInHanded_of_change (C := Tryz.checked) own started (by kernel_rfl) Tryz.func3
    (ChangeSpec.witness6 (enc := enc) (C := Tryz.checked) false ⟨#[], #[.slice none 0 0, .slice none 0 0], []⟩ 8 (by kernel_rfl) (by kernel_rfl) (by kernel_rfl) (by kernel_rfl)) ?_
  intro W base args ds gs before hval0 hW _ _
  have hval : ∀ (j : Nat) t v, Tryz.f3.params[j]? = some t → args[j]? = some v → Value.okWide Tryz.prog W .any base t v := hval0
  have hW' := hW
  obtain ⟨p, q, hA0, hV, rfl, hfz, hnd⟩ := hW
  have hA : DataW.TrodAll enc Tryz.prog W 0 (fun _ => true) true Tryz.f3.params.toList args.toList ds p := hA0
  rw [Tryz.params3] at hA hval
  obtain ⟨v0, vs0, d0, ds0, p0, q0, hargs, rfl, rfl, h0, r0⟩ := trodAll_cons hA
  obtain ⟨v1, vs1, d1, ds1, p1, q1, hargs1, rfl, rfl, h1, r1⟩ := trodAll_cons r0
  obtain ⟨rfl, rfl, rfl⟩ := trodAll_nil r1
  obtain rfl : args = #[v0, v1] := by cases args; simp_all
  obtain ⟨rfl, rfl⟩ := trodVars_none hV
  have k1 := h1
  have lt1 : ∀ x ∈ p1, x.block < W.heap.size := by obtain ⟨m, hm⟩ := k1; exact DataW.trod_lt m _ _ _ hm
  obtain ⟨xa1, xl1, xc1, rfl⟩ := Go.WideShapes.okWide_slice Tryz.underlying23 (hval 1 23 v1 rfl rfl)
  obtain ⟨_, f1⟩ := h1
  obtain ⟨bv, bys, eb, hB⟩ := rd37_u8 f1
  simp [Value.cells] at eb
  subst eb
  have k0 := h0
  have lt0 : ∀ x ∈ p0, x.block < W.heap.size := by obtain ⟨m, hm⟩ := k0; exact DataW.trod_lt m _ _ _ hm
  obtain ⟨xa0, xl0, xc0, rfl⟩ := Go.WideShapes.okWide_slice Tryz.underlying22 (hval 0 22 v0 rfl rfl)
  obtain ⟨_, f0⟩ := h0
  obtain ⟨wv, wds, ew, hR, hu⟩ := rd37_u64 f0
  simp [Value.cells] at ew
  subst ew
  refine (openbytes_main _ _ wds bys W hR hu hB).mono fun e W' ⟨he, bel⟩ => ?_
  subst he
  exact ⟨_, rfl, _, _, _, [], _, [], hW', trodAll_mk1 (shut_bool Tryz.underlying4 _), (trodAll_cons_mk (Below.trod laidOut (by kernel_rfl) (of_decide_eq_true (by kernel_rfl)) k0 bel lt0) (trodAll_cons_mk (Below.trod laidOut (by kernel_rfl) (of_decide_eq_true (by kernel_rfl)) k1 bel lt1) trodAll_mk0)), rfl, bel.frame _, fun h => by cases h⟩

theorem over : Rows.openBytesRow.holds Tryz.pinned (OpenSpec.ofChange Rows.openBytesSpec) :=
  OpenClaim.holds_of_wide 3 Tryz.f3 rfl rfl rfl rfl rfl rfl rfl ⟨rfl, rfl, rfl, rfl, rfl⟩ rfl rfl rfl rfl rfl (by kernel_rfl) Tryz.func3 (by kernel_rfl)
    (of_decide_eq_true (by kernel_rfl)) (by unfold Func.isWrapper; first | (rw [if_pos (by decide +kernel)]; kernel_rfl) | (rw [if_neg (by decide +kernel)]; exact ⟨rfl, rfl⟩))
    (fun os started H enc _ => lifted os started H enc)

end Go.Proofs.YtcbikgafdclhaaaGreat.OpenBytesP

namespace Go.Proofs.YtcbikgafdclhaaaGreat
/-- THE STATEMENT -/
theorem openBytes_holds : Rows.OpenBytesSaid := OpenBytesP.over
#print axioms openBytes_holds
end Go.Proofs.YtcbikgafdclhaaaGreat
