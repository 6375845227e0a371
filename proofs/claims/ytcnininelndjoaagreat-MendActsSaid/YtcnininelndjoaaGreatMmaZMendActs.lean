/-
  MendActs: of every words that settle to a heap of few pages the program's mending and the document's make the same acts, page by page, with the same words, told and kept, behind each, and both are over behind a number of acts that the configuration tells; the law returns true and leaves its arguments alone.
  No condition: every input, every start.
-/
import Derived.Test.YtcnininelndjoaaGreatMma1
import Derived.Test.YtcnininelndjoaaGreatMma2
import Derived.Test.YtcnininelndjoaaGreatMma3
import Derived.Test.YtcnininelndjoaaGreatMma4
import Derived.Test.YtcnininelndjoaaGreatMma5
import Derived.Test.YtcnininelndjoaaGreatMma6
import Derived.Test.YtcnininelndjoaaGreatMma7
import Derived.Test.YtcnininelndjoaaGreatMma8
import Derived.Test.YtcnininelndjoaaGreatMma9
import Derived.Test.YtcnininelndjoaaGreatMma10
import Derived.Test.YtcnininelndjoaaGreatMma11
import Derived.Test.YtcnininelndjoaaGreatMma12
import Derived.Test.YtcnininelndjoaaGreatMma13
import Derived.Test.YtcnininelndjoaaGreatMma14
import Derived.Test.YtcnininelndjoaaGreatMma15
import Derived.Test.YtcnininelndjoaaGreatMma16
import Derived.Test.YtcnininelndjoaaGreatMma17
import Derived.Test.YtcnininelndjoaaGreatMma18
import Derived.Test.YtcnininelndjoaaGreatMma19
import Derived.Test.YtcnininelndjoaaGreatMma20
import Derived.Test.YtcnininelndjoaaGreatMma21

import Derived.Lib.SmallJoins
set_option linter.unusedSimpArgs false
set_option linter.unusedVariables false
namespace Go.Proofs.YtcnininelndjoaaGreat.MendActsP
open Go.ChangeShapes Go.WideShapes Go.ChangeAt Go.RowKit Go.Joins

theorem own : ownKnob Tryz.prog.godebug = none := by kernel_rfl
theorem laidOut : laidOutB Tryz.prog = true := by kernel_rfl
theorem cellsCfg : Tryz.prog.cellsOf 23 = 3 := by kernel_rfl

set_option maxRecDepth 100000 in
theorem lifted (os : Os) (started : os.Started) (H : Type) (enc : TypeId × Value → H) :
    ReturnsInHanded {} Tryz.checked os 3 .any (Rows.mendActsSpec.pre6 enc Tryz.prog Tryz.f3 Rows.mendActsRow.domain false) (Rows.mendActsSpec.post enc Tryz.prog Tryz.f3 false true false false) := by
  refine returnsInHanded_of_change (C := Tryz.checked) own started (by kernel_rfl) Tryz.func3
    (ChangeSpec.witness6 (enc := enc) (C := Tryz.checked) false ⟨#[], #[.agg #[.int .i64 0, .int .i64 0, .int .i64 0], .slice none 0 0], []⟩ 8 (by kernel_rfl) (by kernel_rfl) (by kernel_rfl) (by kernel_rfl)) ?_
  intro W base args ds gs before hval0 hW _ _
  have hval : ∀ (j : Nat) t v, Tryz.f3.params[j]? = some t → args[j]? = some v → Value.okWide Tryz.prog W .any base t v := hval0
  have hW' := hW
  obtain ⟨p, q, hA0, hV, rfl, hfz, hnd⟩ := hW
  have hA : DataW.TrodAll enc Tryz.prog W 0 (fun _ => true) true Tryz.f3.params.toList args.toList ds p := hA0
  rw [Tryz.params3] at hA hval
  obtain ⟨v0, vs0, d0, ds0, p0, q0, hargs, rfl, rfl, h0, r0⟩ := trodAll_cons hA
  obtain ⟨v1, vs1, d1, ds1, p1, q1, hargs1, rfl, rfl, h1, r1⟩ := trodAll_cons r0
  obtain ⟨rfl, rfl, rfl⟩ := trodAll_nil r1
  obtain rfl : args = #[v0, v1] := by cases args; simp_all
  obtain ⟨rfl, rfl⟩ := trodVars_none hV
  have k1 := h1
  have lt1 : ∀ x ∈ p1, x.block < W.heap.size := by obtain ⟨m, hm⟩ := k1; exact DataW.trod_lt m _ _ _ hm
  obtain ⟨xa1, xl1, xc1, rfl⟩ := Go.WideShapes.okWide_slice Tryz.underlying24 (hval 1 24 v1 rfl rfl)
  obtain ⟨_, f1⟩ := h1
  obtain ⟨sv, vals, es, hR, hu⟩ := rd_u64 f1
  simp [Value.cells] at es
  subst es
  have k0 := h0
  have lt0 : ∀ x ∈ p0, x.block < W.heap.size := by obtain ⟨m, hm⟩ := k0; exact DataW.trod_lt m _ _ _ hm
  obtain ⟨c0, c1, c2, y0, y1, y2, m, rfl, e0, e0', hy0, hy1, hy2⟩ := open_agg3 Tryz.underlying23 (by kernel_rfl) cellsCfg (hval 0 23 v0 rfl rfl) h0
  obtain ⟨a, z0, rfl, wa⟩ := DataW.trod_int Tryz.underlying3 hy0
  obtain ⟨b, z1, rfl, wb⟩ := DataW.trod_int Tryz.underlying3 hy1
  obtain ⟨c, z2, rfl, wc⟩ := DataW.trod_int Tryz.underlying3 hy2
  simp at z0 z1 z2
  subst z0 z1 z2
  refine (XN a b c _ vals W hR hu).mono fun e W' ⟨he, bel⟩ => ?_
  subst he
  exact ⟨_, rfl, _, _, _, [], _, [], hW', trodAll_mk1 (shut_bool Tryz.underlying4 _), (trodAll_cons_mk (Below.trod laidOut (by kernel_rfl) (of_decide_eq_true (by kernel_rfl)) k0 bel lt0) (trodAll_cons_mk (Below.trod laidOut (by kernel_rfl) (of_decide_eq_true (by kernel_rfl)) k1 bel lt1) trodAll_mk0)), rfl, bel.frame _, fun h => by cases h⟩

theorem over : Rows.mendActsRow.holds Tryz.pinned (OpenSpec.ofChange Rows.mendActsSpec) :=
  OpenClaim.holds_of_wide 3 Tryz.f3 rfl rfl rfl rfl rfl rfl rfl ⟨rfl, rfl, rfl, rfl, rfl⟩ rfl rfl rfl rfl rfl (by kernel_rfl) Tryz.func3 (by kernel_rfl)
    (of_decide_eq_true (by kernel_rfl)) (by unfold Func.isWrapper; first | (rw [if_pos (by decide +kernel)]; kernel_rfl) | (rw [if_neg (by decide +kernel)]; exact ⟨rfl, rfl⟩))
    (fun os started H enc _ => lifted os started H enc)

end Go.Proofs.YtcnininelndjoaaGreat.MendActsP

namespace Go.Proofs.YtcnininelndjoaaGreat
/-- THE STATEMENT -/
theorem mendActs_holds : Rows.MendActsSaid := MendActsP.over
#print axioms mendActs_holds
end Go.Proofs.YtcnininelndjoaaGreat
