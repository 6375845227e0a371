/-
  MendTwice: of every words that settle to a heap of few pages, mended, a second mending makes loads alone: no word changes, nor one that is kept, and all pages are gone through; the law returns true and leaves its arguments alone.
  No condition: every input, every start.
-/
import Derived.Test.YtcnininelndjoaaGreatMmt1
import Derived.Test.YtcnininelndjoaaGreatMmt2
import Derived.Test.YtcnininelndjoaaGreatMmt3
import Derived.Test.YtcnininelndjoaaGreatMmt4
import Derived.Test.YtcnininelndjoaaGreatMmt5
import Derived.Test.YtcnininelndjoaaGreatMmt6
import Derived.Test.YtcnininelndjoaaGreatMmt7
import Derived.Test.YtcnininelndjoaaGreatMmt8
import Derived.Test.YtcnininelndjoaaGreatMmt9
import Derived.Test.YtcnininelndjoaaGreatMmt10
import Derived.Test.YtcnininelndjoaaGreatMmt11
import Derived.Test.YtcnininelndjoaaGreatMmt12
import Derived.Test.YtcnininelndjoaaGreatMmt13
import Derived.Test.YtcnininelndjoaaGreatMmt14
import Derived.Test.YtcnininelndjoaaGreatMmt15

import Derived.Lib.SmallJoins
set_option linter.unusedSimpArgs false
set_option linter.unusedVariables false
namespace Go.Proofs.YtcnininelndjoaaGreat.MendTwiceP
open Go.ChangeShapes Go.WideShapes Go.ChangeAt Go.RowKit Go.Joins

theorem own : ownKnob Tryz.prog.godebug = none := by kernel_rfl
theorem laidOut : laidOutB Tryz.prog = true := by kernel_rfl
theorem cellsCfg : Tryz.prog.cellsOf 23 = 3 := by kernel_rfl

set_option maxRecDepth 100000 in
theorem lifted (os : Os) (started : os.Started) (H : Type) (enc : TypeId × Value → H) :
    ReturnsInHanded {} Tryz.checked os 4 .any (Rows.mendTwiceSpec.pre6 enc Tryz.prog Tryz.f4 Rows.mendTwiceRow.domain false) (Rows.mendTwiceSpec.post enc Tryz.prog Tryz.f4 false true false false) := by
  refine returnsInHanded_of_change (C := Tryz.checked) own started (by kernel_rfl) Tryz.func4
    (ChangeSpec.witness6 (enc := enc) (C := Tryz.checked) false ⟨#[], #[.agg #[.int .i64 0, .int .i64 0, .int .i64 0], .slice none 0 0], []⟩ 8 (by kernel_rfl) (by kernel_rfl) (by kernel_rfl) (by kernel_rfl)) ?_
  intro W base args ds gs before hval0 hW _ _
  have hval : ∀ (j : Nat) t v, Tryz.f4.params[j]? = some t → args[j]? = some v → Value.okWide Tryz.prog W .any base t v := hval0
  have hW' := hW
  obtain ⟨p, q, hA0, hV, rfl, hfz, hnd⟩ := hW
  have hA : DataW.TrodAll enc Tryz.prog W 0 (fun _ => true) true Tryz.f4.params.toList args.toList ds p := hA0
  rw [Tryz.params4] at hA hval
  obtain ⟨v0, vs0, d0, ds0, p0, q0, hargs, rfl, rfl, h0, r0⟩ := trodAll_cons hA
  obtain ⟨v1, vs1, d1, ds1, p1, q1, hargs1, rfl, rfl, h1, r1⟩ := trodAll_cons r0
  obtain ⟨rfl, rfl, rfl⟩ := trodAll_nil r1
  obtain rfl : args = #[v0, v1] := by cases args; simp_all
  obtain ⟨rfl, rfl⟩ := trodVars_none hV
  have k1 := h1
  have lt1 : ∀ x ∈ p1, x.block < W.heap.size := by obtain ⟨m, hm⟩ := k1; exact DataW.trod_lt m _ _ _ hm
  obtain ⟨xa1, xl1, xc1, rfl⟩ := Go.WideShapes.okWide_slice Tryz.underlying24 (hval 1 24 v1 rfl rfl)
  obtain ⟨_, f1⟩ := h1
  obtain ⟨sv, vals, es, hR, hu⟩ := rd_u64 f1
  simp [Value.cells] at es
  subst es
  have k0 := h0
  have lt0 : ∀ x ∈ p0, x.block < W.heap.size := by obtain ⟨m, hm⟩ := k0; exact DataW.trod_lt m _ _ _ hm
  obtain ⟨c0, c1, c2, y0, y1, y2, m, rfl, e0, e0', hy0, hy1, hy2⟩ := open_agg3 Tryz.underlying23 (by kernel_rfl) cellsCfg (hval 0 23 v0 rfl rfl) h0
  obtain ⟨a, z0, rfl, wa⟩ := DataW.trod_int Tryz.underlying3 hy0
  obtain ⟨b, z1, rfl, wb⟩ := DataW.trod_int Tryz.underlying3 hy1
  obtain ⟨c, z2, rfl, wc⟩ := DataW.trod_int Tryz.underlying3 hy2
  simp at z0 z1 z2
  subst z0 z1 z2
  refine (VX a b c _ vals W hR hu).mono fun e W' ⟨he, bel⟩ => ?_
  subst he
  exact ⟨_, rfl, _, _, _, [], _, [], hW', trodAll_mk1 (shut_bool Tryz.underlying4 _), (trodAll_cons_mk (Below.trod laidOut (by kernel_rfl) (of_decide_eq_true (by kernel_rfl)) k0 bel lt0) (trodAll_cons_mk (Below.trod laidOut (by kernel_rfl) (of_decide_eq_true (by kernel_rfl)) k1 bel lt1) trodAll_mk0)), rfl, bel.frame _, fun h => by cases h⟩

theorem over : Rows.mendTwiceRow.holds Tryz.pinned (OpenSpec.ofChange Rows.mendTwiceSpec) :=
  OpenClaim.holds_of_wide 4 Tryz.f4 rfl rfl rfl rfl rfl rfl rfl ⟨rfl, rfl, rfl, rfl, rfl⟩ rfl rfl rfl rfl rfl (by kernel_rfl) Tryz.func4 (by kernel_rfl)
    (of_decide_eq_true (by kernel_rfl)) (by unfold Func.isWrapper; first | (rw [if_pos (by decide +kernel)]; kernel_rfl) | (rw [if_neg (by decide +kernel)]; exact ⟨rfl, rfl⟩))
    (fun os started H enc _ => lifted os started H enc)

end Go.Proofs.YtcnininelndjoaaGreat.MendTwiceP

namespace Go.Proofs.YtcnininelndjoaaGreat
/-- THE STATEMENT -/
theorem mendTwice_holds : Rows.MendTwiceSaid := MendTwiceP.over
#print axioms mendTwice_holds
end Go.Proofs.YtcnininelndjoaaGreat
