/-
  AuditTiles: of every configuration and values that are a heap its parts stand one behind the other, from the first byte of all pages to the last one, and the live ones are the live blocks; what is none has no parts and no blocks; the law returns true and leaves its arguments alone.
  No condition: every input, every start.
-/
import Derived.Test.YtcicmljnjdhkjaaMti1
import Derived.Test.YtcicmljnjdhkjaaMti2
import Derived.Test.YtcicmljnjdhkjaaMti3
import Derived.Test.YtcicmljnjdhkjaaMti4
import Derived.Test.YtcicmljnjdhkjaaMti5
import Derived.Test.YtcicmljnjdhkjaaMti6
import Derived.Test.YtcicmljnjdhkjaaMti7
import Derived.Test.YtcicmljnjdhkjaaMti8
import Derived.Lib.SmallJoins
set_option linter.unusedSimpArgs false
set_option linter.unusedVariables false
namespace Go.Proofs.Ytcicmljnjdhkjaa.AuditTilesP
open Go.ChangeShapes Go.WideShapes Go.ChangeAt Go.RowKit Go.Joins

theorem own : ownKnob Try.prog.godebug = none := by kernel_rfl
theorem laidOut : laidOutB Try.prog = true := by kernel_rfl
theorem cellsCfg : Try.prog.cellsOf 23 = 3 := by kernel_rfl

set_option maxRecDepth 100000 in
theorem lifted (os : Os) (started : os.Started) (H : Type) (enc : TypeId × Value → H) :
    ReturnsInHanded {} Try.checked os 3 .any (Rows.auditTilesSpec.pre6 enc Try.prog Try.f3 Rows.auditTilesRow.domain false) (Rows.auditTilesSpec.post enc Try.prog Try.f3 false true false false) := by
  refine returnsInHanded_of_change (C := Try.checked) own started (by kernel_rfl) Try.func3
    (ChangeSpec.witness6 (enc := enc) (C := Try.checked) false ⟨#[], #[.agg #[.int .i64 0, .int .i64 0, .int .i64 0], .slice none 0 0], []⟩ 8 (by kernel_rfl) (by kernel_rfl) (by kernel_rfl) (by kernel_rfl)) ?_
  intro W base args ds gs before hval0 hW _ _
  have hval : ∀ (j : Nat) t v, Try.f3.params[j]? = some t → args[j]? = some v → Value.okWide Try.prog W .any base t v := hval0
  have hW' := hW
  obtain ⟨p, q, hA0, hV, rfl, hfz, hnd⟩ := hW
  have hA : DataW.TrodAll enc Try.prog W 0 (fun _ => true) true Try.f3.params.toList args.toList ds p := hA0
  rw [Try.params3] at hA hval
  obtain ⟨v0, vs0, d0, ds0, p0, q0, hargs, rfl, rfl, h0, r0⟩ := trodAll_cons hA
  obtain ⟨v1, vs1, d1, ds1, p1, q1, hargs1, rfl, rfl, h1, r1⟩ := trodAll_cons r0
  obtain ⟨rfl, rfl, rfl⟩ := trodAll_nil r1
  obtain rfl : args = #[v0, v1] := by cases args; simp_all
  obtain ⟨rfl, rfl⟩ := trodVars_none hV
  have k1 := h1
  have lt1 : ∀ x ∈ p1, x.block < W.heap.size := by obtain ⟨m, hm⟩ := k1; exact DataW.trod_lt m _ _ _ hm
  obtain ⟨xa1, xl1, xc1, rfl⟩ := Go.WideShapes.okWide_slice Try.underlying24 (hval 1 24 v1 rfl rfl)
  obtain ⟨_, f1⟩ := h1
  obtain ⟨sv, vals, es, hR, hu⟩ := rd12_u32 f1
  simp [Value.cells] at es
  subst es
  have k0 := h0
  have lt0 : ∀ x ∈ p0, x.block < W.heap.size := by obtain ⟨m, hm⟩ := k0; exact DataW.trod_lt m _ _ _ hm
  obtain ⟨c0, c1, c2, y0, y1, y2, m, rfl, e0, e0', hy0, hy1, hy2⟩ := open_agg3 Try.underlying23 (by kernel_rfl) cellsCfg (hval 0 23 v0 rfl rfl) h0
  obtain ⟨a, z0, rfl, wa⟩ := DataW.trod_int Try.underlying3 hy0
  obtain ⟨b, z1, rfl, wb⟩ := DataW.trod_int Try.underlying3 hy1
  obtain ⟨c, z2, rfl, wc⟩ := DataW.trod_int Try.underlying3 hy2
  simp at z0 z1 z2
  subst z0 z1 z2
  refine (atiles_any a b c _ vals W hR hu).mono fun e W' ⟨he, bel⟩ => ?_
  subst he
  exact ⟨_, rfl, _, _, _, [], _, [], hW', trodAll_mk1 (shut_bool Try.underlying4 _), (trodAll_cons_mk (Below.trod laidOut (by kernel_rfl) (of_decide_eq_true (by kernel_rfl)) k0 bel lt0) (trodAll_cons_mk (Below.trod laidOut (by kernel_rfl) (of_decide_eq_true (by kernel_rfl)) k1 bel lt1) trodAll_mk0)), rfl, bel.frame _, fun h => by cases h⟩

theorem over : Rows.auditTilesRow.holds Try.pinned (OpenSpec.ofChange Rows.auditTilesSpec) :=
  OpenClaim.holds_of_wide 3 Try.f3 rfl rfl rfl rfl rfl rfl rfl ⟨rfl, rfl, rfl, rfl, rfl⟩ rfl rfl rfl rfl rfl (by kernel_rfl) Try.func3 (by kernel_rfl)
    (of_decide_eq_true (by kernel_rfl)) (by unfold Func.isWrapper; first | (rw [if_pos (by decide +kernel)]; kernel_rfl) | (rw [if_neg (by decide +kernel)]; exact ⟨rfl, rfl⟩))
    (fun os started H enc _ => lifted os started H enc)

end Go.Proofs.Ytcicmljnjdhkjaa.AuditTilesP

namespace Go.Proofs.Ytcicmljnjdhkjaa
/-- THE STATEMENT -/
theorem auditTiles_holds : Rows.AuditTilesSaid := AuditTilesP.over
#print axioms auditTiles_holds
end Go.Proofs.Ytcicmljnjdhkjaa
