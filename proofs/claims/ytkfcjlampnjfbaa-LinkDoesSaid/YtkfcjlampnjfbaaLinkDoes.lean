/-
  LinkDoes: of every configuration, values and steps the law returns true and leaves its arguments alone.
  No condition: every input, every start.
-/
import Derived.Test.YtkfcjlampnjfbaaOpenArgs
import Derived.Lib.SmallJoins

namespace Go.Proofs.Ytkfcjlampnjfbaa
open Go.RowKit
theorem ldoes_any (t p s : Int) (sv lv : Value) (vals : List Int) (steps : List (Bool × Int × Int)) (w : World) (hR : Rd w sv 1 vals.length (uints vals)) (hu : ∀ v ∈ vals, VS.U32 v) (hL : Rd w lv 3 steps.length (stepCells steps)) :
    Calls Try.prog 6 #[.agg #[.int .i64 t, .int .i64 p, .int .i64 s], sv, lv] w fun e w' => e = .returned (.bool true) ∧ Below w.heap.size w w' := by
  obtain ⟨a1, c1, e1⟩ := rdLen hR
  obtain ⟨a2, c2, e2⟩ := rdLen hL
  by_cases h1 : vals.length ≤ 500
  · by_cases h2 : steps.length ≤ 20
    · by_cases h : p ≤ 64
      · exact ldoes_main t p s sv lv vals steps w hR hu hL h1 h2 h
      · rw [e1, e2]; exact ldoes_big t p s _ _ _ _ _ _ w h1 h2 (by omega)
    · rw [e1, e2]; exact ldoes_many t p s _ _ _ _ _ _ w h1 (by omega)
  · rw [e1, e2]; exact ldoes_long t p s _ _ _ _ _ _ w (by omega)
end Go.Proofs.Ytkfcjlampnjfbaa

namespace Go.Proofs.Ytkfcjlampnjfbaa.LinkDoesP
open Go.ChangeShapes Go.WideShapes Go.ChangeAt Go.RowKit Go.Joins

theorem own : ownKnob Try.prog.godebug = none := by kernel_rfl
theorem laidOut : laidOutB Try.prog = true := by kernel_rfl
theorem cellsCfg : Try.prog.cellsOf 23 = 3 := by kernel_rfl

set_option maxRecDepth 100000 in
theorem lifted (os : Os) (started : os.Started) (H : Type) (enc : TypeId × Value → H) :
    ReturnsInHanded {} Try.checked os 6 .any (Rows.linkDoesSpec.pre6 enc Try.prog Try.f6 Rows.linkDoesRow.domain false) (Rows.linkDoesSpec.post enc Try.prog Try.f6 false true false false) := by
  refine returnsInHanded_of_change (C := Try.checked) own started (by kernel_rfl) Try.func6
    (ChangeSpec.witness6 (enc := enc) (C := Try.checked) false ⟨#[], #[.agg #[.int .i64 0, .int .i64 0, .int .i64 0], .slice none 0 0, .slice none 0 0], []⟩ 8 (by kernel_rfl) (by kernel_rfl) (by kernel_rfl) (by kernel_rfl)) ?_
  intro W base args ds gs before hval0 hW _ _
  have hval : ∀ (j : Nat) t v, Try.f6.params[j]? = some t → args[j]? = some v → Value.okWide Try.prog W .any base t v := hval0
  have hW' := hW
  obtain ⟨p, q, hA0, hV, rfl, hfz, hnd⟩ := hW
  have hA : DataW.TrodAll enc Try.prog W 0 (fun _ => true) true Try.f6.params.toList args.toList ds p := hA0
  rw [Try.params6] at hA hval
  obtain ⟨v0, vs0, d0, ds0, p0, q0, hargs, rfl, rfl, h0, r0⟩ := trodAll_cons hA
  obtain ⟨v1, vs1, d1, ds1, p1, q1, hargs1, rfl, rfl, h1, r1⟩ := trodAll_cons r0
  obtain ⟨v2, vs2, d2, ds2, p2, q2, hargs2, rfl, rfl, h2, r2⟩ := trodAll_cons r1
  obtain ⟨rfl, rfl, rfl⟩ := trodAll_nil r2
  obtain rfl : args = #[v0, v1, v2] := by cases args; simp_all
  obtain ⟨rfl, rfl⟩ := trodVars_none hV
  have k1 := h1
  have k2 := h2
  have lt1 : ∀ x ∈ p1, x.block < W.heap.size := by obtain ⟨m, hm⟩ := k1; exact DataW.trod_lt m _ _ _ hm
  have lt2 : ∀ x ∈ p2, x.block < W.heap.size := by obtain ⟨m, hm⟩ := k2; exact DataW.trod_lt m _ _ _ hm
  obtain ⟨xa1, xl1, xc1, rfl⟩ := Go.WideShapes.okWide_slice Try.underlying27 (hval 1 27 v1 rfl rfl)
  obtain ⟨xa2, xl2, xc2, rfl⟩ := Go.WideShapes.okWide_slice Try.underlying42 (hval 2 42 v2 rfl rfl)
  obtain ⟨_, f1⟩ := h1
  obtain ⟨_, f2⟩ := h2
  obtain ⟨sv, vals, es, hR, hu⟩ := rd_u32 f1
  obtain ⟨lv, steps, el, hL⟩ := rd_steps f2
  simp [Value.cells] at es el
  subst es el
  have k0 := h0
  have lt0 : ∀ x ∈ p0, x.block < W.heap.size := by obtain ⟨m, hm⟩ := k0; exact DataW.trod_lt m _ _ _ hm
  obtain ⟨c0, c1, c2, y0, y1, y2, m, rfl, e0, e0', hy0, hy1, hy2⟩ := open_agg3 Try.underlying23 (by kernel_rfl) cellsCfg (hval 0 23 v0 rfl rfl) h0
  obtain ⟨a, z0, rfl, wa⟩ := DataW.trod_int Try.underlying3 hy0
  obtain ⟨b, z1, rfl, wb⟩ := DataW.trod_int Try.underlying3 hy1
  obtain ⟨c, z2, rfl, wc⟩ := DataW.trod_int Try.underlying3 hy2
  simp at z0 z1 z2
  subst z0 z1 z2
  refine (ldoes_any a b c _ _ vals steps W hR hu hL).mono fun e W' ⟨he, bel⟩ => ?_
  subst he
  exact ⟨_, rfl, _, _, _, [], _, [], hW', trodAll_mk1 (shut_bool Try.underlying4 _), (trodAll_cons_mk (Below.trod laidOut (by kernel_rfl) (of_decide_eq_true (by kernel_rfl)) k0 bel lt0) (trodAll_cons_mk (Below.trod laidOut (by kernel_rfl) (of_decide_eq_true (by kernel_rfl)) k1 bel lt1) (trodAll_cons_mk (Below.trod laidOut (by kernel_rfl) (of_decide_eq_true (by kernel_rfl)) k2 bel lt2) trodAll_mk0))), rfl, bel.frame _, fun h => by cases h⟩

theorem over : Rows.linkDoesRow.holds Try.pinned (OpenSpec.ofChange Rows.linkDoesSpec) :=
  OpenClaim.holds_of_wide 6 Try.f6 rfl rfl rfl rfl rfl rfl rfl ⟨rfl, rfl, rfl, rfl, rfl⟩ rfl rfl rfl rfl rfl (by kernel_rfl) Try.func6 (by kernel_rfl)
    (of_decide_eq_true (by kernel_rfl)) (by unfold Func.isWrapper; first | (rw [if_pos (by decide +kernel)]; kernel_rfl) | (rw [if_neg (by decide +kernel)]; exact ⟨rfl, rfl⟩))
    (fun os started H enc _ => lifted os started H enc)

end Go.Proofs.Ytkfcjlampnjfbaa.LinkDoesP

namespace Go.Proofs.Ytkfcjlampnjfbaa
/-- THE STATEMENT -/
theorem linkDoes_holds : Rows.LinkDoesSaid := LinkDoesP.over
#print axioms linkDoes_holds
end Go.Proofs.Ytkfcjlampnjfbaa
