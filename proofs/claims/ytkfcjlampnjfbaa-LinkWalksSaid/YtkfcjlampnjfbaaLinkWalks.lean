/-
  LinkWalks: of every configuration, values and pair of numbers the law returns true and leaves its arguments alone.
  No condition: every input, every start.
-/
import Derived.Test.YtkfcjlampnjfbaaWalksM
import Derived.Test.YtkfcjlampnjfbaaOpenArgs
import Derived.Lib.SmallJoins
import Derived.WideKeyPair

namespace Go.Proofs.Ytkfcjlampnjfbaa
open Go.RowKit
/-- what the arguments are: a heap of few pages, or none. -/
theorem heap_or_none {t p s : Int} {sv : Value} {vals : List Int} {w : World} (hR : Rd w sv 1 vals.length (uints vals)) (hu : ∀ v ∈ vals, VS.U32 v) (hp : p ≤ 64) :
    (∃ ad c, sv = .slice (some ad) vals.length c ∧ XV w t p s ad vals.length vals) ∨ (∃ a c, sv = .slice a vals.length c ∧ (rightB t p s = false ∨ ((vals.length : Nat) : Int) ≠ cellsN t p)) := by
  obtain ⟨a, c, e⟩ := rdLen hR
  by_cases hr : rightB t p s = false
  · exact Or.inr ⟨a, c, e, Or.inl hr⟩
  · by_cases hn : ((vals.length : Nat) : Int) = cellsN t p
    · have hr' : rightB t p s = true := by simpa using hr
      have bd := right_bd hr'
      obtain ⟨hl, ⟨h1, h2⟩ | ⟨ad, c', h1, h2⟩⟩ := hR
      · unfold cellsN at hn; omega
      · refine Or.inl ⟨ad, c', h1, hr', hp, rfl, by rw [hn]; rfl, hu, fun k hk => h2 k _ ?_⟩
        simp [uints, hk]
    · exact Or.inr ⟨a, c, e, Or.inr hn⟩

theorem lwalks_any (t p s x0 x1 : Int) (sv : Value) (vals : List Int) (w : World) (hR : Rd w sv 1 vals.length (uints vals)) (hu : ∀ v ∈ vals, VS.U32 v) :
    Calls Try.prog 5 #[.agg #[.int .i64 t, .int .i64 p, .int .i64 s], sv, .agg #[.int .i64 x0, .int .i64 x1]] w fun e w' => e = .returned (.bool true) ∧ Below w.heap.size w w' := by
  by_cases hp : p ≤ 64
  · rcases heap_or_none (t := t) (s := s) hR hu hp with ⟨ad, c, rfl, hx⟩ | ⟨a, c, rfl, hn⟩
    · cases hk : (chkF vals t p s).2
      · refine lwalks_none t p s x0 x1 _ _ _ w hp fun w1 hb => ?_
        have := rsound_any c w1 (hx.keep hb)
        rwa [hk] at this
      · exact lwalks_main x0 x1 c w hx hk
    · exact lwalks_none t p s x0 x1 _ _ _ w hp fun w1 _ => rsound_no a _ c w1 hn
  · obtain ⟨a, c, rfl⟩ := rdLen hR
    exact lwalks_big t p s x0 x1 _ _ _ w (by omega)
end Go.Proofs.Ytkfcjlampnjfbaa

namespace Go.Proofs.Ytkfcjlampnjfbaa.LinkWalksP
open Go.ChangeShapes Go.WideShapes Go.ChangeAt Go.RowKit Go.Joins Go.WideMaps

theorem own : ownKnob Try.prog.godebug = none := by kernel_rfl
theorem laidOut : laidOutB Try.prog = true := by kernel_rfl
theorem cellsCfg : Try.prog.cellsOf 23 = 3 := by kernel_rfl
theorem pairKey : ArrKey Try.prog 28 3 2 := ⟨Try.underlying28, by kernel_rfl, by kernel_rfl, by kernel_rfl⟩

set_option maxRecDepth 100000 in
theorem lifted (os : Os) (started : os.Started) (H : Type) (enc : TypeId × Value → H) :
    ReturnsInHanded {} Try.checked os 5 .any (Rows.linkWalksSpec.pre6 enc Try.prog Try.f5 Rows.linkWalksRow.domain false) (Rows.linkWalksSpec.post enc Try.prog Try.f5 false true false false) := by
  refine returnsInHanded_of_change (C := Try.checked) own started (by kernel_rfl) Try.func5
    (ChangeSpec.witness6 (enc := enc) (C := Try.checked) false ⟨#[], #[.agg #[.int .i64 0, .int .i64 0, .int .i64 0], .slice none 0 0, .agg #[.int .i64 0, .int .i64 0]], []⟩ 8 (by kernel_rfl) (by kernel_rfl) (by kernel_rfl) (by kernel_rfl)) ?_
  intro W base args ds gs before hval0 hW _ _
  have hval : ∀ (j : Nat) t v, Try.f5.params[j]? = some t → args[j]? = some v → Value.okWide Try.prog W .any base t v := hval0
  have hW' := hW
  obtain ⟨p, q, hA0, hV, rfl, hfz, hnd⟩ := hW
  have hA : DataW.TrodAll enc Try.prog W 0 (fun _ => true) true Try.f5.params.toList args.toList ds p := hA0
  rw [Try.params5] at hA hval
  obtain ⟨v0, vs0, d0, ds0, p0, q0, hargs, rfl, rfl, h0, r0⟩ := trodAll_cons hA
  obtain ⟨v1, vs1, d1, ds1, p1, q1, hargs1, rfl, rfl, h1, r1⟩ := trodAll_cons r0
  obtain ⟨v2, vs2, d2, ds2, p2, q2, hargs2, rfl, rfl, h2, r2⟩ := trodAll_cons r1
  obtain ⟨rfl, rfl, rfl⟩ := trodAll_nil r2
  obtain rfl : args = #[v0, v1, v2] := by cases args; simp_all
  obtain ⟨rfl, rfl⟩ := trodVars_none hV
  have k1 := h1
  have k2 := h2
  have lt1 : ∀ x ∈ p1, x.block < W.heap.size := by obtain ⟨m, hm⟩ := k1; exact DataW.trod_lt m _ _ _ hm
  have lt2 : ∀ x ∈ p2, x.block < W.heap.size := by obtain ⟨m, hm⟩ := k2; exact DataW.trod_lt m _ _ _ hm
  obtain ⟨xa1, xl1, xc1, rfl⟩ := Go.WideShapes.okWide_slice Try.underlying27 (hval 1 27 v1 rfl rfl)
  obtain ⟨x0, x1, rfl, -, -, -, -⟩ := open_pair pairKey Try.underlying3 (hval 2 28 v2 rfl rfl) h2
  obtain ⟨_, f1⟩ := h1
  obtain ⟨sv, vals, es, hR, hu⟩ := rd_u32 f1
  simp [Value.cells] at es
  subst es
  have k0 := h0
  have lt0 : ∀ x ∈ p0, x.block < W.heap.size := by obtain ⟨m, hm⟩ := k0; exact DataW.trod_lt m _ _ _ hm
  obtain ⟨c0, c1, c2, y0, y1, y2, m, rfl, e0, e0', hy0, hy1, hy2⟩ := open_agg3 Try.underlying23 (by kernel_rfl) cellsCfg (hval 0 23 v0 rfl rfl) h0
  obtain ⟨a, z0, rfl, wa⟩ := DataW.trod_int Try.underlying3 hy0
  obtain ⟨b, z1, rfl, wb⟩ := DataW.trod_int Try.underlying3 hy1
  obtain ⟨c, z2, rfl, wc⟩ := DataW.trod_int Try.underlying3 hy2
  simp at z0 z1 z2
  subst z0 z1 z2
  refine (lwalks_any a b c x0 x1 _ vals W hR hu).mono fun e W' ⟨he, bel⟩ => ?_
  subst he
  exact ⟨_, rfl, _, _, _, [], _, [], hW', trodAll_mk1 (shut_bool Try.underlying4 _), (trodAll_cons_mk (Below.trod laidOut (by kernel_rfl) (of_decide_eq_true (by kernel_rfl)) k0 bel lt0) (trodAll_cons_mk (Below.trod laidOut (by kernel_rfl) (of_decide_eq_true (by kernel_rfl)) k1 bel lt1) (trodAll_cons_mk (Below.trod laidOut (by kernel_rfl) (of_decide_eq_true (by kernel_rfl)) k2 bel lt2) trodAll_mk0))), rfl, bel.frame _, fun h => by cases h⟩

theorem over : Rows.linkWalksRow.holds Try.pinned (OpenSpec.ofChange Rows.linkWalksSpec) :=
  OpenClaim.holds_of_wide 5 Try.f5 rfl rfl rfl rfl rfl rfl rfl ⟨rfl, rfl, rfl, rfl, rfl⟩ rfl rfl rfl rfl rfl (by kernel_rfl) Try.func5 (by kernel_rfl)
    (of_decide_eq_true (by kernel_rfl)) (by unfold Func.isWrapper; first | (rw [if_pos (by decide +kernel)]; kernel_rfl) | (rw [if_neg (by decide +kernel)]; exact ⟨rfl, rfl⟩))
    (fun os started H enc _ => lifted os started H enc)

end Go.Proofs.Ytkfcjlampnjfbaa.LinkWalksP

namespace Go.Proofs.Ytkfcjlampnjfbaa
/-- THE STATEMENT -/
theorem linkWalks_holds : Rows.LinkWalksSaid := LinkWalksP.over
#print axioms linkWalks_holds
end Go.Proofs.Ytkfcjlampnjfbaa
