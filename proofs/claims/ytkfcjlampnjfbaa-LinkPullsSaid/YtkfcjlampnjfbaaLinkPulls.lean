/-
  LinkPulls: of every configuration, values and pair of numbers the law returns true and leaves its arguments alone.
  No condition: every input, every start.
-/
import Derived.Test.YtkfcjlampnjfbaaPullsM
import Derived.Test.YtkfcjlampnjfbaaOpenArgs
import Derived.Lib.SmallJoins
import Derived.WideKeyPair

namespace Go.Proofs.Ytkfcjlampnjfbaa
open Go.RowKit
/-- what the arguments are: a heap of few pages, or none. -/
theorem heap_or_none {t p s : Int} {sv : Value} {vals : List Int} {w : World} (hR : Rd w sv 1 vals.length (uints vals)) (hu : ∀ v ∈ vals, VS.U32 v) (hp : p ≤ 64) :
    (∃ ad c, sv = .slice (some ad) vals.length c ∧ XV w t p s ad vals.length vals) ∨ (∃ a c, sv = .slice a vals.length c ∧ (rightB t p s = false ∨ ((vals.length : Nat) : Int) ≠ cellsN t p)) := by
  obtain ⟨a, c, e⟩ := rdLen hR
  by_cases hr : rightB t p s = false
  · exact Or.inr ⟨a, c, e, Or.inl hr⟩
  · by_cases hn : ((vals.length : Nat) : Int) = cellsN t p
    · have hr' : rightB t p s = true := by simpa using hr
      have bd := right_bd hr'
      obtain ⟨hl, ⟨h1, h2⟩ | ⟨ad, c', h1, h2⟩⟩ := hR
      · unfold cellsN at hn; omega
      · refine Or.inl ⟨ad, c', h1, hr', hp, rfl, by rw [hn]; rfl, hu, fun k hk => h2 k _ ?_⟩
        simp [uints, hk]
    · exact Or.inr ⟨a, c, e, Or.inr hn⟩

/-- what is let go: too many pages, or no heap. -/
theorem lpulls_big (t p s x0 x1 : Int) (a : Option Addr) (m c : Nat) (w : World) (hp : 64 < p) :
    Calls Try.prog 4 #[.agg #[.int .i64 t, .int .i64 p, .int .i64 s], .slice a m c, .agg #[.int .i64 x0, .int .i64 x1]] w fun e w' => e = .returned (.bool true) ∧ Below w.heap.size w w' := by
  have H := fun w => few_any t p s w
  have hd : decide (p ≤ 64) = false := by simp; omega
  rw [hd] at H
  have HF := Lib.hid H
  clear H hd
  go_enter Try.func4, Try.ntmps4
  go_wp2_with fail
  refine (HF.out _).mono ?_
  rintro e w1 ⟨rfl, ha⟩
  obtain ⟨hac, haf⟩ := bcell ha
  have haz0 : w.heap.size < w1.heap.size := by have := ha.size; first | omega | (simp at this; omega)
  go_wp2_with fail
  refine (live_any _).mono ?_
  rintro e w2 ⟨rfl, hb⟩
  obtain ⟨hbc, hbf⟩ := bcell hb
  go_wp2
  go_ret
  refine ⟨rfl, ?_⟩
  (repeat (first | exact Below.refl _ _ | assumption | refine Below.setCell ?_ (by first | omega | (simp; done) | (simp; omega)) _ | refine Below.alloc ?_ (by first | omega | (simp; done) | (simp; omega)) _ | refine Below.drew ?_ | refine Below.trans ?_ (Below.mono ‹Below _ _ _› (by first | omega | (simp; done) | (simp; omega)))))
theorem lpulls_none (t p s x0 x1 : Int) (a : Option Addr) (m c : Nat) (w : World) (hp : p ≤ 64) (hs : ∀ w1, Below w.heap.size w w1 → Calls Try.prog 20 #[.agg #[.int .i64 t, .int .i64 p, .int .i64 s], .slice a m c] w1 fun e w' => e = .returned (.bool false) ∧ Below w1.heap.size w1 w') :
    Calls Try.prog 4 #[.agg #[.int .i64 t, .int .i64 p, .int .i64 s], .slice a m c, .agg #[.int .i64 x0, .int .i64 x1]] w fun e w' => e = .returned (.bool true) ∧ Below w.heap.size w w' := by
  have H := fun w => few_any t p s w
  have hd : decide (p ≤ 64) = true := by simp; omega
  rw [hd] at H
  have HF := Lib.hid H
  have HS := Lib.hid hs
  clear H hd hs
  go_enter Try.func4, Try.ntmps4
  go_wp2_with fail
  refine (HF.out _).mono ?_
  rintro e w1 ⟨rfl, ha⟩
  obtain ⟨hac, haf⟩ := bcell ha
  have haz0 : w.heap.size < w1.heap.size := by have := ha.size; first | omega | (simp at this; omega)
  have bel1 : Below w.heap.size w w1 := by (repeat (first | exact Below.refl _ _ | assumption | refine Below.setCell ?_ (by first | omega | (simp; done) | (simp; omega)) _ | refine Below.alloc ?_ (by first | omega | (simp; done) | (simp; omega)) _ | refine Below.drew ?_ | refine Below.trans ?_ (Below.mono ‹Below _ _ _› (by first | omega | (simp; done) | (simp; omega)))))
  go_wp2_with fail
  refine (HS.out _ bel1).mono ?_
  rintro e w2 ⟨rfl, hb⟩
  obtain ⟨hbc, hbf⟩ := bcell hb
  have hbz0 : w1.heap.size ≤ w2.heap.size := by have := hb.size; first | omega | (simp at this; omega)
  go_wp2_with fail
  refine (live_any _).mono ?_
  rintro e w3 ⟨rfl, hc⟩
  obtain ⟨hcc, hcf⟩ := bcell hc
  go_wp2
  go_ret
  refine ⟨rfl, ?_⟩
  (repeat (first | exact Below.refl _ _ | assumption | refine Below.setCell ?_ (by first | omega | (simp; done) | (simp; omega)) _ | refine Below.alloc ?_ (by first | omega | (simp; done) | (simp; omega)) _ | refine Below.drew ?_ | refine Below.trans ?_ (Below.mono ‹Below _ _ _› (by first | omega | (simp; done) | (simp; omega)))))

theorem lpulls_out (t p s x0 x1 : Int) (a : Option Addr) (m c : Nat) (w : World) (hp : p ≤ 64) (hs : ∀ w1, Below w.heap.size w w1 → Calls Try.prog 20 #[.agg #[.int .i64 t, .int .i64 p, .int .i64 s], .slice a m c] w1 fun e w' => e = .returned (.bool true) ∧ Below w1.heap.size w1 w') (hx : x0 < 2 ∨ 21 < x0) :
    Calls Try.prog 4 #[.agg #[.int .i64 t, .int .i64 p, .int .i64 s], .slice a m c, .agg #[.int .i64 x0, .int .i64 x1]] w fun e w' => e = .returned (.bool true) ∧ Below w.heap.size w w' := by
  have H := fun w => few_any t p s w
  have hd : decide (p ≤ 64) = true := by simp; omega
  rw [hd] at H
  have HF := Lib.hid H
  have HS := Lib.hid hs
  clear H hd hs
  have c1 := loc_alloc (w.alloc (.cells #[.int .i64 t, .int .i64 p, .int .i64 s] 23)) #[.int .i64 x0, .int .i64 x1] 28
  have S0 := ((BS.start w).alloc (.cells #[.int .i64 t, .int .i64 p, .int .i64 s] 23)).alloc (.cells #[.int .i64 x0, .int .i64 x1] 28)
  have c0 := loc_old (.cells #[.int .i64 x0, .int .i64 x1] 28) (by simp) (loc_alloc w #[.int .i64 t, .int .i64 p, .int .i64 s] 23)
  simp only [World.size_alloc] at c1 S0
  rcases hx with hx | hx
  · have hx2 := hx
    go_enter Try.func4, Try.ntmps4
    go_wp2_with fail
    refine (calls_b S0 (HF.out _)).mono ?_
    rintro e w1 ⟨rfl, S1, S1l⟩
    have d0 := loc_step S1l (by simp) c0
    have d1 := loc_step S1l (by simp) c1
    clear S1l
    go_wp2_with fail
    refine (calls_b S1 (HS.out _ S1.bel)).mono ?_
    rintro e w2 ⟨rfl, S2, S2l⟩
    have f0 := loc_step S2l (by simp) d0
    have f1 := loc_step S2l (by simp) d1
    clear S2l
    go_wp2_with fail
    refine (live_any _).mono ?_
    rintro e w3 ⟨rfl, hb3⟩
    go_wp2
    go_ret
    exact ⟨rfl, S2.bel.trans (hb3.mono S2.bel.size)⟩
  · have hx2 : ¬ x0 < 2 := by omega
    go_enter Try.func4, Try.ntmps4
    go_wp2_with fail
    refine (calls_b S0 (HF.out _)).mono ?_
    rintro e w1 ⟨rfl, S1, S1l⟩
    have d0 := loc_step S1l (by simp) c0
    have d1 := loc_step S1l (by simp) c1
    clear S1l
    go_wp2_with fail
    refine (calls_b S1 (HS.out _ S1.bel)).mono ?_
    rintro e w2 ⟨rfl, S2, S2l⟩
    have f0 := loc_step S2l (by simp) d0
    have f1 := loc_step S2l (by simp) d1
    clear S2l
    go_wp2_with fail
    refine (live_any _).mono ?_
    rintro e w3 ⟨rfl, hb3⟩
    go_wp2
    go_ret
    exact ⟨rfl, S2.bel.trans (hb3.mono S2.bel.size)⟩

theorem lpulls_any (t p s x0 x1 : Int) (sv : Value) (vals : List Int) (w : World) (hR : Rd w sv 1 vals.length (uints vals)) (hu : ∀ v ∈ vals, VS.U32 v) :
    Calls Try.prog 4 #[.agg #[.int .i64 t, .int .i64 p, .int .i64 s], sv, .agg #[.int .i64 x0, .int .i64 x1]] w fun e w' => e = .returned (.bool true) ∧ Below w.heap.size w w' := by
  by_cases hp : p ≤ 64
  · rcases heap_or_none (t := t) (s := s) hR hu hp with ⟨ad, c, rfl, hx⟩ | ⟨a, c, rfl, hn⟩
    · cases hk : (chkF vals t p s).2
      · refine lpulls_none t p s x0 x1 _ _ _ w hp fun w1 hb => ?_
        have := rsound_any c w1 (hx.keep hb)
        rwa [hk] at this
      · by_cases h2 : x0 < 2 ∨ 21 < x0
        · refine lpulls_out t p s x0 x1 _ _ _ w hp (fun w1 hb => ?_) h2
          have := rsound_any c w1 (hx.keep hb)
          rwa [hk] at this
        · obtain ⟨m, rfl⟩ : ∃ m : Nat, x0 = m := ⟨x0.toNat, by omega⟩
          exact lpulls_main m x1 c w hx hk (by omega) (by omega)
    · exact lpulls_none t p s x0 x1 _ _ _ w hp fun w1 _ => rsound_no a _ c w1 hn
  · obtain ⟨a, c, rfl⟩ := rdLen hR
    exact lpulls_big t p s x0 x1 _ _ _ w (by omega)
end Go.Proofs.Ytkfcjlampnjfbaa

namespace Go.Proofs.Ytkfcjlampnjfbaa.LinkPullsP
open Go.ChangeShapes Go.WideShapes Go.ChangeAt Go.RowKit Go.Joins Go.WideMaps

theorem own : ownKnob Try.prog.godebug = none := by kernel_rfl
theorem laidOut : laidOutB Try.prog = true := by kernel_rfl
theorem cellsCfg : Try.prog.cellsOf 23 = 3 := by kernel_rfl
theorem pairKey : ArrKey Try.prog 28 3 2 := ⟨Try.underlying28, by kernel_rfl, by kernel_rfl, by kernel_rfl⟩

set_option maxRecDepth 100000 in
theorem lifted (os : Os) (started : os.Started) (H : Type) (enc : TypeId × Value → H) :
    ReturnsInHanded {} Try.checked os 4 .any (Rows.linkPullsSpec.pre6 enc Try.prog Try.f4 Rows.linkPullsRow.domain false) (Rows.linkPullsSpec.post enc Try.prog Try.f4 false true false false) := by
  refine returnsInHanded_of_change (C := Try.checked) own started (by kernel_rfl) Try.func4
    (ChangeSpec.witness6 (enc := enc) (C := Try.checked) false ⟨#[], #[.agg #[.int .i64 0, .int .i64 0, .int .i64 0], .slice none 0 0, .agg #[.int .i64 0, .int .i64 0]], []⟩ 8 (by kernel_rfl) (by kernel_rfl) (by kernel_rfl) (by kernel_rfl)) ?_
  intro W base args ds gs before hval0 hW _ _
  have hval : ∀ (j : Nat) t v, Try.f4.params[j]? = some t → args[j]? = some v → Value.okWide Try.prog W .any base t v := hval0
  have hW' := hW
  obtain ⟨p, q, hA0, hV, rfl, hfz, hnd⟩ := hW
  have hA : DataW.TrodAll enc Try.prog W 0 (fun _ => true) true Try.f4.params.toList args.toList ds p := hA0
  rw [Try.params4] at hA hval
  obtain ⟨v0, vs0, d0, ds0, p0, q0, hargs, rfl, rfl, h0, r0⟩ := trodAll_cons hA
  obtain ⟨v1, vs1, d1, ds1, p1, q1, hargs1, rfl, rfl, h1, r1⟩ := trodAll_cons r0
  obtain ⟨v2, vs2, d2, ds2, p2, q2, hargs2, rfl, rfl, h2, r2⟩ := trodAll_cons r1
  obtain ⟨rfl, rfl, rfl⟩ := trodAll_nil r2
  obtain rfl : args = #[v0, v1, v2] := by cases args; simp_all
  obtain ⟨rfl, rfl⟩ := trodVars_none hV
  have k1 := h1
  have k2 := h2
  have lt1 : ∀ x ∈ p1, x.block < W.heap.size := by obtain ⟨m, hm⟩ := k1; exact DataW.trod_lt m _ _ _ hm
  have lt2 : ∀ x ∈ p2, x.block < W.heap.size := by obtain ⟨m, hm⟩ := k2; exact DataW.trod_lt m _ _ _ hm
  obtain ⟨xa1, xl1, xc1, rfl⟩ := Go.WideShapes.okWide_slice Try.underlying27 (hval 1 27 v1 rfl rfl)
  obtain ⟨x0, x1, rfl, -, -, -, -⟩ := open_pair pairKey Try.underlying3 (hval 2 28 v2 rfl rfl) h2
  obtain ⟨_, f1⟩ := h1
  obtain ⟨sv, vals, es, hR, hu⟩ := rd_u32 f1
  simp [Value.cells] at es
  subst es
  have k0 := h0
  have lt0 : ∀ x ∈ p0, x.block < W.heap.size := by obtain ⟨m, hm⟩ := k0; exact DataW.trod_lt m _ _ _ hm
  obtain ⟨c0, c1, c2, y0, y1, y2, m, rfl, e0, e0', hy0, hy1, hy2⟩ := open_agg3 Try.underlying23 (by kernel_rfl) cellsCfg (hval 0 23 v0 rfl rfl) h0
  obtain ⟨a, z0, rfl, wa⟩ := DataW.trod_int Try.underlying3 hy0
  obtain ⟨b, z1, rfl, wb⟩ := DataW.trod_int Try.underlying3 hy1
  obtain ⟨c, z2, rfl, wc⟩ := DataW.trod_int Try.underlying3 hy2
  simp at z0 z1 z2
  subst z0 z1 z2
  refine (lpulls_any a b c x0 x1 _ vals W hR hu).mono fun e W' ⟨he, bel⟩ => ?_
  subst he
  exact ⟨_, rfl, _, _, _, [], _, [], hW', trodAll_mk1 (shut_bool Try.underlying4 _), (trodAll_cons_mk (Below.trod laidOut (by kernel_rfl) (of_decide_eq_true (by kernel_rfl)) k0 bel lt0) (trodAll_cons_mk (Below.trod laidOut (by kernel_rfl) (of_decide_eq_true (by kernel_rfl)) k1 bel lt1) (trodAll_cons_mk (Below.trod laidOut (by kernel_rfl) (of_decide_eq_true (by kernel_rfl)) k2 bel lt2) trodAll_mk0))), rfl, bel.frame _, fun h => by cases h⟩

theorem over : Rows.linkPullsRow.holds Try.pinned (OpenSpec.ofChange Rows.linkPullsSpec) :=
  OpenClaim.holds_of_wide 4 Try.f4 rfl rfl rfl rfl rfl rfl rfl ⟨rfl, rfl, rfl, rfl, rfl⟩ rfl rfl rfl rfl rfl (by kernel_rfl) Try.func4 (by kernel_rfl)
    (of_decide_eq_true (by kernel_rfl)) (by unfold Func.isWrapper; first | (rw [if_pos (by decide +kernel)]; kernel_rfl) | (rw [if_neg (by decide +kernel)]; exact ⟨rfl, rfl⟩))
    (fun os started H enc _ => lifted os started H enc)

end Go.Proofs.Ytkfcjlampnjfbaa.LinkPullsP

namespace Go.Proofs.Ytkfcjlampnjfbaa
/-- THE STATEMENT -/
theorem linkPulls_holds : Rows.LinkPullsSaid := LinkPullsP.over
#print axioms linkPulls_holds
end Go.Proofs.Ytkfcjlampnjfbaa
