/- lines: the law LineParses. -/
import Derived.Test.YtloilknkhloegaaDoorLinB
import Derived.Test.YtloilknkhloegaaDoorLinTD
set_option linter.unusedSimpArgs false
set_option linter.unusedVariables false
namespace Go.Proofs.YtloilknkhloegaaDoor
open Go.RowKit

theorem parse_ans (s : List UInt8) : ∃ A q, ∀ w en w', ParseP w s en w' → en = .returned (.tuple #[enV A, .bool q]) ∧ Below w.heap.size w w' := by
  cases h : parseF s with
  | none => exact ⟨PEn.none, false, fun w en w' hp => parse_not h hp⟩
  | some x => exact ⟨x, true, fun w en w' hp => parse_is h hp⟩
theorem text_ans (e : PEn) : ∃ x p, ∀ w en w', TextP w e en w' → en = .returned (.tuple #[.string (bs x), .bool p]) ∧ Below w.heap.size w w' := by
  cases h : textF e with
  | none =>
    refine ⟨[], false, fun w en w' hp => ?_⟩
    rcases hp with ⟨y, hy, -⟩ | ⟨-, he, hb⟩
    · rw [h] at hy; cases hy
    · exact ⟨he, hb⟩
  | some x => exact ⟨x, true, fun w en w' hp => text_is h hp⟩
set_option maxHeartbeats 4000000 in
set_option maxRecDepth 100000 in
theorem lineparses_any (s : List UInt8) (e : PEn) (w : World) (he : e.ok) (hO : LnOk w) (hsl : s.length ≤ maxLen) :
    Calls Tryd.prog 6 #[.string (bs s), .agg #[.int .i64 e.k, .int .i64 e.t, .int .i64 e.u, .int .i64 e.op.k, .int .i64 e.op.a, .int .i64 e.op.b, .int .i64 e.n, .int .i64 e.m]] w fun en w' => en = .returned (.bool true) ∧ Below w.heap.size w w' := by
  unfold maxLen at hsl
  have HO := Lib.hid hO
  have HL := Lib.hid (fun w hO => llive_any w hO)
  by_cases hs : s.length ≤ 2000
  · have hs2 : (s.length : Int) ≤ 2000 := by omega
    obtain ⟨A, q, hA⟩ := parse_ans s
    obtain ⟨x, p, hX⟩ := text_ans e
    have HP1 := Lib.hid (fun w hO => (lparse_any s w (by omega) hO).mono fun en w' h => hA w en w' h)
    have HP2 := Lib.hid (fun w => (rparse_any s w (by omega)).mono fun en w' h => hA w en w' h)
    have HT1 := Lib.hid (fun w hO => (ltext_any e w he hO).mono fun en w' h => hX w en w' h)
    have HT2 : Hid (∀ w, Calls Tryd.prog 27 #[.agg #[.int .i64 e.k, .int .i64 e.t, .int .i64 e.u, .int .i64 e.op.k, .int .i64 e.op.a, .int .i64 e.op.b, .int .i64 e.n, .int .i64 e.m]] w fun en w' => en = .returned (.tuple #[.string (bs x), .bool p]) ∧ Below w.heap.size w w') := Lib.hid (fun w => (rtext_any e w he).mono fun en w' h => hX w en w' h)
    have hEq : ∀ W, (Op.equalIn 10000 54 (.agg #[.int .i64 A.k, .int .i64 A.t, .int .i64 A.u, .int .i64 A.op.k, .int .i64 A.op.a, .int .i64 A.op.b, .int .i64 A.n, .int .i64 A.m]) (.agg #[.int .i64 A.k, .int .i64 A.t, .int .i64 A.u, .int .i64 A.op.k, .int .i64 A.op.a, .int .i64 A.op.b, .int .i64 A.n, .int .i64 A.m])).run Tryd.prog W = .ok true W := fun W => by rw [← (eqEn_iff A A).2 rfl]; exact eq_entry A A W
    clear hA hX he hO
    go_enter Tryd.func6, Tryd.ntmps6
    go_wp2_with fail
    refine calls_at ?_
    intro wz hwz
    have be0 : BoxE wz w.heap.size e := by rw [hwz]; exact box_start w e
    have bl0 : Below w.heap.size w wz := by rw [hwz]; exact (Below.refl _ _).alloc (Nat.le_refl _) _
    clear hwz
    refine (HP1.out _ (HO.out.step bl0)).mono ?_
    rintro en w1 ⟨rfl, b1⟩
    have HE1 := Lib.hid (be0.step b1)
    have HB1 := Lib.hid (bl0.trans (b1.mono bl0.size))
    clear be0 bl0 b1
    unfold enV
    go_wp2_with fail
    refine calls_at ?_
    intro wy hwy
    have ba0 : BoxE wy w1.heap.size A := by rw [hwy]; exact box_start w1 A
    have bs0 : Below w1.heap.size w1 wy := by rw [hwy]; exact (Below.refl _ _).alloc (Nat.le_refl _) _
    clear hwy
    refine (HP2.out _).mono ?_
    rintro en w2 ⟨rfl, b2⟩
    have b12 : Below w1.heap.size w1 w2 := bs0.trans (b2.mono bs0.size)
    have HA2 := Lib.hid (ba0.step b2)
    have HE2 := Lib.hid (HE1.out.step b12)
    have HB2 := Lib.hid (HB1.out.trans (b12.mono HB1.out.size))
    have lte := HE2.out.lt
    have lta := HA2.out.lt
    clear ba0 bs0 b2 b12
    have dx := fun o => cell?_of_heap (o := o) HE2.out
    have d0 := dx 0
    have d1 := dx 1
    have d2 := dx 2
    have d3 := dx 3
    have d4 := dx 4
    have d5 := dx 5
    have d6 := dx 6
    have d7 := dx 7
    simp at d0 d1 d2 d3 d4 d5 d6 d7
    clear dx
    unfold enV
    go_wp2_with fail
    refine calls_at ?_
    intro wx hwx
    have bb0 : BoxE wx w2.heap.size A := by rw [hwx]; exact box_start w2 A
    have bt0 : Below w2.heap.size w2 wx := by rw [hwx]; exact (Below.refl _ _).alloc (Nat.le_refl _) _
    have bw0 := HB2.out.trans (bt0.mono HB2.out.size)
    clear hwx
    clear d0 d1 d2 d3 d4 d5 d6 d7
    refine (HT1.out _ (HO.out.step bw0)).mono ?_
    rintro en w3 ⟨rfl, b3⟩
    have b23 : Below w2.heap.size w2 w3 := bt0.trans (b3.mono bt0.size)
    have HC3 := Lib.hid (bb0.step b3)
    have HA3 := Lib.hid (HA2.out.step b23)
    have HE3 := Lib.hid (HE2.out.step b23)
    have HB3 := Lib.hid (HB2.out.trans (b23.mono HB2.out.size))
    clear bb0 bt0 bw0 b3 b23
    have lte3 := HE3.out.lt
    have dx := fun o => cell?_of_heap (o := o) HE3.out
    have d0 := dx 0
    have d1 := dx 1
    have d2 := dx 2
    have d3 := dx 3
    have d4 := dx 4
    have d5 := dx 5
    have d6 := dx 6
    have d7 := dx 7
    simp at d0 d1 d2 d3 d4 d5 d6 d7
    clear dx
    go_wp2_with fail
    clear d0 d1 d2 d3 d4 d5 d6 d7
    refine (HT2.out _).mono ?_
    rintro en w4 ⟨rfl, b4⟩
    have HC4 := Lib.hid (HC3.out.step b4)
    have HA4 := Lib.hid (HA3.out.step b4)
    have HB4 := Lib.hid (HB3.out.trans (b4.mono HB3.out.size))
    clear b4
    have cx := fun o => cell?_of_heap (o := o) HC4.out
    have c0 := cx 0
    have c1 := cx 1
    have c2 := cx 2
    have c3 := cx 3
    have c4 := cx 4
    have c5 := cx 5
    have c6 := cx 6
    have c7 := cx 7
    simp at c0 c1 c2 c3 c4 c5 c6 c7
    clear cx
    have ax := fun o => cell?_of_heap (o := o) HA4.out
    have a0 := ax 0
    have a1 := ax 1
    have a2 := ax 2
    have a3 := ax 3
    have a4 := ax 4
    have a5 := ax 5
    have a6 := ax 6
    have a7 := ax 7
    simp at a0 a1 a2 a3 a4 a5 a6 a7
    clear ax
    go_wp2_with fail
    refine (HL.out _ (HO.out.step HB4.out)).mono ?_
    rintro en w7 ⟨rfl, b7⟩
    go_wp2
    go_ret
    exact ⟨rfl, HB4.out.trans (b7.mono HB4.out.size)⟩
  · have hs2 : ¬ (s.length : Int) ≤ 2000 := by omega
    clear he hO
    go_enter Tryd.func6, Tryd.ntmps6
    go_wp2_with fail
    refine calls_at ?_
    intro wa hwa
    have HA := Lib.hid (show Below w.heap.size w wa by rw [hwa]; exact (Below.refl _ _).alloc (Nat.le_refl _) _)
    clear hwa
    refine (HL.out _ (HO.out.step HA.out)).mono ?_
    rintro en w5 ⟨rfl, b5⟩
    go_wp2
    go_ret
    exact ⟨rfl, HA.out.trans (b5.mono HA.out.size)⟩
end Go.Proofs.YtloilknkhloegaaDoor
