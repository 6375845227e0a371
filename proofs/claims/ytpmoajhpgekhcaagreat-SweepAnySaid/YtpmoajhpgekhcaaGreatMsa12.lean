/- parts of the proof, merged by a program. -/
import Derived.Test.YtpmoajhpgekhcaaGreatMsa10
import Derived.Test.YtpmoajhpgekhcaaGreatMsa11
import Derived.ChangeKeysEq
import Derived.Laws.AppendOwnNone
import Derived.Deep.RegionHeld3
set_option linter.unusedSimpArgs false
set_option linter.unusedVariables false
/- the walk of AuditParts. -/
set_option linter.unusedSimpArgs false
set_option linter.unusedVariables false
namespace Go.Proofs.YtpmoajhpgekhcaaGreat
open Go.ChangeShapes Go.RowKit
/-- the document's Sound, of what is none. -/
theorem rsound_no {t p s : Int} (a : Option Addr) (m c : Nat) (w : World) (h : rightB t p s = false ∨ (m : Int) ≠ cellsN t p) :
    Calls Tryz.prog 6 #[.agg #[.int .i64 t, .int .i64 p, .int .i64 s], .slice a m c] w fun e w' => e = .returned (.bool false) ∧ Below w.heap.size w w' := by
  have H := Lib.hid (fun w => rcheck_no a m c w h)
  clear h
  go_enter Tryz.func6, Tryz.ntmps6
  go_wp2_with fail
  refine (H.out _).mono ?_
  rintro e w1 ⟨rfl, hb⟩
  go_wp2
  go_ret
  refine ⟨rfl, ?_⟩
  (repeat (first | exact Below.refl _ _ | assumption | refine Below.setCell ?_ (by first | omega | (simp; done) | (simp; omega)) _ | refine Below.alloc ?_ (by first | omega | (simp; done) | (simp; omega)) _ | refine Below.drew ?_ | refine Below.trans ?_ (Below.mono ‹Below _ _ _› (by first | omega | (simp; done) | (simp; omega)))))
end Go.Proofs.YtpmoajhpgekhcaaGreat
/- the program's State; the same states. -/
set_option linter.unusedSimpArgs false
set_option linter.unusedVariables false
namespace Go.Proofs.YtpmoajhpgekhcaaGreat
open Go.ChangeShapes Go.RowKit
/-- a state as a value: its blocks' row, and its roots. -/
def stV (v : Value) (f : Nat → Int) : Value := .agg #[v, .int .i64 (f 0), .int .i64 (f 1), .int .i64 (f 2), .int .i64 (f 3), .int .i64 (f 4), .int .i64 (f 5), .int .i64 (f 6), .int .i64 (f 7)]
def rootsV (vs : List Int) : Nat → Int := fun i => vs.getD (22 + i) 0
theorem stV_state (v : Value) (vs : List Int) : Value.agg (stateC v vs 8) = stV v (rootsV vs) := rfl
def eq8 (f g : Nat → Int) : Bool := f 0 == g 0 && (f 1 == g 1 && (f 2 == g 2 && (f 3 == g 3 && (f 4 == g 4 && (f 5 == g 5 && (f 6 == g 6 && f 7 == g 7))))))
theorem infoI64b : (Tryz.prog.info? 2).map (fun i => (i.zero, i.size, i.bytes)) = some (some (.int .i64 0), 1, 8) := by kernel_rfl
theorem run_items (P : Program) (d e c : Nat) (xs ys : Array Value) (W : World) (a b : Int) (k : IntKind) (i : Nat) (is : List Nat) (he : P.underlying e = some (.int k)) (hx : (part e xs (i * c)).run P W = .ok (.int k a) W) (hy : (part e ys (i * c)).run P W = .ok (.int k b) W) (r : Bool) (hr : (Op.eqItems (d + 1) e c xs ys is).run P W = .ok r W) :
    (Op.eqItems (d + 1) e c xs ys (i :: is)).run P W = .ok (a == b && r) W := by
  simp only [Op.eqItems, Sem.run_bind, hx, hy, Result.andThen_ok, run_equalIn_int W d e k k a b he]
  cases hab : a == b
  · simp
  · simp [hr]
theorem run_eq8 (f g : Nat → Int) (W : World) : (Op.equalIn 10000 34 (.agg #[.int .i64 (f 0), .int .i64 (f 1), .int .i64 (f 2), .int .i64 (f 3), .int .i64 (f 4), .int .i64 (f 5), .int .i64 (f 6), .int .i64 (f 7)]) (.agg #[.int .i64 (g 0), .int .i64 (g 1), .int .i64 (g 2), .int .i64 (g 3), .int .i64 (g 4), .int .i64 (g 5), .int .i64 (g 6), .int .i64 (g 7)])).run Tryz.prog W = .ok (eq8 f g) W := by
  obtain ⟨i0, hi0, -, -, -⟩ := info_parts infoI64b
  have hc : Tryz.prog.cellsOf 2 = 1 := by kernel_rfl
  rw [show (10000 : Nat) = 9999 + 1 from rfl, run_equalIn_array W 9999 _ _ Tryz.underlying34 hi0, hc]
  rw [show eq8 f g = (f 0 == g 0 && (f 1 == g 1 && (f 2 == g 2 && (f 3 == g 3 && (f 4 == g 4 && (f 5 == g 5 && (f 6 == g 6 && (f 7 == g 7 && true)))))))) by unfold eq8; simp]
  have hp : ∀ (h : Nat → Int) (i : Nat), i < 8 → (part 2 #[.int .i64 (h 0), .int .i64 (h 1), .int .i64 (h 2), .int .i64 (h 3), .int .i64 (h 4), .int .i64 (h 5), .int .i64 (h 6), .int .i64 (h 7)] (i * 1)).run Tryz.prog W = .ok (.int .i64 (h i)) W := by
    intro h i hi
    rcases (by omega : i = 0 ∨ i = 1 ∨ i = 2 ∨ i = 3 ∨ i = 4 ∨ i = 5 ∨ i = 6 ∨ i = 7) with rfl | rfl | rfl | rfl | rfl | rfl | rfl | rfl <;> simp [go_sem, Tryz.isAgg2]
  show (Op.eqItems 9999 2 1 _ _ [0, 1, 2, 3, 4, 5, 6, 7]).run Tryz.prog W = _
  refine run_items _ 9998 _ _ _ _ _ _ _ .i64 _ _ Tryz.underlying2 (hp f 0 (by omega)) (hp g 0 (by omega)) _ ?_
  refine run_items _ 9998 _ _ _ _ _ _ _ .i64 _ _ Tryz.underlying2 (hp f 1 (by omega)) (hp g 1 (by omega)) _ ?_
  refine run_items _ 9998 _ _ _ _ _ _ _ .i64 _ _ Tryz.underlying2 (hp f 2 (by omega)) (hp g 2 (by omega)) _ ?_
  refine run_items _ 9998 _ _ _ _ _ _ _ .i64 _ _ Tryz.underlying2 (hp f 3 (by omega)) (hp g 3 (by omega)) _ ?_
  refine run_items _ 9998 _ _ _ _ _ _ _ .i64 _ _ Tryz.underlying2 (hp f 4 (by omega)) (hp g 4 (by omega)) _ ?_
  refine run_items _ 9998 _ _ _ _ _ _ _ .i64 _ _ Tryz.underlying2 (hp f 5 (by omega)) (hp g 5 (by omega)) _ ?_
  refine run_items _ 9998 _ _ _ _ _ _ _ .i64 _ _ Tryz.underlying2 (hp f 6 (by omega)) (hp g 6 (by omega)) _ ?_
  refine run_items _ 9998 _ _ _ _ _ _ _ .i64 _ _ Tryz.underlying2 (hp f 7 (by omega)) (hp g 7 (by omega)) _ ?_
  simp [Op.eqItems]
/-- how far two lists are the same. -/
def EqTo (l1 l2 : List (Int × Int)) (k : Nat) : Prop := ∀ j, j < k → l1[j]? = l2[j]?
theorem eqL_no {l1 l2 : List (Int × Int)} {k : Nat} {x y : Int × Int} (hx : l1[k]? = some x) (hy : l2[k]? = some y) (h : x ≠ y) : decide (l1 = l2) = false := by
  rw [decide_eq_false_iff_not]
  intro e
  rw [e, hy] at hx
  exact h (Option.some.inj hx).symm
theorem eqL_step {l1 l2 : List (Int × Int)} {k : Nat} (h : EqTo l1 l2 k) (hk : l1[k]? = l2[k]?) : EqTo l1 l2 (k + 1) := fun j hj => by
  by_cases e : j = k
  · rw [e]; exact hk
  · exact h j (by omega)
theorem eqL_yes {l1 l2 : List (Int × Int)} (hl : l1.length = l2.length) (h : EqTo l1 l2 l1.length) : decide (l1 = l2) = true := by
  rw [decide_eq_true_iff]
  apply List.ext_getElem?
  intro j
  by_cases hj : j < l1.length
  · exact h j hj
  · rw [List.getElem?_eq_none (by omega), List.getElem?_eq_none (by omega)]
theorem eqL_len {l1 l2 : List (Int × Int)} (hl : l1.length ≠ l2.length) : decide (l1 = l2) = false := by
  rw [decide_eq_false_iff_not]
  exact fun e => hl (by rw [e])
def EqRel (l1 l2 : List (Int × Int)) (w : World) (i : Value) (wr : World) : Prop := ∃ k : Nat, k ≤ l1.length ∧ i = .int .i64 k ∧ EqTo l1 l2 k ∧ Below w.heap.size w wr
section
variable (l1 l2 : List (Int × Int)) (va vb : Value) (f g : Nat → Int) (w : World)
set_option maxHeartbeats 4000000 in
set_option maxRecDepth 100000 in
theorem rsame_any (ha : w.ownsRow 0 74 2 va l1.length (blockCells l1)) (hb : w.ownsRow 0 74 2 vb l2.length (blockCells l2)) (h1 : l1.length ≤ 4294967296) (h2 : l2.length ≤ 4294967296) :
    Calls Tryz.prog 13 #[stV va f, stV vb g] w fun e w' => e = .returned (.bool (decide (l1 = l2) && eq8 f g)) ∧ Below w.heap.size w w' := by
  have hca := blockCells_len l1
  have hcb := blockCells_len l2
  obtain ⟨pa, ca, rfl⟩ := row_shape ha
  obtain ⟨pb, cb, rfl⟩ := row_shape hb
  have S2 := ((BS.start w).alloc (.cells #[.slice pa l1.length ca, .int .i64 (f 0), .int .i64 (f 1), .int .i64 (f 2), .int .i64 (f 3), .int .i64 (f 4), .int .i64 (f 5), .int .i64 (f 6), .int .i64 (f 7)] 36)).alloc (.cells #[.slice pb l2.length cb, .int .i64 (g 0), .int .i64 (g 1), .int .i64 (g 2), .int .i64 (g 3), .int .i64 (g 4), .int .i64 (g 5), .int .i64 (g 6), .int .i64 (g 7)] 36)
  have c1 := loc_old (.cells #[.slice pb l2.length cb, .int .i64 (g 0), .int .i64 (g 1), .int .i64 (g 2), .int .i64 (g 3), .int .i64 (g 4), .int .i64 (g 5), .int .i64 (g 6), .int .i64 (g 7)] 36) (by simp) (loc_alloc w #[.slice pa l1.length ca, .int .i64 (f 0), .int .i64 (f 1), .int .i64 (f 2), .int .i64 (f 3), .int .i64 (f 4), .int .i64 (f 5), .int .i64 (f 6), .int .i64 (f 7)] 36)
  have c2 := loc_alloc (w.alloc (.cells #[.slice pa l1.length ca, .int .i64 (f 0), .int .i64 (f 1), .int .i64 (f 2), .int .i64 (f 3), .int .i64 (f 4), .int .i64 (f 5), .int .i64 (f 6), .int .i64 (f 7)] 36)) #[.slice pb l2.length cb, .int .i64 (g 0), .int .i64 (g 1), .int .i64 (g 2), .int .i64 (g 3), .int .i64 (g 4), .int .i64 (g 5), .int .i64 (g 6), .int .i64 (g 7)] 36
  have ha2 := S2.row ha
  have hb2 := S2.row hb
  have hE := run_eq8 f g
  unfold stV
  generalize eq8 f g = y at *
  generalize f 0 = f0 at *
  generalize f 1 = f1 at *
  generalize f 2 = f2 at *
  generalize f 3 = f3 at *
  generalize f 4 = f4 at *
  generalize f 5 = f5 at *
  generalize f 6 = f6 at *
  generalize f 7 = f7 at *
  generalize g 0 = g0 at *
  generalize g 1 = g1 at *
  generalize g 2 = g2 at *
  generalize g 3 = g3 at *
  generalize g 4 = g4 at *
  generalize g 5 = g5 at *
  generalize g 6 = g6 at *
  generalize g 7 = g7 at *
  simp only [World.size_alloc] at c2
  have HA := Lib.hid (fun _ : Unit => ha2)
  have HB := Lib.hid (fun _ : Unit => hb2)
  have HS2 := Lib.hid S2.bel
  have HC := Lib.hid (fun _ : Unit => And.intro c1 c2)
  clear ha hb ha2 hb2 S2
  by_cases hll : l1.length = l2.length
  · have hlb : ((l1.length : Int) != l2.length) = false := by simp [hll]
    have HLL := Lib.hid hll
    clear hll
    cases y
    · skip
      go_enter Tryz.func13, Tryz.ntmps13
      go_wp2
      go_ret
      exact ⟨ret_bool (by simp), HS2.out⟩
    · skip
      go_enter Tryz.func13, Tryz.ntmps13
      go_wp2_with fail
      clear hE
      go_loopw [5] (fun i wr => EqRel l1 l2 ((w.alloc (.cells #[.slice pa l1.length ca, .int .i64 f0, .int .i64 f1, .int .i64 f2, .int .i64 f3, .int .i64 f4, .int .i64 f5, .int .i64 f6, .int .i64 f7] 36)).alloc (.cells #[.slice pb l2.length cb, .int .i64 g0, .int .i64 g1, .int .i64 g2, .int .i64 g3, .int .i64 g4, .int .i64 g5, .int .i64 g6, .int .i64 g7] 36)) i wr) (fun i _ => l1.length - (intOf i).toNat)
      case atStart => exact ⟨0, by omega, rfl, fun j hj => by omega, Below.refl _ _⟩
      case round =>
        clear c1 c2
        obtain ⟨k, hk, rfl, hno, hbe⟩ := hrel
        have s0 : wr.cell? ⟨w.heap.size, 0, none⟩ = some (.slice pa l1.length ca) := ((BS.start _).below hbe).oldbox (HC.out ()).1 (by simp; omega) 0
        have s1 : wr.cell? ⟨w.heap.size + 1, 0, none⟩ = some (.slice pb l2.length cb) := ((BS.start _).below hbe).oldbox (HC.out ()).2 (by simp) 0
        have HBe := Lib.hid (HS2.out.trans (hbe.mono HS2.out.size))
        have HB2 := Lib.hid (fun _ : Unit => hbe)
        by_cases hlt : k < l1.length
        · have hkl : (k : Int) < l1.length := by omega
          obtain ⟨⟨a1, a2⟩, hx⟩ : ∃ x, l1[k]? = some x := ⟨_, List.getElem?_eq_getElem hlt⟩
          obtain ⟨⟨b1, b2⟩, hy⟩ : ∃ x, l2[k]? = some x := ⟨_, List.getElem?_eq_getElem (by have := HLL.out; omega)⟩
          have hra := ((BS.start _).below hbe).row (HA.out ())
          have hrb := ((BS.start _).below hbe).row (HB.out ())
          obtain ⟨ga, cap, hg⟩ := Joins.ownsRow_form hra (by omega)
          simp only [Value.slice.injEq, true_and] at hg
          obtain ⟨rfl, rfl⟩ := hg
          obtain ⟨gb, cap, hg⟩ := Joins.ownsRow_form hrb (by have := HLL.out; omega)
          simp only [Value.slice.injEq, true_and] at hg
          obtain ⟨rfl, rfl⟩ := hg
          obtain ⟨p0, p1⟩ := block_cell hx
          obtain ⟨r0, r1⟩ := block_cell hy
          have q0 := (hra.cellAt (k * 2) (by omega)).trans p0
          have q1 := (hra.cellAt (k * 2 + 1) (by omega)).trans p1
          have u0 := (hrb.cellAt (k * 2) (by have := HLL.out; omega)).trans r0
          have u1 := (hrb.cellAt (k * 2 + 1) (by have := HLL.out; omega)).trans r1
          have HNo := Lib.hid (fun h : (a1, a2) ≠ (b1, b2) => eqL_no hx hy h)
          have HYes := Lib.hid (fun h : (a1, a2) = (b1, b2) => eqL_step hno (hx.trans (h ▸ hy.symm)))
          clear p0 p1 r0 r1 hx hy hra hrb hno hbe HA HB HC HS2
          have hkl2 : (k : Int) < l2.length := by have := HLL.out; omega
          dsimp only at q0 q1 u0 u1
          by_cases e1 : a1 = b1
          · by_cases e2 : a2 = b2
            · have HS := Lib.hid (HYes.out (by rw [e1, e2]))
              subst e1 e2
              clear HNo HYes
              go_wp2_with fail
              refine wp_region_noPanic ?_
              refine wp_region_held_drew (S := fun w' => (w'.cell? ⟨w.heap.size, 0, none⟩ = some (.slice (some ⟨ga, 0, none⟩) l1.length ca) ∧ w'.cell? ⟨w.heap.size + 1, 0, none⟩ = some (.slice (some ⟨gb, 0, none⟩) l2.length cb)) ∧ (w'.cell? ⟨ga, k * 2, none⟩ = some (.int .i64 a1) ∧ w'.cell? ⟨ga, k * 2 + 1, none⟩ = some (.int .i64 a2)) ∧ w'.cell? ⟨gb, k * 2, none⟩ = some (.int .i64 a1) ∧ w'.cell? ⟨gb, k * 2 + 1, none⟩ = some (.int .i64 a2)) (by kernel_rfl) ?_ (fun hHeld => ?_)
              · exact ⟨⟨s0, s1⟩, ⟨q0, q1⟩, u0, u1⟩
              refine wT 0 ?_
              refine wT 1 ?_
              refine wT 2 ?_
              refine wT 3 ?_
              refine wT 4 ?_
              refine wT 5 ?_
              refine wT 6 ?_
              refine wT 7 ?_
              refine wT 8 ?_
              refine wT 9 ?_
              refine wT 10 ?_
              refine wpAnyH_done (by kernel_rfl) (NoPanic.normal ?_) _
              go_wp2_with fail
              go_roundw
              case rel => exact ⟨k + 1, by omega, by go_num, HS.out, (HB2.out ()).drew⟩
              case measure => simp [intOf]; omega
            · have hb2 : (a2 == b2) = false := by simpa using e2
              have HN := Lib.hid (HNo.out (by simp [e2]))
              subst e1
              clear HNo HYes e2
              go_wp2_with fail
              refine wp_region_noPanic ?_
              refine wp_region_held_drew (S := fun w' => (w'.cell? ⟨w.heap.size, 0, none⟩ = some (.slice (some ⟨ga, 0, none⟩) l1.length ca) ∧ w'.cell? ⟨w.heap.size + 1, 0, none⟩ = some (.slice (some ⟨gb, 0, none⟩) l2.length cb)) ∧ (w'.cell? ⟨ga, k * 2, none⟩ = some (.int .i64 a1) ∧ w'.cell? ⟨ga, k * 2 + 1, none⟩ = some (.int .i64 a2)) ∧ w'.cell? ⟨gb, k * 2, none⟩ = some (.int .i64 a1) ∧ w'.cell? ⟨gb, k * 2 + 1, none⟩ = some (.int .i64 b2)) (by kernel_rfl) ?_ (fun hHeld => ?_)
              · exact ⟨⟨s0, s1⟩, ⟨q0, q1⟩, u0, u1⟩
              refine wT 0 ?_
              refine wT 1 ?_
              refine wT 2 ?_
              refine wT 3 ?_
              refine wT 4 ?_
              refine wT 5 ?_
              refine wT 6 ?_
              refine wT 7 ?_
              refine wT 8 ?_
              refine wT 9 ?_
              refine wT 10 ?_
              refine wpAnyH_done (by kernel_rfl) (NoPanic.normal ?_) _
              go_wp2
              go_ret
              exact ⟨ret_bool (by simp [HN.out]), HBe.out.drew⟩
          · have hb1 : (a1 == b1) = false := by simpa using e1
            have HN := Lib.hid (HNo.out (by simp [e1]))
            clear HNo HYes e1
            go_wp2_with fail
            refine wp_region_noPanic ?_
            refine wp_region_held_drew (S := fun w' => (w'.cell? ⟨w.heap.size, 0, none⟩ = some (.slice (some ⟨ga, 0, none⟩) l1.length ca) ∧ w'.cell? ⟨w.heap.size + 1, 0, none⟩ = some (.slice (some ⟨gb, 0, none⟩) l2.length cb)) ∧ (w'.cell? ⟨ga, k * 2, none⟩ = some (.int .i64 a1) ∧ w'.cell? ⟨ga, k * 2 + 1, none⟩ = some (.int .i64 a2)) ∧ w'.cell? ⟨gb, k * 2, none⟩ = some (.int .i64 b1) ∧ w'.cell? ⟨gb, k * 2 + 1, none⟩ = some (.int .i64 b2)) (by kernel_rfl) ?_ (fun hHeld => ?_)
            · exact ⟨⟨s0, s1⟩, ⟨q0, q1⟩, u0, u1⟩
            refine wT 0 ?_
            refine wT 1 ?_
            refine wT 2 ?_
            refine wT 3 ?_
            refine wT 4 ?_
            refine wT 5 ?_
            refine wT 6 ?_
            refine wT 7 ?_
            refine wT 8 ?_
            refine wT 9 ?_
            refine wT 10 ?_
            refine wpAnyH_done (by kernel_rfl) (NoPanic.normal ?_) _
            go_wp2
            go_ret
            exact ⟨ret_bool (by simp [HN.out]), HBe.out.drew⟩
        · have hkl : ¬ (k : Int) < l1.length := by omega
          have hke : k = l1.length := by omega
          rw [hke] at hno
          have HY := Lib.hid (eqL_yes HLL.out hno)
          clear hno hke hbe HA HB HC HS2
          go_wp2
          go_ret
          exact ⟨ret_bool (by simp [HY.out]), HBe.out⟩
  · have hlb : ((l1.length : Int) != l2.length) = true := by simp; omega
    have HN := Lib.hid (eqL_len hll)
    clear hll
    go_enter Tryz.func13, Tryz.ntmps13
    go_wp2
    go_ret
    exact ⟨ret_bool (by simp [HN.out]), HS2.out⟩
end
end Go.Proofs.YtpmoajhpgekhcaaGreat
/- SweepKeeps, SweepAny: what the walks share. -/
set_option linter.unusedSimpArgs false
set_option linter.unusedVariables false
namespace Go.Proofs.YtpmoajhpgekhcaaGreat
open Go.RowKit

/-- what Sound answers, of any values; a heap's values, read. -/
theorem sound_cases (t p s : Int) (sv : Value) (vals : List Int) (w : World) (hR : Rd w sv 1 vals.length (uints vals)) (hu : ∀ u ∈ vals, VS.U32 u) (hp : p ≤ 64) :
    (∃ (P : Nat) (ad : Addr) (c : Nat), p = P ∧ sv = .slice (some ad) vals.length c ∧ XV w t P s ad vals.length vals ∧ (chkF vals t P s).2 = true) ∨
    (∀ W, Below w.heap.size w W → Calls Tryz.prog 6 #[.agg #[.int .i64 t, .int .i64 p, .int .i64 s], sv] W fun e W' => e = .returned (.bool false) ∧ Below W.heap.size W W') := by
  by_cases hg : rightB t p s = true ∧ (vals.length : Int) = cellsN t p
  · obtain ⟨hr, hn⟩ := hg
    have bd := right_bd hr
    obtain ⟨P, rfl⟩ : ∃ P : Nat, p = P := ⟨p.toNat, by omega⟩
    obtain ⟨ad, c, rfl, hx⟩ := hR.xv hu hr (by omega) hn
    cases hs : (chkF vals t P s).2
    · refine Or.inr fun W hb => ?_
      have := rsound_any c W (hx.keep hb)
      rwa [hs] at this
    · exact Or.inl ⟨P, ad, c, rfl, rfl, hx, hs⟩
  · obtain ⟨a, c, rfl⟩ := rd12_len hR
    have hno : rightB t p s = false ∨ (vals.length : Int) ≠ cellsN t p := by
      cases hr : rightB t p s
      · exact Or.inl rfl
      · exact Or.inr fun h => hg ⟨hr, h⟩
    exact Or.inr fun W _ => rsound_no a _ c W hno

/-- a row of values is a heap's values, read. -/
theorem row_xv {w : World} {t s : Int} {P : Nat} {v : Value} {vs : List Int} (hr : rightB t P s = true) (hp : P ≤ 1024) (hn : (vs.length : Int) = 30 + 4 * t + 6 * P) (hu : ∀ u ∈ vs, VS.U32 u) (h : w.ownsRow 0 41 1 v vs.length (uints vs)) :
    ∃ g c, v = .slice (some ⟨g, 0, none⟩) vs.length c ∧ XV w t P s ⟨g, 0, none⟩ vs.length vs := by
  have b := right_bd hr
  obtain ⟨g, c, rfl⟩ := Joins.ownsRow_form h (by omega)
  refine ⟨g, c, rfl, hr, by omega, rfl, hn, hu, fun k hk => ?_⟩
  have e : (⟨g, 0, none⟩ : Addr).add k = ⟨g, k, none⟩ := by unfold Addr.add; split <;> simp_all
  rw [e]
  exact (h.cellAt k (by omega)).trans (by simp [uints, hk])
/-- the state of a heap that is kept. -/
theorem state_row {w : World} {t s : Int} {P n c : Nat} {ad : Addr} {vs : List Int} {l : List (Int × Int)} {f : Nat → Int} (h : XV w t P s ad n vs) (hs : (chkF vs t P s).2 = true) (hl : blocksF vs t P s = l) (hf : ∀ i : Nat, i < 8 → vs.getD (22 + i) 0 = f i) :
    Calls Tryz.prog 11 #[.agg #[.int .i64 t, .int .i64 P, .int .i64 s], .slice (some ad) n c] w fun e w' => ∃ v, e = .returned (.tuple #[stV v f, .bool true]) ∧ RowB w l v w' := by
  refine (rstate_any c w h hs).mono fun e w' ⟨v, he, hr⟩ => ⟨v, ?_, by rw [← hl]; exact hr⟩
  rw [he]
  have : Value.agg (stateC v vs 8) = stV v f := by
    rw [stV_state]
    unfold stV rootsV
    rw [hf 0 (by omega), hf 1 (by omega), hf 2 (by omega), hf 3 (by omega), hf 4 (by omega), hf 5 (by omega), hf 6 (by omega), hf 7 (by omega)]
  rw [this]
theorem eq8_same (f : Nat → Int) : eq8 f f = true := by simp [eq8]
/-- Vals of a view that was swept. -/
theorem swept_vals {t s : Int} {P K : Nat} {vs : List Int} {c : Int → Int} {st : VS} {w : World} {b : Nat} {S : Nat → Prop} (hv : PV w b S st) (h : SwV t s P vs K c st) (hn : (vs.length : Int) = 30 + 4 * t + 6 * P) (hc : (chkF vs t P s).2 = true) :
    ∃ vs' : List Int, vs'.length = vs.length ∧ (∀ v ∈ vs', VS.U32 v) ∧ (∀ i : Int, 0 ≤ i → i < 30 + 4 * t + 6 * P → cv vs' i = c i) ∧ Hp t P (cv vs') ∧ (chkF vs' t P s).2 = true ∧ blocksF vs' t P s = blocksF vs t P s ∧ (∀ i : Nat, i < 8 → vs'.getD (22 + i) 0 = vs.getD (22 + i) 0) ∧
      ∀ W, Below w.heap.size w W → Calls Tryz.prog 12 #[.pointer (some ⟨b, 0, none⟩)] W (ValsP W vs') := by
  have hr := right_bd h.cvw.right
  have hnn := h.cvw.num
  obtain ⟨vals, h1, h2, -⟩ := vals_any b w S st hv (by omega) (by omega)
  obtain ⟨vs', he, k1, k2, k3, k4, k5, k6, k7⟩ := h.vals hn (keepsPV.inv hv) hc h1 h2
  refine ⟨vs', k1, k2, k3, k4, k5, k6, k7, fun W hW => ?_⟩
  have hvW := keepsPV.keep (T := fun _ => False) hv (Fr.of_below hW) (fun _ _ x => x)
  obtain ⟨vals2, g1, g2, g3⟩ := vals_any b W S st hvW (by omega) (by omega)
  have : vals2 = vals := by
    apply List.ext_getElem?
    intro i
    by_cases hi : i < st.n
    · rw [← h2 i hi, ← g2 i hi]
    · rw [List.getElem?_eq_none (by omega), List.getElem?_eq_none (by omega)]
  rw [this, ← he] at g3
  exact g3
end Go.Proofs.YtpmoajhpgekhcaaGreat
/- a box of nine cells beside the others; two views of the program beside one another. -/
set_option linter.unusedSimpArgs false
set_option linter.unusedVariables false
namespace Go.Proofs.YtpmoajhpgekhcaaGreat
open Go.RowKit

theorem cells9 {w : World} {L : Nat} {x0 x1 x2 x3 x4 x5 x6 x7 x8 : Value} {T : TypeId} (h : w.heap[L]? = some (.cells #[x0, x1, x2, x3, x4, x5, x6, x7, x8] T)) : (w.cell? ⟨L, 0, none⟩ = some x0 ∧ w.cell? ⟨L, 1, none⟩ = some x1 ∧ w.cell? ⟨L, 2, none⟩ = some x2 ∧ w.cell? ⟨L, 3, none⟩ = some x3 ∧ w.cell? ⟨L, 4, none⟩ = some x4 ∧ w.cell? ⟨L, 5, none⟩ = some x5 ∧ w.cell? ⟨L, 6, none⟩ = some x6 ∧ w.cell? ⟨L, 7, none⟩ = some x7 ∧ w.cell? ⟨L, 8, none⟩ = some x8) ∧ (w.frozen? ⟨L, 0, none⟩ = false ∧ w.frozen? ⟨L, 1, none⟩ = false ∧ w.frozen? ⟨L, 2, none⟩ = false ∧ w.frozen? ⟨L, 3, none⟩ = false ∧ w.frozen? ⟨L, 4, none⟩ = false ∧ w.frozen? ⟨L, 5, none⟩ = false ∧ w.frozen? ⟨L, 6, none⟩ = false ∧ w.frozen? ⟨L, 7, none⟩ = false ∧ w.frozen? ⟨L, 8, none⟩ = false) :=
  ⟨⟨cell?_of_heap h, cell?_of_heap h, cell?_of_heap h, cell?_of_heap h, cell?_of_heap h, cell?_of_heap h, cell?_of_heap h, cell?_of_heap h, cell?_of_heap h⟩, frozen?_of_heap h, frozen?_of_heap h, frozen?_of_heap h, frozen?_of_heap h, frozen?_of_heap h, frozen?_of_heap h, frozen?_of_heap h, frozen?_of_heap h, frozen?_of_heap h⟩
section
variable {w0 w w' : World} {Ls : List Nat} {LA : Nat} {cs : Array Value} {T : TypeId}
theorem BA.set9 {y0 y1 y2 y3 y4 y5 y6 y7 y8 : Value} (h : BA w0 Ls LA #[y0, y1, y2, y3, y4, y5, y6, y7, y8] T w) (x0 x1 x2 x3 x4 x5 x6 x7 x8 : Value) : BA w0 Ls LA #[x0, x1, x2, x3, x4, x5, x6, x7, x8] T (((((((((w.setCell ⟨LA, 0, none⟩ x0).setCell ⟨LA, 1, none⟩ x1).setCell ⟨LA, 2, none⟩ x2).setCell ⟨LA, 3, none⟩ x3).setCell ⟨LA, 4, none⟩ x4).setCell ⟨LA, 5, none⟩ x5).setCell ⟨LA, 6, none⟩ x6).setCell ⟨LA, 7, none⟩ x7).setCell ⟨LA, 8, none⟩ x8) := by
  have a0 : BA w0 Ls LA #[x0, y1, y2, y3, y4, y5, y6, y7, y8] T _ := h.set 0 x0
  have a1 : BA w0 Ls LA #[x0, x1, y2, y3, y4, y5, y6, y7, y8] T _ := a0.set 1 x1
  have a2 : BA w0 Ls LA #[x0, x1, x2, y3, y4, y5, y6, y7, y8] T _ := a1.set 2 x2
  have a3 : BA w0 Ls LA #[x0, x1, x2, x3, y4, y5, y6, y7, y8] T _ := a2.set 3 x3
  have a4 : BA w0 Ls LA #[x0, x1, x2, x3, x4, y5, y6, y7, y8] T _ := a3.set 4 x4
  have a5 : BA w0 Ls LA #[x0, x1, x2, x3, x4, x5, y6, y7, y8] T _ := a4.set 5 x5
  have a6 : BA w0 Ls LA #[x0, x1, x2, x3, x4, x5, x6, y7, y8] T _ := a5.set 6 x6
  have a7 : BA w0 Ls LA #[x0, x1, x2, x3, x4, x5, x6, x7, y8] T _ := a6.set 7 x7
  have a8 : BA w0 Ls LA #[x0, x1, x2, x3, x4, x5, x6, x7, x8] T _ := a7.set 8 x8
  exact a8
theorem BA.below (h : BA w0 Ls LA cs T w) (hb : Below w.heap.size w w') : BA w0 Ls LA cs T w' :=
  ⟨h.bs.below hb, (hb.block LA (h.bs.ls LA (by simp)).1).trans h.box, h.ne⟩
theorem BA.row_ne (h : BA w0 Ls LA cs T w) {v : Value} (g : ∀ k, v.ownBlock = some k → w.heap.size ≤ k) : ∀ k, v.ownBlock = some k → k ≠ LA :=
  fun k hk e => by have := g k hk; have := (h.bs.ls LA (by simp)).1; omega
theorem row_new_ne {e size : Nat} {v : Value} {n : Nat} {zs : List Value} (h : w.ownsRow 0 e size v n zs) : ∀ k, v.ownBlock = some k → k ≠ w.heap.size :=
  fun k hk e => by have := ownsRow_lt h hk; omega
theorem row_new {e size : Nat} {v : Value} {n : Nat} {zs : List Value} (h : w.ownsRow 0 e size v n zs) (ob : Obj) : (w.alloc ob).ownsRow 0 e size v n zs :=
  ownsRow_block h fun k hk => heap_alloc_old _ _ (ownsRow_lt h hk)
theorem row_set {e size : Nat} {v : Value} {n : Nat} {zs : List Value} (h : w.ownsRow 0 e size v n zs) (ne : ∀ k, v.ownBlock = some k → k ≠ LA) (o : Nat) (x : Value) : (w.setCell ⟨LA, o, none⟩ x).ownsRow 0 e size v n zs :=
  ownsRow_block h fun k hk => heap_setCell_other (ne k hk)
theorem row_set9 {e size : Nat} {v : Value} {n : Nat} {zs : List Value} (h : w.ownsRow 0 e size v n zs) (ne : ∀ k, v.ownBlock = some k → k ≠ LA) (x0 x1 x2 x3 x4 x5 x6 x7 x8 : Value) : (((((((((w.setCell ⟨LA, 0, none⟩ x0).setCell ⟨LA, 1, none⟩ x1).setCell ⟨LA, 2, none⟩ x2).setCell ⟨LA, 3, none⟩ x3).setCell ⟨LA, 4, none⟩ x4).setCell ⟨LA, 5, none⟩ x5).setCell ⟨LA, 6, none⟩ x6).setCell ⟨LA, 7, none⟩ x7).setCell ⟨LA, 8, none⟩ x8).ownsRow 0 e size v n zs :=
  row_set (row_set (row_set (row_set (row_set (row_set (row_set (row_set (row_set h ne 0 x0) ne 1 x1) ne 2 x2) ne 3 x3) ne 4 x4) ne 5 x5) ne 6 x6) ne 7 x7) ne 8 x8
end

/-- since w0 nothing that was there has turned; the views at b1 and b2 are s1 and s2; the boxes Ls are none of theirs. -/
structure V3 (w0 : World) (b1 b2 : Nat) (Ls : List Nat) (s1 s2 : VS) (w : World) : Prop where
  ex : ∃ S1 S2, PV w b1 S1 s1 ∧ PV w b2 S2 s2 ∧ (∀ k, S1 k → w0.heap.size ≤ k) ∧ (∀ k, S2 k → w0.heap.size ≤ k) ∧ (∀ k, S1 k → ¬ S2 k) ∧ (∀ L ∈ Ls, ¬ S1 L ∧ ¬ S2 L)
  bel : Below w0.heap.size w0 w
  ls : ∀ L ∈ Ls, L < w.heap.size ∧ w0.heap.size ≤ L

section
variable {w0 w w' : World} {b1 b2 : Nat} {Ls : List Nat} {s1 s2 t1 t2 : VS} {P : Program} {f : FuncId} {args : Array Value} {val : Value}

theorem V3.below (h : V3 w0 b1 b2 Ls s1 s2 w) (hb : Below w.heap.size w w') : V3 w0 b1 b2 Ls s1 s2 w' := by
  obtain ⟨S1, S2, p1, p2, g1, g2, d, hl⟩ := h.ex
  exact ⟨⟨S1, S2, keepsPV.keep (T := fun _ => False) p1 (Fr.of_below hb) (fun _ _ x => x), keepsPV.keep (T := fun _ => False) p2 (Fr.of_below hb) (fun _ _ x => x), g1, g2, d, hl⟩, h.bel.trans (hb.mono h.bel.size), fun L hL => ⟨Nat.lt_of_lt_of_le (h.ls L hL).1 hb.size, (h.ls L hL).2⟩⟩
theorem V3.drew (h : V3 w0 b1 b2 Ls s1 s2 w) : V3 w0 b1 b2 Ls s1 s2 w.drew := h.below ((Below.refl _ _).drew)
theorem V3.swap (h : V3 w0 b1 b2 Ls s1 s2 w) : V3 w0 b2 b1 Ls s2 s1 w := by
  obtain ⟨S1, S2, p1, p2, g1, g2, d, hl⟩ := h.ex
  exact ⟨⟨S2, S1, p2, p1, g2, g1, fun k h2 h1 => d k h1 h2, fun L hL => ⟨(hl L hL).2, (hl L hL).1⟩⟩, h.bel, h.ls⟩
/-- a call of one of the two. -/
theorem V3.pv (h : V3 w0 b1 b2 Ls s1 s2 w) (hc : ∀ S1, PV w b1 S1 s1 → Calls P f args w fun e w' => e = .returned val ∧ (PV w' b1 (upd S1 w w') t1 ∧ Fr S1 w w')) :
    Calls P f args w fun e w' => e = .returned val ∧ V3 w0 b1 b2 Ls t1 s2 w' ∧ ∀ L ∈ Ls, w'.heap[L]? = w.heap[L]? := by
  obtain ⟨S1, S2, p1, p2, g1, g2, d, hl⟩ := h.ex
  have hz := h.bel.size
  refine (hc S1 p1).mono fun e w' ⟨he, q, F⟩ => ⟨he, ⟨⟨upd S1 w w', S2, q, keepsPV.keep p2 F (fun k hk x => d k x hk), ?_, g2, ?_, ?_⟩, h.bel.trans (F.below h.bel.size g1), fun L hL => ⟨Nat.lt_of_lt_of_le (h.ls L hL).1 F.size, (h.ls L hL).2⟩⟩, fun L hL => F.block L (h.ls L hL).1 (hl L hL).1⟩
  · intro k hk
    rcases hk with hk | hk
    · exact g1 k hk
    · omega
  · intro k hk x
    rcases hk with hk | hk
    · exact d k hk x
    · exact absurd (keepsPV.lt p2 k x) (by omega)
  · intro L hL
    refine ⟨fun x => ?_, (hl L hL).2⟩
    rcases x with x | x
    · exact (hl L hL).1 x
    · have := (h.ls L hL).1; omega
theorem V3.pv2 (h : V3 w0 b1 b2 Ls s1 s2 w) (hc : ∀ S2, PV w b2 S2 s2 → Calls P f args w fun e w' => e = .returned val ∧ (PV w' b2 (upd S2 w w') t2 ∧ Fr S2 w w')) :
    Calls P f args w fun e w' => e = .returned val ∧ V3 w0 b1 b2 Ls s1 t2 w' ∧ ∀ L ∈ Ls, w'.heap[L]? = w.heap[L]? :=
  (h.swap.pv hc).mono fun _ _ ⟨he, q, hl⟩ => ⟨he, q.swap, hl⟩
/-- both views made one after the other. -/
theorem two_pv {w w0 w2 w3 : World} {b1 b2 : Nat} {Ls : List Nat} {s1 s2 : VS} (hB : BS w Ls w0) (P1 : PV w2 b1 (fun k => w0.heap.size ≤ k ∧ k < w2.heap.size) s1) (B1 : Below w0.heap.size w0 w2) (P2 : PV w3 b2 (fun k => w2.heap.size ≤ k ∧ k < w3.heap.size) s2) (B2 : Below w2.heap.size w2 w3) : V3 w b1 b2 Ls s1 s2 w3 := by
  have z0 := hB.bel.size
  have z1 := B1.size
  have z2 := B2.size
  refine ⟨⟨_, _, keepsPV.keep (T := fun _ => False) P1 (Fr.of_below B2) (fun _ _ x => x), P2, fun k hk => by omega, fun k hk => by omega, fun k hk x => by omega, ?_⟩, hB.bel.trans ((B1.trans (B2.mono z1)).mono z0), ?_⟩
  · intro L hL
    have := (hB.ls L hL).1
    exact ⟨fun x => by omega, fun x => by omega⟩
  · intro L hL
    have := hB.ls L hL
    exact ⟨by omega, this.2⟩
end
end Go.Proofs.YtpmoajhpgekhcaaGreat
/- the document's pockets: All of empty ones. -/
set_option linter.unusedSimpArgs false
set_option linter.unusedVariables false
namespace Go.Proofs.YtpmoajhpgekhcaaGreat
open Go.RowKit

/-- pockets of T threads, all empty. -/
def PkB (w : World) (g T : Nat) : Prop := g < w.heap.size ∧ ∀ j, j < T * 9 → w.cell? ⟨g, j, none⟩ = some (.slice none 0 0)
theorem PkB.keep {w w' : World} {g T : Nat} (h : PkB w g T) (hb : Below w.heap.size w w') : PkB w' g T :=
  ⟨Nat.lt_of_lt_of_le h.1 hb.size, fun j hj => (hb.cell (p := ⟨g, j, none⟩) h.1).trans (h.2 j hj)⟩
section
variable {t p s : Int} {ad : Addr} {n c : Nat} {vs : List Int}
end

theorem infoPk : (Tryz.prog.info? 79).map (fun i => (i.zero, i.size, i.bytes)) = some (some (.agg #[.slice none 0 0, .slice none 0 0, .slice none 0 0, .slice none 0 0, .slice none 0 0, .slice none 0 0, .slice none 0 0, .slice none 0 0, .slice none 0 0]), 9, 216) := by kernel_rfl
theorem make_pk (T : Nat) (hT : T ≤ 16) (w : World) : (Instr.makeSlice 43 (.int .i64 (T : Int)) (.int .i64 (T : Int))).run Tryz.prog w = .ok (.slice (some ⟨w.heap.size, 0, none⟩) T T) (w.alloc (.cells (madeCells #[.slice none 0 0, .slice none 0 0, .slice none 0 0, .slice none 0 0, .slice none 0 0, .slice none 0 0, .slice none 0 0, .slice none 0 0, .slice none 0 0] (T * 9)) 79)) := by
  obtain ⟨i, hi, hzz⟩ := Option.map_eq_some_iff.1 infoPk
  simp only [Prod.mk.injEq] at hzz
  obtain ⟨hz, hs, hb⟩ := hzz
  have hr := run_make (P := Tryz.prog) w 43 79 i _ Tryz.underlying43 hi hz .i64 .i64 T T (by omega) (Int.le_refl _) (by rw [hb]; omega) (by omega)
  simp only [Int.toNat_natCast, hs] at hr
  exact hr
theorem made_pk (T : Nat) (w : World) : PkB (w.alloc (.cells (madeCells #[.slice none 0 0, .slice none 0 0, .slice none 0 0, .slice none 0 0, .slice none 0 0, .slice none 0 0, .slice none 0 0, .slice none 0 0, .slice none 0 0] (T * 9)) 79)) w.heap.size T := by
  refine ⟨by simp, fun j hj => ?_⟩
  rw [cell?_of_heap (heap_alloc_new w _)]
  unfold madeCells
  simp only [Array.getElem?_map, Array.getElem?_range, hj, if_true, Option.map_some]
  congr 1
  show (#[.slice none 0 0, .slice none 0 0, .slice none 0 0, .slice none 0 0, .slice none 0 0, .slice none 0 0, .slice none 0 0, .slice none 0 0, .slice none 0 0] : Array Value)[j % 9]! = .slice none 0 0
  have : j % 9 < 9 := Nat.mod_lt _ (by omega)
  generalize j % 9 = r at *
  rcases (by omega : r = 0 ∨ r = 1 ∨ r = 2 ∨ r = 3 ∨ r = 4 ∨ r = 5 ∨ r = 6 ∨ r = 7 ∨ r = 8) with rfl | rfl | rfl | rfl | rfl | rfl | rfl | rfl | rfl <;> rfl
end Go.Proofs.YtpmoajhpgekhcaaGreat
/- the document's Fits, of empty pockets. -/
set_option linter.unusedSimpArgs false
set_option linter.unusedVariables false
namespace Go.Proofs.YtpmoajhpgekhcaaGreat
open Go.RowKit

def pk0 : PkE := ⟨.slice none 0 0, .slice none 0 0, .slice none 0 0, .slice none 0 0, .slice none 0 0, .slice none 0 0, .slice none 0 0, .slice none 0 0, .slice none 0 0, [], [], [], [], [], [], [], [], []⟩
theorem pk0_rd (w : World) : RdI w (.slice none 0 0) [] := ⟨rfl, Or.inl ⟨rfl, rfl⟩⟩
theorem pk0_have (T k : Nat) (hk : k < 9) : haveF ((List.replicate T pk0).map PkE.ls) k = [] := by
  unfold haveF
  rw [List.flatMap_eq_nil_iff]
  intro x hx
  obtain ⟨e, he, rfl⟩ := List.mem_map.1 hx
  rw [(List.mem_replicate.1 he).2]
  rcases nine hk with rfl | rfl | rfl | rfl | rfl | rfl | rfl | rfl | rfl <;> rfl
theorem pk0_lens (T k : Nat) : lensB ((List.replicate T pk0).map PkE.ls) k = true := by
  unfold lensB
  rw [List.all_eq_true]
  intro x hx
  obtain ⟨e, he, rfl⟩ := List.mem_map.1 hx
  rw [(List.mem_replicate.1 he).2]
  by_cases hk : k < 9
  · rcases nine hk with rfl | rfl | rfl | rfl | rfl | rfl | rfl | rfl | rfl <;> rfl
  · have : (pk0.ls)[k]? = none := List.getElem?_eq_none (by simp [PkE.ls]; omega)
    rw [List.getD, this]; rfl
theorem pk0_flat (T : Nat) : ∀ (j : Nat) (u : Value), ((List.replicate T pk0).flatMap PkE.vs)[j]? = some u → u = Value.slice none 0 0 := by
  intro j u hu
  obtain ⟨e, he, hm⟩ := List.mem_flatMap.1 (List.mem_of_getElem? hu)
  rw [(List.mem_replicate.1 he).2] at hm
  simpa [pk0, PkE.vs] using hm
theorem pk0_ok {w : World} {g T : Nat} (h : PkB w g T) : PkR w (.slice (some ⟨g, 0, none⟩) T T) (List.replicate T pk0) := by
  have hl : ((List.replicate T pk0).flatMap PkE.vs).length = T * 9 := by
    rw [flat_len PkE.vs 9 (fun _ => rfl), List.length_replicate]
  refine ⟨⟨by rw [hl, List.length_replicate], Or.inr ⟨⟨g, 0, none⟩, T, by rw [List.length_replicate], fun j u hj => ?_⟩⟩, fun e he => ?_⟩
  · have hj2 := (List.getElem?_eq_some_iff.1 hj).1
    rw [pk0_flat T j u hj]
    have e : (⟨g, 0, none⟩ : Addr).add j = ⟨g, j, none⟩ := by unfold Addr.add; split <;> simp_all
    rw [e]
    exact h.2 j (by omega)
  · rw [(List.mem_replicate.1 he).2]
    exact ⟨pk0_rd w, pk0_rd w, pk0_rd w, pk0_rd w, pk0_rd w, pk0_rd w, pk0_rd w, pk0_rd w, pk0_rd w⟩
theorem rfits_none {w : World} {P n c : Nat} {s : Int} {ad : Addr} {vs : List Int} (T g : Nat) (h : XV w T P s ad n vs) (hs : (chkF vs T P s).2 = true) (hT : T ≤ 16) (hk : PkB w g T) (hcl : ∀ x : Nat, x < P → iK (gv vs T x 0) = 3 → gv vs T x 4 = gv vs T x 5) :
    Calls Tryz.prog 14 #[.agg #[.int .i64 T, .int .i64 P, .int .i64 s], .slice (some ad) n c, .slice (some ⟨g, 0, none⟩) T T] w fun e w' => e = .returned (.bool true) ∧ Below w.heap.size w w' := by
  have hl : (List.replicate T pk0).length = T := List.length_replicate
  have key := rfitsp_yes (s := s) (P := P) (ad := ad) (n := n) (vs := vs) (.slice (some ⟨g, 0, none⟩) T T) (List.replicate T pk0) c w (by rw [hl]; exact h) (by rw [hl]; exact hs) (pk0_ok hk) (fun e he => by rw [(List.mem_replicate.1 he).2]; rfl) (by omega)
  rw [hl] at key
  rwa [fits_none _ (idle_none hcl) (fun k hk => pk0_have T k hk) (fun k => pk0_lens T k)] at key
end Go.Proofs.YtpmoajhpgekhcaaGreat
/- a drawn region whose orders all end alike: what comes behind is walked once; what holds behind every operation, said anew midway. -/
set_option linter.unusedSimpArgs false
set_option linter.unusedVariables false
namespace Go.Proofs.YtpmoajhpgekhcaaGreat

section
variable {P : Program} {ops : Array Oper} {Q : Exit → Act → World → Prop} {md : Region.Mode}

/-- the region's orders end in one form of five unknowns, and what is known of them. -/
theorem region_via {A1 A2 A3 A4 A5 : Type} {F : A1 → A2 → A3 → A4 → A5 → Act} {id : Nat} {b : Bool} {a : Act} {w : World} (Φ : A1 → A2 → A3 → A4 → A5 → World → Prop)
    (h1 : (Code.region id ops b).wp P (fun e a' w' => e = .normal ∧ ∃ x1 x2 x3 x4 x5, a' = F x1 x2 x3 x4 x5 ∧ Φ x1 x2 x3 x4 x5 w') a w)
    (h2 : ∀ x1 x2 x3 x4 x5 w', Φ x1 x2 x3 x4 x5 w' → Q .normal (F x1 x2 x3 x4 x5) w') : (Code.region id ops b).wp P Q a w :=
  Code.wp_mono (by
    rintro e a' w' ⟨rfl, x1, x2, x3, x4, x5, rfl, h⟩
    exact h2 _ _ _ _ _ _ h) h1
/-- more holds from here on. -/
theorem wpAnyH_more {S T : World → Prop} (hS : ∀ w, T w → S w) : ∀ (fuel : Nat) (listed : Array Bool) (a : Act) (w : World), wpAnyH P md ops Q T fuel listed a w → wpAnyH P md ops Q S fuel listed a w
  | 0, _, _, _, h => h
  | fuel + 1, _, _, _, h => ⟨h.1, fun i hi => wpOp_mono (fun a' w' h' => ⟨hS _ h'.1, wpAnyH_more hS fuel _ a' w' h'.2⟩) (h.2 i hi)⟩
end
end Go.Proofs.YtpmoajhpgekhcaaGreat
/- SweepAny: the law's walk. -/
set_option linter.unusedSimpArgs false
set_option linter.unusedVariables false
namespace Go.Proofs.YtpmoajhpgekhcaaGreat
open Go.RowKit

structure SaRel (w : World) (T : Nat) (s : Int) (P : Nat) (vals : List Int) (b1 b2 n : Nat) (v9 : Value) (wr : World) (k : Nat) (c : Int → Int) (st : VS) : Prop where
  le : k ≤ n
  p : v9 = .int .i64 k
  v : V3 w b1 b2 [w.heap.size] st (wholeVS vals) wr
  sw : SwV T s P vals 0 c st
  c : ∀ o : Nat, wr.cell? ⟨w.heap.size, o, none⟩ = (#[.int .i64 T, .int .i64 P, .int .i64 s] : Array Value)[o]?
def SaRelE (w : World) (T : Nat) (s : Int) (P : Nat) (vals : List Int) (b1 b2 n : Nat) (v9 : Value) (wr : World) : Prop := ∃ k c st, SaRel w T s P vals b1 b2 n v9 wr k c st

theorem cell_keep {w w' : World} {a : Addr} {u : Value} (hb : Below w.heap.size w w') (h : w.cell? a = some u) : w'.cell? a = some u :=
  (hb.cell (World.block_lt_of_cell? w _ h)).trans h
theorem made_at {wz W : World} (_h : BS wz [] W) (T : Nat) : PkB (W.alloc (.cells (madeCells #[.slice none 0 0, .slice none 0 0, .slice none 0 0, .slice none 0 0, .slice none 0 0, .slice none 0 0, .slice none 0 0, .slice none 0 0, .slice none 0 0] (T * 9)) 79)) W.heap.size T ∧ Below W.heap.size W (W.alloc (.cells (madeCells #[.slice none 0 0, .slice none 0 0, .slice none 0 0, .slice none 0 0, .slice none 0 0, .slice none 0 0, .slice none 0 0, .slice none 0 0, .slice none 0 0] (T * 9)) 79)) :=
  ⟨made_pk T W, (Below.refl _ _).alloc (Nat.le_refl _) _⟩
theorem XV.first {w : World} {t s : Int} {P g n : Nat} {vs : List Int} (h : XV w t P s ⟨g, 0, none⟩ n vs) : w.cell? ⟨g, 0, none⟩ = some (.int .u32 (vs.getD 0 0)) := by
  have hb := h.bd
  have := h.cells 0 (by omega)
  rwa [show (⟨g, 0, none⟩ : Addr).add 0 = ⟨g, 0, none⟩ by unfold Addr.add; split <;> simp_all] at this

set_option maxHeartbeats 8000000 in
set_option maxRecDepth 100000 in
theorem sany_main (T : Nat) (s : Int) (P : Nat) (ad : Addr) (cp : Nat) (vals : List Int) (oa : Option Addr) (oc : Nat) (ord : List Int) (w : World) (hR : Rd w (.slice (some ad) vals.length cp) 1 vals.length (uints vals)) (hu : ∀ u ∈ vals, VS.U32 u) (hO : RdI w (.slice oa ord.length oc) ord) (ho : ord.length ≤ 100) (hp : (P : Int) ≤ 64) (hx : XV w T P s ad vals.length vals) (hs : (chkF vals T P s).2 = true) :
    Calls Tryz.prog 3 #[.agg #[.int .i64 T, .int .i64 P, .int .i64 s], .slice (some ad) vals.length cp, .slice oa ord.length oc] w fun e W' => e = .returned (.bool true) ∧ Below w.heap.size w W' := by
  have hd : decide ((P : Int) ≤ 64) = true := by simpa using hp
  have HF := Lib.hid (fun w => few12_any T P s w)
  rw [hd] at HF
  have HS := Lib.hid (fun (W : World) (hb : Below w.heap.size w W) => rsound_any cp W (hx.keep hb))
  rw [hs] at HS
  have HL := Lib.hid swlive_any
  have hb := hx.bd
  have hn : (vals.length : Int) = 30 + 4 * T + 6 * P := by have := hx.num; omega
  obtain ⟨l, hl⟩ : ∃ l, blocksF vals T P s = l := ⟨_, rfl⟩
  have hll : l.length ≤ 33792 := by rw [← hl]; exact blocksF_len vals T P s (by omega)
  obtain ⟨f, hf⟩ : ∃ f : Nat → Int, f = fun i => vals.getD (22 + i) 0 := ⟨_, rfl⟩
  have HST := Lib.hid (fun (vs : List Int) (h : (chkF vs T P s).2 = true ∧ blocksF vs T P s = blocksF vals T P s ∧ (∀ i : Nat, i < 8 → vs.getD (22 + i) 0 = vals.getD (22 + i) 0)) (W : World) (g cc : Nat) (hx : XV W T P s ⟨g, 0, none⟩ vs.length vs) => state_row (c := cc) hx h.1 (h.2.1.trans hl) (f := f) (fun i hi => by rw [h.2.2 i hi, hf]))
  have HR := Lib.hid hR
  have HO := Lib.hid hO
  have HU := Lib.hid hu
  have c0 := loc_alloc w #[.int .i64 T, .int .i64 P, .int .i64 s] 23
  have S0 := ((BS.start w).alloc (.cells #[.int .i64 T, .int .i64 P, .int .i64 s] 23))
  have HX := Lib.hid hx
  have HC := Lib.hid hs
  have HP := Lib.hid hp
  have HB := Lib.hid hb
  have HN := Lib.hid hn
  have HLn := Lib.hid hll
  have hoi : (ord.length : Int) ≤ 100 := by omega
  clear hd hp hx hs hR hu hb hn hl hf hll hO
  go_enter Tryz.func3, Tryz.ntmps3
  go_wp2_with fail
  refine (calls_b S0 (HF.out _)).mono ?_
  rintro e w1 ⟨rfl, S1, S1l⟩
  have c1 := loc_step S1l (by simp) c0
  clear S1l
  go_wp2_with fail
  refine (calls_b S1 (HS.out _ S1.bel)).mono ?_
  rintro e w2 ⟨rfl, S2, S2l⟩
  have c2 := loc_step S2l (by simp) c1
  clear S2l
  clear S0 S1 c0 c1
  go_wp2_with fail
  refine (whole_any _ vals _ (HR.out.keepB S2.bel) (by have := HB.out; omega) HU.out).mono ?_
  rintro e w3 ⟨b1, rfl, P3, B3⟩
  have T3 := S2.bel.trans (B3.mono S2.bel.size)
  go_wp2_with fail
  refine (whole_any _ vals _ (HR.out.keepB T3) (by have := HB.out; omega) HU.out).mono ?_
  rintro e w4 ⟨b2, rfl, P4, B4⟩
  have hV4 := two_pv S2 P3 B3 P4 B4
  have c4 := ((BS.start _).below (B3.trans (B4.mono B3.size))).oldbox c2 (S2.ls w.heap.size (by simp)).1
  have hSw := SwV.start HX.out.right HN.out HU.out HC.out
  clear P3 P4 B3 B4 T3 S2 c2
  go_wp2_with fail
  go_loopw [9] (fun v9 wr => SaRelE w T s P vals b1 b2 ord.length v9 wr) (fun v9 _ => ord.length - (intOf v9).toNat)
  case atStart => exact ⟨0, cv vals, wholeVS vals, Nat.zero_le _, rfl, hV4, hSw, c4⟩
  case round =>
    obtain ⟨k, c, st, hk, rfl, hV, hw, c1⟩ := hrel
    clear hV4 c4
    have hp64 := HP.out
    have HSw := Lib.hid hSw
    clear hSw
    by_cases hlt : k < ord.length
    · have hkl : (k : Int) < ord.length := by omega
      obtain ⟨-, ⟨h0, h1⟩ | ⟨ad2, c2, hv, hc⟩⟩ := HO.out
      · omega
      simp only [Value.slice.injEq, true_and] at hv
      obtain ⟨rfl, rfl⟩ := hv
      have e0 := hc k _ (longs_get hlt)
      have e1 := cell_keep hV.bel e0
      obtain ⟨q, hq⟩ : ∃ q, ord.getD k 0 = q := ⟨_, rfl⟩
      rw [hq] at e0 e1
      have E0 := Lib.hid e0
      have hPg := fun (w : World) (S1 : Nat → Prop) (h1 : PV w b1 S1 st) => spage_any b1 T P s q w S1 st h1 (by omega)
      obtain ⟨c', hw', -⟩ := hw.step (by omega) q
      obtain ⟨rb, y, hy⟩ : ∃ rb y, sweepF T P s q st = (rb, y) := ⟨_, _, rfl⟩
      rw [hy] at hPg hw'
      dsimp only at hPg hw'
      have HQ := Lib.hid hPg
      have HW' := Lib.hid hw'
      have hVd := hV.drew
      clear hPg hw' hy hw hq e0 hc
      go_wp2_with fail
      refine wp_region_noPanic ?_
      refine wp_region_held_drew (S := fun w' => (∀ o : Nat, w'.cell? ⟨w.heap.size, o, none⟩ = (#[.int .i64 T, .int .i64 P, .int .i64 s] : Array Value)[o]?) ∧ w'.cell? (ad2.add k) = some (.int .i64 q)) (by kernel_rfl) ?_ (fun hHeld => ?_)
      · exact ⟨c1, e1⟩
      refine wT 0 ?_
      refine wT 1 ?_
      refine wT 2 ?_
      refine wT 3 ?_
      refine wT 4 ?_
      refine wT 5 ?_
      refine wR 6 fun K hK => ?_
      go_simp
      refine (hVd.pv (HQ.out _)).mono ?_
      rintro e w5 ⟨rfl, hY, hYl⟩
      have c5 := loc_step hYl (by simp) hHeld.1
      clear hYl
      try dsimp only
      refine hK.out _ _ ?_ (fun hHeld => ?_)
      · exact ⟨c5, cell_keep hY.bel E0.out⟩
      clear hK K
      try simp only [Act.put, zA, zB, zC, zD, zE, zF]
      refine wpAnyH_done (by kernel_rfl) (NoPanic.normal ?_) _
      clear hHeld hVd hV c1 e1
      go_wp2_with fail
      go_roundw
      case rel => exact ⟨k + 1, c', y, by omega, by go_num, hY, HW'.out, c5⟩
      case measure => simp [intOf]; omega
    · have hke : k = ord.length := by omega
      have hkl : ¬ (k : Int) < ord.length := by omega
      subst hke
      obtain ⟨hB1, hB2, hB3, hB4, -, -, -⟩ := HB.out
      obtain ⟨d1, hA1⟩ := hw.all (by omega) P (Nat.le_refl _)
      obtain ⟨d2, hA2⟩ := HSw.out.all (by omega) P (Nat.le_refl _)
      have hs1 := fun (W : World) (S : Nat → Prop) (h : PV W b1 S st) => sall_any b1 T P s W S _ h (by omega) (by omega)
      have hs2 := fun (W : World) (S : Nat → Prop) (h : PV W b2 S (wholeVS vals)) => sall_any b2 T P s W S _ h (by omega) (by omega)
      simp only [Int.toNat_natCast] at hs1 hs2
      obtain ⟨m1, y1, hy1⟩ : ∃ rb y, sweepN T P s P st = (rb, y) := ⟨_, _, rfl⟩
      obtain ⟨m2, y2, hy2⟩ : ∃ rb y, sweepN T P s P (wholeVS vals) = (rb, y) := ⟨_, _, rfl⟩
      rw [hy1] at hs1 hA1
      rw [hy2] at hs2 hA2
      dsimp only at hs1 hs2 hA1 hA2
      have HPA := Lib.hid hs1
      have HPB := Lib.hid hs2
      have HA1 := Lib.hid hA1
      have HA2 := Lib.hid hA2
      clear hs1 hs2 hA1 hA2 hy1 hy2 hw hk hlt
      go_wp2_with fail
      refine (V3.pv hV (HPA.out _)).mono ?_
      rintro e w5 ⟨rfl, hV5, hV5l⟩
      have c5 := loc_step hV5l (by simp) c1
      clear hV5l
      go_wp2_with fail
      refine (V3.pv2 hV5 (HPB.out _)).mono ?_
      rintro e w6 ⟨rfl, hV6, hV6l⟩
      have c6 := loc_step hV6l (by simp) c5
      clear hV6l
      obtain ⟨S1x, S2x, p1, p2, -, -, -, -⟩ := hV6.ex
      obtain ⟨vs1, n1, u1, cv1, -, ck1, bl1, rt1, hva1⟩ := swept_vals p1 HA1.out HN.out HC.out
      obtain ⟨vs2, n2, u2, cv2, -, ck2, bl2, rt2, hva2⟩ := swept_vals p2 HA2.out HN.out HC.out
      have hcl : ∀ x : Int, 0 ≤ x → x < P → iK (cv vs1 (pl T x 0)) = 3 → cv vs1 (pl T x 4) = cv vs1 (pl T x 5) := by
        intro x x0 x1 h
        rw [cv1 _ (by unfold pl; omega) (by unfold pl; omega)] at h
        rw [cv1 _ (by unfold pl; omega) (by unfold pl; omega), cv1 _ (by unfold pl; omega) (by unfold pl; omega)]
        exact HA1.out.cl x x0 x1 x1 h
      obtain ⟨x0, hx1⟩ : ∃ x0, vs1.getD 0 0 = x0 := ⟨_, rfl⟩
      have hx2 : vs2.getD 0 0 = x0 := by
        have e1 : cv vs1 0 = d1 0 := cv1 0 (by omega) (by omega)
        have e2 : cv vs2 0 = d2 0 := cv2 0 (by omega) (by omega)
        rw [HA1.out.free_all] at e1
        rw [HA2.out.free_all] at e2
        rw [← hx1]
        exact e2.trans e1.symm
      have HVa1 := Lib.hid hva1
      have HVa2 := Lib.hid hva2
      have HSt1 := Lib.hid (HST.out vs1 ⟨ck1, bl1, rt1⟩)
      have HSt2 := Lib.hid (HST.out vs2 ⟨ck2, bl2, rt2⟩)
      have HRow1 := Lib.hid (fun (W : World) (v : Value) (h : W.ownsRow 0 41 1 v vs1.length (uints vs1)) => row_xv HX.out.right (by omega) (by rw [n1]; exact HN.out) u1 h)
      have HRow2 := Lib.hid (fun (W : World) (v : Value) (h : W.ownsRow 0 41 1 v vs2.length (uints vs2)) => row_xv HX.out.right (by omega) (by rw [n2]; exact HN.out) u2 h)
      have HFi := Lib.hid (fun (W : World) (g g2 cc : Nat) (h : XV W T P s ⟨g, 0, none⟩ vs1.length vs1) (hk : PkB W g2 T) => rfits_none (c := cc) T g2 h ck1 (by omega) hk (fun x hx => hcl x (by omega) (by omega)))
      have HF1 := Lib.hid (fun (W : World) (g : Nat) (h : XV W T P s ⟨g, 0, none⟩ vs1.length vs1) => h.first.trans (by rw [hx1]))
      have HF2 := Lib.hid (fun (W : World) (g : Nat) (h : XV W T P s ⟨g, 0, none⟩ vs2.length vs2) => h.first.trans (by rw [hx2]))
      have hz := (hV6.ls w.heap.size (by simp)).1
      have HB6 := Lib.hid hV6.bel
      have hl1 : 0 < vs1.length := by have := HN.out; omega
      have hl2 : 0 < vs2.length := by have := HN.out; omega
      have hmk := make_pk T (by omega)
      clear hva1 hva2 hcl p1 p2 n1 n2 u1 u2 cv1 cv2 ck1 ck2 bl1 bl2 rt1 rt2 hx1 hx2 hV6 hV5 hV c1 c5 hB1 hB2 hB3 hB4 HA1 HA2
      go_wp2_with fail
      apply region_via (fun (LA : Nat) (pa : Option Addr) (pc g1 cc : Nat) (W : World) => BA w6 [] LA #[.slice pa l.length pc, .int .i64 (f 0), .int .i64 (f 1), .int .i64 (f 2), .int .i64 (f 3), .int .i64 (f 4), .int .i64 (f 5), .int .i64 (f 6), .int .i64 (f 7)] 36 W ∧ W.ownsRow 0 74 2 (.slice pa l.length pc) l.length (blockCells l))
      · skip
        refine wp_region_noPanic ?_
        refine wp_region_held_drew (S := fun w' => ((∀ o : Nat, w'.cell? ⟨w.heap.size, o, none⟩ = (#[.int .i64 T, .int .i64 P, .int .i64 s] : Array Value)[o]?) ∧ BS w6 [] w')) (by kernel_rfl) ?_ (fun hHeld => ?_)
        · exact ⟨c6, (BS.start w6).drew⟩
        refine wT 0 ?_
        refine wT 1 ?_
        refine wpAnyH_ready (rs := [2, 7]) (by kernel_rfl) (by simp) ?_
        refine AllReadyH.cons (o := _) rfl (fun K hK => ?_) (AllReadyH.cons (o := _) rfl (fun K hK => ?_) AllReadyH.nil)
        · go_simp
          refine (HVa1.out _ hHeld.2.bel).mono ?_
          rintro e wv ⟨vv, rfl, ov, gv, Bv⟩
          obtain ⟨g1, cc, rfl, xv⟩ := HRow1.out _ _ ov
          have hN := hHeld.2.below Bv
          try have hA := hA.below Bv
          clear ov gv Bv
          try dsimp only
          refine hK.out _ _ ?_ (fun hHeld => ?_)
          · exact ⟨hN.oldbox c6 hz, hN⟩
          clear hK K
          try simp only [Act.put, zA, zB, zC, zD, zE, zF]
          refine wpAnyH_ready (rs := [3, 7]) (by kernel_rfl) (by simp) ?_
          refine AllReadyH.cons (o := _) rfl (fun K hK => ?_) (AllReadyH.cons (o := _) rfl (fun K hK => ?_) AllReadyH.nil)
          · go_simp
            refine (HSt1.out _ _ _ xv).mono ?_
            rintro e ws ⟨vs0, rfl, ow, gw, Bs⟩
            obtain ⟨pa, pc, rfl⟩ := row_shape ow
            try dsimp only [stV]
            have hN := hHeld.2.below Bs
            try have ne := hA.row_ne gw
            try have hA := hA.below Bs
            clear xv gw Bs
            try dsimp only
            refine hK.out _ _ ?_ (fun hHeld => ?_)
            · exact ⟨hN.oldbox c6 hz, hN⟩
            clear hK K
            try simp only [Act.put, zA, zB, zC, zD, zE, zF]
            refine wT 4 ?_
            refine wT 5 ?_
            refine wT 6 ?_
            refine wR 7 fun K hK => ?_
            have hP := hHeld
            have hA := hHeld.2.allocd #[.slice none 0 0, .int .i64 0, .int .i64 0, .int .i64 0, .int .i64 0, .int .i64 0, .int .i64 0, .int .i64 0, .int .i64 0] 36
            try simp only [World.size_drew] at hA
            try simp only [World.size_alloc] at hA
            try have xv := xv.keep ((Below.refl _ _).alloc (Nat.le_refl _) (.cells #[.slice none 0 0, .int .i64 0, .int .i64 0, .int .i64 0, .int .i64 0, .int .i64 0, .int .i64 0, .int .i64 0, .int .i64 0] 36))
            try have ne := row_new_ne ow
            try have owP := ow
            try have ow := row_new ow (.cells #[.slice none 0 0, .int .i64 0, .int .i64 0, .int .i64 0, .int .i64 0, .int .i64 0, .int .i64 0, .int .i64 0, .int .i64 0] 36)
            go_simp
            refine hK.out _ _ ?_ (fun hHeld => ?_)
            · exact ⟨hA.bs.oldbox c6 hz, hA.bs.sub _ (by simp)⟩
            clear hK K
            try simp only [Act.put, zA, zB, zC, zD, zE, zF]
            refine wR 8 fun K hK => ?_
            obtain ⟨⟨k0, k1, k2, k3, k4, k5, k6, k7, k8⟩, q0, q1, q2, q3, q4, q5, q6, q7, q8⟩ := cells9 hA.box
            have hA2 : BA w6 [] _ #[.slice pa l.length pc, .int .i64 (f 0), .int .i64 (f 1), .int .i64 (f 2), .int .i64 (f 3), .int .i64 (f 4), .int .i64 (f 5), .int .i64 (f 6), .int .i64 (f 7)] 36 _ := hA.set9 (.slice pa l.length pc) (.int .i64 (f 0)) (.int .i64 (f 1)) (.int .i64 (f 2)) (.int .i64 (f 3)) (.int .i64 (f 4)) (.int .i64 (f 5)) (.int .i64 (f 6)) (.int .i64 (f 7))
            have ow2 := row_set9 ow ne (.slice pa l.length pc) (.int .i64 (f 0)) (.int .i64 (f 1)) (.int .i64 (f 2)) (.int .i64 (f 3)) (.int .i64 (f 4)) (.int .i64 (f 5)) (.int .i64 (f 6)) (.int .i64 (f 7))
            try have hA3 : BA w6 [] _ #[.slice pa l.length pc, .int .i64 (f 0), .int .i64 (f 1), .int .i64 (f 2), .int .i64 (f 3), .int .i64 (f 4), .int .i64 (f 5), .int .i64 (f 6), .int .i64 (f 7)] 36 _ := hP.2.allocd #[.slice pa l.length pc, .int .i64 (f 0), .int .i64 (f 1), .int .i64 (f 2), .int .i64 (f 3), .int .i64 (f 4), .int .i64 (f 5), .int .i64 (f 6), .int .i64 (f 7)] 36
            try have ow3 := row_new owP (.cells #[.slice pa l.length pc, .int .i64 (f 0), .int .i64 (f 1), .int .i64 (f 2), .int .i64 (f 3), .int .i64 (f 4), .int .i64 (f 5), .int .i64 (f 6), .int .i64 (f 7)] 36)
            go_simp
            refine hK.out _ _ ?_ (fun hHeld => ?_)
            · exact by first | with_reducible exact ⟨hA3.bs.oldbox c6 hz, hA3.bs.sub _ (by simp)⟩ | exact ⟨hA2.bs.oldbox c6 hz, hA2.bs.sub _ (by simp)⟩
            clear hK K
            try simp only [Act.put, zA, zB, zC, zD, zE, zF]
            refine wT 9 ?_
            refine wpAnyH_done (by kernel_rfl) (NoPanic.normal ?_) _
            refine ⟨rfl, ?_⟩
            try clear hP
            first
              | (obtain ⟨LA, hLA, hA3⟩ : ∃ LA, LA = _ ∧ BA w6 [] LA _ _ _ := ⟨_, rfl, hA3⟩; (try rw [← hLA] at ow3); (try rw [← hLA] at hA3); rw [← hLA]; with_reducible exact ⟨LA, pa, pc, g1, cc, rfl, hA3, ow3⟩)
              | (obtain ⟨LA, hLA, hA2⟩ : ∃ LA, LA = _ ∧ BA w6 [] LA _ _ _ := ⟨_, rfl, hA2⟩; (try rw [← hLA] at ow2); (try rw [← hLA] at hA2); rw [← hLA]; exact ⟨LA, pa, pc, g1, cc, rfl, hA2, ow2⟩)
          · have hP := hHeld
            have hA := hHeld.2.allocd #[.slice none 0 0, .int .i64 0, .int .i64 0, .int .i64 0, .int .i64 0, .int .i64 0, .int .i64 0, .int .i64 0, .int .i64 0] 36
            try simp only [World.size_drew] at hA
            try simp only [World.size_alloc] at hA
            try have xv := xv.keep ((Below.refl _ _).alloc (Nat.le_refl _) (.cells #[.slice none 0 0, .int .i64 0, .int .i64 0, .int .i64 0, .int .i64 0, .int .i64 0, .int .i64 0, .int .i64 0, .int .i64 0] 36))
            try have ne := row_new_ne ow
            try have owP := ow
            try have ow := row_new ow (.cells #[.slice none 0 0, .int .i64 0, .int .i64 0, .int .i64 0, .int .i64 0, .int .i64 0, .int .i64 0, .int .i64 0, .int .i64 0] 36)
            go_simp
            refine hK.out _ _ ?_ (fun hHeld => ?_)
            · exact ⟨hA.bs.oldbox c6 hz, hA.bs.sub _ (by simp)⟩
            clear hK K
            try simp only [Act.put, zA, zB, zC, zD, zE, zF]
            refine wR 3 fun K hK => ?_
            go_simp
            refine (HSt1.out _ _ _ xv).mono ?_
            rintro e ws ⟨vs0, rfl, ow, gw, Bs⟩
            obtain ⟨pa, pc, rfl⟩ := row_shape ow
            try dsimp only [stV]
            have hN := hHeld.2.below Bs
            try have ne := hA.row_ne gw
            try have hA := hA.below Bs
            clear xv gw Bs
            try dsimp only
            refine hK.out _ _ ?_ (fun hHeld => ?_)
            · exact ⟨hN.oldbox c6 hz, hN⟩
            clear hK K
            try simp only [Act.put, zA, zB, zC, zD, zE, zF]
            refine wT 4 ?_
            refine wT 5 ?_
            refine wT 6 ?_
            refine wR 8 fun K hK => ?_
            obtain ⟨⟨k0, k1, k2, k3, k4, k5, k6, k7, k8⟩, q0, q1, q2, q3, q4, q5, q6, q7, q8⟩ := cells9 hA.box
            have hA2 : BA w6 [] _ #[.slice pa l.length pc, .int .i64 (f 0), .int .i64 (f 1), .int .i64 (f 2), .int .i64 (f 3), .int .i64 (f 4), .int .i64 (f 5), .int .i64 (f 6), .int .i64 (f 7)] 36 _ := hA.set9 (.slice pa l.length pc) (.int .i64 (f 0)) (.int .i64 (f 1)) (.int .i64 (f 2)) (.int .i64 (f 3)) (.int .i64 (f 4)) (.int .i64 (f 5)) (.int .i64 (f 6)) (.int .i64 (f 7))
            have ow2 := row_set9 ow ne (.slice pa l.length pc) (.int .i64 (f 0)) (.int .i64 (f 1)) (.int .i64 (f 2)) (.int .i64 (f 3)) (.int .i64 (f 4)) (.int .i64 (f 5)) (.int .i64 (f 6)) (.int .i64 (f 7))
            try have hA3 : BA w6 [] _ #[.slice pa l.length pc, .int .i64 (f 0), .int .i64 (f 1), .int .i64 (f 2), .int .i64 (f 3), .int .i64 (f 4), .int .i64 (f 5), .int .i64 (f 6), .int .i64 (f 7)] 36 _ := hP.2.allocd #[.slice pa l.length pc, .int .i64 (f 0), .int .i64 (f 1), .int .i64 (f 2), .int .i64 (f 3), .int .i64 (f 4), .int .i64 (f 5), .int .i64 (f 6), .int .i64 (f 7)] 36
            try have ow3 := row_new owP (.cells #[.slice pa l.length pc, .int .i64 (f 0), .int .i64 (f 1), .int .i64 (f 2), .int .i64 (f 3), .int .i64 (f 4), .int .i64 (f 5), .int .i64 (f 6), .int .i64 (f 7)] 36)
            go_simp
            refine hK.out _ _ ?_ (fun hHeld => ?_)
            · exact by first | with_reducible exact ⟨hA3.bs.oldbox c6 hz, hA3.bs.sub _ (by simp)⟩ | exact ⟨hA2.bs.oldbox c6 hz, hA2.bs.sub _ (by simp)⟩
            clear hK K
            try simp only [Act.put, zA, zB, zC, zD, zE, zF]
            refine wT 9 ?_
            refine wpAnyH_done (by kernel_rfl) (NoPanic.normal ?_) _
            refine ⟨rfl, ?_⟩
            try clear hP
            first
              | (obtain ⟨LA, hLA, hA3⟩ : ∃ LA, LA = _ ∧ BA w6 [] LA _ _ _ := ⟨_, rfl, hA3⟩; (try rw [← hLA] at ow3); (try rw [← hLA] at hA3); rw [← hLA]; with_reducible exact ⟨LA, pa, pc, g1, cc, rfl, hA3, ow3⟩)
              | (obtain ⟨LA, hLA, hA2⟩ : ∃ LA, LA = _ ∧ BA w6 [] LA _ _ _ := ⟨_, rfl, hA2⟩; (try rw [← hLA] at ow2); (try rw [← hLA] at hA2); rw [← hLA]; exact ⟨LA, pa, pc, g1, cc, rfl, hA2, ow2⟩)
        · have hP := hHeld
          have hA := hHeld.2.allocd #[.slice none 0 0, .int .i64 0, .int .i64 0, .int .i64 0, .int .i64 0, .int .i64 0, .int .i64 0, .int .i64 0, .int .i64 0] 36
          try simp only [World.size_drew] at hA
          try simp only [World.size_alloc] at hA
          try have xv := xv.keep ((Below.refl _ _).alloc (Nat.le_refl _) (.cells #[.slice none 0 0, .int .i64 0, .int .i64 0, .int .i64 0, .int .i64 0, .int .i64 0, .int .i64 0, .int .i64 0, .int .i64 0] 36))
          try have ne := row_new_ne ow
          try have owP := ow
          try have ow := row_new ow (.cells #[.slice none 0 0, .int .i64 0, .int .i64 0, .int .i64 0, .int .i64 0, .int .i64 0, .int .i64 0, .int .i64 0, .int .i64 0] 36)
          go_simp
          refine hK.out _ _ ?_ (fun hHeld => ?_)
          · exact ⟨hA.bs.oldbox c6 hz, hA.bs.sub _ (by simp)⟩
          clear hK K
          try simp only [Act.put, zA, zB, zC, zD, zE, zF]
          refine wR 2 fun K hK => ?_
          go_simp
          refine (HVa1.out _ hHeld.2.bel).mono ?_
          rintro e wv ⟨vv, rfl, ov, gv, Bv⟩
          obtain ⟨g1, cc, rfl, xv⟩ := HRow1.out _ _ ov
          have hN := hHeld.2.below Bv
          try have hA := hA.below Bv
          clear ov gv Bv
          try dsimp only
          refine hK.out _ _ ?_ (fun hHeld => ?_)
          · exact ⟨hN.oldbox c6 hz, hN⟩
          clear hK K
          try simp only [Act.put, zA, zB, zC, zD, zE, zF]
          refine wR 3 fun K hK => ?_
          go_simp
          refine (HSt1.out _ _ _ xv).mono ?_
          rintro e ws ⟨vs0, rfl, ow, gw, Bs⟩
          obtain ⟨pa, pc, rfl⟩ := row_shape ow
          try dsimp only [stV]
          have hN := hHeld.2.below Bs
          try have ne := hA.row_ne gw
          try have hA := hA.below Bs
          clear xv gw Bs
          try dsimp only
          refine hK.out _ _ ?_ (fun hHeld => ?_)
          · exact ⟨hN.oldbox c6 hz, hN⟩
          clear hK K
          try simp only [Act.put, zA, zB, zC, zD, zE, zF]
          refine wT 4 ?_
          refine wT 5 ?_
          refine wT 6 ?_
          refine wR 8 fun K hK => ?_
          obtain ⟨⟨k0, k1, k2, k3, k4, k5, k6, k7, k8⟩, q0, q1, q2, q3, q4, q5, q6, q7, q8⟩ := cells9 hA.box
          have hA2 : BA w6 [] _ #[.slice pa l.length pc, .int .i64 (f 0), .int .i64 (f 1), .int .i64 (f 2), .int .i64 (f 3), .int .i64 (f 4), .int .i64 (f 5), .int .i64 (f 6), .int .i64 (f 7)] 36 _ := hA.set9 (.slice pa l.length pc) (.int .i64 (f 0)) (.int .i64 (f 1)) (.int .i64 (f 2)) (.int .i64 (f 3)) (.int .i64 (f 4)) (.int .i64 (f 5)) (.int .i64 (f 6)) (.int .i64 (f 7))
          have ow2 := row_set9 ow ne (.slice pa l.length pc) (.int .i64 (f 0)) (.int .i64 (f 1)) (.int .i64 (f 2)) (.int .i64 (f 3)) (.int .i64 (f 4)) (.int .i64 (f 5)) (.int .i64 (f 6)) (.int .i64 (f 7))
          try have hA3 : BA w6 [] _ #[.slice pa l.length pc, .int .i64 (f 0), .int .i64 (f 1), .int .i64 (f 2), .int .i64 (f 3), .int .i64 (f 4), .int .i64 (f 5), .int .i64 (f 6), .int .i64 (f 7)] 36 _ := hP.2.allocd #[.slice pa l.length pc, .int .i64 (f 0), .int .i64 (f 1), .int .i64 (f 2), .int .i64 (f 3), .int .i64 (f 4), .int .i64 (f 5), .int .i64 (f 6), .int .i64 (f 7)] 36
          try have ow3 := row_new owP (.cells #[.slice pa l.length pc, .int .i64 (f 0), .int .i64 (f 1), .int .i64 (f 2), .int .i64 (f 3), .int .i64 (f 4), .int .i64 (f 5), .int .i64 (f 6), .int .i64 (f 7)] 36)
          go_simp
          refine hK.out _ _ ?_ (fun hHeld => ?_)
          · exact by first | with_reducible exact ⟨hA3.bs.oldbox c6 hz, hA3.bs.sub _ (by simp)⟩ | exact ⟨hA2.bs.oldbox c6 hz, hA2.bs.sub _ (by simp)⟩
          clear hK K
          try simp only [Act.put, zA, zB, zC, zD, zE, zF]
          refine wT 9 ?_
          refine wpAnyH_done (by kernel_rfl) (NoPanic.normal ?_) _
          refine ⟨rfl, ?_⟩
          try clear hP
          first
            | (obtain ⟨LA, hLA, hA3⟩ : ∃ LA, LA = _ ∧ BA w6 [] LA _ _ _ := ⟨_, rfl, hA3⟩; (try rw [← hLA] at ow3); (try rw [← hLA] at hA3); rw [← hLA]; with_reducible exact ⟨LA, pa, pc, g1, cc, rfl, hA3, ow3⟩)
            | (obtain ⟨LA, hLA, hA2⟩ : ∃ LA, LA = _ ∧ BA w6 [] LA _ _ _ := ⟨_, rfl, hA2⟩; (try rw [← hLA] at ow2); (try rw [← hLA] at hA2); rw [← hLA]; exact ⟨LA, pa, pc, g1, cc, rfl, hA2, ow2⟩)
      intro LA pa pc g1 cc wy hA
      obtain ⟨hA, oA⟩ := hA
      try dsimp only
      have c7 := hA.bs.oldbox c6 hz
      have hz7 := Nat.lt_of_lt_of_le hz hA.bs.bel.size
      have HOA := Lib.hid oA
      have HDA := Lib.hid (fun o => cell?_of_heap (o := o) hA.box)
      have hzA := (hA.bs.ls LA (by simp)).1
      have HBA := Lib.hid hA.bs.bel
      clear hA oA c6 hz
      go_wp2_with fail
      have HVb2 := Lib.hid (fun (W : World) (hb : Below wy.heap.size wy W) => HVa2.out W (HBA.out.trans (hb.mono HBA.out.size)))
      apply region_via (fun (LA : Nat) (pa : Option Addr) (pc g1 cc : Nat) (W : World) => BA wy [] LA #[.slice pa l.length pc, .int .i64 (f 0), .int .i64 (f 1), .int .i64 (f 2), .int .i64 (f 3), .int .i64 (f 4), .int .i64 (f 5), .int .i64 (f 6), .int .i64 (f 7)] 36 W ∧ W.ownsRow 0 74 2 (.slice pa l.length pc) l.length (blockCells l))
      · skip
        refine wp_region_noPanic ?_
        refine wp_region_held_drew (S := fun w' => ((∀ o : Nat, w'.cell? ⟨w.heap.size, o, none⟩ = (#[.int .i64 T, .int .i64 P, .int .i64 s] : Array Value)[o]?) ∧ BS wy [] w')) (by kernel_rfl) ?_ (fun hHeld => ?_)
        · exact ⟨c7, (BS.start wy).drew⟩
        refine wT 0 ?_
        refine wT 1 ?_
        refine wpAnyH_ready (rs := [2, 7]) (by kernel_rfl) (by simp) ?_
        refine AllReadyH.cons (o := _) rfl (fun K hK => ?_) (AllReadyH.cons (o := _) rfl (fun K hK => ?_) AllReadyH.nil)
        · go_simp
          refine (HVb2.out _ hHeld.2.bel).mono ?_
          rintro e wv ⟨vv, rfl, ov, gv, Bv⟩
          obtain ⟨g1, cc, rfl, xv⟩ := HRow2.out _ _ ov
          have hN := hHeld.2.below Bv
          try have hA := hA.below Bv
          clear ov gv Bv
          try dsimp only
          refine hK.out _ _ ?_ (fun hHeld => ?_)
          · exact ⟨hN.oldbox c7 hz7, hN⟩
          clear hK K
          try simp only [Act.put, zA, zB, zC, zD, zE, zF]
          refine wpAnyH_ready (rs := [3, 7]) (by kernel_rfl) (by simp) ?_
          refine AllReadyH.cons (o := _) rfl (fun K hK => ?_) (AllReadyH.cons (o := _) rfl (fun K hK => ?_) AllReadyH.nil)
          · go_simp
            refine (HSt2.out _ _ _ xv).mono ?_
            rintro e ws ⟨vs0, rfl, ow, gw, Bs⟩
            obtain ⟨pa, pc, rfl⟩ := row_shape ow
            try dsimp only [stV]
            have hN := hHeld.2.below Bs
            try have ne := hA.row_ne gw
            try have hA := hA.below Bs
            clear xv gw Bs
            try dsimp only
            refine hK.out _ _ ?_ (fun hHeld => ?_)
            · exact ⟨hN.oldbox c7 hz7, hN⟩
            clear hK K
            try simp only [Act.put, zA, zB, zC, zD, zE, zF]
            refine wT 4 ?_
            refine wT 5 ?_
            refine wT 6 ?_
            refine wR 7 fun K hK => ?_
            have hP := hHeld
            have hA := hHeld.2.allocd #[.slice none 0 0, .int .i64 0, .int .i64 0, .int .i64 0, .int .i64 0, .int .i64 0, .int .i64 0, .int .i64 0, .int .i64 0] 36
            try simp only [World.size_drew] at hA
            try simp only [World.size_alloc] at hA
            try have xv := xv.keep ((Below.refl _ _).alloc (Nat.le_refl _) (.cells #[.slice none 0 0, .int .i64 0, .int .i64 0, .int .i64 0, .int .i64 0, .int .i64 0, .int .i64 0, .int .i64 0, .int .i64 0] 36))
            try have ne := row_new_ne ow
            try have owP := ow
            try have ow := row_new ow (.cells #[.slice none 0 0, .int .i64 0, .int .i64 0, .int .i64 0, .int .i64 0, .int .i64 0, .int .i64 0, .int .i64 0, .int .i64 0] 36)
            go_simp
            refine hK.out _ _ ?_ (fun hHeld => ?_)
            · exact ⟨hA.bs.oldbox c7 hz7, hA.bs.sub _ (by simp)⟩
            clear hK K
            try simp only [Act.put, zA, zB, zC, zD, zE, zF]
            refine wR 8 fun K hK => ?_
            obtain ⟨⟨k0, k1, k2, k3, k4, k5, k6, k7, k8⟩, q0, q1, q2, q3, q4, q5, q6, q7, q8⟩ := cells9 hA.box
            have hA2 : BA wy [] _ #[.slice pa l.length pc, .int .i64 (f 0), .int .i64 (f 1), .int .i64 (f 2), .int .i64 (f 3), .int .i64 (f 4), .int .i64 (f 5), .int .i64 (f 6), .int .i64 (f 7)] 36 _ := hA.set9 (.slice pa l.length pc) (.int .i64 (f 0)) (.int .i64 (f 1)) (.int .i64 (f 2)) (.int .i64 (f 3)) (.int .i64 (f 4)) (.int .i64 (f 5)) (.int .i64 (f 6)) (.int .i64 (f 7))
            have ow2 := row_set9 ow ne (.slice pa l.length pc) (.int .i64 (f 0)) (.int .i64 (f 1)) (.int .i64 (f 2)) (.int .i64 (f 3)) (.int .i64 (f 4)) (.int .i64 (f 5)) (.int .i64 (f 6)) (.int .i64 (f 7))
            try have hA3 : BA wy [] _ #[.slice pa l.length pc, .int .i64 (f 0), .int .i64 (f 1), .int .i64 (f 2), .int .i64 (f 3), .int .i64 (f 4), .int .i64 (f 5), .int .i64 (f 6), .int .i64 (f 7)] 36 _ := hP.2.allocd #[.slice pa l.length pc, .int .i64 (f 0), .int .i64 (f 1), .int .i64 (f 2), .int .i64 (f 3), .int .i64 (f 4), .int .i64 (f 5), .int .i64 (f 6), .int .i64 (f 7)] 36
            try have ow3 := row_new owP (.cells #[.slice pa l.length pc, .int .i64 (f 0), .int .i64 (f 1), .int .i64 (f 2), .int .i64 (f 3), .int .i64 (f 4), .int .i64 (f 5), .int .i64 (f 6), .int .i64 (f 7)] 36)
            go_simp
            refine hK.out _ _ ?_ (fun hHeld => ?_)
            · exact by first | with_reducible exact ⟨hA3.bs.oldbox c7 hz7, hA3.bs.sub _ (by simp)⟩ | exact ⟨hA2.bs.oldbox c7 hz7, hA2.bs.sub _ (by simp)⟩
            clear hK K
            try simp only [Act.put, zA, zB, zC, zD, zE, zF]
            refine wT 9 ?_
            refine wpAnyH_done (by kernel_rfl) (NoPanic.normal ?_) _
            refine ⟨rfl, ?_⟩
            try clear hP
            first
              | (obtain ⟨LA, hLA, hA3⟩ : ∃ LA, LA = _ ∧ BA wy [] LA _ _ _ := ⟨_, rfl, hA3⟩; (try rw [← hLA] at ow3); (try rw [← hLA] at hA3); rw [← hLA]; with_reducible exact ⟨LA, pa, pc, g1, cc, rfl, hA3, ow3⟩)
              | (obtain ⟨LA, hLA, hA2⟩ : ∃ LA, LA = _ ∧ BA wy [] LA _ _ _ := ⟨_, rfl, hA2⟩; (try rw [← hLA] at ow2); (try rw [← hLA] at hA2); rw [← hLA]; exact ⟨LA, pa, pc, g1, cc, rfl, hA2, ow2⟩)
          · have hP := hHeld
            have hA := hHeld.2.allocd #[.slice none 0 0, .int .i64 0, .int .i64 0, .int .i64 0, .int .i64 0, .int .i64 0, .int .i64 0, .int .i64 0, .int .i64 0] 36
            try simp only [World.size_drew] at hA
            try simp only [World.size_alloc] at hA
            try have xv := xv.keep ((Below.refl _ _).alloc (Nat.le_refl _) (.cells #[.slice none 0 0, .int .i64 0, .int .i64 0, .int .i64 0, .int .i64 0, .int .i64 0, .int .i64 0, .int .i64 0, .int .i64 0] 36))
            try have ne := row_new_ne ow
            try have owP := ow
            try have ow := row_new ow (.cells #[.slice none 0 0, .int .i64 0, .int .i64 0, .int .i64 0, .int .i64 0, .int .i64 0, .int .i64 0, .int .i64 0, .int .i64 0] 36)
            go_simp
            refine hK.out _ _ ?_ (fun hHeld => ?_)
            · exact ⟨hA.bs.oldbox c7 hz7, hA.bs.sub _ (by simp)⟩
            clear hK K
            try simp only [Act.put, zA, zB, zC, zD, zE, zF]
            refine wR 3 fun K hK => ?_
            go_simp
            refine (HSt2.out _ _ _ xv).mono ?_
            rintro e ws ⟨vs0, rfl, ow, gw, Bs⟩
            obtain ⟨pa, pc, rfl⟩ := row_shape ow
            try dsimp only [stV]
            have hN := hHeld.2.below Bs
            try have ne := hA.row_ne gw
            try have hA := hA.below Bs
            clear xv gw Bs
            try dsimp only
            refine hK.out _ _ ?_ (fun hHeld => ?_)
            · exact ⟨hN.oldbox c7 hz7, hN⟩
            clear hK K
            try simp only [Act.put, zA, zB, zC, zD, zE, zF]
            refine wT 4 ?_
            refine wT 5 ?_
            refine wT 6 ?_
            refine wR 8 fun K hK => ?_
            obtain ⟨⟨k0, k1, k2, k3, k4, k5, k6, k7, k8⟩, q0, q1, q2, q3, q4, q5, q6, q7, q8⟩ := cells9 hA.box
            have hA2 : BA wy [] _ #[.slice pa l.length pc, .int .i64 (f 0), .int .i64 (f 1), .int .i64 (f 2), .int .i64 (f 3), .int .i64 (f 4), .int .i64 (f 5), .int .i64 (f 6), .int .i64 (f 7)] 36 _ := hA.set9 (.slice pa l.length pc) (.int .i64 (f 0)) (.int .i64 (f 1)) (.int .i64 (f 2)) (.int .i64 (f 3)) (.int .i64 (f 4)) (.int .i64 (f 5)) (.int .i64 (f 6)) (.int .i64 (f 7))
            have ow2 := row_set9 ow ne (.slice pa l.length pc) (.int .i64 (f 0)) (.int .i64 (f 1)) (.int .i64 (f 2)) (.int .i64 (f 3)) (.int .i64 (f 4)) (.int .i64 (f 5)) (.int .i64 (f 6)) (.int .i64 (f 7))
            try have hA3 : BA wy [] _ #[.slice pa l.length pc, .int .i64 (f 0), .int .i64 (f 1), .int .i64 (f 2), .int .i64 (f 3), .int .i64 (f 4), .int .i64 (f 5), .int .i64 (f 6), .int .i64 (f 7)] 36 _ := hP.2.allocd #[.slice pa l.length pc, .int .i64 (f 0), .int .i64 (f 1), .int .i64 (f 2), .int .i64 (f 3), .int .i64 (f 4), .int .i64 (f 5), .int .i64 (f 6), .int .i64 (f 7)] 36
            try have ow3 := row_new owP (.cells #[.slice pa l.length pc, .int .i64 (f 0), .int .i64 (f 1), .int .i64 (f 2), .int .i64 (f 3), .int .i64 (f 4), .int .i64 (f 5), .int .i64 (f 6), .int .i64 (f 7)] 36)
            go_simp
            refine hK.out _ _ ?_ (fun hHeld => ?_)
            · exact by first | with_reducible exact ⟨hA3.bs.oldbox c7 hz7, hA3.bs.sub _ (by simp)⟩ | exact ⟨hA2.bs.oldbox c7 hz7, hA2.bs.sub _ (by simp)⟩
            clear hK K
            try simp only [Act.put, zA, zB, zC, zD, zE, zF]
            refine wT 9 ?_
            refine wpAnyH_done (by kernel_rfl) (NoPanic.normal ?_) _
            refine ⟨rfl, ?_⟩
            try clear hP
            first
              | (obtain ⟨LA, hLA, hA3⟩ : ∃ LA, LA = _ ∧ BA wy [] LA _ _ _ := ⟨_, rfl, hA3⟩; (try rw [← hLA] at ow3); (try rw [← hLA] at hA3); rw [← hLA]; with_reducible exact ⟨LA, pa, pc, g1, cc, rfl, hA3, ow3⟩)
              | (obtain ⟨LA, hLA, hA2⟩ : ∃ LA, LA = _ ∧ BA wy [] LA _ _ _ := ⟨_, rfl, hA2⟩; (try rw [← hLA] at ow2); (try rw [← hLA] at hA2); rw [← hLA]; exact ⟨LA, pa, pc, g1, cc, rfl, hA2, ow2⟩)
        · have hP := hHeld
          have hA := hHeld.2.allocd #[.slice none 0 0, .int .i64 0, .int .i64 0, .int .i64 0, .int .i64 0, .int .i64 0, .int .i64 0, .int .i64 0, .int .i64 0] 36
          try simp only [World.size_drew] at hA
          try simp only [World.size_alloc] at hA
          try have xv := xv.keep ((Below.refl _ _).alloc (Nat.le_refl _) (.cells #[.slice none 0 0, .int .i64 0, .int .i64 0, .int .i64 0, .int .i64 0, .int .i64 0, .int .i64 0, .int .i64 0, .int .i64 0] 36))
          try have ne := row_new_ne ow
          try have owP := ow
          try have ow := row_new ow (.cells #[.slice none 0 0, .int .i64 0, .int .i64 0, .int .i64 0, .int .i64 0, .int .i64 0, .int .i64 0, .int .i64 0, .int .i64 0] 36)
          go_simp
          refine hK.out _ _ ?_ (fun hHeld => ?_)
          · exact ⟨hA.bs.oldbox c7 hz7, hA.bs.sub _ (by simp)⟩
          clear hK K
          try simp only [Act.put, zA, zB, zC, zD, zE, zF]
          refine wR 2 fun K hK => ?_
          go_simp
          refine (HVb2.out _ hHeld.2.bel).mono ?_
          rintro e wv ⟨vv, rfl, ov, gv, Bv⟩
          obtain ⟨g1, cc, rfl, xv⟩ := HRow2.out _ _ ov
          have hN := hHeld.2.below Bv
          try have hA := hA.below Bv
          clear ov gv Bv
          try dsimp only
          refine hK.out _ _ ?_ (fun hHeld => ?_)
          · exact ⟨hN.oldbox c7 hz7, hN⟩
          clear hK K
          try simp only [Act.put, zA, zB, zC, zD, zE, zF]
          refine wR 3 fun K hK => ?_
          go_simp
          refine (HSt2.out _ _ _ xv).mono ?_
          rintro e ws ⟨vs0, rfl, ow, gw, Bs⟩
          obtain ⟨pa, pc, rfl⟩ := row_shape ow
          try dsimp only [stV]
          have hN := hHeld.2.below Bs
          try have ne := hA.row_ne gw
          try have hA := hA.below Bs
          clear xv gw Bs
          try dsimp only
          refine hK.out _ _ ?_ (fun hHeld => ?_)
          · exact ⟨hN.oldbox c7 hz7, hN⟩
          clear hK K
          try simp only [Act.put, zA, zB, zC, zD, zE, zF]
          refine wT 4 ?_
          refine wT 5 ?_
          refine wT 6 ?_
          refine wR 8 fun K hK => ?_
          obtain ⟨⟨k0, k1, k2, k3, k4, k5, k6, k7, k8⟩, q0, q1, q2, q3, q4, q5, q6, q7, q8⟩ := cells9 hA.box
          have hA2 : BA wy [] _ #[.slice pa l.length pc, .int .i64 (f 0), .int .i64 (f 1), .int .i64 (f 2), .int .i64 (f 3), .int .i64 (f 4), .int .i64 (f 5), .int .i64 (f 6), .int .i64 (f 7)] 36 _ := hA.set9 (.slice pa l.length pc) (.int .i64 (f 0)) (.int .i64 (f 1)) (.int .i64 (f 2)) (.int .i64 (f 3)) (.int .i64 (f 4)) (.int .i64 (f 5)) (.int .i64 (f 6)) (.int .i64 (f 7))
          have ow2 := row_set9 ow ne (.slice pa l.length pc) (.int .i64 (f 0)) (.int .i64 (f 1)) (.int .i64 (f 2)) (.int .i64 (f 3)) (.int .i64 (f 4)) (.int .i64 (f 5)) (.int .i64 (f 6)) (.int .i64 (f 7))
          try have hA3 : BA wy [] _ #[.slice pa l.length pc, .int .i64 (f 0), .int .i64 (f 1), .int .i64 (f 2), .int .i64 (f 3), .int .i64 (f 4), .int .i64 (f 5), .int .i64 (f 6), .int .i64 (f 7)] 36 _ := hP.2.allocd #[.slice pa l.length pc, .int .i64 (f 0), .int .i64 (f 1), .int .i64 (f 2), .int .i64 (f 3), .int .i64 (f 4), .int .i64 (f 5), .int .i64 (f 6), .int .i64 (f 7)] 36
          try have ow3 := row_new owP (.cells #[.slice pa l.length pc, .int .i64 (f 0), .int .i64 (f 1), .int .i64 (f 2), .int .i64 (f 3), .int .i64 (f 4), .int .i64 (f 5), .int .i64 (f 6), .int .i64 (f 7)] 36)
          go_simp
          refine hK.out _ _ ?_ (fun hHeld => ?_)
          · exact by first | with_reducible exact ⟨hA3.bs.oldbox c7 hz7, hA3.bs.sub _ (by simp)⟩ | exact ⟨hA2.bs.oldbox c7 hz7, hA2.bs.sub _ (by simp)⟩
          clear hK K
          try simp only [Act.put, zA, zB, zC, zD, zE, zF]
          refine wT 9 ?_
          refine wpAnyH_done (by kernel_rfl) (NoPanic.normal ?_) _
          refine ⟨rfl, ?_⟩
          try clear hP
          first
            | (obtain ⟨LA, hLA, hA3⟩ : ∃ LA, LA = _ ∧ BA wy [] LA _ _ _ := ⟨_, rfl, hA3⟩; (try rw [← hLA] at ow3); (try rw [← hLA] at hA3); rw [← hLA]; with_reducible exact ⟨LA, pa, pc, g1, cc, rfl, hA3, ow3⟩)
            | (obtain ⟨LA, hLA, hA2⟩ : ∃ LA, LA = _ ∧ BA wy [] LA _ _ _ := ⟨_, rfl, hA2⟩; (try rw [← hLA] at ow2); (try rw [← hLA] at hA2); rw [← hLA]; exact ⟨LA, pa, pc, g1, cc, rfl, hA2, ow2⟩)
      intro LB pb pd g2 cd wz hB
      obtain ⟨hB, oB⟩ := hB
      try dsimp only
      have HC8 := Lib.hid (hB.bs.oldbox c7 hz7)
      have hz8 := Nat.lt_of_lt_of_le hz7 hB.bs.bel.size
      have hsm := fun (W : World) (hb : Below wz.heap.size wz W) => rsame_any (l1 := l) (l2 := l) (f := f) (g := f) (ha := ownsRow_block HOA.out (fun k hk => (hb.block k (Nat.lt_of_lt_of_le (ownsRow_lt HOA.out hk) hB.bs.bel.size)).trans (hB.bs.bel.block k (ownsRow_lt HOA.out hk)))) (hb := ownsRow_block oB (fun k hk => hb.block k (ownsRow_lt oB hk))) (h1 := by have := HLn.out; omega) (h2 := by have := HLn.out; omega)
      simp only [eq8_same, decide_true, Bool.and_self] at hsm
      have HSm := Lib.hid hsm
      have HDA := Lib.hid (hB.bs.oldbox HDA.out hzA)
      have hzA := Nat.lt_of_lt_of_le hzA hB.bs.bel.size
      have HDB := Lib.hid (fun o => cell?_of_heap (o := o) hB.box)
      have hzB := (hB.bs.ls LB (by simp)).1
      have HBz := Lib.hid (HBA.out.trans (hB.bs.bel.mono HBA.out.size))
      clear hB oB hsm c7 hz7
      have HVz1 := Lib.hid (fun (W : World) (hb : Below wz.heap.size wz W) => HVa1.out W (HBz.out.trans (hb.mono HBz.out.size)))
      have HVz2 := Lib.hid (fun (W : World) (hb : Below wz.heap.size wz W) => HVa2.out W (HBz.out.trans (hb.mono HBz.out.size)))
      go_wp2_with fail
      refine wp_region_noPanic ?_
      refine wp_region_held_drew (S := fun w' => ((∀ o : Nat, w'.cell? ⟨w.heap.size, o, none⟩ = (#[.int .i64 T, .int .i64 P, .int .i64 s] : Array Value)[o]?) ∧ (∀ o : Nat, w'.cell? ⟨LA, o, none⟩ = (#[.slice pa l.length pc, .int .i64 (f 0), .int .i64 (f 1), .int .i64 (f 2), .int .i64 (f 3), .int .i64 (f 4), .int .i64 (f 5), .int .i64 (f 6), .int .i64 (f 7)] : Array Value)[o]?) ∧ (∀ o : Nat, w'.cell? ⟨LB, o, none⟩ = (#[.slice pb l.length pd, .int .i64 (f 0), .int .i64 (f 1), .int .i64 (f 2), .int .i64 (f 3), .int .i64 (f 4), .int .i64 (f 5), .int .i64 (f 6), .int .i64 (f 7)] : Array Value)[o]?) ∧ BS wz [] w')) (by kernel_rfl) ?_ (fun hHeld => ?_)
      · exact ⟨HC8.out, HDA.out, HDB.out, (BS.start wz).drew⟩
      refine wT 0 ?_
      refine wT 1 ?_
      refine wT 2 ?_
      refine wT 3 ?_
      refine wT 4 ?_
      refine wT 5 ?_
      refine wT 6 ?_
      refine wR 7 fun K hK => ?_
      go_simp
      refine (HSm.out _ hHeld.2.2.2.bel).mono ?_
      rintro e wa ⟨rfl, Ba⟩
      have hN := hHeld.2.2.2.below Ba
      clear Ba
      try dsimp only
      refine hK.out _ _ ?_ (fun hHeld => ?_)
      · exact ⟨hN.oldbox HC8.out hz8, hN.oldbox HDA.out hzA, hN.oldbox HDB.out hzB, hN⟩
      clear hK K
      try simp only [Act.put, zA, zB, zC, zD, zE, zF]
      refine wT 8 ?_
      refine wT 9 ?_
      refine wT 10 ?_
      refine wT 14 ?_
      refine wR 11 fun K hK => ?_
      go_simp
      refine (HVz1.out _ hHeld.2.2.2.bel).mono ?_
      rintro e wb ⟨vv, rfl, ov, gv, Bv⟩
      obtain ⟨g3, c3, rfl, xv⟩ := HRow1.out _ _ ov
      have hN := hHeld.2.2.2.below Bv
      have hc3 := HF1.out _ _ xv
      clear ov gv Bv xv
      try dsimp only
      refine hK.out _ _ ?_ (fun hHeld => ?_)
      · exact ⟨hN.oldbox HC8.out hz8, hN.oldbox HDA.out hzA, hN.oldbox HDB.out hzB, hN⟩
      clear hK K
      try simp only [Act.put, zA, zB, zC, zD, zE, zF]
      refine wpAnyH_more (T := fun w' => (((∀ o : Nat, w'.cell? ⟨w.heap.size, o, none⟩ = (#[.int .i64 T, .int .i64 P, .int .i64 s] : Array Value)[o]?) ∧ (∀ o : Nat, w'.cell? ⟨LA, o, none⟩ = (#[.slice pa l.length pc, .int .i64 (f 0), .int .i64 (f 1), .int .i64 (f 2), .int .i64 (f 3), .int .i64 (f 4), .int .i64 (f 5), .int .i64 (f 6), .int .i64 (f 7)] : Array Value)[o]?) ∧ (∀ o : Nat, w'.cell? ⟨LB, o, none⟩ = (#[.slice pb l.length pd, .int .i64 (f 0), .int .i64 (f 1), .int .i64 (f 2), .int .i64 (f 3), .int .i64 (f 4), .int .i64 (f 5), .int .i64 (f 6), .int .i64 (f 7)] : Array Value)[o]?) ∧ BS wz [] w') ∧ w'.cell? ⟨g3, 0, none⟩ = some (.int .u32 x0))) (fun _ h => h.1) _ _ _ _ ?_
      have hHeld : (fun w' => (((∀ o : Nat, w'.cell? ⟨w.heap.size, o, none⟩ = (#[.int .i64 T, .int .i64 P, .int .i64 s] : Array Value)[o]?) ∧ (∀ o : Nat, w'.cell? ⟨LA, o, none⟩ = (#[.slice pa l.length pc, .int .i64 (f 0), .int .i64 (f 1), .int .i64 (f 2), .int .i64 (f 3), .int .i64 (f 4), .int .i64 (f 5), .int .i64 (f 6), .int .i64 (f 7)] : Array Value)[o]?) ∧ (∀ o : Nat, w'.cell? ⟨LB, o, none⟩ = (#[.slice pb l.length pd, .int .i64 (f 0), .int .i64 (f 1), .int .i64 (f 2), .int .i64 (f 3), .int .i64 (f 4), .int .i64 (f 5), .int .i64 (f 6), .int .i64 (f 7)] : Array Value)[o]?) ∧ BS wz [] w') ∧ w'.cell? ⟨g3, 0, none⟩ = some (.int .u32 x0))) wb := ⟨⟨hN.oldbox HC8.out hz8, hN.oldbox HDA.out hzA, hN.oldbox HDB.out hzB, hN⟩, hc3⟩
      refine wT 12 ?_
      refine wT 13 ?_
      refine wR 15 fun K hK => ?_
      go_simp
      refine (HVz2.out _ hHeld.1.2.2.2.bel).mono ?_
      rintro e wc ⟨vv, rfl, ov, gv, Bv⟩
      obtain ⟨g4, c4, rfl, xv⟩ := HRow2.out _ _ ov
      have hN := hHeld.1.2.2.2.below Bv
      have hc4 := HF2.out _ _ xv
      have hc3 := cell_keep Bv hHeld.2
      clear ov gv Bv xv
      try dsimp only
      refine hK.out _ _ ?_ (fun hHeld => ?_)
      · exact ⟨⟨hN.oldbox HC8.out hz8, hN.oldbox HDA.out hzA, hN.oldbox HDB.out hzB, hN⟩, hc3⟩
      clear hK K
      try simp only [Act.put, zA, zB, zC, zD, zE, zF]
      refine wpAnyH_more (T := fun w' => ((((∀ o : Nat, w'.cell? ⟨w.heap.size, o, none⟩ = (#[.int .i64 T, .int .i64 P, .int .i64 s] : Array Value)[o]?) ∧ (∀ o : Nat, w'.cell? ⟨LA, o, none⟩ = (#[.slice pa l.length pc, .int .i64 (f 0), .int .i64 (f 1), .int .i64 (f 2), .int .i64 (f 3), .int .i64 (f 4), .int .i64 (f 5), .int .i64 (f 6), .int .i64 (f 7)] : Array Value)[o]?) ∧ (∀ o : Nat, w'.cell? ⟨LB, o, none⟩ = (#[.slice pb l.length pd, .int .i64 (f 0), .int .i64 (f 1), .int .i64 (f 2), .int .i64 (f 3), .int .i64 (f 4), .int .i64 (f 5), .int .i64 (f 6), .int .i64 (f 7)] : Array Value)[o]?) ∧ BS wz [] w') ∧ w'.cell? ⟨g3, 0, none⟩ = some (.int .u32 x0)) ∧ w'.cell? ⟨g4, 0, none⟩ = some (.int .u32 x0))) (fun _ h => h.1) _ _ _ _ ?_
      have hHeld : (fun w' => ((((∀ o : Nat, w'.cell? ⟨w.heap.size, o, none⟩ = (#[.int .i64 T, .int .i64 P, .int .i64 s] : Array Value)[o]?) ∧ (∀ o : Nat, w'.cell? ⟨LA, o, none⟩ = (#[.slice pa l.length pc, .int .i64 (f 0), .int .i64 (f 1), .int .i64 (f 2), .int .i64 (f 3), .int .i64 (f 4), .int .i64 (f 5), .int .i64 (f 6), .int .i64 (f 7)] : Array Value)[o]?) ∧ (∀ o : Nat, w'.cell? ⟨LB, o, none⟩ = (#[.slice pb l.length pd, .int .i64 (f 0), .int .i64 (f 1), .int .i64 (f 2), .int .i64 (f 3), .int .i64 (f 4), .int .i64 (f 5), .int .i64 (f 6), .int .i64 (f 7)] : Array Value)[o]?) ∧ BS wz [] w') ∧ w'.cell? ⟨g3, 0, none⟩ = some (.int .u32 x0)) ∧ w'.cell? ⟨g4, 0, none⟩ = some (.int .u32 x0))) wc := ⟨⟨⟨hN.oldbox HC8.out hz8, hN.oldbox HDA.out hzA, hN.oldbox HDB.out hzB, hN⟩, hc3⟩, hc4⟩
      refine wT 16 ?_
      refine wT 17 ?_
      refine wT 18 ?_
      refine wT 19 ?_
      refine wT 20 ?_
      refine wT 21 ?_
      refine wT 22 ?_
      refine wT 24 ?_
      refine wT 25 ?_
      refine wpAnyH_ready (rs := [23, 26]) (by kernel_rfl) (by simp) ?_
      refine AllReadyH.cons (o := _) rfl (fun K hK => ?_) (AllReadyH.cons (o := _) rfl (fun K hK => ?_) AllReadyH.nil)
      · go_simp
        refine (HVz1.out _ hHeld.1.1.2.2.2.bel).mono ?_
        rintro e wd ⟨vv, rfl, ov, gv, Bv⟩
        obtain ⟨g5, c5, rfl, xv5⟩ := HRow1.out _ _ ov
        have hN := hHeld.1.1.2.2.2.below Bv
        have hc3 := cell_keep Bv hHeld.1.2
        have hc4 := cell_keep Bv hHeld.2
        try have hPk := hPk.keep Bv
        clear ov gv Bv
        try dsimp only
        refine hK.out _ _ ?_ (fun hHeld => ?_)
        · exact ⟨⟨⟨hN.oldbox HC8.out hz8, hN.oldbox HDA.out hzA, hN.oldbox HDB.out hzB, hN⟩, hc3⟩, hc4⟩
        clear hK K
        try simp only [Act.put, zA, zB, zC, zD, zE, zF]
        refine wR 26 fun K hK => ?_
        obtain ⟨hPk, Bm⟩ := made_at hHeld.1.1.2.2.2 T
        have hN := hHeld.1.1.2.2.2.below Bm
        have hc3 := cell_keep Bm hHeld.1.2
        have hc4 := cell_keep Bm hHeld.2
        try have xv5 := xv5.keep Bm
        go_simp
        refine hK.out _ _ ?_ (fun hHeld => ?_)
        · exact ⟨⟨⟨hN.oldbox HC8.out hz8, hN.oldbox HDA.out hzA, hN.oldbox HDB.out hzB, hN⟩, hc3⟩, hc4⟩
        clear hK K
        try simp only [Act.put, zA, zB, zC, zD, zE, zF]
        refine wR 27 fun K hK => ?_
        go_simp
        refine (HFi.out _ _ _ _ xv5 hPk).mono ?_
        rintro e we ⟨rfl, Be⟩
        have hN := hHeld.1.1.2.2.2.below Be
        have hc3 := cell_keep Be hHeld.1.2
        have hc4 := cell_keep Be hHeld.2
        clear Be
        try dsimp only
        refine hK.out _ _ ?_ (fun hHeld => ?_)
        · exact ⟨⟨⟨hN.oldbox HC8.out hz8, hN.oldbox HDA.out hzA, hN.oldbox HDB.out hzB, hN⟩, hc3⟩, hc4⟩
        clear hK K
        try simp only [Act.put, zA, zB, zC, zD, zE, zF]
        refine wT 28 ?_
        refine wT 29 ?_
        refine wR 30 fun K hK => ?_
        go_simp
        refine (HL.out _).mono ?_
        rintro e wf ⟨rfl, Bf⟩
        have hN := hHeld.1.1.2.2.2.below Bf
        have hc3 := cell_keep Bf hHeld.1.2
        have hc4 := cell_keep Bf hHeld.2
        clear Bf
        try dsimp only
        refine hK.out _ _ ?_ (fun hHeld => ?_)
        · exact ⟨⟨⟨hN.oldbox HC8.out hz8, hN.oldbox HDA.out hzA, hN.oldbox HDB.out hzB, hN⟩, hc3⟩, hc4⟩
        clear hK K
        try simp only [Act.put, zA, zB, zC, zD, zE, zF]
        refine wT 31 ?_
        refine wT 32 ?_
        refine wpAnyH_done (by kernel_rfl) (NoPanic.normal ?_) _
        go_wp2
        go_ret
        exact ⟨rfl, HB6.out.trans ((HBz.out.trans (hN.bel.mono HBz.out.size)).mono HB6.out.size)⟩
      · obtain ⟨hPk, Bm⟩ := made_at hHeld.1.1.2.2.2 T
        have hN := hHeld.1.1.2.2.2.below Bm
        have hc3 := cell_keep Bm hHeld.1.2
        have hc4 := cell_keep Bm hHeld.2
        try have xv5 := xv5.keep Bm
        go_simp
        refine hK.out _ _ ?_ (fun hHeld => ?_)
        · exact ⟨⟨⟨hN.oldbox HC8.out hz8, hN.oldbox HDA.out hzA, hN.oldbox HDB.out hzB, hN⟩, hc3⟩, hc4⟩
        clear hK K
        try simp only [Act.put, zA, zB, zC, zD, zE, zF]
        refine wR 23 fun K hK => ?_
        go_simp
        refine (HVz1.out _ hHeld.1.1.2.2.2.bel).mono ?_
        rintro e wd ⟨vv, rfl, ov, gv, Bv⟩
        obtain ⟨g5, c5, rfl, xv5⟩ := HRow1.out _ _ ov
        have hN := hHeld.1.1.2.2.2.below Bv
        have hc3 := cell_keep Bv hHeld.1.2
        have hc4 := cell_keep Bv hHeld.2
        try have hPk := hPk.keep Bv
        clear ov gv Bv
        try dsimp only
        refine hK.out _ _ ?_ (fun hHeld => ?_)
        · exact ⟨⟨⟨hN.oldbox HC8.out hz8, hN.oldbox HDA.out hzA, hN.oldbox HDB.out hzB, hN⟩, hc3⟩, hc4⟩
        clear hK K
        try simp only [Act.put, zA, zB, zC, zD, zE, zF]
        refine wR 27 fun K hK => ?_
        go_simp
        refine (HFi.out _ _ _ _ xv5 hPk).mono ?_
        rintro e we ⟨rfl, Be⟩
        have hN := hHeld.1.1.2.2.2.below Be
        have hc3 := cell_keep Be hHeld.1.2
        have hc4 := cell_keep Be hHeld.2
        clear Be
        try dsimp only
        refine hK.out _ _ ?_ (fun hHeld => ?_)
        · exact ⟨⟨⟨hN.oldbox HC8.out hz8, hN.oldbox HDA.out hzA, hN.oldbox HDB.out hzB, hN⟩, hc3⟩, hc4⟩
        clear hK K
        try simp only [Act.put, zA, zB, zC, zD, zE, zF]
        refine wT 28 ?_
        refine wT 29 ?_
        refine wR 30 fun K hK => ?_
        go_simp
        refine (HL.out _).mono ?_
        rintro e wf ⟨rfl, Bf⟩
        have hN := hHeld.1.1.2.2.2.below Bf
        have hc3 := cell_keep Bf hHeld.1.2
        have hc4 := cell_keep Bf hHeld.2
        clear Bf
        try dsimp only
        refine hK.out _ _ ?_ (fun hHeld => ?_)
        · exact ⟨⟨⟨hN.oldbox HC8.out hz8, hN.oldbox HDA.out hzA, hN.oldbox HDB.out hzB, hN⟩, hc3⟩, hc4⟩
        clear hK K
        try simp only [Act.put, zA, zB, zC, zD, zE, zF]
        refine wT 31 ?_
        refine wT 32 ?_
        refine wpAnyH_done (by kernel_rfl) (NoPanic.normal ?_) _
        go_wp2
        go_ret
        exact ⟨rfl, HB6.out.trans ((HBz.out.trans (hN.bel.mono HBz.out.size)).mono HB6.out.size)⟩
end Go.Proofs.YtpmoajhpgekhcaaGreat
