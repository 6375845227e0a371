/- the document's answers for bound. -/
import Derived.Test.YtkfcjlampnjfbaaBound
namespace Go.Proofs.Ytkfcjlampnjfbaa
open Go.RowKit

theorem rright_any (t p s : Int) (w : World) :
    Calls Try.prog 50 #[.agg #[.int .i64 t, .int .i64 p, .int .i64 s]] w fun e w' => e = .returned (.bool (rightB t p s)) ∧ Below w.heap.size w w' := by
  generalize hr : rightB t p s = r
  have HR := Lib.hid hr
  clear hr
  go_enter Try.func50, Try.ntmps50
  go_wp2
  all_goals
    go_ret
    refine ⟨ret_bool ?_, by (repeat (first | exact Below.refl _ _ | assumption | refine Below.setCell ?_ (by first | omega | (simp; done) | (simp; omega)) _ | refine Below.alloc ?_ (by first | omega | (simp; done) | (simp; omega)) _ | refine Below.drew ?_ | refine Below.trans ?_ (Below.mono ‹Below _ _ _› (by first | omega | (simp; done) | (simp; omega)))))⟩
    have hr := HR.out
    simp only [rightB, outB] at hr
    subst hr
    rw [Bool.eq_iff_iff]
    simp
    omega

theorem rcells_any (t p s : Int) (w : World) :
    Calls Try.prog 51 #[.agg #[.int .i64 t, .int .i64 p, .int .i64 s]] w fun e w' => e = .returned (.int .i64 (cellsF t p s)) ∧ Below w.heap.size w w' := by
  have H := rright_any t p s
  cases hr : rightB t p s
  · have hF : cellsF t p s = 0 := by simp [cellsF, hr]
    rw [hF]
    rw [hr] at H
    have HH := Lib.hid H
    clear H hF hr
    go_enter Try.func51, Try.ntmps51
    go_wp2_with fail
    refine (HH.out _).mono ?_
    rintro e w1 ⟨rfl, ha⟩
    obtain ⟨hac, haf⟩ := bcell ha
    have haz0 : w.heap.size < w1.heap.size := by have := ha.size; first | omega | (simp at this; omega)
    go_wp2
    go_ret
    refine ⟨rfl, ?_⟩
    (repeat (first | exact Below.refl _ _ | assumption | refine Below.setCell ?_ (by first | omega | (simp; done) | (simp; omega)) _ | refine Below.alloc ?_ (by first | omega | (simp; done) | (simp; omega)) _ | refine Below.drew ?_ | refine Below.trans ?_ (Below.mono ‹Below _ _ _› (by first | omega | (simp; done) | (simp; omega)))))
  · have hF : cellsF t p s = cellsN t p := by simp [cellsF, hr]
    rw [hF]
    rw [hr] at H
    have HH := Lib.hid H
    obtain ⟨b1, b2, b3, b4, b5, b6⟩ := right_bd hr
    clear H hF hr
    go_enter Try.func51, Try.ntmps51
    go_wp2_with fail
    refine (HH.out _).mono ?_
    rintro e w1 ⟨rfl, ha⟩
    obtain ⟨hac, haf⟩ := bcell ha
    have haz0 : w.heap.size < w1.heap.size := by have := ha.size; first | omega | (simp at this; omega)
    go_wp2
    go_ret
    refine ⟨rfl, ?_⟩
    (repeat (first | exact Below.refl _ _ | assumption | refine Below.setCell ?_ (by first | omega | (simp; done) | (simp; omega)) _ | refine Below.alloc ?_ (by first | omega | (simp; done) | (simp; omega)) _ | refine Below.drew ?_ | refine Below.trans ?_ (Below.mono ‹Below _ _ _› (by first | omega | (simp; done) | (simp; omega)))))

theorem rpass_any (t p s : Int) (w : World) :
    Calls Try.prog 11 #[.agg #[.int .i64 t, .int .i64 p, .int .i64 s]] w fun e w' => e = .returned (.int .i64 (passF t p s)) ∧ Below w.heap.size w w' := by
  have H := rright_any t p s
  have H2 := rcells_any t p s
  cases hr : rightB t p s
  · have hF : passF t p s = 0 := by simp [passF, hr]
    rw [hF]
    rw [hr] at H
    have HH := Lib.hid H
    clear H H2 hF hr
    go_enter Try.func11, Try.ntmps11
    go_wp2_with fail
    refine (HH.out _).mono ?_
    rintro e w1 ⟨rfl, ha⟩
    obtain ⟨hac, haf⟩ := bcell ha
    have haz0 : w.heap.size < w1.heap.size := by have := ha.size; first | omega | (simp at this; omega)
    go_wp2
    go_ret
    refine ⟨rfl, ?_⟩
    (repeat (first | exact Below.refl _ _ | assumption | refine Below.setCell ?_ (by first | omega | (simp; done) | (simp; omega)) _ | refine Below.alloc ?_ (by first | omega | (simp; done) | (simp; omega)) _ | refine Below.drew ?_ | refine Below.trans ?_ (Below.mono ‹Below _ _ _› (by first | omega | (simp; done) | (simp; omega)))))
  · have hF : passF t p s = 420 + cellsN t p := by simp [passF, hr]
    have hC : cellsF t p s = cellsN t p := by simp [cellsF, hr]
    rw [hF]
    rw [hr] at H
    rw [hC] at H2
    have HH := Lib.hid H
    have HH2 := Lib.hid H2
    have hb1 : 0 < cellsN t p := by have := right_bd hr; unfold cellsN; omega
    have hb2 : cellsN t p ≤ 10000 := by have := right_bd hr; unfold cellsN; omega
    clear H H2 hF hC hr
    go_enter Try.func11, Try.ntmps11
    go_wp2_with fail
    refine (HH.out _).mono ?_
    rintro e w1 ⟨rfl, ha⟩
    obtain ⟨hac, haf⟩ := bcell ha
    have haz0 : w.heap.size < w1.heap.size := by have := ha.size; first | omega | (simp at this; omega)
    go_wp2_with fail
    refine (HH2.out _).mono ?_
    rintro e w2 ⟨rfl, hb⟩
    obtain ⟨hbc, hbf⟩ := bcell hb
    go_wp2
    go_ret
    refine ⟨rfl, ?_⟩
    (repeat (first | exact Below.refl _ _ | assumption | refine Below.setCell ?_ (by first | omega | (simp; done) | (simp; omega)) _ | refine Below.alloc ?_ (by first | omega | (simp; done) | (simp; omega)) _ | refine Below.drew ?_ | refine Below.trans ?_ (Below.mono ‹Below _ _ _› (by first | omega | (simp; done) | (simp; omega)))))

theorem ralone_any (t p s : Int) (w : World) :
    Calls Try.prog 13 #[.agg #[.int .i64 t, .int .i64 p, .int .i64 s]] w fun e w' => e = .returned (.int .i64 (4 * passF t p s)) ∧ Below w.heap.size w w' := by
  obtain ⟨h1, h2⟩ := pass_bd t p s
  go_enter Try.func13, Try.ntmps13
  go_wp2_with fail
  refine (rpass_any _ _ _ _).mono ?_
  rintro e w1 ⟨rfl, ha⟩
  obtain ⟨hac, haf⟩ := bcell ha
  go_wp2
  go_ret
  refine ⟨rfl, ?_⟩
  (repeat (first | exact Below.refl _ _ | assumption | refine Below.setCell ?_ (by first | omega | (simp; done) | (simp; omega)) _ | refine Below.alloc ?_ (by first | omega | (simp; done) | (simp; omega)) _ | refine Below.drew ?_ | refine Below.trans ?_ (Below.mono ‹Below _ _ _› (by first | omega | (simp; done) | (simp; omega)))))

theorem race_any (t p s : Int) (w : World) :
    Calls Try.prog 14 #[.agg #[.int .i64 t, .int .i64 p, .int .i64 s]] w fun e w' => e = .returned (.int .i64 (raceF t p s)) ∧ Below w.heap.size w w' := by
  cases hr : rightB t p s
  · have hF : raceF t p s = 0 := by simp [raceF, passF, hr]
    rw [hF]; exact race_wrong t p s w hr
  · exact race_right t p s w hr

theorem mend_any (t p s : Int) (w : World) :
    Calls Try.prog 16 #[.agg #[.int .i64 t, .int .i64 p, .int .i64 s]] w fun e w' => e = .returned (.int .i64 (mendF t p s)) ∧ Below w.heap.size w w' := by
  cases hr : rightB t p s
  · have hF : mendF t p s = 0 := by simp [mendF, hr]
    rw [hF]; exact mend_wrong t p s w hr
  · exact mend_right t p s w hr

theorem rrace_any (t p s : Int) (w : World) :
    Calls Try.prog 15 #[.agg #[.int .i64 t, .int .i64 p, .int .i64 s]] w fun e w' => e = .returned (.int .i64 (raceF t p s)) ∧ Below w.heap.size w w' := by
  have H := rright_any t p s
  cases hr : rightB t p s
  · have hF : raceF t p s = 0 := by simp [raceF, passF, hr]
    rw [hF]
    rw [hr] at H
    have HH := Lib.hid H
    clear H hF hr
    go_enter Try.func15, Try.ntmps15
    go_wp2_with fail
    refine (HH.out _).mono ?_
    rintro e w1 ⟨rfl, ha⟩
    obtain ⟨hac, haf⟩ := bcell ha
    have haz0 : w.heap.size < w1.heap.size := by have := ha.size; first | omega | (simp at this; omega)
    go_wp2
    go_ret
    refine ⟨rfl, ?_⟩
    (repeat (first | exact Below.refl _ _ | assumption | refine Below.setCell ?_ (by first | omega | (simp; done) | (simp; omega)) _ | refine Below.alloc ?_ (by first | omega | (simp; done) | (simp; omega)) _ | refine Below.drew ?_ | refine Below.trans ?_ (Below.mono ‹Below _ _ _› (by first | omega | (simp; done) | (simp; omega)))))
  · have hF : raceF t p s = t * (3 + 2 * t) * passF t p s := by unfold raceF; rw [Int.add_comm]
    rw [hF]
    rw [hr] at H
    have HH := Lib.hid H
    obtain ⟨h1, h2⟩ := pass_bd t p s
    obtain ⟨b1, b2, b3, b4, b5, b6⟩ := right_bd hr
    have HP := Lib.hid (fun w => rpass_any t p s w)
    have hw1 : IntKind.i64.wrap (2 * t) = 2 * t := wrap_in _ (by omega)
    have hw2 : IntKind.i64.wrap (3 + 2 * t) = 3 + 2 * t := wrap_in _ (by omega)
    have hw3 : IntKind.i64.wrap (t * (3 + 2 * t)) = t * (3 + 2 * t) := wrap_in _ (mul_bd (by omega) (by omega) (by omega) (by omega))
    have hw4 : IntKind.i64.wrap (t * (3 + 2 * t) * passF t p s) = t * (3 + 2 * t) * passF t p s := wrap_in _ (mul_bd2 (by omega) (by omega) (by omega) (by omega) h1 h2)
    clear H hF hr
    generalize passF t p s = q at *
    go_enter Try.func15, Try.ntmps15
    go_wp2_with fail
    refine (HH.out _).mono ?_
    rintro e w1 ⟨rfl, ha⟩
    obtain ⟨hac, haf⟩ := bcell ha
    have haz0 : w.heap.size < w1.heap.size := by have := ha.size; first | omega | (simp at this; omega)
    go_wp2
    have st := keepB ha (startB w #[.int .i64 t, .int .i64 p, .int .i64 s] 23)
    clear ha hac haf
    go_region_held3 (fun w' => (∀ o : Nat, w'.cell? ⟨w.heap.size, o, none⟩ = (#[.int .i64 t, .int .i64 p, .int .i64 s] : Array Value)[o]?) ∧ w.heap.size < w'.heap.size ∧ Below w.heap.size w w') (first | assumption | exact keepB ((Below.refl _ _).alloc (Nat.le_refl _) _) (by assumption) | exact keepD (by assumption)) (first | (go_at_call 11; go_must (refine (HP.out _).mono ?_); go_must (rintro e w' ⟨rfl, hb⟩); go_must (have hS := keepB (b := w.heap.size) (cs := #[.int .i64 t, .int .i64 p, .int .i64 s]) (w0 := w) hb (by assumption))))
    go_wp2
    go_ret
    exact ⟨rfl, hS.2.2⟩

theorem rmend_any (t p s : Int) (w : World) :
    Calls Try.prog 17 #[.agg #[.int .i64 t, .int .i64 p, .int .i64 s]] w fun e w' => e = .returned (.int .i64 (mendF t p s)) ∧ Below w.heap.size w w' := by
  have H := rright_any t p s
  have H2 := rcells_any t p s
  cases hr : rightB t p s
  · have hF : mendF t p s = 0 := by simp [mendF, hr]
    rw [hF]
    rw [hr] at H
    have HH := Lib.hid H
    clear H H2 hF hr
    go_enter Try.func17, Try.ntmps17
    go_wp2_with fail
    refine (HH.out _).mono ?_
    rintro e w1 ⟨rfl, ha⟩
    obtain ⟨hac, haf⟩ := bcell ha
    have haz0 : w.heap.size < w1.heap.size := by have := ha.size; first | omega | (simp at this; omega)
    go_wp2
    go_ret
    refine ⟨rfl, ?_⟩
    (repeat (first | exact Below.refl _ _ | assumption | refine Below.setCell ?_ (by first | omega | (simp; done) | (simp; omega)) _ | refine Below.alloc ?_ (by first | omega | (simp; done) | (simp; omega)) _ | refine Below.drew ?_ | refine Below.trans ?_ (Below.mono ‹Below _ _ _› (by first | omega | (simp; done) | (simp; omega)))))
  · have hF : mendF t p s = 400 + p * (410 + cellsN t p) := by simp [mendF, hr]
    have hC : cellsF t p s = cellsN t p := by simp [cellsF, hr]
    rw [hF]
    rw [hr] at H
    rw [hC] at H2
    have HH := Lib.hid H
    have HP := Lib.hid H2
    have hb1 : 0 < cellsN t p := by have := right_bd hr; unfold cellsN; omega
    have hb2 : cellsN t p ≤ 10000 := by have := right_bd hr; unfold cellsN; omega
    obtain ⟨b1, b2, b3, b4, b5, b6⟩ := right_bd hr
    generalize cellsN t p = n at *
    have hm1 : 0 ≤ p * (410 + n) := Int.mul_nonneg (by omega) (by omega)
    have hm2 : p * (410 + n) ≤ 1024 * 10410 := Int.mul_le_mul (by omega) (by omega) (by omega) (by omega)
    have hw1 : IntKind.i64.wrap (410 + n) = 410 + n := wrap_in _ (by omega)
    have hw2 : IntKind.i64.wrap (p * (410 + n)) = p * (410 + n) := wrap_in _ (by omega)
    have hw3 : IntKind.i64.wrap (400 + p * (410 + n)) = 400 + p * (410 + n) := wrap_in _ (by omega)
    clear H H2 hF hr hC
    go_enter Try.func17, Try.ntmps17
    go_wp2_with fail
    refine (HH.out _).mono ?_
    rintro e w1 ⟨rfl, ha⟩
    obtain ⟨hac, haf⟩ := bcell ha
    have haz0 : w.heap.size < w1.heap.size := by have := ha.size; first | omega | (simp at this; omega)
    go_wp2
    have st := keepB ha (startB w #[.int .i64 t, .int .i64 p, .int .i64 s] 23)
    clear ha hac haf
    go_region_held3 (fun w' => (∀ o : Nat, w'.cell? ⟨w.heap.size, o, none⟩ = (#[.int .i64 t, .int .i64 p, .int .i64 s] : Array Value)[o]?) ∧ w.heap.size < w'.heap.size ∧ Below w.heap.size w w') (first | assumption | exact keepB ((Below.refl _ _).alloc (Nat.le_refl _) _) (by assumption) | exact keepD (by assumption)) (first | (go_at_call 51; go_must (refine (HP.out _).mono ?_); go_must (rintro e w' ⟨rfl, hb⟩); go_must (have hS := keepB (b := w.heap.size) (cs := #[.int .i64 t, .int .i64 p, .int .i64 s]) (w0 := w) hb (by assumption))))
    go_wp2
    go_ret
    exact ⟨rfl, hS.2.2⟩

end Go.Proofs.Ytkfcjlampnjfbaa
