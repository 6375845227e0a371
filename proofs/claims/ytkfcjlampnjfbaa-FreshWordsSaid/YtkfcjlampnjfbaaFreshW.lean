/- fresh: the document's Vals of a configuration that is not right. -/
import Derived.Test.YtkfcjlampnjfbaaFreshL
namespace Go.Proofs.Ytkfcjlampnjfbaa
open Go.RowKit

theorem rvals_wrong (t p s : Int) (w : World) (hr : rightB t p s = false) :
    Calls Try.prog 39 #[.agg #[.int .i64 t, .int .i64 p, .int .i64 s]] w (ValsP w []) := by
  have H1 := fun w => rcells_any t p s w
  have hcf : cellsF t p s = 0 := by simp [cellsF, hr]
  rw [hcf] at H1
  have HH1 := Lib.hid H1
  have hmk : ∀ w : World, (Instr.makeSlice 27 (.int .i64 0) (.int .i64 0)).run Try.prog w = .ok (.slice (some ⟨w.heap.size, 0, none⟩) 0 0) (w.alloc (.cells (madeCells #[.int .u32 0] 0) 72)) := run_make_row' (P := Try.prog) 27 72 (.int .u32 0) 4 Try.underlying27 infoU32 rfl .i64 .i64 0 (by omega) (by omega)
  clear H1 hcf hr
  go_enter Try.func39, Try.ntmps39
  go_wp2_with fail
  refine (HH1.out _).mono ?_
  rintro e w1 ⟨rfl, ha⟩
  obtain ⟨hac, haf⟩ := bcell ha
  go_wp2
  go_ret
  refine ⟨_, rfl, World.ownsRow_nil _ _ _ _, by simp [Value.ownBlock], ?_⟩
  have bel1 : Below w.heap.size w w1 := ((Below.refl _ _).alloc (Nat.le_refl _) _).trans (ha.mono (by simp))
  exact bel1.alloc bel1.size _

/-- both are the same list, of every configuration. -/
theorem fresh_both (t p s : Int) : ∃ l : List Int, l.length ≤ 10000 ∧ (∀ w, Calls Try.prog 38 #[.agg #[.int .i64 t, .int .i64 p, .int .i64 s]] w (ValsP w l)) ∧ (∀ w, Calls Try.prog 39 #[.agg #[.int .i64 t, .int .i64 p, .int .i64 s]] w (ValsP w l)) := by
  cases hr : rightB t p s
  · exact ⟨[], by simp, fun w => fresh_wrong t p s w hr, fun w => rvals_wrong t p s w hr⟩
  · obtain ⟨b1, b2, b3, b4, b5, b6⟩ := right_bd hr
    obtain ⟨P, rfl⟩ : ∃ P : Nat, p = P := ⟨p.toNat, by omega⟩
    obtain ⟨N, hN⟩ : ∃ N : Nat, cellsN t P = N := ⟨(cellsN t P).toNat, by unfold cellsN; omega⟩
    obtain ⟨i0, h0⟩ : ∃ i : Nat, ofF t P s 0 0 = i := ⟨(30 + 4 * t).toNat, by simp [ofF, hr]; omega⟩
    obtain ⟨i1, h1⟩ : ∃ i : Nat, ofF t P s ((P : Int) - 1) 1 = i := ⟨(30 + 4 * t + 6 * ((P : Int) - 1) + 1).toNat, by simp [ofF, hr]; omega⟩
    obtain ⟨K, hK⟩ : ∃ K : Nat, logF P = K := ⟨bitsN P - 1, by have := (log_bd P (by omega) (by omega)).2; simp [logF]; omega⟩
    have hK2 : K < 11 := by have := (log_bd P (by omega) (by omega)).1; simp [logF] at hK; omega
    have e0 : (i0 : Int) = 30 + 4 * t := by rw [← h0]; simp [ofF, hr]; omega
    have e1 : (i1 : Int) = 30 + 4 * t + 6 * (P - 1) + 1 := by rw [← h1]; simp [ofF, hr]; omega
    have eN : (N : Int) = 30 + 4 * t + 6 * P := by rw [← hN]; rfl
    have hl := fresh_law hr hN h0 h1 hK hK2
    refine ⟨refL N i0 i1 K P, by simp [refL]; omega, fun w => ?_, fun w => rvals_right t s P N i0 i1 K w hr hN h0 h1 hK hK2 (by omega) (by omega)⟩
    rw [← hl]
    exact fresh_right t P s w hr
end Go.Proofs.Ytkfcjlampnjfbaa
