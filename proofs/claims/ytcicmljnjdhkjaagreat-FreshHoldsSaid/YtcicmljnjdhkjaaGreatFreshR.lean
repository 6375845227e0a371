/- fresh: the document's Vals. -/
import Derived.Test.YtcicmljnjdhkjaaGreatFresh
namespace Go.Proofs.YtcicmljnjdhkjaaGreat
open Go.RowKit

theorem riright_free (n : Nat) (w : World) (h1 : 1 ≤ n) (h2 : n ≤ 1024) :
    Calls Tryz.prog 199 #[.agg #[.int .i64 1, .int .i64 n, .int .i64 0]] w fun e w' => e = .returned (.bool true) ∧ Below w.heap.size w w' := by
  have := riright_any 1 n 0 w
  rwa [show rightI 1 n 0 = true by simp [rightI]; omega] at this
theorem rput9_free (n : Nat) (w : World) (h1 : 1 ≤ n) (h2 : n ≤ 1024) :
    Calls Tryz.prog 216 #[.agg #[.int .i64 1, .int .i64 n, .int .i64 0]] w fun e w' => e = .returned (.tuple #[.int .u32 (1 + 16 * n), .bool true]) ∧ Below w.heap.size w w' := by
  have H := Lib.hid (fun w => riright_free n w h1 h2)
  have hw : IntKind.u32.wrap (1 + 16 * (n : Int)) = 1 + 16 * n := IntWalk.u32_in _ (by omega)
  go_enter Tryz.func216, Tryz.ntmps216
  go_wp2_with fail
  refine (H.out _).mono ?_
  rintro e w1 ⟨rfl, ha⟩
  obtain ⟨hac, haf⟩ := bcell ha
  have haz0 : w.heap.size < w1.heap.size := by have := ha.size; first | omega | (simp at this; omega)
  go_wp2
  refine bodyPost_ret (v := .tuple #[.int .u32 (1 + 16 * n), .bool true]) (by simp [results, Tryz.results216, go_sem]) rfl ⟨rfl, ?_⟩
  (repeat (first | exact Below.refl _ _ | assumption | refine Below.setCell ?_ (by first | omega | (simp; done) | (simp; omega)) _ | refine Below.alloc ?_ (by first | omega | (simp; done) | (simp; omega)) _ | refine Below.drew ?_ | refine Below.trans ?_ (Below.mono ‹Below _ _ _› (by first | omega | (simp; done) | (simp; omega)))))
theorem rvalue_free (n : Nat) (w : World) (h1 : 1 ≤ n) (h2 : n ≤ 1024) :
    Calls Tryz.prog 201 #[.int .i64 1, .int .i64 n, .int .i64 0] w fun e w' => e = .returned (.int .u32 (1 + 16 * n)) ∧ Below w.heap.size w w' := by
  have H := Lib.hid (fun w => rput9_free n w h1 h2)
  generalize (1 + 16 * (n : Int)) = v at *
  go_enter Tryz.func201, Tryz.ntmps201
  go_wp2_with fail
  refine (H.out _).mono ?_
  rintro e w1 ⟨rfl, b1⟩
  go_wp2
  go_ret
  exact ⟨rfl, b1⟩
theorem rbof_any (n : Nat) (w : World) (h1 : 1 ≤ n) (h2 : n ≤ 1024) :
    Calls Tryz.prog 200 #[.int .i64 n] w fun e w' => e = .returned (.int .i64 (logF n)) ∧ Below w.heap.size w w' := by
  have H := Lib.hid (fun w => rlog_any n w (by omega) (by omega))
  generalize logF n = v at *
  go_enter Tryz.func200, Tryz.ntmps200
  go_wp2_with fail
  refine (H.out _).mono ?_
  rintro e w1 ⟨rfl, b1⟩
  go_wp2
  go_ret
  exact ⟨rfl, b1⟩
theorem row_made (w : World) (N : Nat) (hN : N ≤ 1000000) : (w.alloc (.cells (madeCells #[.int .u32 0] N) 37)).ownsRow 0 37 1 (.slice (some ⟨w.heap.size, 0, none⟩) N N) N (uints (List.replicate N 0)) := by
  refine ⟨by simp [uints], Or.inr ⟨w.heap.size, N, madeCells #[.int .u32 0] N, rfl, Nat.zero_le _, heap_alloc_new w _, Nat.le_refl _, by unfold maxLen; omega, ?_, ?_⟩⟩
  · simp [size_madeCells]
  · rw [made_rep]; simp [uints]
theorem log_bd : ∀ n : Nat, n < 1025 → 1 ≤ n → bitsN n ≤ 11 ∧ 1 ≤ bitsN n := by decide +kernel
end Go.Proofs.YtcicmljnjdhkjaaGreat
