/- head: the document's Encode; the words of cells and of the tip. -/
import Derived.Test.YtcicmljnjdhkjaaGreatWords
namespace Go.Proofs.YtcicmljnjdhkjaaGreat
open Go.RowKit

theorem hjoin10 (w : World) : Calls Tryz.prog 117 #[.int .u32 1, .int .u32 0] w fun e w' => e = .returned (.int .u64 4294967296) ∧ Below w.heap.size w w' := by
  go_enter Tryz.func117, Tryz.ntmps117
  go_wp2
  go_ret
  exact ⟨rfl, Below.refl _ _⟩
theorem hjoin0 (v : Int) (w : World) (h0 : 0 ≤ v) (h1 : v < 4294967296) : Calls Tryz.prog 117 #[.int .u32 0, .int .u32 v] w fun e w' => e = .returned (.int .u64 v) ∧ Below w.heap.size w w' := by
  have hw : IntKind.u64.wrap v = v := wraps_u64 _ (by omega) (by omega)
  have ho : bits BinOp.or IntKind.u64 0 v = v := by
    have := bits_join .u64 64 (by decide) wraps_u64 32 0 v (by omega) (by decide) (by decide) h0 (by omega) (by omega)
    omega
  go_enter Tryz.func117, Tryz.ntmps117
  go_wp2
  go_ret
  exact ⟨rfl, Below.refl _ _⟩
theorem mcell_any (v : Int) (w : World) (h0 : 0 ≤ v) (h1 : v < 4294967296) : Calls Tryz.prog 50 #[.int .u32 0, .int .u32 v] w fun e w' => e = .returned (.int .u64 v) ∧ Below w.heap.size w w' := by
  have H := Lib.hid (fun w => hjoin0 v w h0 h1)
  go_enter Tryz.func50, Tryz.ntmps50
  go_wp2_with fail
  refine (H.out _).mono ?_
  rintro e w1 ⟨rfl, b1⟩
  go_wp2
  go_ret
  exact ⟨rfl, b1⟩
theorem maker0 (w : World) : Calls Tryz.prog 116 #[.int .i64 0] w fun e w' => e = .returned (.bool true) ∧ Below w.heap.size w w' := by
  go_enter Tryz.func116, Tryz.ntmps116
  go_wp2
  go_ret
  exact ⟨rfl, Below.refl _ _⟩
theorem mtip_any (w : World) : Calls Tryz.prog 49 #[.int .u32 1, .int .i64 0] w fun e w' => e = .returned (.tuple #[.int .u64 4294967296, .bool true]) ∧ Below w.heap.size w w' := by
  have H := Lib.hid hjoin10
  have HM := Lib.hid maker0
  go_enter Tryz.func49, Tryz.ntmps49
  go_wp2_with fail
  refine (HM.out _).mono ?_
  rintro e w1 ⟨rfl, b1⟩
  go_wp2_with fail
  refine (H.out _).mono ?_
  rintro e w2 ⟨rfl, b2⟩
  go_wp2
  exact bodyPost_ret (v := .tuple #[.int .u64 4294967296, .bool true]) (by simp [results, Tryz.results49, go_sem]) rfl ⟨rfl, b1.trans (b2.mono b1.size)⟩
theorem pword_any (t p s c : Int) (w : World) (hr : rightB t p s = true) (h0 : 0 ≤ c) (h1 : c < cellsN t p) :
    Calls Tryz.prog 51 #[.agg #[.int .i64 t, .int .i64 p, .int .i64 s], .int .i64 c] w fun e w' => e = .returned (.int .i64 (16 + c)) ∧ Below w.heap.size w w' := by
  have HL := Lib.hid (fun w => lay_right t p s w hr)
  have HC := Lib.hid (fun m w => lcells_any t p s m w hr)
  have hb : cellsN t p ≤ 10000 := by have := right_bd hr; unfold cellsN; omega
  have HW := Lib.hid (fun w => within_any 16 c (cellsN t p) w (by omega) (by omega) (by omega))
  have hwf : withinF 16 c (cellsN t p) = 16 + c := by unfold withinF; rw [if_neg (by omega)]
  rw [hwf] at HW
  generalize cellsN t p = n at *
  clear hwf hr
  go_enter Tryz.func51, Tryz.ntmps51
  go_wp2_with fail
  refine (HL.out _).mono ?_
  rintro e w1 ⟨rfl, ha⟩
  obtain ⟨hac, haf⟩ := bcell ha
  have haz0 : w.heap.size < w1.heap.size := by have := ha.size; first | omega | (simp at this; omega)
  go_wp2_with fail
  refine (HC.out _ _).mono ?_
  rintro e w2 ⟨rfl, hb2⟩
  obtain ⟨hb2c, hb2f⟩ := bcell hb2
  go_wp2_with fail
  refine (HW.out _).mono ?_
  rintro e w3 ⟨rfl, rfl⟩
  go_wp2
  go_ret
  refine ⟨rfl, ?_⟩
  (repeat (first | exact Below.refl _ _ | assumption | refine Below.setCell ?_ (by first | omega | (simp; done) | (simp; omega)) _ | refine Below.alloc ?_ (by first | omega | (simp; done) | (simp; omega)) _ | refine Below.drew ?_ | refine Below.trans ?_ (Below.mono ‹Below _ _ _› (by first | omega | (simp; done) | (simp; omega)))))
end Go.Proofs.YtcicmljnjdhkjaaGreat
