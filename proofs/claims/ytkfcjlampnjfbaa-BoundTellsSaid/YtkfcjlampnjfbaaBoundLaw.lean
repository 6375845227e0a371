/- BoundTells: the walk. -/
import Derived.Test.YtkfcjlampnjfbaaBoundRef
namespace Go.Proofs.Ytkfcjlampnjfbaa
open Go.RowKit

theorem blive_any (w : World) :
    Calls Try.prog 18 #[] w fun e w' => e = .returned (.bool true) ∧ Below w.heap.size w w' := by
  have h1 : passF 1 4 10 = 478 := by decide
  have h2 : raceF 1 4 10 = 2390 := by decide
  have h3 : mendF 1 4 10 = 2272 := by decide
  have H1 := pass_any 1 4 10
  have H2 := alone_any 1 4 10
  have H3 := race_any 1 4 10
  have H4 := mend_any 1 4 10
  rw [h1] at H1 H2
  rw [h2] at H3
  rw [h3] at H4
  have HH1 := Lib.hid H1
  have HH2 := Lib.hid H2
  have HH3 := Lib.hid H3
  have HH4 := Lib.hid H4
  clear H1 H2 H3 H4 h1 h2 h3
  go_enter Try.func18, Try.ntmps18
  go_wp2_with fail
  refine (HH1.out _).mono ?_
  rintro e w1 ⟨rfl, ha⟩
  obtain ⟨hac, haf⟩ := bcell ha
  have haz0 : w.heap.size < w1.heap.size := by have := ha.size; first | omega | (simp at this; omega)
  go_wp2_with fail
  refine (HH2.out _).mono ?_
  rintro e w2 ⟨rfl, hb⟩
  obtain ⟨hbc, hbf⟩ := bcell hb
  have hbz0 : w.heap.size < w2.heap.size := by have := hb.size; first | omega | (simp at this; omega)
  go_wp2_with fail
  refine (HH3.out _).mono ?_
  rintro e w3 ⟨rfl, hc⟩
  obtain ⟨hcc, hcf⟩ := bcell hc
  have hcz0 : w.heap.size < w3.heap.size := by have := hc.size; first | omega | (simp at this; omega)
  go_wp2_with fail
  refine (HH4.out _).mono ?_
  rintro e w4 ⟨rfl, hd⟩
  obtain ⟨hdc, hdf⟩ := bcell hd
  go_wp2
  go_ret
  refine ⟨rfl, ?_⟩
  (repeat (first | exact Below.refl _ _ | assumption | refine Below.setCell ?_ (by first | omega | (simp; done) | (simp; omega)) _ | refine Below.alloc ?_ (by first | omega | (simp; done) | (simp; omega)) _ | refine Below.drew ?_ | refine Below.trans ?_ (Below.mono ‹Below _ _ _› (by first | omega | (simp; done) | (simp; omega)))))

theorem btells_any (t p s : Int) (w : World) :
    Calls Try.prog 3 #[.agg #[.int .i64 t, .int .i64 p, .int .i64 s]] w fun e w' => e = .returned (.bool true) ∧ Below w.heap.size w w' := by
  have H1 := Lib.hid (fun w => pass_any t p s w)
  have H2 := Lib.hid (fun w => alone_any t p s w)
  have H3 := Lib.hid (fun w => race_any t p s w)
  have H4 := Lib.hid (fun w => mend_any t p s w)
  have R1 := Lib.hid (fun w => rpass_any t p s w)
  have R2 := Lib.hid (fun w => ralone_any t p s w)
  have R3 := Lib.hid (fun w => rrace_any t p s w)
  have R4 := Lib.hid (fun w => rmend_any t p s w)
  have HL := Lib.hid blive_any
  go_enter Try.func3, Try.ntmps3
  go_wp2
  have st := startB w #[.int .i64 t, .int .i64 p, .int .i64 s] 23
  go_region_held3 (fun w' => (∀ o : Nat, w'.cell? ⟨w.heap.size, o, none⟩ = (#[.int .i64 t, .int .i64 p, .int .i64 s] : Array Value)[o]?) ∧ w.heap.size < w'.heap.size ∧ Below w.heap.size w w') (first | assumption | exact keepB ((Below.refl _ _).alloc (Nat.le_refl _) _) (by assumption) | exact keepD (by assumption)) (first | (go_at_call 10; go_must (refine (H1.out _).mono ?_); go_must (rintro e w' ⟨rfl, hb⟩); go_must (have hS := keepB (b := w.heap.size) (cs := #[.int .i64 t, .int .i64 p, .int .i64 s]) (w0 := w) hb (by assumption))) | (go_at_call 12; go_must (refine (H2.out _).mono ?_); go_must (rintro e w' ⟨rfl, hb⟩); go_must (have hS := keepB (b := w.heap.size) (cs := #[.int .i64 t, .int .i64 p, .int .i64 s]) (w0 := w) hb (by assumption))) | (go_at_call 14; go_must (refine (H3.out _).mono ?_); go_must (rintro e w' ⟨rfl, hb⟩); go_must (have hS := keepB (b := w.heap.size) (cs := #[.int .i64 t, .int .i64 p, .int .i64 s]) (w0 := w) hb (by assumption))) | (go_at_call 16; go_must (refine (H4.out _).mono ?_); go_must (rintro e w' ⟨rfl, hb⟩); go_must (have hS := keepB (b := w.heap.size) (cs := #[.int .i64 t, .int .i64 p, .int .i64 s]) (w0 := w) hb (by assumption))) | (go_at_call 11; go_must (refine (R1.out _).mono ?_); go_must (rintro e w' ⟨rfl, hb⟩); go_must (have hS := keepB (b := w.heap.size) (cs := #[.int .i64 t, .int .i64 p, .int .i64 s]) (w0 := w) hb (by assumption))) | (go_at_call 13; go_must (refine (R2.out _).mono ?_); go_must (rintro e w' ⟨rfl, hb⟩); go_must (have hS := keepB (b := w.heap.size) (cs := #[.int .i64 t, .int .i64 p, .int .i64 s]) (w0 := w) hb (by assumption))) | (go_at_call 15; go_must (refine (R3.out _).mono ?_); go_must (rintro e w' ⟨rfl, hb⟩); go_must (have hS := keepB (b := w.heap.size) (cs := #[.int .i64 t, .int .i64 p, .int .i64 s]) (w0 := w) hb (by assumption))) | (go_at_call 17; go_must (refine (R4.out _).mono ?_); go_must (rintro e w' ⟨rfl, hb⟩); go_must (have hS := keepB (b := w.heap.size) (cs := #[.int .i64 t, .int .i64 p, .int .i64 s]) (w0 := w) hb (by assumption))) | (go_at_call 18; go_must (refine (HL.out _).mono ?_); go_must (rintro e w' ⟨rfl, hb⟩); go_must (have hS := keepB (b := w.heap.size) (cs := #[.int .i64 t, .int .i64 p, .int .i64 s]) (w0 := w) hb (by assumption))))
  go_wp2
  go_ret
  exact ⟨rfl, hS.2.2⟩

end Go.Proofs.Ytkfcjlampnjfbaa
