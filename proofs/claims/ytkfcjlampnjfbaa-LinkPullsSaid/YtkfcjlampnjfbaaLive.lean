/- the page's example; Few. -/
import Derived.Test.YtkfcjlampnjfbaaRefEnd
import Derived.Deep.OwnRows
namespace Go.Proofs.Ytkfcjlampnjfbaa
open Go.RowKit

theorem few_any (t p s : Int) (w : World) :
    Calls Try.prog 19 #[.agg #[.int .i64 t, .int .i64 p, .int .i64 s]] w fun e w' => e = .returned (.bool (decide (p ≤ 64))) ∧ Below w.heap.size w w' := by
  go_enter Try.func19, Try.ntmps19
  go_wp2
  go_ret
  refine ⟨rfl, ?_⟩
  (repeat (first | exact Below.refl _ _ | assumption | refine Below.setCell ?_ (by first | omega | (simp; done) | (simp; omega)) _ | refine Below.alloc ?_ (by first | omega | (simp; done) | (simp; omega)) _ | refine Below.drew ?_ | refine Below.trans ?_ (Below.mono ‹Below _ _ _› (by first | omega | (simp; done) | (simp; omega)))))

theorem VSt.of_new {w w1 w2 : World} {b : Nat} {s : VS} {Ls : List Nat} (h : PV w2 b (fun k => w1.heap.size ≤ k ∧ k < w2.heap.size) s) (hb : Below w.heap.size w w2) (h1 : w.heap.size ≤ w1.heap.size) (hL : ∀ L ∈ Ls, L < w1.heap.size ∧ w.heap.size ≤ L) (h2 : w1.heap.size ≤ w2.heap.size) : VSt PV w b (fun _ => False) Ls s w2 :=
  ⟨⟨_, h, fun k hk => Or.inr (by omega), fun L hm x => by have := hL L hm; omega⟩, Fr.of_below hb, fun L hm => by have := hL L hm; omega, fun _ x => x.elim⟩

def liveS : VS := pushF 1 4 10 2 2 (wholeVS (List.replicate 58 0))
theorem live1 : (liveS.get 2).1 = 3 := by decide +kernel
theorem live2 : ((liveS.get 2).2.get (ofF 1 4 10 2 2)).1 = 0 := by decide +kernel
theorem live3 : (walkF 1 4 10 2 ((liveS.get 2).2.get (ofF 1 4 10 2 2)).2).1 = [2] := by decide +kernel

theorem made58 : madeCells #[.int .u32 0] 58 = (uints (List.replicate 58 0)).toArray := by kernel_rfl
theorem rd58 (w : World) : Rd (w.alloc (.cells (madeCells #[.int .u32 0] 58) 72)) (.slice (some ⟨w.heap.size, 0, none⟩) 58 58) 1 58 (uints (List.replicate 58 0)) := by
  refine ⟨by simp [uints], Or.inr ⟨_, _, rfl, fun j u hj => ?_⟩⟩
  rw [made58]
  have e : (⟨w.heap.size, 0, none⟩ : Addr).add j = ⟨w.heap.size, j, none⟩ := by simp [Addr.add]; omega
  rw [e, cell?_of_heap (heap_alloc_new w _)]
  simpa using hj

theorem row_one (w : World) (u : Value) (e : TypeId) : (w.alloc (.cells #[u] e)).ownsRow 0 e 1 (.slice (some ⟨w.heap.size, 0, none⟩) 1 1) 1 [u] :=
  ⟨by simp, Or.inr ⟨w.heap.size, 1, #[u], rfl, Nat.zero_le _, heap_alloc_new w _, Nat.le_refl _, by unfold maxLen; omega, by simp, by simp⟩⟩

set_option maxRecDepth 100000 in
theorem live_any (w : World) : Calls Try.prog 21 #[] w fun e w' => e = .returned (.bool true) ∧ Below w.heap.size w w' := by
  have hmk : ∀ w : World, (Instr.makeSlice 27 (.int .i64 58) (.int .i64 58)).run Try.prog w = .ok (.slice (some ⟨w.heap.size, 0, none⟩) 58 58) (w.alloc (.cells (madeCells #[.int .u32 0] 58) 72)) := run_make_row' (P := Try.prog) 27 72 (.int .u32 0) 4 Try.underlying27 infoU32 rfl .i64 .i64 58 (by omega) (by omega)
  have hR := Lib.hid (rd58 (w.alloc (.cells #[.int .i64 1, .int .i64 4, .int .i64 10] 23)))
  have c0 := loc_alloc w #[.int .i64 1, .int .i64 4, .int .i64 10] 23
  have HS0 := Lib.hid (show liveS = pushF 1 4 10 2 2 (wholeVS (List.replicate 58 0)) from rfl)
  have L1 := Lib.hid live1
  have L2 := Lib.hid live2
  have L3 := Lib.hid live3
  generalize liveS = st at *
  simp only [World.size_alloc] at hR
  go_enter Try.func21, Try.ntmps21
  go_wp2_with fail
  refine (whole_any _ _ _ hR.out (by rw [List.length_replicate]; omega) (by intro v hv; rw [List.eq_of_mem_replicate hv]; exact VS.u32_zero)).mono ?_
  rintro e w1 ⟨b, rfl, hP, hB⟩
  have zB := hB.size
  simp at zB
  have hV := VSt.of_new (w := w) (Ls := [w.heap.size]) hP (((Below.refl _ _).alloc (Nat.le_refl _) _ |>.alloc (by simp) _).trans (hB.mono (by simp; omega))) (by simp; omega) (by simp; omega) hB.size
  have c1 : ∀ o : Nat, w1.cell? ⟨w.heap.size, o, none⟩ = (#[.int .i64 1, .int .i64 4, .int .i64 10] : Array Value)[o]? := fun o => (World.cell?_of_block (a := ⟨w.heap.size, o, none⟩) ((hB.block w.heap.size (by simp only [World.size_alloc]; omega)).trans (Below.heap_alloc _ _ _ (by simp)))).trans (c0 o)
  clear hP hB c0
  go_wp2_with fail
  refine (calls_st hV (fun S1 h1 => push_any b 1 4 10 2 2 _ S1 _ h1 (by omega))).mono ?_
  rintro e w2 ⟨rfl, hV2, hV2l⟩
  have c2 := loc_step hV2l (by simp) c1
  clear hV2l
  rw [← HS0.out] at hV2
  have hG1 : ∀ (w : World) (S1 : Nat → Prop), PV w b S1 st → Calls Try.prog 53 #[.pointer (some ⟨b, 0, none⟩), .int .i64 2] w fun e w' => e = .returned (.int .u32 3) ∧ Now w b S1 (st.get 2).2 w' := by
    intro w S1 h1
    have := get_any b 2 w S1 st h1
    rwa [L1.out] at this
  have HG1 := Lib.hid hG1
  clear hG1
  generalize (st.get 2).2 = s1 at *
  have hG2 : ∀ (w : World) (S1 : Nat → Prop), PV w b S1 s1 → Calls Try.prog 53 #[.pointer (some ⟨b, 0, none⟩), .int .i64 (ofF 1 4 10 2 2)] w fun e w' => e = .returned (.int .u32 0) ∧ Now w b S1 (s1.get (ofF 1 4 10 2 2)).2 w' := by
    intro w S1 h1
    have := get_any b (ofF 1 4 10 2 2) w S1 s1 h1
    rwa [L2.out] at this
  have HG2 := Lib.hid hG2
  clear hG2
  generalize (s1.get (ofF 1 4 10 2 2)).2 = s2 at *
  clear hmk hR HS0 L1 L2 hV c1
  go_wp2_with fail
  refine (calls_st hV2 (HG1.out _)).mono ?_
  rintro e w3 ⟨rfl, hV3, hV3l⟩
  have c3 := loc_step hV3l (by simp) c2
  clear hV3l
  go_wp2_with fail
  refine (calls_bl keepsPV hV3 (rnext_any _ _ _ _ _)).mono ?_
  rintro e w4 ⟨rfl, hV4, hV4l⟩
  have c4 := loc_step hV4l (by simp) c3
  clear hV4l
  go_wp2_with fail
  refine (calls_st hV4 (HG2.out _)).mono ?_
  rintro e w5 ⟨rfl, hV5, hV5l⟩
  have c5 := loc_step hV5l (by simp) c4
  clear hV5l
  go_wp2_with fail
  obtain ⟨S1, p1, p2, p3⟩ := hV5.ex
  have hF5 := hV5.fr
  refine (walk_any b 1 4 10 2 w5 S1 s2 p1 (by omega)).mono ?_
  rintro e w6 ⟨v6, rfl, o6, hV6⟩
  rw [L3.out] at o6
  have hF6 : Below w.heap.size w w6 := (hF5.trans hV6.fr p2).below (Nat.le_refl _) (fun _ x => x.elim)
  have z6 := hF6.size
  have HO6 := Lib.hid o6
  clear hV6 p1 p2 p3 hV2 hV3 hV4 hV5 hF5 o6
  go_wp2_with fail
  refine (ints_any [2] [2] v6 _ _ (HO6.out.alloc _) (row_one _ _ _) (by simp) (by simp)).mono ?_
  rintro e w7 ⟨rfl, b7⟩
  simp only [decide_true]
  go_wp2
  go_ret
  refine ⟨rfl, (hF6.alloc z6 _).trans (b7.mono (by simp; omega))⟩

end Go.Proofs.Ytkfcjlampnjfbaa
