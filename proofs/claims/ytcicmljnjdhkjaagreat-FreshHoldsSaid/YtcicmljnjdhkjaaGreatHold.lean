/- the document's audit: Sound, Live, Parts, State of values that are a heap. -/
import Derived.Test.YtcicmljnjdhkjaaGreatAudP
namespace Go.Proofs.YtcicmljnjdhkjaaGreat
open Go.RowKit
section
variable {t p s : Int} {ad : Addr} {n c : Nat} {vs : List Int}

theorem rsound_any (c : Nat) (w : World) (h : XV w t p s ad n vs) :
    Calls Tryz.prog 31 #[.agg #[.int .i64 t, .int .i64 p, .int .i64 s], .slice (some ad) n c] w fun e w' => e = .returned (.bool (chkF vs t p s).2) ∧ Below w.heap.size w w' := by
  have H := Lib.hid (fun w (h : XV w t p s ad n vs) => rcheck_any c w h)
  have h2 := h.keep ((Below.refl _ _).alloc (Nat.le_refl _) (.cells #[.int .i64 t, .int .i64 p, .int .i64 s] 23))
  have HV := Lib.hid h
  have HV2 := Lib.hid h2
  generalize chkF vs t p s = r at *
  clear h h2
  go_enter Tryz.func31, Tryz.ntmps31
  go_wp2_with fail
  refine (H.out _ (by first | exact HV.out | exact HV2.out)).mono ?_
  rintro e w1 ⟨rfl, hb⟩
  go_wp2
  go_ret
  refine ⟨rfl, ?_⟩
  (repeat (first | exact Below.refl _ _ | assumption | refine Below.setCell ?_ (by first | omega | (simp; done) | (simp; omega)) _ | refine Below.alloc ?_ (by first | omega | (simp; done) | (simp; omega)) _ | refine Below.drew ?_ | refine Below.trans ?_ (Below.mono ‹Below _ _ _› (by first | omega | (simp; done) | (simp; omega)))))

theorem rlive_any (c : Nat) (w : World) (h : XV w t p s ad n vs) (hs : (chkF vs t p s).2 = true) :
    Calls Tryz.prog 52 #[.agg #[.int .i64 t, .int .i64 p, .int .i64 s], .slice (some ad) n c] w fun e w' => ∃ v, e = .returned v ∧ RowB w (blocksF vs t p s) v w' := by
  have H := Lib.hid (fun w (h : XV w t p s ad n vs) => rsound_any c w h)
  rw [hs] at H
  have HB := Lib.hid (fun w (h : XV w t p s ad n vs) => blocks_any c w h)
  have h2 := h.keep ((Below.refl _ _).alloc (Nat.le_refl _) (.cells #[.int .i64 t, .int .i64 p, .int .i64 s] 23))
  have HV2 := Lib.hid h2
  generalize blocksF vs t p s = l at *
  have c0 := loc_alloc w #[.int .i64 t, .int .i64 p, .int .i64 s] 23
  have S0 := ((BS.start w).alloc (.cells #[.int .i64 t, .int .i64 p, .int .i64 s] 23))
  have HV := Lib.hid h
  clear h hs h2
  go_enter Tryz.func52, Tryz.ntmps52
  go_wp2_with fail
  refine (calls_b S0 (H.out _ HV2.out)).mono ?_
  rintro e w1 ⟨rfl, S1, S1l⟩
  have c1 := loc_step S1l (by simp) c0
  clear S1l
  have HVa := Lib.hid ((HV.out.keep S1.bel).keep ((Below.refl _ _).alloc (Nat.le_refl _) (.cells #[.int .i64 t, .int .i64 p, .int .i64 s, .slice (some ad) n c] 89)))
  have S2 := S1.alloc (.cells #[.int .i64 t, .int .i64 p, .int .i64 s, .slice (some ad) n c] 89)
  go_wp2_with fail
  refine (HB.out _ HVa.out).mono ?_
  rintro e w2 ⟨v, rfl, hr, hf, hb⟩
  go_wp2
  go_ret
  exact ⟨v, rfl, hr, fun k hk => Nat.le_trans S2.bel.size (hf k hk), S2.bel.trans (hb.mono S2.bel.size)⟩

theorem rparts_any (c : Nat) (w : World) (h : XV w t p s ad n vs) (hs : (chkF vs t p s).2 = true) :
    Calls Tryz.prog 24 #[.agg #[.int .i64 t, .int .i64 p, .int .i64 s], .slice (some ad) n c] w fun e w' => ∃ v, e = .returned v ∧ RowQ w (partsF vs t p s) v w' := by
  have H := Lib.hid (fun w (h : XV w t p s ad n vs) => rsound_any c w h)
  rw [hs] at H
  have HB := Lib.hid (fun w (h : XV w t p s ad n vs) => parts_any c w h)
  have h2 := h.keep ((Below.refl _ _).alloc (Nat.le_refl _) (.cells #[.int .i64 t, .int .i64 p, .int .i64 s] 23))
  have HV2 := Lib.hid h2
  generalize partsF vs t p s = l at *
  have c0 := loc_alloc w #[.int .i64 t, .int .i64 p, .int .i64 s] 23
  have S0 := ((BS.start w).alloc (.cells #[.int .i64 t, .int .i64 p, .int .i64 s] 23))
  have HV := Lib.hid h
  clear h hs h2
  go_enter Tryz.func24, Tryz.ntmps24
  go_wp2_with fail
  refine (calls_b S0 (H.out _ HV2.out)).mono ?_
  rintro e w1 ⟨rfl, S1, S1l⟩
  have c1 := loc_step S1l (by simp) c0
  clear S1l
  have HVa := Lib.hid ((HV.out.keep S1.bel).keep ((Below.refl _ _).alloc (Nat.le_refl _) (.cells #[.int .i64 t, .int .i64 p, .int .i64 s, .slice (some ad) n c] 89)))
  have S2 := S1.alloc (.cells #[.int .i64 t, .int .i64 p, .int .i64 s, .slice (some ad) n c] 89)
  go_wp2_with fail
  refine (HB.out _ HVa.out).mono ?_
  rintro e w2 ⟨v, rfl, hr, hf, hb⟩
  go_wp2
  go_ret
  exact ⟨v, rfl, hr, fun k hk => Nat.le_trans S2.bel.size (hf k hk), S2.bel.trans (hb.mono S2.bel.size)⟩


def rootV (vs : List Int) (k i : Nat) : Value := .int .i64 (if i < k then vs.getD (22 + i) 0 else 0)
def stateC (lv : Value) (vs : List Int) (k : Nat) : Array Value := #[lv, rootV vs k 0, rootV vs k 1, rootV vs k 2, rootV vs k 3, rootV vs k 4, rootV vs k 5, rootV vs k 6, rootV vs k 7]
structure StateR (w : World) (l : List (Int × Int)) (v : Value) (vs : List Int) (g : Nat) (wr : World) (k : Nat) : Prop where
  le : k ≤ 8
  box : BA w [w.heap.size + 1, w.heap.size] g (stateC v vs k) 33 wr
  res : wr.heap[w.heap.size + 1]? = some (.cells #[.slice none 0 0, .int .i64 0, .int .i64 0, .int .i64 0, .int .i64 0, .int .i64 0, .int .i64 0, .int .i64 0, .int .i64 0] 33)
  row : wr.ownsRow 0 79 2 v l.length (blockCells l)
  far : ∀ k, v.ownBlock = some k → w.heap.size + 2 ≤ k ∧ k < g
theorem StateR.below {w wr w' : World} {l : List (Int × Int)} {v : Value} {g k : Nat} (h : StateR w l v vs g wr k) (hb : Below wr.heap.size wr w') : StateR w l v vs g w' k := by
  obtain ⟨h1, h2, h3, h4, h5⟩ := h
  refine ⟨h1, ⟨h2.bs.below hb, (hb.block g (h2.bs.ls g (by simp)).1).trans h2.box, h2.ne⟩, (hb.block _ (h2.bs.ls (w.heap.size + 1) (by simp)).1).trans h3, ((BS.start _).below hb).row h4, h5⟩
theorem stateC_step (v : Value) (vs : List Int) (k : Nat) (hk : k < 8) : (stateC v vs k).setIfInBounds (1 + k) (.int .i64 (vs.getD (22 + k) 0)) = stateC v vs (k + 1) := by
  rcases (by omega : k = 0 ∨ k = 1 ∨ k = 2 ∨ k = 3 ∨ k = 4 ∨ k = 5 ∨ k = 6 ∨ k = 7) with rfl | rfl | rfl | rfl | rfl | rfl | rfl | rfl <;> simp [stateC, rootV]
theorem StateR.step {w wr : World} {l : List (Int × Int)} {v : Value} {g k : Nat} (h : StateR w l v vs g wr k) (hk : k < 8) : StateR w l v vs g (wr.setCell ⟨g, 1 + k, none⟩ (.int .i64 (vs.getD (22 + k) 0))) (k + 1) := by
  obtain ⟨h1, h2, h3, h4, h5⟩ := h
  refine ⟨by omega, ?_, h2.hloc (by simp) _ _ h3, ownsRow_block h4 (fun b hb => heap_setCell_other (by have := h5 b hb; omega)), h5⟩
  have := h2.set (1 + k) (.int .i64 (vs.getD (22 + k) 0))
  rwa [stateC_step v vs k hk] at this
theorem stateC_at (v : Value) (vs : List Int) (k : Nat) (hk : k < 8) : ∃ z, (stateC v vs k)[1 + k]? = some z := by
  rcases (by omega : k = 0 ∨ k = 1 ∨ k = 2 ∨ k = 3 ∨ k = 4 ∨ k = 5 ∨ k = 6 ∨ k = 7) with rfl | rfl | rfl | rfl | rfl | rfl | rfl | rfl <;> exact ⟨_, rfl⟩
def StateRel (w : World) (l : List (Int × Int)) (v : Value) (vs : List Int) (g : Nat) (i : Value) (wr : World) : Prop := ∃ k : Nat, i = .int .i64 k ∧ StateR w l v vs g wr k
theorem rstate_any (c : Nat) (w : World) (h : XV w t p s ad n vs) (hs : (chkF vs t p s).2 = true) :
    Calls Tryz.prog 16 #[.agg #[.int .i64 t, .int .i64 p, .int .i64 s], .slice (some ad) n c] w fun e w' => ∃ v, e = .returned (.tuple #[.agg (stateC v vs 8), .bool true]) ∧ RowB w (blocksF vs t p s) v w' := by
  have H := Lib.hid (fun w (h : XV w t p s ad n vs) => rsound_any c w h)
  rw [hs] at H
  have HB := Lib.hid (fun w (h : XV w t p s ad n vs) => rlive_any c w h hs)
  have HRo := Lib.hid (fun (k : Nat) w (h : k < 8) => rroot_any k w h)
  generalize blocksF vs t p s = l at *
  have c0 := loc_old (.cells (stateC (.slice none 0 0) vs 0) 33) (by simp) (loc_alloc w #[.int .i64 t, .int .i64 p, .int .i64 s] 23)
  have S0 := ((BS.start w).alloc (.cells #[.int .i64 t, .int .i64 p, .int .i64 s] 23)).alloc (.cells (stateC (.slice none 0 0) vs 0) 33)
  have HV2 := Lib.hid (h.keep S0.bel)
  have HV := Lib.hid h
  clear h hs
  have hz : stateC (.slice none 0 0) vs 0 = #[.slice none 0 0, .int .i64 0, .int .i64 0, .int .i64 0, .int .i64 0, .int .i64 0, .int .i64 0, .int .i64 0, .int .i64 0] := by simp [stateC, rootV]
  rw [hz] at c0 S0 HV2
  simp only [World.size_alloc] at S0
  go_enter Tryz.func16, Tryz.ntmps16
  go_wp2_with fail
  refine (calls_b S0 (H.out _ HV2.out)).mono ?_
  rintro e w1 ⟨rfl, S1, S1k⟩
  have c1 := loc_step S1k (by simp) c0
  have HVa := Lib.hid (HV.out.keep S1.bel)
  have r1 : w1.heap[w.heap.size + 1]? = some (.cells #[.slice none 0 0, .int .i64 0, .int .i64 0, .int .i64 0, .int .i64 0, .int .i64 0, .int .i64 0, .int .i64 0, .int .i64 0] 33) := by
    rw [S1k (w.heap.size + 1) (by simp), ← hz]
    exact hb_alloc _ _ _ (by simp)
  clear S0 c0 HV2 S1k
  go_wp2_with fail
  refine (HB.out _ HVa.out).mono ?_
  rintro e w2 ⟨v, rfl, hr, hf, hb⟩
  obtain ⟨va, vc, rfl⟩ := row_shape hr
  have S2 := S1.below hb
  have r2 := (hb.block (w.heap.size + 1) (S1.ls (w.heap.size + 1) (by simp)).1).trans r1
  have A2 := S2.allocd (stateC (.slice va l.length vc) vs 0) 33
  have HR : StateR w l (.slice va l.length vc) vs w2.heap.size (w2.alloc (.cells (stateC (.slice va l.length vc) vs 0) 33)) 0 := by
    refine ⟨by omega, A2, (heap_alloc_old _ _ (S2.ls (w.heap.size + 1) (by simp)).1).trans r2, hr.alloc _, fun k hk => ⟨?_, ownsRow_lt hr hk⟩⟩
    have := hf k hk
    have := (S1.ls (w.heap.size + 1) (by simp)).1
    omega
  have hz2 : stateC (.slice va l.length vc) vs 0 = #[.slice va l.length vc, .int .i64 0, .int .i64 0, .int .i64 0, .int .i64 0, .int .i64 0, .int .i64 0, .int .i64 0, .int .i64 0] := by simp [stateC, rootV]
  have HVb := Lib.hid (HVa.out.keep hb)
  have hbw2 := S2.bel.size
  have HRs : StateRel w l (.slice va l.length vc) vs w2.heap.size (.int .i64 0) (w2.alloc (.cells (stateC (.slice va l.length vc) vs 0) 33)) := ⟨0, rfl, HR⟩
  rw [hz2] at HRs
  have hg1 : w.heap.size + 1 < w2.heap.size := (S2.ls (w.heap.size + 1) (by simp)).1
  clear r1 r2 A2 hr hf hb S1 S2 HR
  go_wp2
  go_loopw [7] (fun i wr => StateRel w l (.slice va l.length vc) vs w2.heap.size i wr) (fun i _ => 8 - (intOf i).toNat)
  case atStart => exact HRs
  case round =>
    clear HRs
    obtain ⟨k, rfl, hR⟩ := hrel
    have HX := Lib.hid hR
    have hle := hR.le
    clear hR
    by_cases hlt : k < 8
    · go_wp2_with fail
      refine (HRo.out k _ hlt).mono ?_
      rintro e w3 ⟨rfl, b3⟩
      have hR3 := HX.out.below b3
      obtain ⟨z, hz3⟩ := stateC_at (.slice va l.length vc) vs k hlt
      have q3 : w3.cell? ⟨w2.heap.size, 1 + k, none⟩ = some z := (cell?_of_heap hR3.box.box).trans hz3
      have f3 : w3.frozen? ⟨w2.heap.size, 1 + k, none⟩ = false := frozen?_of_heap hR3.box.box
      have hx3 := HV.out.keep hR3.box.bs.bel
      have hnum := hx3.num
      have hbd := hx3.bd
      have c3 := hx3.cells (22 + k) (by omega)
      have hlt2 : ((22 + k : Nat) : Int) < n := by omega
      have hub := getD_u32 hx3.u32 (22 + k)
      unfold VS.U32 at hub
      have hw : IntKind.i64.wrap (vs.getD (22 + k) 0) = vs.getD (22 + k) 0 := wrap_in _ (by omega)
      have HS3 := Lib.hid (hR3.step hlt)
      clear hR3 hz3 hx3 hnum hbd b3
      generalize vs.getD (22 + k) 0 = x at *
      generalize 22 + k = m at *
      go_wp2
      go_roundw
      case rel => exact ⟨k + 1, by go_num, HS3.out⟩
      case measure => simp [intOf]; omega
    · have h8 : k = 8 := by omega
      have hB := HX.out.box
      have h0 := HX.out.res
      rw [h8] at hB
      have hS8 : stateC (.slice va l.length vc) vs 8 = #[.slice va l.length vc, rootV vs 8 0, rootV vs 8 1, rootV vs 8 2, rootV vs 8 3, rootV vs 8 4, rootV vs 8 5, rootV vs 8 6, rootV vs 8 7] := rfl
      have hrow := HX.out.row
      have hfar := HX.out.far
      have hne : w.heap.size + 1 ≠ w2.heap.size := by omega
      have HS8 := Lib.hid hS8
      rw [hS8] at hB
      have hroot : ∀ i, ∃ y, rootV vs 8 i = .int .i64 y := fun i => ⟨_, rfl⟩
      obtain ⟨y0, e0⟩ := hroot 0
      obtain ⟨y1, e1⟩ := hroot 1
      obtain ⟨y2, e2⟩ := hroot 2
      obtain ⟨y3, e3⟩ := hroot 3
      obtain ⟨y4, e4⟩ := hroot 4
      obtain ⟨y5, e5⟩ := hroot 5
      obtain ⟨y6, e6⟩ := hroot 6
      obtain ⟨y7, e7⟩ := hroot 7
      rw [e0, e1, e2, e3, e4, e5, e6, e7] at hB
      rw [e0, e1, e2, e3, e4, e5, e6, e7] at HS8
      have a0 := cell?_of_heap (o := 0) hB.box
      have a1 := cell?_of_heap (o := 1) hB.box
      have a2 := cell?_of_heap (o := 2) hB.box
      have a3 := cell?_of_heap (o := 3) hB.box
      have a4 := cell?_of_heap (o := 4) hB.box
      have a5 := cell?_of_heap (o := 5) hB.box
      have a6 := cell?_of_heap (o := 6) hB.box
      have a7 := cell?_of_heap (o := 7) hB.box
      have a8 := cell?_of_heap (o := 8) hB.box
      have d0 := cell?_of_heap (o := 0) h0
      have d1 := cell?_of_heap (o := 1) h0
      have d2 := cell?_of_heap (o := 2) h0
      have d3 := cell?_of_heap (o := 3) h0
      have d4 := cell?_of_heap (o := 4) h0
      have d5 := cell?_of_heap (o := 5) h0
      have d6 := cell?_of_heap (o := 6) h0
      have d7 := cell?_of_heap (o := 7) h0
      have d8 := cell?_of_heap (o := 8) h0
      have j0 := frozen?_of_heap (o := 0) h0
      have j1 := frozen?_of_heap (o := 1) h0
      have j2 := frozen?_of_heap (o := 2) h0
      have j3 := frozen?_of_heap (o := 3) h0
      have j4 := frozen?_of_heap (o := 4) h0
      have j5 := frozen?_of_heap (o := 5) h0
      have j6 := frozen?_of_heap (o := 6) h0
      have j7 := frozen?_of_heap (o := 7) h0
      have j8 := frozen?_of_heap (o := 8) h0
      simp at a0 a1 a2 a3 a4 a5 a6 a7 a8 d0 d1 d2 d3 d4 d5 d6 d7 d8
      have HBs := Lib.hid hB.bs
      have HRow := Lib.hid hrow
      have HFar := Lib.hid hfar
      clear hB h0 hrow hfar hS8 hroot e0 e1 e2 e3 e4 e5 e6 e7
      go_wp2
      refine bodyPost_ret (v := .tuple #[.agg #[.slice va l.length vc, .int .i64 y0, .int .i64 y1, .int .i64 y2, .int .i64 y3, .int .i64 y4, .int .i64 y5, .int .i64 y6, .int .i64 y7], .bool true]) (by simp [results, Tryz.results16, go_sem, *]) rfl ⟨_, by rw [HS8.out], ownsRow_block HRow.out (fun b hb => ?_), fun b hb => by have := HFar.out b hb; omega, ?_⟩
      · have hnb : b ≠ w.heap.size + 1 := by have := HFar.out b hb; omega
        repeat rw [heap_setCell_other hnb]
      · have hm : w.heap.size + 1 ∈ [w2.heap.size, w.heap.size + 1, w.heap.size] := by simp
        exact (((((((((HBs.out.setCell hm 0 _).setCell hm 1 _).setCell hm 2 _).setCell hm 3 _).setCell hm 4 _).setCell hm 5 _).setCell hm 6 _).setCell hm 7 _).setCell hm 8 _).bel
end
end Go.Proofs.YtcicmljnjdhkjaaGreat
