/- lines: how the program finds a form. -/
import Derived.Test.YtloilknkhloegaaDoorLinQ
set_option linter.unusedSimpArgs false
set_option linter.unusedVariables false
namespace Go.Proofs.YtloilknkhloegaaDoor
open Go.RowKit

/-- the two cells of an entry that its form hangs on. -/
def KindAt (w : World) (b : Nat) (k z : Int) : Prop := w.cell? ⟨b, 0, none⟩ = some (.int .i64 k) ∧ w.cell? ⟨b, 3, none⟩ = some (.int .i64 z)
theorem KindAt.step {w w' : World} {b : Nat} {k z : Int} (h : KindAt w b k z) (hb : Below w.heap.size w w') : KindAt w' b k z :=
  ⟨(hb.cell (World.block_lt_of_cell? w _ h.1)).trans h.1, (hb.cell (World.block_lt_of_cell? w _ h.2)).trans h.2⟩
set_option maxHeartbeats 1000000 in
set_option maxRecDepth 100000 in
theorem idx1_any (b : Nat) (x : List UInt8) (g : Nat) (w : World) (h : w.heap[g]? = some (.cells formsC 76)) (hx : Word0 w b x) :
    Calls Tryd.prog 53 #[.slice (some ⟨g, 0, none⟩) 14 14, .func (.func 39) #[] #[.pointer (some ⟨b, 0, none⟩)]] w fun e w' => e = .returned (.int .i64 (idxF (fun f => f.w == x) formsL 0)) ∧ Below w.heap.size w w' := by
  have H := Lib.hid h
  have HX := Lib.hid hx
  have hlt : g < w.heap.size := (Array.getElem?_eq_some_iff.1 h).1
  clear h hx
  go_enter Tryd.func53, Tryd.ntmps53
  go_wp2
  go_loopw [5, 8] (fun _ i wr => IdxL (fun f => f.w == x) w i wr) (fun _ i _ => 14 - (intOf i).toNat)
  case atStart => exact ⟨0, by omega, rfl, rfl, Below.refl _ _⟩
  case round =>
    obtain ⟨k, hk, rfl, hi, hb⟩ := hrel
    by_cases hlt2 : k < 14
    · obtain ⟨f, hf⟩ : ∃ f, formsL[k]? = some f := ⟨_, List.getElem?_eq_getElem hlt2⟩
      obtain ⟨c0, c1, c2, c3⟩ := form_cells ((hb.block g hlt).trans H.out) k f hf
      have hs := idxF_step (fun f => f.w == x) k f hf
      rw [hi] at hs
      have HB := Lib.hid hb
      have HX2 := Lib.hid (HX.out.step hb)
      have hki : (k : Int) < 14 := by omega
      have HC := Lib.hid (parse1_any f b x wr HX2.out)
      obtain ⟨q, hq⟩ : ∃ q, (f.w == x) = q := ⟨_, rfl⟩
      simp only [hq] at hs
      have HS2 := Lib.hid hs
      have HC2 : Hid (Calls Tryd.prog 39 #[.agg #[.string (bs f.w), .int .i64 f.k, .int .i64 f.o, .string (bs f.ns)], .pointer (some ⟨b, 0, none⟩)] wr fun e w' => e = .returned (.bool q) ∧ Below wr.heap.size wr w') := Lib.hid (by rw [← hq]; exact HC.out)
      clear hi hb hs hf HC hq
      cases q
      · go_wp2_with fail
        refine HC2.out.mono ?_
        rintro e w1 ⟨rfl, b1⟩
        go_wp2
        go_roundw
        case rel => exact ⟨k + 1, by omega, by go_num, by have := HS2.out; simpa using this.symm, HB.out.trans (b1.mono HB.out.size)⟩
        case measure => simp [intOf]; omega
      · go_wp2_with fail
        refine HC2.out.mono ?_
        rintro e w1 ⟨rfl, b1⟩
        go_wp2
        go_ret
        exact ⟨ret_int (by have := HS2.out; simpa using this.symm), HB.out.trans (b1.mono HB.out.size)⟩
    · obtain rfl : k = 14 := by omega
      have HI := Lib.hid hi
      clear hi
      go_wp2
      go_ret
      exact ⟨ret_int (by rw [← HI.out]; rfl), hb⟩
set_option maxHeartbeats 1000000 in
set_option maxRecDepth 100000 in
theorem find1_yes (b : Nat) (x : List UInt8) (f : Fm) (k : Nat) (w : World) (hf : formsL[k]? = some f) (hk : idxF (fun f => f.w == x) formsL 0 = k) (hx : Word0 w b x) :
    Calls Tryd.prog 38 #[.func (.func 39) #[] #[.pointer (some ⟨b, 0, none⟩)]] w fun e w' => e = .returned (.tuple #[.agg #[.string (bs f.w), .int .i64 f.k, .int .i64 f.o, .string (bs f.ns)], .bool true]) ∧ Below w.heap.size w w' := by
  have HX := Lib.hid hx
  have HI := Lib.hid (fun g w h hx => idx1_any b x g w h hx)
  rw [hk] at HI
  have HF := Lib.hid hf
  have hkl : k < 14 := (List.getElem?_eq_some_iff.1 hf).1
  have hki : (k : Int) < 14 := by omega
  clear hx hk hf
  go_enter Tryd.func38, Tryd.ntmps38
  go_wp2_with fail
  refine (forms_any _).mono ?_
  rintro e w1 ⟨rfl, hw1⟩
  have B0 : Below w.heap.size w (w.alloc (.cells #[.string .empty, .int .i64 0, .int .i64 0, .string .empty] 76)) := (Below.refl _ _).alloc (Nat.le_refl _) _
  have B1 : Below w.heap.size w w1 := by rw [hw1]; exact B0.alloc (by simp) _
  have hg : w1.heap[w.heap.size + 1]? = some (.cells formsC 76) := by
    have := heap_alloc_new (w.alloc (.cells #[.string .empty, .int .i64 0, .int .i64 0, .string .empty] 76)) (.cells formsC 76)
    rw [World.size_alloc] at this
    rw [hw1]
    exact this
  have hz1 : w.heap.size + 2 = w1.heap.size := by rw [hw1]; simp
  have hr : w1.heap[w.heap.size]? = some (.cells #[.string .empty, .int .i64 0, .int .i64 0, .string .empty] 76) := by
    rw [hw1, ((Below.refl (w.heap.size + 1) (w.alloc _)).alloc (by simp) (.cells formsC 76)).block w.heap.size (by simp)]
    exact heap_alloc_new w _
  have HX1 := Lib.hid (HX.out.step B1)
  have HG := Lib.hid hg
  have HR := Lib.hid hr
  have HB1 := Lib.hid B1
  have hz1b : w.heap.size < w1.heap.size := by omega
  have hz1c : w.heap.size + 1 < w1.heap.size := by omega
  clear B0 B1 hg hr hw1 hz1
  go_wp2_with fail
  refine (HI.out _ _ (by simpa using HG.out) HX1.out).mono ?_
  rintro e w2 ⟨rfl, b2⟩
  have hr2 := (b2.block w.heap.size hz1b).trans HR.out
  have hg2 := (b2.block (w.heap.size + 1) hz1c).trans HG.out
  obtain ⟨c0, c1, c2, c3⟩ := form_cells hg2 k f HF.out
  clear hg2
  have d0 := cell?_of_heap (o := 0) hr2
  have d1 := cell?_of_heap (o := 1) hr2
  have d2 := cell?_of_heap (o := 2) hr2
  have d3 := cell?_of_heap (o := 3) hr2
  have e0 := frozen?_of_heap (o := 0) hr2
  have e1 := frozen?_of_heap (o := 1) hr2
  have e2 := frozen?_of_heap (o := 2) hr2
  have e3 := frozen?_of_heap (o := 3) hr2
  simp at d0 d1 d2 d3
  have HB2 := Lib.hid (HB1.out.trans (b2.mono HB1.out.size))
  clear hr2 b2
  go_wp2
  refine bodyPost_ret (v := .tuple #[.agg #[.string (bs f.w), .int .i64 f.k, .int .i64 f.o, .string (bs f.ns)], .bool true]) (by simp [results, Tryd.results38, go_sem, d0, d1, d2, d3, e0, e1, e2, e3]) rfl ⟨rfl, ?_⟩
  exact (((HB2.out.setCell (Nat.le_refl _) _).setCell (Nat.le_refl _) _).setCell (Nat.le_refl _) _).setCell (Nat.le_refl _) _
set_option maxHeartbeats 1000000 in
set_option maxRecDepth 100000 in
theorem find1_no (b : Nat) (x : List UInt8) (w : World) (hk : idxF (fun f => f.w == x) formsL 0 = -1) (hx : Word0 w b x) :
    Calls Tryd.prog 38 #[.func (.func 39) #[] #[.pointer (some ⟨b, 0, none⟩)]] w fun e w' => e = .returned (.tuple #[.agg #[.string ⟨#[]⟩, .int .i64 0, .int .i64 0, .string ⟨#[]⟩], .bool false]) ∧ Below w.heap.size w w' := by
  have HX := Lib.hid hx
  have HI := Lib.hid (fun g w h hx => idx1_any b x g w h hx)
  rw [hk] at HI
  clear hx hk
  go_enter Tryd.func38, Tryd.ntmps38
  go_wp2_with fail
  refine (forms_any _).mono ?_
  rintro e w1 ⟨rfl, hw1⟩
  have B0 : Below w.heap.size w (w.alloc (.cells #[.string .empty, .int .i64 0, .int .i64 0, .string .empty] 76)) := (Below.refl _ _).alloc (Nat.le_refl _) _
  have B1 : Below w.heap.size w w1 := by rw [hw1]; exact B0.alloc (by simp) _
  have hg : w1.heap[w.heap.size + 1]? = some (.cells formsC 76) := by
    have := heap_alloc_new (w.alloc (.cells #[.string .empty, .int .i64 0, .int .i64 0, .string .empty] 76)) (.cells formsC 76)
    rw [World.size_alloc] at this
    rw [hw1]
    exact this
  have hz1 : w.heap.size + 2 = w1.heap.size := by rw [hw1]; simp
  have hr : w1.heap[w.heap.size]? = some (.cells #[.string .empty, .int .i64 0, .int .i64 0, .string .empty] 76) := by
    rw [hw1, ((Below.refl (w.heap.size + 1) (w.alloc _)).alloc (by simp) (.cells formsC 76)).block w.heap.size (by simp)]
    exact heap_alloc_new w _
  have HX1 := Lib.hid (HX.out.step B1)
  have HG := Lib.hid hg
  have HR := Lib.hid hr
  have HB1 := Lib.hid B1
  have hz1b : w.heap.size < w1.heap.size := by omega
  have hz1c : w.heap.size + 1 < w1.heap.size := by omega
  clear B0 B1 hg hr hw1 hz1
  go_wp2_with fail
  refine (HI.out _ _ (by simpa using HG.out) HX1.out).mono ?_
  rintro e w2 ⟨rfl, b2⟩
  have hr2 := (b2.block w.heap.size hz1b).trans HR.out
  have d0 := cell?_of_heap (o := 0) hr2
  have d1 := cell?_of_heap (o := 1) hr2
  have d2 := cell?_of_heap (o := 2) hr2
  have d3 := cell?_of_heap (o := 3) hr2
  have e0 := frozen?_of_heap (o := 0) hr2
  have e1 := frozen?_of_heap (o := 1) hr2
  have e2 := frozen?_of_heap (o := 2) hr2
  have e3 := frozen?_of_heap (o := 3) hr2
  simp at d0 d1 d2 d3
  have HB2 := Lib.hid (HB1.out.trans (b2.mono HB1.out.size))
  clear hr2 b2
  go_wp2
  refine bodyPost_ret (v := .tuple #[.agg #[.string ⟨#[]⟩, .int .i64 0, .int .i64 0, .string ⟨#[]⟩], .bool false]) (by simp [results, Tryd.results38, go_sem, d0, d1, d2, d3, e0, e1, e2, e3]) rfl ⟨rfl, ?_⟩
  exact (((HB2.out.setCell (Nat.le_refl _) _).setCell (Nat.le_refl _) _).setCell (Nat.le_refl _) _).setCell (Nat.le_refl _) _
set_option maxHeartbeats 1000000 in
set_option maxRecDepth 100000 in
theorem idx2_any (b : Nat) (ek eo : Int) (g : Nat) (w : World) (h : w.heap[g]? = some (.cells formsC 76)) (hx : KindAt w b ek eo) :
    Calls Tryd.prog 53 #[.slice (some ⟨g, 0, none⟩) 14 14, .func (.func 45) #[] #[.pointer (some ⟨b, 0, none⟩)]] w fun e w' => e = .returned (.int .i64 (idxF (fun f => f.k == ek && f.o == eo) formsL 0)) ∧ Below w.heap.size w w' := by
  have H := Lib.hid h
  have HX := Lib.hid hx
  have hlt : g < w.heap.size := (Array.getElem?_eq_some_iff.1 h).1
  clear h hx
  go_enter Tryd.func53, Tryd.ntmps53
  go_wp2
  go_loopw [5, 8] (fun _ i wr => IdxL (fun f => f.k == ek && f.o == eo) w i wr) (fun _ i _ => 14 - (intOf i).toNat)
  case atStart => exact ⟨0, by omega, rfl, rfl, Below.refl _ _⟩
  case round =>
    obtain ⟨k, hk, rfl, hi, hb⟩ := hrel
    by_cases hlt2 : k < 14
    · obtain ⟨f, hf⟩ : ∃ f, formsL[k]? = some f := ⟨_, List.getElem?_eq_getElem hlt2⟩
      obtain ⟨c0, c1, c2, c3⟩ := form_cells ((hb.block g hlt).trans H.out) k f hf
      have hs := idxF_step (fun f => f.k == ek && f.o == eo) k f hf
      rw [hi] at hs
      have HB := Lib.hid hb
      have HX2 := Lib.hid (HX.out.step hb)
      have hki : (k : Int) < 14 := by omega
      have HC := Lib.hid (text1_any f b ek 0 eo wr HX2.out.1 HX2.out.2)
      obtain ⟨q, hq⟩ : ∃ q, (f.k == ek && f.o == eo) = q := ⟨_, rfl⟩
      simp only [hq] at hs
      have HS2 := Lib.hid hs
      have HC2 : Hid (Calls Tryd.prog 45 #[.agg #[.string (bs f.w), .int .i64 f.k, .int .i64 f.o, .string (bs f.ns)], .pointer (some ⟨b, 0, none⟩)] wr fun e w' => e = .returned (.bool q) ∧ Below wr.heap.size wr w') := Lib.hid (by rw [← hq]; exact HC.out)
      clear hi hb hs hf HC hq
      cases q
      · go_wp2_with fail
        refine HC2.out.mono ?_
        rintro e w1 ⟨rfl, b1⟩
        go_wp2
        go_roundw
        case rel => exact ⟨k + 1, by omega, by go_num, by have := HS2.out; simpa using this.symm, HB.out.trans (b1.mono HB.out.size)⟩
        case measure => simp [intOf]; omega
      · go_wp2_with fail
        refine HC2.out.mono ?_
        rintro e w1 ⟨rfl, b1⟩
        go_wp2
        go_ret
        exact ⟨ret_int (by have := HS2.out; simpa using this.symm), HB.out.trans (b1.mono HB.out.size)⟩
    · obtain rfl : k = 14 := by omega
      have HI := Lib.hid hi
      clear hi
      go_wp2
      go_ret
      exact ⟨ret_int (by rw [← HI.out]; rfl), hb⟩
set_option maxHeartbeats 1000000 in
set_option maxRecDepth 100000 in
theorem find2_yes (b : Nat) (ek eo : Int) (f : Fm) (k : Nat) (w : World) (hf : formsL[k]? = some f) (hk : idxF (fun f => f.k == ek && f.o == eo) formsL 0 = k) (hx : KindAt w b ek eo) :
    Calls Tryd.prog 38 #[.func (.func 45) #[] #[.pointer (some ⟨b, 0, none⟩)]] w fun e w' => e = .returned (.tuple #[.agg #[.string (bs f.w), .int .i64 f.k, .int .i64 f.o, .string (bs f.ns)], .bool true]) ∧ Below w.heap.size w w' := by
  have HX := Lib.hid hx
  have HI := Lib.hid (fun g w h hx => idx2_any b ek eo g w h hx)
  rw [hk] at HI
  have HF := Lib.hid hf
  have hkl : k < 14 := (List.getElem?_eq_some_iff.1 hf).1
  have hki : (k : Int) < 14 := by omega
  clear hx hk hf
  go_enter Tryd.func38, Tryd.ntmps38
  go_wp2_with fail
  refine (forms_any _).mono ?_
  rintro e w1 ⟨rfl, hw1⟩
  have B0 : Below w.heap.size w (w.alloc (.cells #[.string .empty, .int .i64 0, .int .i64 0, .string .empty] 76)) := (Below.refl _ _).alloc (Nat.le_refl _) _
  have B1 : Below w.heap.size w w1 := by rw [hw1]; exact B0.alloc (by simp) _
  have hg : w1.heap[w.heap.size + 1]? = some (.cells formsC 76) := by
    have := heap_alloc_new (w.alloc (.cells #[.string .empty, .int .i64 0, .int .i64 0, .string .empty] 76)) (.cells formsC 76)
    rw [World.size_alloc] at this
    rw [hw1]
    exact this
  have hz1 : w.heap.size + 2 = w1.heap.size := by rw [hw1]; simp
  have hr : w1.heap[w.heap.size]? = some (.cells #[.string .empty, .int .i64 0, .int .i64 0, .string .empty] 76) := by
    rw [hw1, ((Below.refl (w.heap.size + 1) (w.alloc _)).alloc (by simp) (.cells formsC 76)).block w.heap.size (by simp)]
    exact heap_alloc_new w _
  have HX1 := Lib.hid (HX.out.step B1)
  have HG := Lib.hid hg
  have HR := Lib.hid hr
  have HB1 := Lib.hid B1
  have hz1b : w.heap.size < w1.heap.size := by omega
  have hz1c : w.heap.size + 1 < w1.heap.size := by omega
  clear B0 B1 hg hr hw1 hz1
  go_wp2_with fail
  refine (HI.out _ _ (by simpa using HG.out) HX1.out).mono ?_
  rintro e w2 ⟨rfl, b2⟩
  have hr2 := (b2.block w.heap.size hz1b).trans HR.out
  have hg2 := (b2.block (w.heap.size + 1) hz1c).trans HG.out
  obtain ⟨c0, c1, c2, c3⟩ := form_cells hg2 k f HF.out
  clear hg2
  have d0 := cell?_of_heap (o := 0) hr2
  have d1 := cell?_of_heap (o := 1) hr2
  have d2 := cell?_of_heap (o := 2) hr2
  have d3 := cell?_of_heap (o := 3) hr2
  have e0 := frozen?_of_heap (o := 0) hr2
  have e1 := frozen?_of_heap (o := 1) hr2
  have e2 := frozen?_of_heap (o := 2) hr2
  have e3 := frozen?_of_heap (o := 3) hr2
  simp at d0 d1 d2 d3
  have HB2 := Lib.hid (HB1.out.trans (b2.mono HB1.out.size))
  clear hr2 b2
  go_wp2
  refine bodyPost_ret (v := .tuple #[.agg #[.string (bs f.w), .int .i64 f.k, .int .i64 f.o, .string (bs f.ns)], .bool true]) (by simp [results, Tryd.results38, go_sem, d0, d1, d2, d3, e0, e1, e2, e3]) rfl ⟨rfl, ?_⟩
  exact (((HB2.out.setCell (Nat.le_refl _) _).setCell (Nat.le_refl _) _).setCell (Nat.le_refl _) _).setCell (Nat.le_refl _) _
set_option maxHeartbeats 1000000 in
set_option maxRecDepth 100000 in
theorem find2_no (b : Nat) (ek eo : Int) (w : World) (hk : idxF (fun f => f.k == ek && f.o == eo) formsL 0 = -1) (hx : KindAt w b ek eo) :
    Calls Tryd.prog 38 #[.func (.func 45) #[] #[.pointer (some ⟨b, 0, none⟩)]] w fun e w' => e = .returned (.tuple #[.agg #[.string ⟨#[]⟩, .int .i64 0, .int .i64 0, .string ⟨#[]⟩], .bool false]) ∧ Below w.heap.size w w' := by
  have HX := Lib.hid hx
  have HI := Lib.hid (fun g w h hx => idx2_any b ek eo g w h hx)
  rw [hk] at HI
  clear hx hk
  go_enter Tryd.func38, Tryd.ntmps38
  go_wp2_with fail
  refine (forms_any _).mono ?_
  rintro e w1 ⟨rfl, hw1⟩
  have B0 : Below w.heap.size w (w.alloc (.cells #[.string .empty, .int .i64 0, .int .i64 0, .string .empty] 76)) := (Below.refl _ _).alloc (Nat.le_refl _) _
  have B1 : Below w.heap.size w w1 := by rw [hw1]; exact B0.alloc (by simp) _
  have hg : w1.heap[w.heap.size + 1]? = some (.cells formsC 76) := by
    have := heap_alloc_new (w.alloc (.cells #[.string .empty, .int .i64 0, .int .i64 0, .string .empty] 76)) (.cells formsC 76)
    rw [World.size_alloc] at this
    rw [hw1]
    exact this
  have hz1 : w.heap.size + 2 = w1.heap.size := by rw [hw1]; simp
  have hr : w1.heap[w.heap.size]? = some (.cells #[.string .empty, .int .i64 0, .int .i64 0, .string .empty] 76) := by
    rw [hw1, ((Below.refl (w.heap.size + 1) (w.alloc _)).alloc (by simp) (.cells formsC 76)).block w.heap.size (by simp)]
    exact heap_alloc_new w _
  have HX1 := Lib.hid (HX.out.step B1)
  have HG := Lib.hid hg
  have HR := Lib.hid hr
  have HB1 := Lib.hid B1
  have hz1b : w.heap.size < w1.heap.size := by omega
  have hz1c : w.heap.size + 1 < w1.heap.size := by omega
  clear B0 B1 hg hr hw1 hz1
  go_wp2_with fail
  refine (HI.out _ _ (by simpa using HG.out) HX1.out).mono ?_
  rintro e w2 ⟨rfl, b2⟩
  have hr2 := (b2.block w.heap.size hz1b).trans HR.out
  have d0 := cell?_of_heap (o := 0) hr2
  have d1 := cell?_of_heap (o := 1) hr2
  have d2 := cell?_of_heap (o := 2) hr2
  have d3 := cell?_of_heap (o := 3) hr2
  have e0 := frozen?_of_heap (o := 0) hr2
  have e1 := frozen?_of_heap (o := 1) hr2
  have e2 := frozen?_of_heap (o := 2) hr2
  have e3 := frozen?_of_heap (o := 3) hr2
  simp at d0 d1 d2 d3
  have HB2 := Lib.hid (HB1.out.trans (b2.mono HB1.out.size))
  clear hr2 b2
  go_wp2
  refine bodyPost_ret (v := .tuple #[.agg #[.string ⟨#[]⟩, .int .i64 0, .int .i64 0, .string ⟨#[]⟩], .bool false]) (by simp [results, Tryd.results38, go_sem, d0, d1, d2, d3, e0, e1, e2, e3]) rfl ⟨rfl, ?_⟩
  exact (((HB2.out.setCell (Nat.le_refl _) _).setCell (Nat.le_refl _) _).setCell (Nat.le_refl _) _).setCell (Nat.le_refl _) _
end Go.Proofs.YtloilknkhloegaaDoor
