/- lines: the document's operation of a word, and its entry of a word and numbers. -/
import Derived.Test.YtloilknkhloegaaDoorLinW
import Derived.Test.YtloilknkhloegaaDoorTellR
import Derived.RowKitTokens
set_option linter.unusedSimpArgs false
set_option linter.unusedVariables false
namespace Go.Proofs.YtloilknkhloegaaDoor
open Go.RowKit

set_option maxHeartbeats 2000000 in
set_option maxRecDepth 100000 in
theorem rop_none (s : List UInt8) (w : World) (h : ∀ k, 1 ≤ k → k ≤ 9 → s ≠ wordB k) :
    Calls Tryd.prog 34 #[.string (bs s)] w fun e w' => e = .returned (.tuple #[.int .i64 0, .int .i64 0]) ∧ Below w.heap.size w w' := by
  have e1 : (s == [97, 108, 108, 111, 99]) = false := by
    have h1 : s ≠ [97, 108, 108, 111, 99] := h 1 (by decide) (by decide)
    simpa using h1
  have e2 : (s == [102, 114, 101, 101]) = false := by
    have h1 : s ≠ [102, 114, 101, 101] := h 2 (by decide) (by decide)
    simpa using h1
  have e3 : (s == [114, 101, 97, 108, 108, 111, 99]) = false := by
    have h1 : s ≠ [114, 101, 97, 108, 108, 111, 99] := h 3 (by decide) (by decide)
    simpa using h1
  have e4 : (s == [97, 108, 108, 111, 99, 114, 111, 111, 116]) = false := by
    have h1 : s ≠ [97, 108, 108, 111, 99, 114, 111, 111, 116] := h 4 (by decide) (by decide)
    simpa using h1
  have e5 : (s == [115, 101, 116, 114, 111, 111, 116]) = false := by
    have h1 : s ≠ [115, 101, 116, 114, 111, 111, 116] := h 5 (by decide) (by decide)
    simpa using h1
  have e6 : (s == [103, 101, 116, 114, 111, 111, 116]) = false := by
    have h1 : s ≠ [103, 101, 116, 114, 111, 111, 116] := h 6 (by decide) (by decide)
    simpa using h1
  have e7 : (s == [117, 115, 97, 98, 108, 101]) = false := by
    have h1 : s ≠ [117, 115, 97, 98, 108, 101] := h 7 (by decide) (by decide)
    simpa using h1
  have e8 : (s == [115, 116, 97, 116, 115]) = false := by
    have h1 : s ≠ [115, 116, 97, 116, 115] := h 8 (by decide) (by decide)
    simpa using h1
  have e9 : (s == [102, 108, 117, 115, 104]) = false := by
    have h1 : s ≠ [102, 108, 117, 115, 104] := h 9 (by decide) (by decide)
    simpa using h1
  clear h
  go_enter Tryd.func34, Tryd.ntmps34
  go_wp2
  go_ret2
  exact ⟨rfl, Below.refl _ _⟩
theorem rop1_lit (k : Int) (s : ByteArray) (u : Int) (h : wordB k ≠ []) (hs : bs (wordB k) = s) (hu : usesB k = u) (w : World) :
    Calls Tryd.prog 34 #[.string s] w fun e w' => e = .returned (.tuple #[.int .i64 k, .int .i64 u]) ∧ Below w.heap.size w w' := by
  subst hs hu
  exact rop1_any k w h
theorem rop0_lit (l : List UInt8) (h : ∀ k, 1 ≤ k → k ≤ 9 → l ≠ wordB k) (s : ByteArray) (hs : bs l = s) (w : World) :
    Calls Tryd.prog 34 #[.string s] w fun e w' => e = .returned (.tuple #[.int .i64 0, .int .i64 0]) ∧ Below w.heap.size w w' := by
  subst hs
  exact rop_none l w h
/-- what one answers. -/
def OneP (w : World) (r : Option PEn) (en : Ending) (w' : World) : Prop :=
  (∃ x, r = some x ∧ en = .returned (.tuple #[enV x, .bool true]) ∧ Below w.heap.size w w') ∨ (r = none ∧ en = .returned (.tuple #[enV PEn.none, .bool false]) ∧ Below w.heap.size w w')
set_option maxHeartbeats 1000000 in
set_option maxRecDepth 100000 in
theorem one_y0 (a b c : Int) (g cap : Nat) (w : World) (h0 : w.cell? ⟨g, 0, none⟩ = some (.int .i64 a)) (h1 : w.cell? ⟨g, 1, none⟩ = some (.int .i64 b)) (h2 : w.cell? ⟨g, 2, none⟩ = some (.int .i64 c)) (hlt : g < w.heap.size) :
    Calls Tryd.prog 44 #[.string ⟨#[97, 108, 108, 111, 99]⟩, .slice (some ⟨g, 0, none⟩) 3 cap] w fun e w' => e = .returned (.tuple #[.agg #[.int .i64 1, .int .i64 a, .int .i64 b, .int .i64 1, .int .i64 c, .int .i64 0, .int .i64 0, .int .i64 0], .bool true]) ∧ Below w.heap.size w w' := by
  have H : Hid (∀ w, Calls Tryd.prog 34 #[.string ⟨#[97, 108, 108, 111, 99]⟩] w fun e w' => e = .returned (.tuple #[.int .i64 1, .int .i64 1]) ∧ Below w.heap.size w w') := Lib.hid (rop1_lit 1 _ _ (by decide) rfl rfl)
  go_enter Tryd.func44, Tryd.ntmps44
  go_wp2_with fail
  refine calls_at ?_
  intro wz hwz
  have bx : BoxE wz w.heap.size PEn.none := by rw [hwz]; exact heap_alloc_new w _
  have bz : Below w.heap.size w wz := by rw [hwz]; exact (Below.refl _ _).alloc (Nat.le_refl _) _
  clear hwz
  refine (H.out _).mono ?_
  rintro en w1 ⟨rfl, b1⟩
  have lt0 : w.heap.size < w1.heap.size := Nat.lt_of_lt_of_le (Array.getElem?_eq_some_iff.1 bx).1 b1.size
  have bx1 : BoxE w1 w.heap.size PEn.none := (b1.block _ (Array.getElem?_eq_some_iff.1 bx).1).trans bx
  have HB := Lib.hid (bz.trans (b1.mono bz.size))
  have hltg : g < w1.heap.size := Nat.lt_of_lt_of_le hlt HB.out.size
  have hneg : g ≠ w.heap.size := by omega
  have k0 := (HB.out.cell (p := ⟨g, 0, none⟩) hlt).trans h0
  have k1 := (HB.out.cell (p := ⟨g, 1, none⟩) hlt).trans h1
  have k2 := (HB.out.cell (p := ⟨g, 2, none⟩) hlt).trans h2
  have dx := fun o => cell?_of_heap (o := o) bx1
  have ex := fun o => frozen?_of_heap (o := o) bx1
  have d0 := dx 0
  have e0 := ex 0
  have d1 := dx 1
  have e1 := ex 1
  have d2 := dx 2
  have e2 := ex 2
  have d3 := dx 3
  have e3 := ex 3
  have d4 := dx 4
  have e4 := ex 4
  have d5 := dx 5
  have e5 := ex 5
  have d6 := dx 6
  have e6 := ex 6
  have d7 := dx 7
  have e7 := ex 7
  simp [PEn.none] at d0 d1 d2 d3 d4 d5 d6 d7
  clear dx ex bx bx1 bz b1 h0 h1 h2
  go_wp2
  go_region
  go_wp2
  refine bodyPost_ret (v := .tuple #[.agg #[.int .i64 1, .int .i64 a, .int .i64 b, .int .i64 1, .int .i64 c, .int .i64 0, .int .i64 0, .int .i64 0], .bool true]) (by simp [results, Tryd.results44, go_sem, d0, d1, d2, d3, d4, d5, d6, d7, e0, e1, e2, e3, e4, e5, e6, e7, lt0]) rfl ⟨rfl, ?_⟩
  first
    | with_reducible exact set8_below (Nat.le_refl _) HB.out
    | with_reducible exact ((set8_below (Nat.le_refl _) HB.out).alloc (by simp; omega) _)
    | with_reducible exact ((set8_below (Nat.le_refl _) HB.out).alloc (by simp; omega) _).drew
    | with_reducible exact (set8_below (Nat.le_refl _) HB.out).drew
    | (trace_state; sorry)
set_option maxHeartbeats 1000000 in
set_option maxRecDepth 100000 in
theorem one_y1 (a b c : Int) (g cap : Nat) (w : World) (h0 : w.cell? ⟨g, 0, none⟩ = some (.int .i64 a)) (h1 : w.cell? ⟨g, 1, none⟩ = some (.int .i64 b)) (h2 : w.cell? ⟨g, 2, none⟩ = some (.int .i64 c)) (hlt : g < w.heap.size) :
    Calls Tryd.prog 44 #[.string ⟨#[102, 114, 101, 101]⟩, .slice (some ⟨g, 0, none⟩) 3 cap] w fun e w' => e = .returned (.tuple #[.agg #[.int .i64 1, .int .i64 a, .int .i64 b, .int .i64 2, .int .i64 c, .int .i64 0, .int .i64 0, .int .i64 0], .bool true]) ∧ Below w.heap.size w w' := by
  have H : Hid (∀ w, Calls Tryd.prog 34 #[.string ⟨#[102, 114, 101, 101]⟩] w fun e w' => e = .returned (.tuple #[.int .i64 2, .int .i64 1]) ∧ Below w.heap.size w w') := Lib.hid (rop1_lit 2 _ _ (by decide) rfl rfl)
  go_enter Tryd.func44, Tryd.ntmps44
  go_wp2_with fail
  refine calls_at ?_
  intro wz hwz
  have bx : BoxE wz w.heap.size PEn.none := by rw [hwz]; exact heap_alloc_new w _
  have bz : Below w.heap.size w wz := by rw [hwz]; exact (Below.refl _ _).alloc (Nat.le_refl _) _
  clear hwz
  refine (H.out _).mono ?_
  rintro en w1 ⟨rfl, b1⟩
  have lt0 : w.heap.size < w1.heap.size := Nat.lt_of_lt_of_le (Array.getElem?_eq_some_iff.1 bx).1 b1.size
  have bx1 : BoxE w1 w.heap.size PEn.none := (b1.block _ (Array.getElem?_eq_some_iff.1 bx).1).trans bx
  have HB := Lib.hid (bz.trans (b1.mono bz.size))
  have hltg : g < w1.heap.size := Nat.lt_of_lt_of_le hlt HB.out.size
  have hneg : g ≠ w.heap.size := by omega
  have k0 := (HB.out.cell (p := ⟨g, 0, none⟩) hlt).trans h0
  have k1 := (HB.out.cell (p := ⟨g, 1, none⟩) hlt).trans h1
  have k2 := (HB.out.cell (p := ⟨g, 2, none⟩) hlt).trans h2
  have dx := fun o => cell?_of_heap (o := o) bx1
  have ex := fun o => frozen?_of_heap (o := o) bx1
  have d0 := dx 0
  have e0 := ex 0
  have d1 := dx 1
  have e1 := ex 1
  have d2 := dx 2
  have e2 := ex 2
  have d3 := dx 3
  have e3 := ex 3
  have d4 := dx 4
  have e4 := ex 4
  have d5 := dx 5
  have e5 := ex 5
  have d6 := dx 6
  have e6 := ex 6
  have d7 := dx 7
  have e7 := ex 7
  simp [PEn.none] at d0 d1 d2 d3 d4 d5 d6 d7
  clear dx ex bx bx1 bz b1 h0 h1 h2
  go_wp2
  go_region
  go_wp2
  refine bodyPost_ret (v := .tuple #[.agg #[.int .i64 1, .int .i64 a, .int .i64 b, .int .i64 2, .int .i64 c, .int .i64 0, .int .i64 0, .int .i64 0], .bool true]) (by simp [results, Tryd.results44, go_sem, d0, d1, d2, d3, d4, d5, d6, d7, e0, e1, e2, e3, e4, e5, e6, e7, lt0]) rfl ⟨rfl, ?_⟩
  first
    | with_reducible exact set8_below (Nat.le_refl _) HB.out
    | with_reducible exact ((set8_below (Nat.le_refl _) HB.out).alloc (by simp; omega) _)
    | with_reducible exact ((set8_below (Nat.le_refl _) HB.out).alloc (by simp; omega) _).drew
    | with_reducible exact (set8_below (Nat.le_refl _) HB.out).drew
    | (trace_state; sorry)
set_option maxHeartbeats 1000000 in
set_option maxRecDepth 100000 in
theorem one_y2 (a b c d : Int) (g cap : Nat) (w : World) (h0 : w.cell? ⟨g, 0, none⟩ = some (.int .i64 a)) (h1 : w.cell? ⟨g, 1, none⟩ = some (.int .i64 b)) (h2 : w.cell? ⟨g, 2, none⟩ = some (.int .i64 c)) (h3 : w.cell? ⟨g, 3, none⟩ = some (.int .i64 d)) (hlt : g < w.heap.size) :
    Calls Tryd.prog 44 #[.string ⟨#[114, 101, 97, 108, 108, 111, 99]⟩, .slice (some ⟨g, 0, none⟩) 4 cap] w fun e w' => e = .returned (.tuple #[.agg #[.int .i64 1, .int .i64 a, .int .i64 b, .int .i64 3, .int .i64 c, .int .i64 d, .int .i64 0, .int .i64 0], .bool true]) ∧ Below w.heap.size w w' := by
  have H : Hid (∀ w, Calls Tryd.prog 34 #[.string ⟨#[114, 101, 97, 108, 108, 111, 99]⟩] w fun e w' => e = .returned (.tuple #[.int .i64 3, .int .i64 2]) ∧ Below w.heap.size w w') := Lib.hid (rop1_lit 3 _ _ (by decide) rfl rfl)
  go_enter Tryd.func44, Tryd.ntmps44
  go_wp2_with fail
  refine calls_at ?_
  intro wz hwz
  have bx : BoxE wz w.heap.size PEn.none := by rw [hwz]; exact heap_alloc_new w _
  have bz : Below w.heap.size w wz := by rw [hwz]; exact (Below.refl _ _).alloc (Nat.le_refl _) _
  clear hwz
  refine (H.out _).mono ?_
  rintro en w1 ⟨rfl, b1⟩
  have lt0 : w.heap.size < w1.heap.size := Nat.lt_of_lt_of_le (Array.getElem?_eq_some_iff.1 bx).1 b1.size
  have bx1 : BoxE w1 w.heap.size PEn.none := (b1.block _ (Array.getElem?_eq_some_iff.1 bx).1).trans bx
  have HB := Lib.hid (bz.trans (b1.mono bz.size))
  have hltg : g < w1.heap.size := Nat.lt_of_lt_of_le hlt HB.out.size
  have hneg : g ≠ w.heap.size := by omega
  have k0 := (HB.out.cell (p := ⟨g, 0, none⟩) hlt).trans h0
  have k1 := (HB.out.cell (p := ⟨g, 1, none⟩) hlt).trans h1
  have k2 := (HB.out.cell (p := ⟨g, 2, none⟩) hlt).trans h2
  have k3 := (HB.out.cell (p := ⟨g, 3, none⟩) hlt).trans h3
  have dx := fun o => cell?_of_heap (o := o) bx1
  have ex := fun o => frozen?_of_heap (o := o) bx1
  have d0 := dx 0
  have e0 := ex 0
  have d1 := dx 1
  have e1 := ex 1
  have d2 := dx 2
  have e2 := ex 2
  have d3 := dx 3
  have e3 := ex 3
  have d4 := dx 4
  have e4 := ex 4
  have d5 := dx 5
  have e5 := ex 5
  have d6 := dx 6
  have e6 := ex 6
  have d7 := dx 7
  have e7 := ex 7
  simp [PEn.none] at d0 d1 d2 d3 d4 d5 d6 d7
  clear dx ex bx bx1 bz b1 h0 h1 h2 h3
  go_wp2
  go_region
  go_wp2
  refine bodyPost_ret (v := .tuple #[.agg #[.int .i64 1, .int .i64 a, .int .i64 b, .int .i64 3, .int .i64 c, .int .i64 d, .int .i64 0, .int .i64 0], .bool true]) (by simp [results, Tryd.results44, go_sem, d0, d1, d2, d3, d4, d5, d6, d7, e0, e1, e2, e3, e4, e5, e6, e7, lt0]) rfl ⟨rfl, ?_⟩
  first
    | with_reducible exact set8_below (Nat.le_refl _) HB.out
    | with_reducible exact ((set8_below (Nat.le_refl _) HB.out).alloc (by simp; omega) _)
    | with_reducible exact ((set8_below (Nat.le_refl _) HB.out).alloc (by simp; omega) _).drew
    | with_reducible exact (set8_below (Nat.le_refl _) HB.out).drew
    | (trace_state; sorry)
set_option maxHeartbeats 1000000 in
set_option maxRecDepth 100000 in
theorem one_y3 (a b c d : Int) (g cap : Nat) (w : World) (h0 : w.cell? ⟨g, 0, none⟩ = some (.int .i64 a)) (h1 : w.cell? ⟨g, 1, none⟩ = some (.int .i64 b)) (h2 : w.cell? ⟨g, 2, none⟩ = some (.int .i64 c)) (h3 : w.cell? ⟨g, 3, none⟩ = some (.int .i64 d)) (hlt : g < w.heap.size) :
    Calls Tryd.prog 44 #[.string ⟨#[97, 108, 108, 111, 99, 114, 111, 111, 116]⟩, .slice (some ⟨g, 0, none⟩) 4 cap] w fun e w' => e = .returned (.tuple #[.agg #[.int .i64 1, .int .i64 a, .int .i64 b, .int .i64 4, .int .i64 c, .int .i64 d, .int .i64 0, .int .i64 0], .bool true]) ∧ Below w.heap.size w w' := by
  have H : Hid (∀ w, Calls Tryd.prog 34 #[.string ⟨#[97, 108, 108, 111, 99, 114, 111, 111, 116]⟩] w fun e w' => e = .returned (.tuple #[.int .i64 4, .int .i64 2]) ∧ Below w.heap.size w w') := Lib.hid (rop1_lit 4 _ _ (by decide) rfl rfl)
  go_enter Tryd.func44, Tryd.ntmps44
  go_wp2_with fail
  refine calls_at ?_
  intro wz hwz
  have bx : BoxE wz w.heap.size PEn.none := by rw [hwz]; exact heap_alloc_new w _
  have bz : Below w.heap.size w wz := by rw [hwz]; exact (Below.refl _ _).alloc (Nat.le_refl _) _
  clear hwz
  refine (H.out _).mono ?_
  rintro en w1 ⟨rfl, b1⟩
  have lt0 : w.heap.size < w1.heap.size := Nat.lt_of_lt_of_le (Array.getElem?_eq_some_iff.1 bx).1 b1.size
  have bx1 : BoxE w1 w.heap.size PEn.none := (b1.block _ (Array.getElem?_eq_some_iff.1 bx).1).trans bx
  have HB := Lib.hid (bz.trans (b1.mono bz.size))
  have hltg : g < w1.heap.size := Nat.lt_of_lt_of_le hlt HB.out.size
  have hneg : g ≠ w.heap.size := by omega
  have k0 := (HB.out.cell (p := ⟨g, 0, none⟩) hlt).trans h0
  have k1 := (HB.out.cell (p := ⟨g, 1, none⟩) hlt).trans h1
  have k2 := (HB.out.cell (p := ⟨g, 2, none⟩) hlt).trans h2
  have k3 := (HB.out.cell (p := ⟨g, 3, none⟩) hlt).trans h3
  have dx := fun o => cell?_of_heap (o := o) bx1
  have ex := fun o => frozen?_of_heap (o := o) bx1
  have d0 := dx 0
  have e0 := ex 0
  have d1 := dx 1
  have e1 := ex 1
  have d2 := dx 2
  have e2 := ex 2
  have d3 := dx 3
  have e3 := ex 3
  have d4 := dx 4
  have e4 := ex 4
  have d5 := dx 5
  have e5 := ex 5
  have d6 := dx 6
  have e6 := ex 6
  have d7 := dx 7
  have e7 := ex 7
  simp [PEn.none] at d0 d1 d2 d3 d4 d5 d6 d7
  clear dx ex bx bx1 bz b1 h0 h1 h2 h3
  go_wp2
  go_region
  go_wp2
  refine bodyPost_ret (v := .tuple #[.agg #[.int .i64 1, .int .i64 a, .int .i64 b, .int .i64 4, .int .i64 c, .int .i64 d, .int .i64 0, .int .i64 0], .bool true]) (by simp [results, Tryd.results44, go_sem, d0, d1, d2, d3, d4, d5, d6, d7, e0, e1, e2, e3, e4, e5, e6, e7, lt0]) rfl ⟨rfl, ?_⟩
  first
    | with_reducible exact set8_below (Nat.le_refl _) HB.out
    | with_reducible exact ((set8_below (Nat.le_refl _) HB.out).alloc (by simp; omega) _)
    | with_reducible exact ((set8_below (Nat.le_refl _) HB.out).alloc (by simp; omega) _).drew
    | with_reducible exact (set8_below (Nat.le_refl _) HB.out).drew
    | (trace_state; sorry)
set_option maxHeartbeats 1000000 in
set_option maxRecDepth 100000 in
theorem one_y4 (a b c d : Int) (g cap : Nat) (w : World) (h0 : w.cell? ⟨g, 0, none⟩ = some (.int .i64 a)) (h1 : w.cell? ⟨g, 1, none⟩ = some (.int .i64 b)) (h2 : w.cell? ⟨g, 2, none⟩ = some (.int .i64 c)) (h3 : w.cell? ⟨g, 3, none⟩ = some (.int .i64 d)) (hlt : g < w.heap.size) :
    Calls Tryd.prog 44 #[.string ⟨#[115, 101, 116, 114, 111, 111, 116]⟩, .slice (some ⟨g, 0, none⟩) 4 cap] w fun e w' => e = .returned (.tuple #[.agg #[.int .i64 1, .int .i64 a, .int .i64 b, .int .i64 5, .int .i64 c, .int .i64 d, .int .i64 0, .int .i64 0], .bool true]) ∧ Below w.heap.size w w' := by
  have H : Hid (∀ w, Calls Tryd.prog 34 #[.string ⟨#[115, 101, 116, 114, 111, 111, 116]⟩] w fun e w' => e = .returned (.tuple #[.int .i64 5, .int .i64 2]) ∧ Below w.heap.size w w') := Lib.hid (rop1_lit 5 _ _ (by decide) rfl rfl)
  go_enter Tryd.func44, Tryd.ntmps44
  go_wp2_with fail
  refine calls_at ?_
  intro wz hwz
  have bx : BoxE wz w.heap.size PEn.none := by rw [hwz]; exact heap_alloc_new w _
  have bz : Below w.heap.size w wz := by rw [hwz]; exact (Below.refl _ _).alloc (Nat.le_refl _) _
  clear hwz
  refine (H.out _).mono ?_
  rintro en w1 ⟨rfl, b1⟩
  have lt0 : w.heap.size < w1.heap.size := Nat.lt_of_lt_of_le (Array.getElem?_eq_some_iff.1 bx).1 b1.size
  have bx1 : BoxE w1 w.heap.size PEn.none := (b1.block _ (Array.getElem?_eq_some_iff.1 bx).1).trans bx
  have HB := Lib.hid (bz.trans (b1.mono bz.size))
  have hltg : g < w1.heap.size := Nat.lt_of_lt_of_le hlt HB.out.size
  have hneg : g ≠ w.heap.size := by omega
  have k0 := (HB.out.cell (p := ⟨g, 0, none⟩) hlt).trans h0
  have k1 := (HB.out.cell (p := ⟨g, 1, none⟩) hlt).trans h1
  have k2 := (HB.out.cell (p := ⟨g, 2, none⟩) hlt).trans h2
  have k3 := (HB.out.cell (p := ⟨g, 3, none⟩) hlt).trans h3
  have dx := fun o => cell?_of_heap (o := o) bx1
  have ex := fun o => frozen?_of_heap (o := o) bx1
  have d0 := dx 0
  have e0 := ex 0
  have d1 := dx 1
  have e1 := ex 1
  have d2 := dx 2
  have e2 := ex 2
  have d3 := dx 3
  have e3 := ex 3
  have d4 := dx 4
  have e4 := ex 4
  have d5 := dx 5
  have e5 := ex 5
  have d6 := dx 6
  have e6 := ex 6
  have d7 := dx 7
  have e7 := ex 7
  simp [PEn.none] at d0 d1 d2 d3 d4 d5 d6 d7
  clear dx ex bx bx1 bz b1 h0 h1 h2 h3
  go_wp2
  go_region
  go_wp2
  refine bodyPost_ret (v := .tuple #[.agg #[.int .i64 1, .int .i64 a, .int .i64 b, .int .i64 5, .int .i64 c, .int .i64 d, .int .i64 0, .int .i64 0], .bool true]) (by simp [results, Tryd.results44, go_sem, d0, d1, d2, d3, d4, d5, d6, d7, e0, e1, e2, e3, e4, e5, e6, e7, lt0]) rfl ⟨rfl, ?_⟩
  first
    | with_reducible exact set8_below (Nat.le_refl _) HB.out
    | with_reducible exact ((set8_below (Nat.le_refl _) HB.out).alloc (by simp; omega) _)
    | with_reducible exact ((set8_below (Nat.le_refl _) HB.out).alloc (by simp; omega) _).drew
    | with_reducible exact (set8_below (Nat.le_refl _) HB.out).drew
    | (trace_state; sorry)
set_option maxHeartbeats 1000000 in
set_option maxRecDepth 100000 in
theorem one_y5 (a b c : Int) (g cap : Nat) (w : World) (h0 : w.cell? ⟨g, 0, none⟩ = some (.int .i64 a)) (h1 : w.cell? ⟨g, 1, none⟩ = some (.int .i64 b)) (h2 : w.cell? ⟨g, 2, none⟩ = some (.int .i64 c)) (hlt : g < w.heap.size) :
    Calls Tryd.prog 44 #[.string ⟨#[103, 101, 116, 114, 111, 111, 116]⟩, .slice (some ⟨g, 0, none⟩) 3 cap] w fun e w' => e = .returned (.tuple #[.agg #[.int .i64 1, .int .i64 a, .int .i64 b, .int .i64 6, .int .i64 c, .int .i64 0, .int .i64 0, .int .i64 0], .bool true]) ∧ Below w.heap.size w w' := by
  have H : Hid (∀ w, Calls Tryd.prog 34 #[.string ⟨#[103, 101, 116, 114, 111, 111, 116]⟩] w fun e w' => e = .returned (.tuple #[.int .i64 6, .int .i64 1]) ∧ Below w.heap.size w w') := Lib.hid (rop1_lit 6 _ _ (by decide) rfl rfl)
  go_enter Tryd.func44, Tryd.ntmps44
  go_wp2_with fail
  refine calls_at ?_
  intro wz hwz
  have bx : BoxE wz w.heap.size PEn.none := by rw [hwz]; exact heap_alloc_new w _
  have bz : Below w.heap.size w wz := by rw [hwz]; exact (Below.refl _ _).alloc (Nat.le_refl _) _
  clear hwz
  refine (H.out _).mono ?_
  rintro en w1 ⟨rfl, b1⟩
  have lt0 : w.heap.size < w1.heap.size := Nat.lt_of_lt_of_le (Array.getElem?_eq_some_iff.1 bx).1 b1.size
  have bx1 : BoxE w1 w.heap.size PEn.none := (b1.block _ (Array.getElem?_eq_some_iff.1 bx).1).trans bx
  have HB := Lib.hid (bz.trans (b1.mono bz.size))
  have hltg : g < w1.heap.size := Nat.lt_of_lt_of_le hlt HB.out.size
  have hneg : g ≠ w.heap.size := by omega
  have k0 := (HB.out.cell (p := ⟨g, 0, none⟩) hlt).trans h0
  have k1 := (HB.out.cell (p := ⟨g, 1, none⟩) hlt).trans h1
  have k2 := (HB.out.cell (p := ⟨g, 2, none⟩) hlt).trans h2
  have dx := fun o => cell?_of_heap (o := o) bx1
  have ex := fun o => frozen?_of_heap (o := o) bx1
  have d0 := dx 0
  have e0 := ex 0
  have d1 := dx 1
  have e1 := ex 1
  have d2 := dx 2
  have e2 := ex 2
  have d3 := dx 3
  have e3 := ex 3
  have d4 := dx 4
  have e4 := ex 4
  have d5 := dx 5
  have e5 := ex 5
  have d6 := dx 6
  have e6 := ex 6
  have d7 := dx 7
  have e7 := ex 7
  simp [PEn.none] at d0 d1 d2 d3 d4 d5 d6 d7
  clear dx ex bx bx1 bz b1 h0 h1 h2
  go_wp2
  go_region
  go_wp2
  refine bodyPost_ret (v := .tuple #[.agg #[.int .i64 1, .int .i64 a, .int .i64 b, .int .i64 6, .int .i64 c, .int .i64 0, .int .i64 0, .int .i64 0], .bool true]) (by simp [results, Tryd.results44, go_sem, d0, d1, d2, d3, d4, d5, d6, d7, e0, e1, e2, e3, e4, e5, e6, e7, lt0]) rfl ⟨rfl, ?_⟩
  first
    | with_reducible exact set8_below (Nat.le_refl _) HB.out
    | with_reducible exact ((set8_below (Nat.le_refl _) HB.out).alloc (by simp; omega) _)
    | with_reducible exact ((set8_below (Nat.le_refl _) HB.out).alloc (by simp; omega) _).drew
    | with_reducible exact (set8_below (Nat.le_refl _) HB.out).drew
    | (trace_state; sorry)
set_option maxHeartbeats 1000000 in
set_option maxRecDepth 100000 in
theorem one_y6 (a b c : Int) (g cap : Nat) (w : World) (h0 : w.cell? ⟨g, 0, none⟩ = some (.int .i64 a)) (h1 : w.cell? ⟨g, 1, none⟩ = some (.int .i64 b)) (h2 : w.cell? ⟨g, 2, none⟩ = some (.int .i64 c)) (hlt : g < w.heap.size) :
    Calls Tryd.prog 44 #[.string ⟨#[117, 115, 97, 98, 108, 101]⟩, .slice (some ⟨g, 0, none⟩) 3 cap] w fun e w' => e = .returned (.tuple #[.agg #[.int .i64 1, .int .i64 a, .int .i64 b, .int .i64 7, .int .i64 c, .int .i64 0, .int .i64 0, .int .i64 0], .bool true]) ∧ Below w.heap.size w w' := by
  have H : Hid (∀ w, Calls Tryd.prog 34 #[.string ⟨#[117, 115, 97, 98, 108, 101]⟩] w fun e w' => e = .returned (.tuple #[.int .i64 7, .int .i64 1]) ∧ Below w.heap.size w w') := Lib.hid (rop1_lit 7 _ _ (by decide) rfl rfl)
  go_enter Tryd.func44, Tryd.ntmps44
  go_wp2_with fail
  refine calls_at ?_
  intro wz hwz
  have bx : BoxE wz w.heap.size PEn.none := by rw [hwz]; exact heap_alloc_new w _
  have bz : Below w.heap.size w wz := by rw [hwz]; exact (Below.refl _ _).alloc (Nat.le_refl _) _
  clear hwz
  refine (H.out _).mono ?_
  rintro en w1 ⟨rfl, b1⟩
  have lt0 : w.heap.size < w1.heap.size := Nat.lt_of_lt_of_le (Array.getElem?_eq_some_iff.1 bx).1 b1.size
  have bx1 : BoxE w1 w.heap.size PEn.none := (b1.block _ (Array.getElem?_eq_some_iff.1 bx).1).trans bx
  have HB := Lib.hid (bz.trans (b1.mono bz.size))
  have hltg : g < w1.heap.size := Nat.lt_of_lt_of_le hlt HB.out.size
  have hneg : g ≠ w.heap.size := by omega
  have k0 := (HB.out.cell (p := ⟨g, 0, none⟩) hlt).trans h0
  have k1 := (HB.out.cell (p := ⟨g, 1, none⟩) hlt).trans h1
  have k2 := (HB.out.cell (p := ⟨g, 2, none⟩) hlt).trans h2
  have dx := fun o => cell?_of_heap (o := o) bx1
  have ex := fun o => frozen?_of_heap (o := o) bx1
  have d0 := dx 0
  have e0 := ex 0
  have d1 := dx 1
  have e1 := ex 1
  have d2 := dx 2
  have e2 := ex 2
  have d3 := dx 3
  have e3 := ex 3
  have d4 := dx 4
  have e4 := ex 4
  have d5 := dx 5
  have e5 := ex 5
  have d6 := dx 6
  have e6 := ex 6
  have d7 := dx 7
  have e7 := ex 7
  simp [PEn.none] at d0 d1 d2 d3 d4 d5 d6 d7
  clear dx ex bx bx1 bz b1 h0 h1 h2
  go_wp2
  go_region
  go_wp2
  refine bodyPost_ret (v := .tuple #[.agg #[.int .i64 1, .int .i64 a, .int .i64 b, .int .i64 7, .int .i64 c, .int .i64 0, .int .i64 0, .int .i64 0], .bool true]) (by simp [results, Tryd.results44, go_sem, d0, d1, d2, d3, d4, d5, d6, d7, e0, e1, e2, e3, e4, e5, e6, e7, lt0]) rfl ⟨rfl, ?_⟩
  first
    | with_reducible exact set8_below (Nat.le_refl _) HB.out
    | with_reducible exact ((set8_below (Nat.le_refl _) HB.out).alloc (by simp; omega) _)
    | with_reducible exact ((set8_below (Nat.le_refl _) HB.out).alloc (by simp; omega) _).drew
    | with_reducible exact (set8_below (Nat.le_refl _) HB.out).drew
    | (trace_state; sorry)
set_option maxHeartbeats 1000000 in
set_option maxRecDepth 100000 in
theorem one_y7 (a b : Int) (g cap : Nat) (w : World) (h0 : w.cell? ⟨g, 0, none⟩ = some (.int .i64 a)) (h1 : w.cell? ⟨g, 1, none⟩ = some (.int .i64 b)) (hlt : g < w.heap.size) :
    Calls Tryd.prog 44 #[.string ⟨#[115, 116, 97, 116, 115]⟩, .slice (some ⟨g, 0, none⟩) 2 cap] w fun e w' => e = .returned (.tuple #[.agg #[.int .i64 1, .int .i64 a, .int .i64 b, .int .i64 8, .int .i64 0, .int .i64 0, .int .i64 0, .int .i64 0], .bool true]) ∧ Below w.heap.size w w' := by
  have H : Hid (∀ w, Calls Tryd.prog 34 #[.string ⟨#[115, 116, 97, 116, 115]⟩] w fun e w' => e = .returned (.tuple #[.int .i64 8, .int .i64 0]) ∧ Below w.heap.size w w') := Lib.hid (rop1_lit 8 _ _ (by decide) rfl rfl)
  go_enter Tryd.func44, Tryd.ntmps44
  go_wp2_with fail
  refine calls_at ?_
  intro wz hwz
  have bx : BoxE wz w.heap.size PEn.none := by rw [hwz]; exact heap_alloc_new w _
  have bz : Below w.heap.size w wz := by rw [hwz]; exact (Below.refl _ _).alloc (Nat.le_refl _) _
  clear hwz
  refine (H.out _).mono ?_
  rintro en w1 ⟨rfl, b1⟩
  have lt0 : w.heap.size < w1.heap.size := Nat.lt_of_lt_of_le (Array.getElem?_eq_some_iff.1 bx).1 b1.size
  have bx1 : BoxE w1 w.heap.size PEn.none := (b1.block _ (Array.getElem?_eq_some_iff.1 bx).1).trans bx
  have HB := Lib.hid (bz.trans (b1.mono bz.size))
  have hltg : g < w1.heap.size := Nat.lt_of_lt_of_le hlt HB.out.size
  have hneg : g ≠ w.heap.size := by omega
  have k0 := (HB.out.cell (p := ⟨g, 0, none⟩) hlt).trans h0
  have k1 := (HB.out.cell (p := ⟨g, 1, none⟩) hlt).trans h1
  have dx := fun o => cell?_of_heap (o := o) bx1
  have ex := fun o => frozen?_of_heap (o := o) bx1
  have d0 := dx 0
  have e0 := ex 0
  have d1 := dx 1
  have e1 := ex 1
  have d2 := dx 2
  have e2 := ex 2
  have d3 := dx 3
  have e3 := ex 3
  have d4 := dx 4
  have e4 := ex 4
  have d5 := dx 5
  have e5 := ex 5
  have d6 := dx 6
  have e6 := ex 6
  have d7 := dx 7
  have e7 := ex 7
  simp [PEn.none] at d0 d1 d2 d3 d4 d5 d6 d7
  clear dx ex bx bx1 bz b1 h0 h1
  go_wp2
  go_region
  go_wp2
  refine bodyPost_ret (v := .tuple #[.agg #[.int .i64 1, .int .i64 a, .int .i64 b, .int .i64 8, .int .i64 0, .int .i64 0, .int .i64 0, .int .i64 0], .bool true]) (by simp [results, Tryd.results44, go_sem, d0, d1, d2, d3, d4, d5, d6, d7, e0, e1, e2, e3, e4, e5, e6, e7, lt0]) rfl ⟨rfl, ?_⟩
  first
    | with_reducible exact set8_below (Nat.le_refl _) HB.out
    | with_reducible exact ((set8_below (Nat.le_refl _) HB.out).alloc (by simp; omega) _)
    | with_reducible exact ((set8_below (Nat.le_refl _) HB.out).alloc (by simp; omega) _).drew
    | with_reducible exact (set8_below (Nat.le_refl _) HB.out).drew
    | (trace_state; sorry)
set_option maxHeartbeats 1000000 in
set_option maxRecDepth 100000 in
theorem one_y8 (a b c : Int) (g cap : Nat) (w : World) (h0 : w.cell? ⟨g, 0, none⟩ = some (.int .i64 a)) (h1 : w.cell? ⟨g, 1, none⟩ = some (.int .i64 b)) (h2 : w.cell? ⟨g, 2, none⟩ = some (.int .i64 c)) (hlt : g < w.heap.size) :
    Calls Tryd.prog 44 #[.string ⟨#[102, 108, 117, 115, 104]⟩, .slice (some ⟨g, 0, none⟩) 3 cap] w fun e w' => e = .returned (.tuple #[.agg #[.int .i64 1, .int .i64 a, .int .i64 b, .int .i64 9, .int .i64 c, .int .i64 0, .int .i64 0, .int .i64 0], .bool true]) ∧ Below w.heap.size w w' := by
  have H : Hid (∀ w, Calls Tryd.prog 34 #[.string ⟨#[102, 108, 117, 115, 104]⟩] w fun e w' => e = .returned (.tuple #[.int .i64 9, .int .i64 1]) ∧ Below w.heap.size w w') := Lib.hid (rop1_lit 9 _ _ (by decide) rfl rfl)
  go_enter Tryd.func44, Tryd.ntmps44
  go_wp2_with fail
  refine calls_at ?_
  intro wz hwz
  have bx : BoxE wz w.heap.size PEn.none := by rw [hwz]; exact heap_alloc_new w _
  have bz : Below w.heap.size w wz := by rw [hwz]; exact (Below.refl _ _).alloc (Nat.le_refl _) _
  clear hwz
  refine (H.out _).mono ?_
  rintro en w1 ⟨rfl, b1⟩
  have lt0 : w.heap.size < w1.heap.size := Nat.lt_of_lt_of_le (Array.getElem?_eq_some_iff.1 bx).1 b1.size
  have bx1 : BoxE w1 w.heap.size PEn.none := (b1.block _ (Array.getElem?_eq_some_iff.1 bx).1).trans bx
  have HB := Lib.hid (bz.trans (b1.mono bz.size))
  have hltg : g < w1.heap.size := Nat.lt_of_lt_of_le hlt HB.out.size
  have hneg : g ≠ w.heap.size := by omega
  have k0 := (HB.out.cell (p := ⟨g, 0, none⟩) hlt).trans h0
  have k1 := (HB.out.cell (p := ⟨g, 1, none⟩) hlt).trans h1
  have k2 := (HB.out.cell (p := ⟨g, 2, none⟩) hlt).trans h2
  have dx := fun o => cell?_of_heap (o := o) bx1
  have ex := fun o => frozen?_of_heap (o := o) bx1
  have d0 := dx 0
  have e0 := ex 0
  have d1 := dx 1
  have e1 := ex 1
  have d2 := dx 2
  have e2 := ex 2
  have d3 := dx 3
  have e3 := ex 3
  have d4 := dx 4
  have e4 := ex 4
  have d5 := dx 5
  have e5 := ex 5
  have d6 := dx 6
  have e6 := ex 6
  have d7 := dx 7
  have e7 := ex 7
  simp [PEn.none] at d0 d1 d2 d3 d4 d5 d6 d7
  clear dx ex bx bx1 bz b1 h0 h1 h2
  go_wp2
  go_region
  go_wp2
  refine bodyPost_ret (v := .tuple #[.agg #[.int .i64 1, .int .i64 a, .int .i64 b, .int .i64 9, .int .i64 c, .int .i64 0, .int .i64 0, .int .i64 0], .bool true]) (by simp [results, Tryd.results44, go_sem, d0, d1, d2, d3, d4, d5, d6, d7, e0, e1, e2, e3, e4, e5, e6, e7, lt0]) rfl ⟨rfl, ?_⟩
  first
    | with_reducible exact set8_below (Nat.le_refl _) HB.out
    | with_reducible exact ((set8_below (Nat.le_refl _) HB.out).alloc (by simp; omega) _)
    | with_reducible exact ((set8_below (Nat.le_refl _) HB.out).alloc (by simp; omega) _).drew
    | with_reducible exact (set8_below (Nat.le_refl _) HB.out).drew
    | (trace_state; sorry)
set_option maxHeartbeats 1000000 in
set_option maxRecDepth 100000 in
theorem one_y9 (a b : Int) (g cap : Nat) (w : World) (h0 : w.cell? ⟨g, 0, none⟩ = some (.int .i64 a)) (h1 : w.cell? ⟨g, 1, none⟩ = some (.int .i64 b)) (hlt : g < w.heap.size) :
    Calls Tryd.prog 44 #[.string ⟨#[115, 116, 101, 112]⟩, .slice (some ⟨g, 0, none⟩) 2 cap] w fun e w' => e = .returned (.tuple #[.agg #[.int .i64 2, .int .i64 a, .int .i64 0, .int .i64 0, .int .i64 0, .int .i64 0, .int .i64 b, .int .i64 0], .bool true]) ∧ Below w.heap.size w w' := by
  have H : Hid (∀ w, Calls Tryd.prog 34 #[.string ⟨#[115, 116, 101, 112]⟩] w fun e w' => e = .returned (.tuple #[.int .i64 0, .int .i64 0]) ∧ Below w.heap.size w w') := Lib.hid (rop0_lit [115, 116, 101, 112] (by intro k h1 h2; have := kinds k; rcases this with rfl | rfl | rfl | rfl | rfl | rfl | rfl | rfl | rfl | h3 <;> first | decide | omega) _ rfl)
  go_enter Tryd.func44, Tryd.ntmps44
  go_wp2_with fail
  refine calls_at ?_
  intro wz hwz
  have bx : BoxE wz w.heap.size PEn.none := by rw [hwz]; exact heap_alloc_new w _
  have bz : Below w.heap.size w wz := by rw [hwz]; exact (Below.refl _ _).alloc (Nat.le_refl _) _
  clear hwz
  refine (H.out _).mono ?_
  rintro en w1 ⟨rfl, b1⟩
  have lt0 : w.heap.size < w1.heap.size := Nat.lt_of_lt_of_le (Array.getElem?_eq_some_iff.1 bx).1 b1.size
  have bx1 : BoxE w1 w.heap.size PEn.none := (b1.block _ (Array.getElem?_eq_some_iff.1 bx).1).trans bx
  have HB := Lib.hid (bz.trans (b1.mono bz.size))
  have hltg : g < w1.heap.size := Nat.lt_of_lt_of_le hlt HB.out.size
  have hneg : g ≠ w.heap.size := by omega
  have k0 := (HB.out.cell (p := ⟨g, 0, none⟩) hlt).trans h0
  have k1 := (HB.out.cell (p := ⟨g, 1, none⟩) hlt).trans h1
  have dx := fun o => cell?_of_heap (o := o) bx1
  have ex := fun o => frozen?_of_heap (o := o) bx1
  have d0 := dx 0
  have e0 := ex 0
  have d1 := dx 1
  have e1 := ex 1
  have d2 := dx 2
  have e2 := ex 2
  have d3 := dx 3
  have e3 := ex 3
  have d4 := dx 4
  have e4 := ex 4
  have d5 := dx 5
  have e5 := ex 5
  have d6 := dx 6
  have e6 := ex 6
  have d7 := dx 7
  have e7 := ex 7
  simp [PEn.none] at d0 d1 d2 d3 d4 d5 d6 d7
  clear dx ex bx bx1 bz b1 h0 h1
  go_wp2
  go_region
  go_wp2
  refine bodyPost_ret (v := .tuple #[.agg #[.int .i64 2, .int .i64 a, .int .i64 0, .int .i64 0, .int .i64 0, .int .i64 0, .int .i64 b, .int .i64 0], .bool true]) (by simp [results, Tryd.results44, go_sem, d0, d1, d2, d3, d4, d5, d6, d7, e0, e1, e2, e3, e4, e5, e6, e7, lt0]) rfl ⟨rfl, ?_⟩
  first
    | with_reducible exact set8_below (Nat.le_refl _) HB.out
    | with_reducible exact ((set8_below (Nat.le_refl _) HB.out).alloc (by simp; omega) _)
    | with_reducible exact ((set8_below (Nat.le_refl _) HB.out).alloc (by simp; omega) _).drew
    | with_reducible exact (set8_below (Nat.le_refl _) HB.out).drew
    | (trace_state; sorry)
set_option maxHeartbeats 1000000 in
set_option maxRecDepth 100000 in
theorem one_y10 (a b : Int) (g cap : Nat) (w : World) (h0 : w.cell? ⟨g, 0, none⟩ = some (.int .i64 a)) (h1 : w.cell? ⟨g, 1, none⟩ = some (.int .i64 b)) (hlt : g < w.heap.size) :
    Calls Tryd.prog 44 #[.string ⟨#[101, 118, 105, 99, 116]⟩, .slice (some ⟨g, 0, none⟩) 2 cap] w fun e w' => e = .returned (.tuple #[.agg #[.int .i64 3, .int .i64 0, .int .i64 0, .int .i64 0, .int .i64 0, .int .i64 0, .int .i64 a, .int .i64 b], .bool true]) ∧ Below w.heap.size w w' := by
  have H : Hid (∀ w, Calls Tryd.prog 34 #[.string ⟨#[101, 118, 105, 99, 116]⟩] w fun e w' => e = .returned (.tuple #[.int .i64 0, .int .i64 0]) ∧ Below w.heap.size w w') := Lib.hid (rop0_lit [101, 118, 105, 99, 116] (by intro k h1 h2; have := kinds k; rcases this with rfl | rfl | rfl | rfl | rfl | rfl | rfl | rfl | rfl | h3 <;> first | decide | omega) _ rfl)
  go_enter Tryd.func44, Tryd.ntmps44
  go_wp2_with fail
  refine calls_at ?_
  intro wz hwz
  have bx : BoxE wz w.heap.size PEn.none := by rw [hwz]; exact heap_alloc_new w _
  have bz : Below w.heap.size w wz := by rw [hwz]; exact (Below.refl _ _).alloc (Nat.le_refl _) _
  clear hwz
  refine (H.out _).mono ?_
  rintro en w1 ⟨rfl, b1⟩
  have lt0 : w.heap.size < w1.heap.size := Nat.lt_of_lt_of_le (Array.getElem?_eq_some_iff.1 bx).1 b1.size
  have bx1 : BoxE w1 w.heap.size PEn.none := (b1.block _ (Array.getElem?_eq_some_iff.1 bx).1).trans bx
  have HB := Lib.hid (bz.trans (b1.mono bz.size))
  have hltg : g < w1.heap.size := Nat.lt_of_lt_of_le hlt HB.out.size
  have hneg : g ≠ w.heap.size := by omega
  have k0 := (HB.out.cell (p := ⟨g, 0, none⟩) hlt).trans h0
  have k1 := (HB.out.cell (p := ⟨g, 1, none⟩) hlt).trans h1
  have dx := fun o => cell?_of_heap (o := o) bx1
  have ex := fun o => frozen?_of_heap (o := o) bx1
  have d0 := dx 0
  have e0 := ex 0
  have d1 := dx 1
  have e1 := ex 1
  have d2 := dx 2
  have e2 := ex 2
  have d3 := dx 3
  have e3 := ex 3
  have d4 := dx 4
  have e4 := ex 4
  have d5 := dx 5
  have e5 := ex 5
  have d6 := dx 6
  have e6 := ex 6
  have d7 := dx 7
  have e7 := ex 7
  simp [PEn.none] at d0 d1 d2 d3 d4 d5 d6 d7
  clear dx ex bx bx1 bz b1 h0 h1
  go_wp2
  go_region
  go_wp2
  refine bodyPost_ret (v := .tuple #[.agg #[.int .i64 3, .int .i64 0, .int .i64 0, .int .i64 0, .int .i64 0, .int .i64 0, .int .i64 a, .int .i64 b], .bool true]) (by simp [results, Tryd.results44, go_sem, d0, d1, d2, d3, d4, d5, d6, d7, e0, e1, e2, e3, e4, e5, e6, e7, lt0]) rfl ⟨rfl, ?_⟩
  first
    | with_reducible exact set8_below (Nat.le_refl _) HB.out
    | with_reducible exact ((set8_below (Nat.le_refl _) HB.out).alloc (by simp; omega) _)
    | with_reducible exact ((set8_below (Nat.le_refl _) HB.out).alloc (by simp; omega) _).drew
    | with_reducible exact (set8_below (Nat.le_refl _) HB.out).drew
    | (trace_state; sorry)
set_option maxHeartbeats 1000000 in
set_option maxRecDepth 100000 in
theorem one_y11 (ga : Option Addr) (cap : Nat) (w : World)  :
    Calls Tryd.prog 44 #[.string ⟨#[99, 114, 97, 115, 104]⟩, .slice ga 0 cap] w fun e w' => e = .returned (.tuple #[.agg #[.int .i64 4, .int .i64 0, .int .i64 0, .int .i64 0, .int .i64 0, .int .i64 0, .int .i64 0, .int .i64 0], .bool true]) ∧ Below w.heap.size w w' := by
  have H : Hid (∀ w, Calls Tryd.prog 34 #[.string ⟨#[99, 114, 97, 115, 104]⟩] w fun e w' => e = .returned (.tuple #[.int .i64 0, .int .i64 0]) ∧ Below w.heap.size w w') := Lib.hid (rop0_lit [99, 114, 97, 115, 104] (by intro k h1 h2; have := kinds k; rcases this with rfl | rfl | rfl | rfl | rfl | rfl | rfl | rfl | rfl | h3 <;> first | decide | omega) _ rfl)
  go_enter Tryd.func44, Tryd.ntmps44
  go_wp2_with fail
  refine calls_at ?_
  intro wz hwz
  have bx : BoxE wz w.heap.size PEn.none := by rw [hwz]; exact heap_alloc_new w _
  have bz : Below w.heap.size w wz := by rw [hwz]; exact (Below.refl _ _).alloc (Nat.le_refl _) _
  clear hwz
  refine (H.out _).mono ?_
  rintro en w1 ⟨rfl, b1⟩
  have lt0 : w.heap.size < w1.heap.size := Nat.lt_of_lt_of_le (Array.getElem?_eq_some_iff.1 bx).1 b1.size
  have bx1 : BoxE w1 w.heap.size PEn.none := (b1.block _ (Array.getElem?_eq_some_iff.1 bx).1).trans bx
  have HB := Lib.hid (bz.trans (b1.mono bz.size))
  have dx := fun o => cell?_of_heap (o := o) bx1
  have ex := fun o => frozen?_of_heap (o := o) bx1
  have d0 := dx 0
  have e0 := ex 0
  have d1 := dx 1
  have e1 := ex 1
  have d2 := dx 2
  have e2 := ex 2
  have d3 := dx 3
  have e3 := ex 3
  have d4 := dx 4
  have e4 := ex 4
  have d5 := dx 5
  have e5 := ex 5
  have d6 := dx 6
  have e6 := ex 6
  have d7 := dx 7
  have e7 := ex 7
  simp [PEn.none] at d0 d1 d2 d3 d4 d5 d6 d7
  clear dx ex bx bx1 bz b1
  go_wp2
  refine bodyPost_ret (v := .tuple #[.agg #[.int .i64 4, .int .i64 0, .int .i64 0, .int .i64 0, .int .i64 0, .int .i64 0, .int .i64 0, .int .i64 0], .bool true]) (by simp [results, Tryd.results44, go_sem, d0, d1, d2, d3, d4, d5, d6, d7, e0, e1, e2, e3, e4, e5, e6, e7, lt0]) rfl ⟨rfl, ?_⟩
  first
    | with_reducible exact set8_below (Nat.le_refl _) HB.out
    | with_reducible exact ((set8_below (Nat.le_refl _) HB.out).alloc (by simp; omega) _)
    | with_reducible exact ((set8_below (Nat.le_refl _) HB.out).alloc (by simp; omega) _).drew
    | with_reducible exact (set8_below (Nat.le_refl _) HB.out).drew
    | (trace_state; sorry)
set_option maxHeartbeats 1000000 in
set_option maxRecDepth 100000 in
theorem one_y12 (a : Int) (g cap : Nat) (w : World) (h0 : w.cell? ⟨g, 0, none⟩ = some (.int .i64 a)) (hlt : g < w.heap.size) :
    Calls Tryd.prog 44 #[.string ⟨#[109, 101, 110, 100]⟩, .slice (some ⟨g, 0, none⟩) 1 cap] w fun e w' => e = .returned (.tuple #[.agg #[.int .i64 5, .int .i64 0, .int .i64 0, .int .i64 0, .int .i64 0, .int .i64 0, .int .i64 a, .int .i64 0], .bool true]) ∧ Below w.heap.size w w' := by
  have H : Hid (∀ w, Calls Tryd.prog 34 #[.string ⟨#[109, 101, 110, 100]⟩] w fun e w' => e = .returned (.tuple #[.int .i64 0, .int .i64 0]) ∧ Below w.heap.size w w') := Lib.hid (rop0_lit [109, 101, 110, 100] (by intro k h1 h2; have := kinds k; rcases this with rfl | rfl | rfl | rfl | rfl | rfl | rfl | rfl | rfl | h3 <;> first | decide | omega) _ rfl)
  go_enter Tryd.func44, Tryd.ntmps44
  go_wp2_with fail
  refine calls_at ?_
  intro wz hwz
  have bx : BoxE wz w.heap.size PEn.none := by rw [hwz]; exact heap_alloc_new w _
  have bz : Below w.heap.size w wz := by rw [hwz]; exact (Below.refl _ _).alloc (Nat.le_refl _) _
  clear hwz
  refine (H.out _).mono ?_
  rintro en w1 ⟨rfl, b1⟩
  have lt0 : w.heap.size < w1.heap.size := Nat.lt_of_lt_of_le (Array.getElem?_eq_some_iff.1 bx).1 b1.size
  have bx1 : BoxE w1 w.heap.size PEn.none := (b1.block _ (Array.getElem?_eq_some_iff.1 bx).1).trans bx
  have HB := Lib.hid (bz.trans (b1.mono bz.size))
  have hltg : g < w1.heap.size := Nat.lt_of_lt_of_le hlt HB.out.size
  have hneg : g ≠ w.heap.size := by omega
  have k0 := (HB.out.cell (p := ⟨g, 0, none⟩) hlt).trans h0
  have dx := fun o => cell?_of_heap (o := o) bx1
  have ex := fun o => frozen?_of_heap (o := o) bx1
  have d0 := dx 0
  have e0 := ex 0
  have d1 := dx 1
  have e1 := ex 1
  have d2 := dx 2
  have e2 := ex 2
  have d3 := dx 3
  have e3 := ex 3
  have d4 := dx 4
  have e4 := ex 4
  have d5 := dx 5
  have e5 := ex 5
  have d6 := dx 6
  have e6 := ex 6
  have d7 := dx 7
  have e7 := ex 7
  simp [PEn.none] at d0 d1 d2 d3 d4 d5 d6 d7
  clear dx ex bx bx1 bz b1 h0
  go_wp2
  refine bodyPost_ret (v := .tuple #[.agg #[.int .i64 5, .int .i64 0, .int .i64 0, .int .i64 0, .int .i64 0, .int .i64 0, .int .i64 a, .int .i64 0], .bool true]) (by simp [results, Tryd.results44, go_sem, d0, d1, d2, d3, d4, d5, d6, d7, e0, e1, e2, e3, e4, e5, e6, e7, lt0]) rfl ⟨rfl, ?_⟩
  first
    | with_reducible exact set8_below (Nat.le_refl _) HB.out
    | with_reducible exact ((set8_below (Nat.le_refl _) HB.out).alloc (by simp; omega) _)
    | with_reducible exact ((set8_below (Nat.le_refl _) HB.out).alloc (by simp; omega) _).drew
    | with_reducible exact (set8_below (Nat.le_refl _) HB.out).drew
    | (trace_state; sorry)
set_option maxHeartbeats 1000000 in
set_option maxRecDepth 100000 in
theorem one_y13 (a b : Int) (g cap : Nat) (w : World) (h0 : w.cell? ⟨g, 0, none⟩ = some (.int .i64 a)) (h1 : w.cell? ⟨g, 1, none⟩ = some (.int .i64 b)) (hlt : g < w.heap.size) :
    Calls Tryd.prog 44 #[.string ⟨#[114, 101, 115, 111, 108, 118, 101]⟩, .slice (some ⟨g, 0, none⟩) 2 cap] w fun e w' => e = .returned (.tuple #[.agg #[.int .i64 6, .int .i64 a, .int .i64 b, .int .i64 0, .int .i64 0, .int .i64 0, .int .i64 0, .int .i64 0], .bool true]) ∧ Below w.heap.size w w' := by
  have H : Hid (∀ w, Calls Tryd.prog 34 #[.string ⟨#[114, 101, 115, 111, 108, 118, 101]⟩] w fun e w' => e = .returned (.tuple #[.int .i64 0, .int .i64 0]) ∧ Below w.heap.size w w') := Lib.hid (rop0_lit [114, 101, 115, 111, 108, 118, 101] (by intro k h1 h2; have := kinds k; rcases this with rfl | rfl | rfl | rfl | rfl | rfl | rfl | rfl | rfl | h3 <;> first | decide | omega) _ rfl)
  go_enter Tryd.func44, Tryd.ntmps44
  go_wp2_with fail
  refine calls_at ?_
  intro wz hwz
  have bx : BoxE wz w.heap.size PEn.none := by rw [hwz]; exact heap_alloc_new w _
  have bz : Below w.heap.size w wz := by rw [hwz]; exact (Below.refl _ _).alloc (Nat.le_refl _) _
  clear hwz
  refine (H.out _).mono ?_
  rintro en w1 ⟨rfl, b1⟩
  have lt0 : w.heap.size < w1.heap.size := Nat.lt_of_lt_of_le (Array.getElem?_eq_some_iff.1 bx).1 b1.size
  have bx1 : BoxE w1 w.heap.size PEn.none := (b1.block _ (Array.getElem?_eq_some_iff.1 bx).1).trans bx
  have HB := Lib.hid (bz.trans (b1.mono bz.size))
  have hltg : g < w1.heap.size := Nat.lt_of_lt_of_le hlt HB.out.size
  have hneg : g ≠ w.heap.size := by omega
  have k0 := (HB.out.cell (p := ⟨g, 0, none⟩) hlt).trans h0
  have k1 := (HB.out.cell (p := ⟨g, 1, none⟩) hlt).trans h1
  have dx := fun o => cell?_of_heap (o := o) bx1
  have ex := fun o => frozen?_of_heap (o := o) bx1
  have d0 := dx 0
  have e0 := ex 0
  have d1 := dx 1
  have e1 := ex 1
  have d2 := dx 2
  have e2 := ex 2
  have d3 := dx 3
  have e3 := ex 3
  have d4 := dx 4
  have e4 := ex 4
  have d5 := dx 5
  have e5 := ex 5
  have d6 := dx 6
  have e6 := ex 6
  have d7 := dx 7
  have e7 := ex 7
  simp [PEn.none] at d0 d1 d2 d3 d4 d5 d6 d7
  clear dx ex bx bx1 bz b1 h0 h1
  go_wp2
  go_region
  go_wp2
  refine bodyPost_ret (v := .tuple #[.agg #[.int .i64 6, .int .i64 a, .int .i64 b, .int .i64 0, .int .i64 0, .int .i64 0, .int .i64 0, .int .i64 0], .bool true]) (by simp [results, Tryd.results44, go_sem, d0, d1, d2, d3, d4, d5, d6, d7, e0, e1, e2, e3, e4, e5, e6, e7, lt0]) rfl ⟨rfl, ?_⟩
  first
    | with_reducible exact set8_below (Nat.le_refl _) HB.out
    | with_reducible exact ((set8_below (Nat.le_refl _) HB.out).alloc (by simp; omega) _)
    | with_reducible exact ((set8_below (Nat.le_refl _) HB.out).alloc (by simp; omega) _).drew
    | with_reducible exact (set8_below (Nat.le_refl _) HB.out).drew
    | (trace_state; sorry)
set_option maxHeartbeats 1000000 in
set_option maxRecDepth 100000 in
theorem one_n0  (p : Option Addr) (n cap : Nat) (w : World) (hn : n ≠ 3)
    (H : Hid (∀ w, Calls Tryd.prog 34 #[.string ⟨#[97, 108, 108, 111, 99]⟩] w fun e w' => e = .returned (.tuple #[.int .i64 1, .int .i64 1]) ∧ Below w.heap.size w w')) :
    Calls Tryd.prog 44 #[.string ⟨#[97, 108, 108, 111, 99]⟩, .slice p n cap] w fun e w' => e = .returned (.tuple #[enV PEn.none, .bool false]) ∧ Below w.heap.size w w' := by
  have hne : ((n : Int) != 3) = true := by simp; omega
  go_enter Tryd.func44, Tryd.ntmps44
  go_wp2_with fail
  refine calls_at ?_
  intro wz hwz
  have bx : BoxE wz w.heap.size PEn.none := by rw [hwz]; exact heap_alloc_new w _
  have bz : Below w.heap.size w wz := by rw [hwz]; exact (Below.refl _ _).alloc (Nat.le_refl _) _
  clear hwz
  refine (H.out _).mono ?_
  rintro en w1 ⟨rfl, b1⟩
  have lt0 : w.heap.size < w1.heap.size := Nat.lt_of_lt_of_le (Array.getElem?_eq_some_iff.1 bx).1 b1.size
  have bx1 : BoxE w1 w.heap.size PEn.none := (b1.block _ (Array.getElem?_eq_some_iff.1 bx).1).trans bx
  have HB := Lib.hid (bz.trans (b1.mono bz.size))
  have dx := fun o => cell?_of_heap (o := o) bx1
  have ex := fun o => frozen?_of_heap (o := o) bx1
  have d0 := dx 0
  have e0 := ex 0
  have d1 := dx 1
  have e1 := ex 1
  have d2 := dx 2
  have e2 := ex 2
  have d3 := dx 3
  have e3 := ex 3
  have d4 := dx 4
  have e4 := ex 4
  have d5 := dx 5
  have e5 := ex 5
  have d6 := dx 6
  have e6 := ex 6
  have d7 := dx 7
  have e7 := ex 7
  simp [PEn.none] at d0 d1 d2 d3 d4 d5 d6 d7
  clear dx ex bx bx1 bz b1
  go_wp2
  refine bodyPost_ret (v := .tuple #[enV PEn.none, .bool false]) (by simp [results, Tryd.results44, go_sem, enV, PEn.none, d0, d1, d2, d3, d4, d5, d6, d7, e0, e1, e2, e3, e4, e5, e6, e7, lt0]) rfl ⟨rfl, ?_⟩
  first
    | with_reducible exact set8_below (Nat.le_refl _) HB.out
    | with_reducible exact ((set8_below (Nat.le_refl _) HB.out).alloc (by simp; omega) _)
    | with_reducible exact ((set8_below (Nat.le_refl _) HB.out).alloc (by simp; omega) _).drew
    | with_reducible exact (set8_below (Nat.le_refl _) HB.out).drew
    | (trace_state; sorry)
set_option maxHeartbeats 1000000 in
set_option maxRecDepth 100000 in
theorem one_n1  (p : Option Addr) (n cap : Nat) (w : World) (hn : n ≠ 3)
    (H : Hid (∀ w, Calls Tryd.prog 34 #[.string ⟨#[102, 114, 101, 101]⟩] w fun e w' => e = .returned (.tuple #[.int .i64 2, .int .i64 1]) ∧ Below w.heap.size w w')) :
    Calls Tryd.prog 44 #[.string ⟨#[102, 114, 101, 101]⟩, .slice p n cap] w fun e w' => e = .returned (.tuple #[enV PEn.none, .bool false]) ∧ Below w.heap.size w w' := by
  have hne : ((n : Int) != 3) = true := by simp; omega
  go_enter Tryd.func44, Tryd.ntmps44
  go_wp2_with fail
  refine calls_at ?_
  intro wz hwz
  have bx : BoxE wz w.heap.size PEn.none := by rw [hwz]; exact heap_alloc_new w _
  have bz : Below w.heap.size w wz := by rw [hwz]; exact (Below.refl _ _).alloc (Nat.le_refl _) _
  clear hwz
  refine (H.out _).mono ?_
  rintro en w1 ⟨rfl, b1⟩
  have lt0 : w.heap.size < w1.heap.size := Nat.lt_of_lt_of_le (Array.getElem?_eq_some_iff.1 bx).1 b1.size
  have bx1 : BoxE w1 w.heap.size PEn.none := (b1.block _ (Array.getElem?_eq_some_iff.1 bx).1).trans bx
  have HB := Lib.hid (bz.trans (b1.mono bz.size))
  have dx := fun o => cell?_of_heap (o := o) bx1
  have ex := fun o => frozen?_of_heap (o := o) bx1
  have d0 := dx 0
  have e0 := ex 0
  have d1 := dx 1
  have e1 := ex 1
  have d2 := dx 2
  have e2 := ex 2
  have d3 := dx 3
  have e3 := ex 3
  have d4 := dx 4
  have e4 := ex 4
  have d5 := dx 5
  have e5 := ex 5
  have d6 := dx 6
  have e6 := ex 6
  have d7 := dx 7
  have e7 := ex 7
  simp [PEn.none] at d0 d1 d2 d3 d4 d5 d6 d7
  clear dx ex bx bx1 bz b1
  go_wp2
  refine bodyPost_ret (v := .tuple #[enV PEn.none, .bool false]) (by simp [results, Tryd.results44, go_sem, enV, PEn.none, d0, d1, d2, d3, d4, d5, d6, d7, e0, e1, e2, e3, e4, e5, e6, e7, lt0]) rfl ⟨rfl, ?_⟩
  first
    | with_reducible exact set8_below (Nat.le_refl _) HB.out
    | with_reducible exact ((set8_below (Nat.le_refl _) HB.out).alloc (by simp; omega) _)
    | with_reducible exact ((set8_below (Nat.le_refl _) HB.out).alloc (by simp; omega) _).drew
    | with_reducible exact (set8_below (Nat.le_refl _) HB.out).drew
    | (trace_state; sorry)
set_option maxHeartbeats 1000000 in
set_option maxRecDepth 100000 in
theorem one_n2  (p : Option Addr) (n cap : Nat) (w : World) (hn : n ≠ 4)
    (H : Hid (∀ w, Calls Tryd.prog 34 #[.string ⟨#[114, 101, 97, 108, 108, 111, 99]⟩] w fun e w' => e = .returned (.tuple #[.int .i64 3, .int .i64 2]) ∧ Below w.heap.size w w')) :
    Calls Tryd.prog 44 #[.string ⟨#[114, 101, 97, 108, 108, 111, 99]⟩, .slice p n cap] w fun e w' => e = .returned (.tuple #[enV PEn.none, .bool false]) ∧ Below w.heap.size w w' := by
  have hne : ((n : Int) != 4) = true := by simp; omega
  go_enter Tryd.func44, Tryd.ntmps44
  go_wp2_with fail
  refine calls_at ?_
  intro wz hwz
  have bx : BoxE wz w.heap.size PEn.none := by rw [hwz]; exact heap_alloc_new w _
  have bz : Below w.heap.size w wz := by rw [hwz]; exact (Below.refl _ _).alloc (Nat.le_refl _) _
  clear hwz
  refine (H.out _).mono ?_
  rintro en w1 ⟨rfl, b1⟩
  have lt0 : w.heap.size < w1.heap.size := Nat.lt_of_lt_of_le (Array.getElem?_eq_some_iff.1 bx).1 b1.size
  have bx1 : BoxE w1 w.heap.size PEn.none := (b1.block _ (Array.getElem?_eq_some_iff.1 bx).1).trans bx
  have HB := Lib.hid (bz.trans (b1.mono bz.size))
  have dx := fun o => cell?_of_heap (o := o) bx1
  have ex := fun o => frozen?_of_heap (o := o) bx1
  have d0 := dx 0
  have e0 := ex 0
  have d1 := dx 1
  have e1 := ex 1
  have d2 := dx 2
  have e2 := ex 2
  have d3 := dx 3
  have e3 := ex 3
  have d4 := dx 4
  have e4 := ex 4
  have d5 := dx 5
  have e5 := ex 5
  have d6 := dx 6
  have e6 := ex 6
  have d7 := dx 7
  have e7 := ex 7
  simp [PEn.none] at d0 d1 d2 d3 d4 d5 d6 d7
  clear dx ex bx bx1 bz b1
  go_wp2
  refine bodyPost_ret (v := .tuple #[enV PEn.none, .bool false]) (by simp [results, Tryd.results44, go_sem, enV, PEn.none, d0, d1, d2, d3, d4, d5, d6, d7, e0, e1, e2, e3, e4, e5, e6, e7, lt0]) rfl ⟨rfl, ?_⟩
  first
    | with_reducible exact set8_below (Nat.le_refl _) HB.out
    | with_reducible exact ((set8_below (Nat.le_refl _) HB.out).alloc (by simp; omega) _)
    | with_reducible exact ((set8_below (Nat.le_refl _) HB.out).alloc (by simp; omega) _).drew
    | with_reducible exact (set8_below (Nat.le_refl _) HB.out).drew
    | (trace_state; sorry)
set_option maxHeartbeats 1000000 in
set_option maxRecDepth 100000 in
theorem one_n3  (p : Option Addr) (n cap : Nat) (w : World) (hn : n ≠ 4)
    (H : Hid (∀ w, Calls Tryd.prog 34 #[.string ⟨#[97, 108, 108, 111, 99, 114, 111, 111, 116]⟩] w fun e w' => e = .returned (.tuple #[.int .i64 4, .int .i64 2]) ∧ Below w.heap.size w w')) :
    Calls Tryd.prog 44 #[.string ⟨#[97, 108, 108, 111, 99, 114, 111, 111, 116]⟩, .slice p n cap] w fun e w' => e = .returned (.tuple #[enV PEn.none, .bool false]) ∧ Below w.heap.size w w' := by
  have hne : ((n : Int) != 4) = true := by simp; omega
  go_enter Tryd.func44, Tryd.ntmps44
  go_wp2_with fail
  refine calls_at ?_
  intro wz hwz
  have bx : BoxE wz w.heap.size PEn.none := by rw [hwz]; exact heap_alloc_new w _
  have bz : Below w.heap.size w wz := by rw [hwz]; exact (Below.refl _ _).alloc (Nat.le_refl _) _
  clear hwz
  refine (H.out _).mono ?_
  rintro en w1 ⟨rfl, b1⟩
  have lt0 : w.heap.size < w1.heap.size := Nat.lt_of_lt_of_le (Array.getElem?_eq_some_iff.1 bx).1 b1.size
  have bx1 : BoxE w1 w.heap.size PEn.none := (b1.block _ (Array.getElem?_eq_some_iff.1 bx).1).trans bx
  have HB := Lib.hid (bz.trans (b1.mono bz.size))
  have dx := fun o => cell?_of_heap (o := o) bx1
  have ex := fun o => frozen?_of_heap (o := o) bx1
  have d0 := dx 0
  have e0 := ex 0
  have d1 := dx 1
  have e1 := ex 1
  have d2 := dx 2
  have e2 := ex 2
  have d3 := dx 3
  have e3 := ex 3
  have d4 := dx 4
  have e4 := ex 4
  have d5 := dx 5
  have e5 := ex 5
  have d6 := dx 6
  have e6 := ex 6
  have d7 := dx 7
  have e7 := ex 7
  simp [PEn.none] at d0 d1 d2 d3 d4 d5 d6 d7
  clear dx ex bx bx1 bz b1
  go_wp2
  refine bodyPost_ret (v := .tuple #[enV PEn.none, .bool false]) (by simp [results, Tryd.results44, go_sem, enV, PEn.none, d0, d1, d2, d3, d4, d5, d6, d7, e0, e1, e2, e3, e4, e5, e6, e7, lt0]) rfl ⟨rfl, ?_⟩
  first
    | with_reducible exact set8_below (Nat.le_refl _) HB.out
    | with_reducible exact ((set8_below (Nat.le_refl _) HB.out).alloc (by simp; omega) _)
    | with_reducible exact ((set8_below (Nat.le_refl _) HB.out).alloc (by simp; omega) _).drew
    | with_reducible exact (set8_below (Nat.le_refl _) HB.out).drew
    | (trace_state; sorry)
set_option maxHeartbeats 1000000 in
set_option maxRecDepth 100000 in
theorem one_n4  (p : Option Addr) (n cap : Nat) (w : World) (hn : n ≠ 4)
    (H : Hid (∀ w, Calls Tryd.prog 34 #[.string ⟨#[115, 101, 116, 114, 111, 111, 116]⟩] w fun e w' => e = .returned (.tuple #[.int .i64 5, .int .i64 2]) ∧ Below w.heap.size w w')) :
    Calls Tryd.prog 44 #[.string ⟨#[115, 101, 116, 114, 111, 111, 116]⟩, .slice p n cap] w fun e w' => e = .returned (.tuple #[enV PEn.none, .bool false]) ∧ Below w.heap.size w w' := by
  have hne : ((n : Int) != 4) = true := by simp; omega
  go_enter Tryd.func44, Tryd.ntmps44
  go_wp2_with fail
  refine calls_at ?_
  intro wz hwz
  have bx : BoxE wz w.heap.size PEn.none := by rw [hwz]; exact heap_alloc_new w _
  have bz : Below w.heap.size w wz := by rw [hwz]; exact (Below.refl _ _).alloc (Nat.le_refl _) _
  clear hwz
  refine (H.out _).mono ?_
  rintro en w1 ⟨rfl, b1⟩
  have lt0 : w.heap.size < w1.heap.size := Nat.lt_of_lt_of_le (Array.getElem?_eq_some_iff.1 bx).1 b1.size
  have bx1 : BoxE w1 w.heap.size PEn.none := (b1.block _ (Array.getElem?_eq_some_iff.1 bx).1).trans bx
  have HB := Lib.hid (bz.trans (b1.mono bz.size))
  have dx := fun o => cell?_of_heap (o := o) bx1
  have ex := fun o => frozen?_of_heap (o := o) bx1
  have d0 := dx 0
  have e0 := ex 0
  have d1 := dx 1
  have e1 := ex 1
  have d2 := dx 2
  have e2 := ex 2
  have d3 := dx 3
  have e3 := ex 3
  have d4 := dx 4
  have e4 := ex 4
  have d5 := dx 5
  have e5 := ex 5
  have d6 := dx 6
  have e6 := ex 6
  have d7 := dx 7
  have e7 := ex 7
  simp [PEn.none] at d0 d1 d2 d3 d4 d5 d6 d7
  clear dx ex bx bx1 bz b1
  go_wp2
  refine bodyPost_ret (v := .tuple #[enV PEn.none, .bool false]) (by simp [results, Tryd.results44, go_sem, enV, PEn.none, d0, d1, d2, d3, d4, d5, d6, d7, e0, e1, e2, e3, e4, e5, e6, e7, lt0]) rfl ⟨rfl, ?_⟩
  first
    | with_reducible exact set8_below (Nat.le_refl _) HB.out
    | with_reducible exact ((set8_below (Nat.le_refl _) HB.out).alloc (by simp; omega) _)
    | with_reducible exact ((set8_below (Nat.le_refl _) HB.out).alloc (by simp; omega) _).drew
    | with_reducible exact (set8_below (Nat.le_refl _) HB.out).drew
    | (trace_state; sorry)
set_option maxHeartbeats 1000000 in
set_option maxRecDepth 100000 in
theorem one_n5  (p : Option Addr) (n cap : Nat) (w : World) (hn : n ≠ 3)
    (H : Hid (∀ w, Calls Tryd.prog 34 #[.string ⟨#[103, 101, 116, 114, 111, 111, 116]⟩] w fun e w' => e = .returned (.tuple #[.int .i64 6, .int .i64 1]) ∧ Below w.heap.size w w')) :
    Calls Tryd.prog 44 #[.string ⟨#[103, 101, 116, 114, 111, 111, 116]⟩, .slice p n cap] w fun e w' => e = .returned (.tuple #[enV PEn.none, .bool false]) ∧ Below w.heap.size w w' := by
  have hne : ((n : Int) != 3) = true := by simp; omega
  go_enter Tryd.func44, Tryd.ntmps44
  go_wp2_with fail
  refine calls_at ?_
  intro wz hwz
  have bx : BoxE wz w.heap.size PEn.none := by rw [hwz]; exact heap_alloc_new w _
  have bz : Below w.heap.size w wz := by rw [hwz]; exact (Below.refl _ _).alloc (Nat.le_refl _) _
  clear hwz
  refine (H.out _).mono ?_
  rintro en w1 ⟨rfl, b1⟩
  have lt0 : w.heap.size < w1.heap.size := Nat.lt_of_lt_of_le (Array.getElem?_eq_some_iff.1 bx).1 b1.size
  have bx1 : BoxE w1 w.heap.size PEn.none := (b1.block _ (Array.getElem?_eq_some_iff.1 bx).1).trans bx
  have HB := Lib.hid (bz.trans (b1.mono bz.size))
  have dx := fun o => cell?_of_heap (o := o) bx1
  have ex := fun o => frozen?_of_heap (o := o) bx1
  have d0 := dx 0
  have e0 := ex 0
  have d1 := dx 1
  have e1 := ex 1
  have d2 := dx 2
  have e2 := ex 2
  have d3 := dx 3
  have e3 := ex 3
  have d4 := dx 4
  have e4 := ex 4
  have d5 := dx 5
  have e5 := ex 5
  have d6 := dx 6
  have e6 := ex 6
  have d7 := dx 7
  have e7 := ex 7
  simp [PEn.none] at d0 d1 d2 d3 d4 d5 d6 d7
  clear dx ex bx bx1 bz b1
  go_wp2
  refine bodyPost_ret (v := .tuple #[enV PEn.none, .bool false]) (by simp [results, Tryd.results44, go_sem, enV, PEn.none, d0, d1, d2, d3, d4, d5, d6, d7, e0, e1, e2, e3, e4, e5, e6, e7, lt0]) rfl ⟨rfl, ?_⟩
  first
    | with_reducible exact set8_below (Nat.le_refl _) HB.out
    | with_reducible exact ((set8_below (Nat.le_refl _) HB.out).alloc (by simp; omega) _)
    | with_reducible exact ((set8_below (Nat.le_refl _) HB.out).alloc (by simp; omega) _).drew
    | with_reducible exact (set8_below (Nat.le_refl _) HB.out).drew
    | (trace_state; sorry)
set_option maxHeartbeats 1000000 in
set_option maxRecDepth 100000 in
theorem one_n6  (p : Option Addr) (n cap : Nat) (w : World) (hn : n ≠ 3)
    (H : Hid (∀ w, Calls Tryd.prog 34 #[.string ⟨#[117, 115, 97, 98, 108, 101]⟩] w fun e w' => e = .returned (.tuple #[.int .i64 7, .int .i64 1]) ∧ Below w.heap.size w w')) :
    Calls Tryd.prog 44 #[.string ⟨#[117, 115, 97, 98, 108, 101]⟩, .slice p n cap] w fun e w' => e = .returned (.tuple #[enV PEn.none, .bool false]) ∧ Below w.heap.size w w' := by
  have hne : ((n : Int) != 3) = true := by simp; omega
  go_enter Tryd.func44, Tryd.ntmps44
  go_wp2_with fail
  refine calls_at ?_
  intro wz hwz
  have bx : BoxE wz w.heap.size PEn.none := by rw [hwz]; exact heap_alloc_new w _
  have bz : Below w.heap.size w wz := by rw [hwz]; exact (Below.refl _ _).alloc (Nat.le_refl _) _
  clear hwz
  refine (H.out _).mono ?_
  rintro en w1 ⟨rfl, b1⟩
  have lt0 : w.heap.size < w1.heap.size := Nat.lt_of_lt_of_le (Array.getElem?_eq_some_iff.1 bx).1 b1.size
  have bx1 : BoxE w1 w.heap.size PEn.none := (b1.block _ (Array.getElem?_eq_some_iff.1 bx).1).trans bx
  have HB := Lib.hid (bz.trans (b1.mono bz.size))
  have dx := fun o => cell?_of_heap (o := o) bx1
  have ex := fun o => frozen?_of_heap (o := o) bx1
  have d0 := dx 0
  have e0 := ex 0
  have d1 := dx 1
  have e1 := ex 1
  have d2 := dx 2
  have e2 := ex 2
  have d3 := dx 3
  have e3 := ex 3
  have d4 := dx 4
  have e4 := ex 4
  have d5 := dx 5
  have e5 := ex 5
  have d6 := dx 6
  have e6 := ex 6
  have d7 := dx 7
  have e7 := ex 7
  simp [PEn.none] at d0 d1 d2 d3 d4 d5 d6 d7
  clear dx ex bx bx1 bz b1
  go_wp2
  refine bodyPost_ret (v := .tuple #[enV PEn.none, .bool false]) (by simp [results, Tryd.results44, go_sem, enV, PEn.none, d0, d1, d2, d3, d4, d5, d6, d7, e0, e1, e2, e3, e4, e5, e6, e7, lt0]) rfl ⟨rfl, ?_⟩
  first
    | with_reducible exact set8_below (Nat.le_refl _) HB.out
    | with_reducible exact ((set8_below (Nat.le_refl _) HB.out).alloc (by simp; omega) _)
    | with_reducible exact ((set8_below (Nat.le_refl _) HB.out).alloc (by simp; omega) _).drew
    | with_reducible exact (set8_below (Nat.le_refl _) HB.out).drew
    | (trace_state; sorry)
set_option maxHeartbeats 1000000 in
set_option maxRecDepth 100000 in
theorem one_n7  (p : Option Addr) (n cap : Nat) (w : World) (hn : n ≠ 2)
    (H : Hid (∀ w, Calls Tryd.prog 34 #[.string ⟨#[115, 116, 97, 116, 115]⟩] w fun e w' => e = .returned (.tuple #[.int .i64 8, .int .i64 0]) ∧ Below w.heap.size w w')) :
    Calls Tryd.prog 44 #[.string ⟨#[115, 116, 97, 116, 115]⟩, .slice p n cap] w fun e w' => e = .returned (.tuple #[enV PEn.none, .bool false]) ∧ Below w.heap.size w w' := by
  have hne : ((n : Int) != 2) = true := by simp; omega
  go_enter Tryd.func44, Tryd.ntmps44
  go_wp2_with fail
  refine calls_at ?_
  intro wz hwz
  have bx : BoxE wz w.heap.size PEn.none := by rw [hwz]; exact heap_alloc_new w _
  have bz : Below w.heap.size w wz := by rw [hwz]; exact (Below.refl _ _).alloc (Nat.le_refl _) _
  clear hwz
  refine (H.out _).mono ?_
  rintro en w1 ⟨rfl, b1⟩
  have lt0 : w.heap.size < w1.heap.size := Nat.lt_of_lt_of_le (Array.getElem?_eq_some_iff.1 bx).1 b1.size
  have bx1 : BoxE w1 w.heap.size PEn.none := (b1.block _ (Array.getElem?_eq_some_iff.1 bx).1).trans bx
  have HB := Lib.hid (bz.trans (b1.mono bz.size))
  have dx := fun o => cell?_of_heap (o := o) bx1
  have ex := fun o => frozen?_of_heap (o := o) bx1
  have d0 := dx 0
  have e0 := ex 0
  have d1 := dx 1
  have e1 := ex 1
  have d2 := dx 2
  have e2 := ex 2
  have d3 := dx 3
  have e3 := ex 3
  have d4 := dx 4
  have e4 := ex 4
  have d5 := dx 5
  have e5 := ex 5
  have d6 := dx 6
  have e6 := ex 6
  have d7 := dx 7
  have e7 := ex 7
  simp [PEn.none] at d0 d1 d2 d3 d4 d5 d6 d7
  clear dx ex bx bx1 bz b1
  go_wp2
  refine bodyPost_ret (v := .tuple #[enV PEn.none, .bool false]) (by simp [results, Tryd.results44, go_sem, enV, PEn.none, d0, d1, d2, d3, d4, d5, d6, d7, e0, e1, e2, e3, e4, e5, e6, e7, lt0]) rfl ⟨rfl, ?_⟩
  first
    | with_reducible exact set8_below (Nat.le_refl _) HB.out
    | with_reducible exact ((set8_below (Nat.le_refl _) HB.out).alloc (by simp; omega) _)
    | with_reducible exact ((set8_below (Nat.le_refl _) HB.out).alloc (by simp; omega) _).drew
    | with_reducible exact (set8_below (Nat.le_refl _) HB.out).drew
    | (trace_state; sorry)
set_option maxHeartbeats 1000000 in
set_option maxRecDepth 100000 in
theorem one_n8  (p : Option Addr) (n cap : Nat) (w : World) (hn : n ≠ 3)
    (H : Hid (∀ w, Calls Tryd.prog 34 #[.string ⟨#[102, 108, 117, 115, 104]⟩] w fun e w' => e = .returned (.tuple #[.int .i64 9, .int .i64 1]) ∧ Below w.heap.size w w')) :
    Calls Tryd.prog 44 #[.string ⟨#[102, 108, 117, 115, 104]⟩, .slice p n cap] w fun e w' => e = .returned (.tuple #[enV PEn.none, .bool false]) ∧ Below w.heap.size w w' := by
  have hne : ((n : Int) != 3) = true := by simp; omega
  go_enter Tryd.func44, Tryd.ntmps44
  go_wp2_with fail
  refine calls_at ?_
  intro wz hwz
  have bx : BoxE wz w.heap.size PEn.none := by rw [hwz]; exact heap_alloc_new w _
  have bz : Below w.heap.size w wz := by rw [hwz]; exact (Below.refl _ _).alloc (Nat.le_refl _) _
  clear hwz
  refine (H.out _).mono ?_
  rintro en w1 ⟨rfl, b1⟩
  have lt0 : w.heap.size < w1.heap.size := Nat.lt_of_lt_of_le (Array.getElem?_eq_some_iff.1 bx).1 b1.size
  have bx1 : BoxE w1 w.heap.size PEn.none := (b1.block _ (Array.getElem?_eq_some_iff.1 bx).1).trans bx
  have HB := Lib.hid (bz.trans (b1.mono bz.size))
  have dx := fun o => cell?_of_heap (o := o) bx1
  have ex := fun o => frozen?_of_heap (o := o) bx1
  have d0 := dx 0
  have e0 := ex 0
  have d1 := dx 1
  have e1 := ex 1
  have d2 := dx 2
  have e2 := ex 2
  have d3 := dx 3
  have e3 := ex 3
  have d4 := dx 4
  have e4 := ex 4
  have d5 := dx 5
  have e5 := ex 5
  have d6 := dx 6
  have e6 := ex 6
  have d7 := dx 7
  have e7 := ex 7
  simp [PEn.none] at d0 d1 d2 d3 d4 d5 d6 d7
  clear dx ex bx bx1 bz b1
  go_wp2
  refine bodyPost_ret (v := .tuple #[enV PEn.none, .bool false]) (by simp [results, Tryd.results44, go_sem, enV, PEn.none, d0, d1, d2, d3, d4, d5, d6, d7, e0, e1, e2, e3, e4, e5, e6, e7, lt0]) rfl ⟨rfl, ?_⟩
  first
    | with_reducible exact set8_below (Nat.le_refl _) HB.out
    | with_reducible exact ((set8_below (Nat.le_refl _) HB.out).alloc (by simp; omega) _)
    | with_reducible exact ((set8_below (Nat.le_refl _) HB.out).alloc (by simp; omega) _).drew
    | with_reducible exact (set8_below (Nat.le_refl _) HB.out).drew
    | (trace_state; sorry)
set_option maxHeartbeats 1000000 in
set_option maxRecDepth 100000 in
theorem one_n9  (p : Option Addr) (n cap : Nat) (w : World) (hn : n ≠ 2)
    (H : Hid (∀ w, Calls Tryd.prog 34 #[.string ⟨#[115, 116, 101, 112]⟩] w fun e w' => e = .returned (.tuple #[.int .i64 0, .int .i64 0]) ∧ Below w.heap.size w w')) :
    Calls Tryd.prog 44 #[.string ⟨#[115, 116, 101, 112]⟩, .slice p n cap] w fun e w' => e = .returned (.tuple #[enV PEn.none, .bool false]) ∧ Below w.heap.size w w' := by
  have hne : ((n : Int) == 2) = false := by simp; omega
  go_enter Tryd.func44, Tryd.ntmps44
  go_wp2_with fail
  refine calls_at ?_
  intro wz hwz
  have bx : BoxE wz w.heap.size PEn.none := by rw [hwz]; exact heap_alloc_new w _
  have bz : Below w.heap.size w wz := by rw [hwz]; exact (Below.refl _ _).alloc (Nat.le_refl _) _
  clear hwz
  refine (H.out _).mono ?_
  rintro en w1 ⟨rfl, b1⟩
  have lt0 : w.heap.size < w1.heap.size := Nat.lt_of_lt_of_le (Array.getElem?_eq_some_iff.1 bx).1 b1.size
  have bx1 : BoxE w1 w.heap.size PEn.none := (b1.block _ (Array.getElem?_eq_some_iff.1 bx).1).trans bx
  have HB := Lib.hid (bz.trans (b1.mono bz.size))
  have dx := fun o => cell?_of_heap (o := o) bx1
  have ex := fun o => frozen?_of_heap (o := o) bx1
  have d0 := dx 0
  have e0 := ex 0
  have d1 := dx 1
  have e1 := ex 1
  have d2 := dx 2
  have e2 := ex 2
  have d3 := dx 3
  have e3 := ex 3
  have d4 := dx 4
  have e4 := ex 4
  have d5 := dx 5
  have e5 := ex 5
  have d6 := dx 6
  have e6 := ex 6
  have d7 := dx 7
  have e7 := ex 7
  simp [PEn.none] at d0 d1 d2 d3 d4 d5 d6 d7
  clear dx ex bx bx1 bz b1
  go_wp2
  refine bodyPost_ret (v := .tuple #[enV PEn.none, .bool false]) (by simp [results, Tryd.results44, go_sem, enV, PEn.none, d0, d1, d2, d3, d4, d5, d6, d7, e0, e1, e2, e3, e4, e5, e6, e7, lt0]) rfl ⟨rfl, ?_⟩
  first
    | with_reducible exact set8_below (Nat.le_refl _) HB.out
    | with_reducible exact ((set8_below (Nat.le_refl _) HB.out).alloc (by simp; omega) _)
    | with_reducible exact ((set8_below (Nat.le_refl _) HB.out).alloc (by simp; omega) _).drew
    | with_reducible exact (set8_below (Nat.le_refl _) HB.out).drew
    | (trace_state; sorry)
set_option maxHeartbeats 1000000 in
set_option maxRecDepth 100000 in
theorem one_n10  (p : Option Addr) (n cap : Nat) (w : World) (hn : n ≠ 2)
    (H : Hid (∀ w, Calls Tryd.prog 34 #[.string ⟨#[101, 118, 105, 99, 116]⟩] w fun e w' => e = .returned (.tuple #[.int .i64 0, .int .i64 0]) ∧ Below w.heap.size w w')) :
    Calls Tryd.prog 44 #[.string ⟨#[101, 118, 105, 99, 116]⟩, .slice p n cap] w fun e w' => e = .returned (.tuple #[enV PEn.none, .bool false]) ∧ Below w.heap.size w w' := by
  have hne : ((n : Int) == 2) = false := by simp; omega
  go_enter Tryd.func44, Tryd.ntmps44
  go_wp2_with fail
  refine calls_at ?_
  intro wz hwz
  have bx : BoxE wz w.heap.size PEn.none := by rw [hwz]; exact heap_alloc_new w _
  have bz : Below w.heap.size w wz := by rw [hwz]; exact (Below.refl _ _).alloc (Nat.le_refl _) _
  clear hwz
  refine (H.out _).mono ?_
  rintro en w1 ⟨rfl, b1⟩
  have lt0 : w.heap.size < w1.heap.size := Nat.lt_of_lt_of_le (Array.getElem?_eq_some_iff.1 bx).1 b1.size
  have bx1 : BoxE w1 w.heap.size PEn.none := (b1.block _ (Array.getElem?_eq_some_iff.1 bx).1).trans bx
  have HB := Lib.hid (bz.trans (b1.mono bz.size))
  have dx := fun o => cell?_of_heap (o := o) bx1
  have ex := fun o => frozen?_of_heap (o := o) bx1
  have d0 := dx 0
  have e0 := ex 0
  have d1 := dx 1
  have e1 := ex 1
  have d2 := dx 2
  have e2 := ex 2
  have d3 := dx 3
  have e3 := ex 3
  have d4 := dx 4
  have e4 := ex 4
  have d5 := dx 5
  have e5 := ex 5
  have d6 := dx 6
  have e6 := ex 6
  have d7 := dx 7
  have e7 := ex 7
  simp [PEn.none] at d0 d1 d2 d3 d4 d5 d6 d7
  clear dx ex bx bx1 bz b1
  go_wp2
  refine bodyPost_ret (v := .tuple #[enV PEn.none, .bool false]) (by simp [results, Tryd.results44, go_sem, enV, PEn.none, d0, d1, d2, d3, d4, d5, d6, d7, e0, e1, e2, e3, e4, e5, e6, e7, lt0]) rfl ⟨rfl, ?_⟩
  first
    | with_reducible exact set8_below (Nat.le_refl _) HB.out
    | with_reducible exact ((set8_below (Nat.le_refl _) HB.out).alloc (by simp; omega) _)
    | with_reducible exact ((set8_below (Nat.le_refl _) HB.out).alloc (by simp; omega) _).drew
    | with_reducible exact (set8_below (Nat.le_refl _) HB.out).drew
    | (trace_state; sorry)
set_option maxHeartbeats 1000000 in
set_option maxRecDepth 100000 in
theorem one_n11  (p : Option Addr) (n cap : Nat) (w : World) (hn : n ≠ 0)
    (H : Hid (∀ w, Calls Tryd.prog 34 #[.string ⟨#[99, 114, 97, 115, 104]⟩] w fun e w' => e = .returned (.tuple #[.int .i64 0, .int .i64 0]) ∧ Below w.heap.size w w')) :
    Calls Tryd.prog 44 #[.string ⟨#[99, 114, 97, 115, 104]⟩, .slice p n cap] w fun e w' => e = .returned (.tuple #[enV PEn.none, .bool false]) ∧ Below w.heap.size w w' := by
  have hne : ((n : Int) == 0) = false := by simp; omega
  go_enter Tryd.func44, Tryd.ntmps44
  go_wp2_with fail
  refine calls_at ?_
  intro wz hwz
  have bx : BoxE wz w.heap.size PEn.none := by rw [hwz]; exact heap_alloc_new w _
  have bz : Below w.heap.size w wz := by rw [hwz]; exact (Below.refl _ _).alloc (Nat.le_refl _) _
  clear hwz
  refine (H.out _).mono ?_
  rintro en w1 ⟨rfl, b1⟩
  have lt0 : w.heap.size < w1.heap.size := Nat.lt_of_lt_of_le (Array.getElem?_eq_some_iff.1 bx).1 b1.size
  have bx1 : BoxE w1 w.heap.size PEn.none := (b1.block _ (Array.getElem?_eq_some_iff.1 bx).1).trans bx
  have HB := Lib.hid (bz.trans (b1.mono bz.size))
  have dx := fun o => cell?_of_heap (o := o) bx1
  have ex := fun o => frozen?_of_heap (o := o) bx1
  have d0 := dx 0
  have e0 := ex 0
  have d1 := dx 1
  have e1 := ex 1
  have d2 := dx 2
  have e2 := ex 2
  have d3 := dx 3
  have e3 := ex 3
  have d4 := dx 4
  have e4 := ex 4
  have d5 := dx 5
  have e5 := ex 5
  have d6 := dx 6
  have e6 := ex 6
  have d7 := dx 7
  have e7 := ex 7
  simp [PEn.none] at d0 d1 d2 d3 d4 d5 d6 d7
  clear dx ex bx bx1 bz b1
  go_wp2
  refine bodyPost_ret (v := .tuple #[enV PEn.none, .bool false]) (by simp [results, Tryd.results44, go_sem, enV, PEn.none, d0, d1, d2, d3, d4, d5, d6, d7, e0, e1, e2, e3, e4, e5, e6, e7, lt0]) rfl ⟨rfl, ?_⟩
  first
    | with_reducible exact set8_below (Nat.le_refl _) HB.out
    | with_reducible exact ((set8_below (Nat.le_refl _) HB.out).alloc (by simp; omega) _)
    | with_reducible exact ((set8_below (Nat.le_refl _) HB.out).alloc (by simp; omega) _).drew
    | with_reducible exact (set8_below (Nat.le_refl _) HB.out).drew
    | (trace_state; sorry)
set_option maxHeartbeats 1000000 in
set_option maxRecDepth 100000 in
theorem one_n12  (p : Option Addr) (n cap : Nat) (w : World) (hn : n ≠ 1)
    (H : Hid (∀ w, Calls Tryd.prog 34 #[.string ⟨#[109, 101, 110, 100]⟩] w fun e w' => e = .returned (.tuple #[.int .i64 0, .int .i64 0]) ∧ Below w.heap.size w w')) :
    Calls Tryd.prog 44 #[.string ⟨#[109, 101, 110, 100]⟩, .slice p n cap] w fun e w' => e = .returned (.tuple #[enV PEn.none, .bool false]) ∧ Below w.heap.size w w' := by
  have hne : ((n : Int) == 1) = false := by simp; omega
  go_enter Tryd.func44, Tryd.ntmps44
  go_wp2_with fail
  refine calls_at ?_
  intro wz hwz
  have bx : BoxE wz w.heap.size PEn.none := by rw [hwz]; exact heap_alloc_new w _
  have bz : Below w.heap.size w wz := by rw [hwz]; exact (Below.refl _ _).alloc (Nat.le_refl _) _
  clear hwz
  refine (H.out _).mono ?_
  rintro en w1 ⟨rfl, b1⟩
  have lt0 : w.heap.size < w1.heap.size := Nat.lt_of_lt_of_le (Array.getElem?_eq_some_iff.1 bx).1 b1.size
  have bx1 : BoxE w1 w.heap.size PEn.none := (b1.block _ (Array.getElem?_eq_some_iff.1 bx).1).trans bx
  have HB := Lib.hid (bz.trans (b1.mono bz.size))
  have dx := fun o => cell?_of_heap (o := o) bx1
  have ex := fun o => frozen?_of_heap (o := o) bx1
  have d0 := dx 0
  have e0 := ex 0
  have d1 := dx 1
  have e1 := ex 1
  have d2 := dx 2
  have e2 := ex 2
  have d3 := dx 3
  have e3 := ex 3
  have d4 := dx 4
  have e4 := ex 4
  have d5 := dx 5
  have e5 := ex 5
  have d6 := dx 6
  have e6 := ex 6
  have d7 := dx 7
  have e7 := ex 7
  simp [PEn.none] at d0 d1 d2 d3 d4 d5 d6 d7
  clear dx ex bx bx1 bz b1
  go_wp2
  refine bodyPost_ret (v := .tuple #[enV PEn.none, .bool false]) (by simp [results, Tryd.results44, go_sem, enV, PEn.none, d0, d1, d2, d3, d4, d5, d6, d7, e0, e1, e2, e3, e4, e5, e6, e7, lt0]) rfl ⟨rfl, ?_⟩
  first
    | with_reducible exact set8_below (Nat.le_refl _) HB.out
    | with_reducible exact ((set8_below (Nat.le_refl _) HB.out).alloc (by simp; omega) _)
    | with_reducible exact ((set8_below (Nat.le_refl _) HB.out).alloc (by simp; omega) _).drew
    | with_reducible exact (set8_below (Nat.le_refl _) HB.out).drew
    | (trace_state; sorry)
set_option maxHeartbeats 1000000 in
set_option maxRecDepth 100000 in
theorem one_n13  (p : Option Addr) (n cap : Nat) (w : World) (hn : n ≠ 2)
    (H : Hid (∀ w, Calls Tryd.prog 34 #[.string ⟨#[114, 101, 115, 111, 108, 118, 101]⟩] w fun e w' => e = .returned (.tuple #[.int .i64 0, .int .i64 0]) ∧ Below w.heap.size w w')) :
    Calls Tryd.prog 44 #[.string ⟨#[114, 101, 115, 111, 108, 118, 101]⟩, .slice p n cap] w fun e w' => e = .returned (.tuple #[enV PEn.none, .bool false]) ∧ Below w.heap.size w w' := by
  have hne : ((n : Int) == 2) = false := by simp; omega
  go_enter Tryd.func44, Tryd.ntmps44
  go_wp2_with fail
  refine calls_at ?_
  intro wz hwz
  have bx : BoxE wz w.heap.size PEn.none := by rw [hwz]; exact heap_alloc_new w _
  have bz : Below w.heap.size w wz := by rw [hwz]; exact (Below.refl _ _).alloc (Nat.le_refl _) _
  clear hwz
  refine (H.out _).mono ?_
  rintro en w1 ⟨rfl, b1⟩
  have lt0 : w.heap.size < w1.heap.size := Nat.lt_of_lt_of_le (Array.getElem?_eq_some_iff.1 bx).1 b1.size
  have bx1 : BoxE w1 w.heap.size PEn.none := (b1.block _ (Array.getElem?_eq_some_iff.1 bx).1).trans bx
  have HB := Lib.hid (bz.trans (b1.mono bz.size))
  have dx := fun o => cell?_of_heap (o := o) bx1
  have ex := fun o => frozen?_of_heap (o := o) bx1
  have d0 := dx 0
  have e0 := ex 0
  have d1 := dx 1
  have e1 := ex 1
  have d2 := dx 2
  have e2 := ex 2
  have d3 := dx 3
  have e3 := ex 3
  have d4 := dx 4
  have e4 := ex 4
  have d5 := dx 5
  have e5 := ex 5
  have d6 := dx 6
  have e6 := ex 6
  have d7 := dx 7
  have e7 := ex 7
  simp [PEn.none] at d0 d1 d2 d3 d4 d5 d6 d7
  clear dx ex bx bx1 bz b1
  go_wp2
  refine bodyPost_ret (v := .tuple #[enV PEn.none, .bool false]) (by simp [results, Tryd.results44, go_sem, enV, PEn.none, d0, d1, d2, d3, d4, d5, d6, d7, e0, e1, e2, e3, e4, e5, e6, e7, lt0]) rfl ⟨rfl, ?_⟩
  first
    | with_reducible exact set8_below (Nat.le_refl _) HB.out
    | with_reducible exact ((set8_below (Nat.le_refl _) HB.out).alloc (by simp; omega) _)
    | with_reducible exact ((set8_below (Nat.le_refl _) HB.out).alloc (by simp; omega) _).drew
    | with_reducible exact (set8_below (Nat.le_refl _) HB.out).drew
    | (trace_state; sorry)
set_option maxHeartbeats 1000000 in
set_option maxRecDepth 100000 in
theorem one_no (s : List UInt8) (p : Option Addr) (n cap : Nat) (w : World) (h0 : s ≠ [115, 116, 101, 112]) (h1 : s ≠ [101, 118, 105, 99, 116]) (h2 : s ≠ [99, 114, 97, 115, 104]) (h3 : s ≠ [109, 101, 110, 100]) (h4 : s ≠ [114, 101, 115, 111, 108, 118, 101])
    (H : Hid (∀ w, Calls Tryd.prog 34 #[.string (bs s)] w fun e w' => e = .returned (.tuple #[.int .i64 0, .int .i64 0]) ∧ Below w.heap.size w w')) :
    Calls Tryd.prog 44 #[.string (bs s), .slice p n cap] w fun e w' => e = .returned (.tuple #[enV PEn.none, .bool false]) ∧ Below w.heap.size w w' := by
  have x0 : (s == [115, 116, 101, 112]) = false := by simpa using h0
  have x1 : (s == [101, 118, 105, 99, 116]) = false := by simpa using h1
  have x2 : (s == [99, 114, 97, 115, 104]) = false := by simpa using h2
  have x3 : (s == [109, 101, 110, 100]) = false := by simpa using h3
  have x4 : (s == [114, 101, 115, 111, 108, 118, 101]) = false := by simpa using h4
  go_enter Tryd.func44, Tryd.ntmps44
  go_wp2_with fail
  refine calls_at ?_
  intro wz hwz
  have bx : BoxE wz w.heap.size PEn.none := by rw [hwz]; exact heap_alloc_new w _
  have bz : Below w.heap.size w wz := by rw [hwz]; exact (Below.refl _ _).alloc (Nat.le_refl _) _
  clear hwz
  refine (H.out _).mono ?_
  rintro en w1 ⟨rfl, b1⟩
  have lt0 : w.heap.size < w1.heap.size := Nat.lt_of_lt_of_le (Array.getElem?_eq_some_iff.1 bx).1 b1.size
  have bx1 : BoxE w1 w.heap.size PEn.none := (b1.block _ (Array.getElem?_eq_some_iff.1 bx).1).trans bx
  have HB := Lib.hid (bz.trans (b1.mono bz.size))
  have dx := fun o => cell?_of_heap (o := o) bx1
  have ex := fun o => frozen?_of_heap (o := o) bx1
  have d0 := dx 0
  have e0 := ex 0
  have d1 := dx 1
  have e1 := ex 1
  have d2 := dx 2
  have e2 := ex 2
  have d3 := dx 3
  have e3 := ex 3
  have d4 := dx 4
  have e4 := ex 4
  have d5 := dx 5
  have e5 := ex 5
  have d6 := dx 6
  have e6 := ex 6
  have d7 := dx 7
  have e7 := ex 7
  simp [PEn.none] at d0 d1 d2 d3 d4 d5 d6 d7
  clear dx ex bx bx1 bz b1
  go_wp2
  refine bodyPost_ret (v := .tuple #[enV PEn.none, .bool false]) (by simp [results, Tryd.results44, go_sem, enV, PEn.none, d0, d1, d2, d3, d4, d5, d6, d7, e0, e1, e2, e3, e4, e5, e6, e7, lt0]) rfl ⟨rfl, ?_⟩
  first
    | with_reducible exact set8_below (Nat.le_refl _) HB.out
    | with_reducible exact ((set8_below (Nat.le_refl _) HB.out).alloc (by simp; omega) _)
    | with_reducible exact ((set8_below (Nat.le_refl _) HB.out).alloc (by simp; omega) _).drew
    | with_reducible exact (set8_below (Nat.le_refl _) HB.out).drew
    | (trace_state; sorry)
end Go.Proofs.YtloilknkhloegaaDoor
