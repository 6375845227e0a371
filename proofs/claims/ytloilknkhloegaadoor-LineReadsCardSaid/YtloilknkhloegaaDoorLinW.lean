/- lines: the program's Parse. -/
import Derived.Test.YtloilknkhloegaaDoorLinN
import Derived.Lib.OthersKept
set_option linter.unusedSimpArgs false
set_option linter.unusedVariables false
namespace Go.Proofs.YtloilknkhloegaaDoor
open Go.RowKit

def enV (e : PEn) : Value := .agg #[.int .i64 e.k, .int .i64 e.t, .int .i64 e.u, .int .i64 e.op.k, .int .i64 e.op.a, .int .i64 e.op.b, .int .i64 e.n, .int .i64 e.m]
/-- what Parse answers. -/
def ParseP (w : World) (s : List UInt8) (en : Ending) (w' : World) : Prop :=
  (∃ x, parseF s = some x ∧ en = .returned (.tuple #[enV x, .bool true]) ∧ Below w.heap.size w w') ∨ (parseF s = none ∧ en = .returned (.tuple #[enV PEn.none, .bool false]) ∧ Below w.heap.size w w')
theorem parse_cut {s : List UInt8} {x : List UInt8} {r : List (List UInt8)} (h : cutAt 32 s = x :: r) : parseF s = match numsV r with
    | none => none
    | some ns => oneF x ns := by unfold parseF; rw [h]; rfl
theorem parse_noform {s x : List UInt8} {r : List (List UInt8)} (h : cutAt 32 s = x :: r) (hf : formOf x = none) : parseF s = none := by
  rw [parse_cut h]
  cases numsV r with
  | none => rfl
  | some ns => simp [oneF, hf]
theorem parse_nolen {s x : List UInt8} {r : List (List UInt8)} {f : Fm} (h : cutAt 32 s = x :: r) (hf : formOf x = some f) (hl : r.length ≠ f.ns.length) : parseF s = none := by
  rw [parse_cut h]
  cases hq : numsV r with
  | none => rfl
  | some ns =>
    have := (numsV_len hq).1
    simp only [oneF, hf]
    rw [if_neg (by omega)]
theorem find_no (x : List UInt8) (h : formOf x = none) : idxF (fun f => f.w == x) formsL 0 = -1 := idx_none _ _ 0 h
theorem find_yes (x : List UInt8) (f : Fm) (h : formOf x = some f) : ∃ k : Nat, formsL[k]? = some f ∧ idxF (fun f => f.w == x) formsL 0 = (k : Int) := by
  obtain ⟨j, a, b⟩ := idx_some _ _ 0 f h
  exact ⟨j, a, by rw [b]; simp⟩
def none8 : Array Value := #[.int .i64 0, .int .i64 0, .int .i64 0, .int .i64 0, .int .i64 0, .int .i64 0, .int .i64 0, .int .i64 0]
theorem calls_at {P : Program} {f : FuncId} {args : Array Value} {w : World} {Q : Ending → World → Prop} (h : ∀ wz, wz = w → Calls P f args wz Q) : Calls P f args w Q := h w rfl
/-- Parse under way: its answer's box, the pieces, and the box of their slice. -/
structure P3 (w : World) (L : List (List UInt8)) (n : Nat) (wz : World) : Prop where
  h0 : BoxE wz w.heap.size PEn.none
  h1 : wz.heap[w.heap.size + 1]? = some (.cells (piecesC L) 9)
  h2 : wz.heap[w.heap.size + 2]? = some (.cells #[.slice (some ⟨w.heap.size + 1, 0, none⟩) n n] 73)
  lt : w.heap.size + 2 < wz.heap.size
  bel : Below w.heap.size w wz
theorem P3.step {w wz w' : World} {L : List (List UInt8)} {n : Nat} (h : P3 w L n wz) (hb : Below wz.heap.size wz w') : P3 w L n w' :=
  ⟨(hb.block _ (by have := h.lt; omega)).trans h.h0, (hb.block _ (by have := h.lt; omega)).trans h.h1, (hb.block _ h.lt).trans h.h2, Nat.lt_of_lt_of_le h.lt hb.size, h.bel.trans (hb.mono h.bel.size)⟩
theorem P3.alloc {w wz : World} {L : List (List UInt8)} {n : Nat} (h : P3 w L n wz) (o : Obj) : P3 w L n (wz.alloc o) := h.step ((Below.refl _ _).alloc (Nat.le_refl _) _)
theorem P3.start (w : World) (L : List (List UInt8)) (n : Nat) :
    P3 w L n (((w.alloc (.cells none8 54)).alloc (.cells (piecesC L) 9)).alloc (.cells #[.slice (some ⟨w.heap.size + 1, 0, none⟩) n n] 73)) := by
  have b1 : Below (w.heap.size + 1) (w.alloc (.cells none8 54)) (((w.alloc (.cells none8 54)).alloc (.cells (piecesC L) 9)).alloc (.cells #[.slice (some ⟨w.heap.size + 1, 0, none⟩) n n] 73)) := ((Below.refl _ _).alloc (by simp) _).alloc (by simp) _
  have b2 : Below (w.heap.size + 2) ((w.alloc (.cells none8 54)).alloc (.cells (piecesC L) 9)) (((w.alloc (.cells none8 54)).alloc (.cells (piecesC L) 9)).alloc (.cells #[.slice (some ⟨w.heap.size + 1, 0, none⟩) n n] 73)) := (Below.refl _ _).alloc (by simp) _
  refine ⟨(b1.block _ (by omega)).trans (heap_alloc_new w _), ?_, ?_, by simp, (((Below.refl _ _).alloc (Nat.le_refl _) _).alloc (by simp) _).alloc (by simp; omega) _⟩
  · refine (b2.block _ (by omega)).trans ?_
    have := heap_alloc_new (w.alloc (.cells none8 54)) (.cells (piecesC L) 9)
    rwa [World.size_alloc] at this
  · have := heap_alloc_new ((w.alloc (.cells none8 54)).alloc (.cells (piecesC L) 9)) (.cells #[.slice (some ⟨w.heap.size + 1, 0, none⟩) n n] 73)
    rwa [World.size_alloc, World.size_alloc] at this
theorem P3.word {w wz : World} {x : List UInt8} {r : List (List UInt8)} (h : P3 w (x :: r) (r.length + 1) wz) : Word0 wz (w.heap.size + 2) x :=
  ⟨⟨w.heap.size + 1, r.length, r.length + 1, by rw [cell?_of_heap h.h2]; rfl, by rw [cell?_of_heap h.h1]; rfl⟩⟩

theorem set8_below {B b : Nat} {a w : World} {v0 v1 v2 v3 v4 v5 v6 v7 : Value} (hB : B ≤ b) (h : Below B a w) :
    Below B a ((((((((w.setCell ⟨b, 0, none⟩ v0).setCell ⟨b, 1, none⟩ v1).setCell ⟨b, 2, none⟩ v2).setCell ⟨b, 3, none⟩ v3).setCell ⟨b, 4, none⟩ v4).setCell ⟨b, 5, none⟩ v5).setCell ⟨b, 6, none⟩ v6).setCell ⟨b, 7, none⟩ v7) :=
  (((((((h.setCell hB _).setCell hB _).setCell hB _).setCell hB _).setCell hB _).setCell hB _).setCell hB _).setCell hB _
set_option maxHeartbeats 2000000 in
set_option maxRecDepth 100000 in
theorem parse_miss (s x : List UInt8) (r : List (List UInt8)) (w : World) (hl : s.length ≤ 100000) (hO : LnOk w) (hc : cutAt 32 s = x :: r) (hf : formOf x = none) :
    Calls Tryd.prog 24 #[.string (bs s)] w (ParseP w s) := by
  have HO := Lib.hid hO
  have HS := Lib.hid (fun w hO => split_any s w hl hO)
  have HN := Lib.hid (parse_noform hc hf)
  have HF := Lib.hid (fun b w hx => find1_no b x w (find_no x hf) hx)
  rw [hc] at HS
  clear hO hf hc
  go_enter Tryd.func24, Tryd.ntmps24
  go_wp2_with fail
  refine (HS.out _ (HO.out.alloc _)).mono ?_
  rintro e w1 ⟨rfl, hw1⟩
  go_wp2_with fail
  refine calls_at ?_
  intro wz hwz
  have hP : P3 w (x :: r) (r.length + 1) wz := by rw [hwz]; exact P3.start w (x :: r) (r.length + 1)
  clear hwz hw1
  refine (HF.out _ _ hP.word).mono ?_
  rintro e w2 ⟨rfl, b2⟩
  have hP2 := hP.step b2
  have d := fun o => cell?_of_heap (o := o) hP2.h0
  have e := fun o => frozen?_of_heap (o := o) hP2.h0
  have d0 := d 0
  have d1 := d 1
  have d2 := d 2
  have d3 := d 3
  have d4 := d 4
  have d5 := d 5
  have d6 := d 6
  have d7 := d 7
  have e0 := e 0
  have e1 := e 1
  have e2 := e 2
  have e3 := e 3
  have e4 := e 4
  have e5 := e 5
  have e6 := e 6
  have e7 := e 7
  have lt0 : w.heap.size < w2.heap.size := by have := hP2.lt; omega
  simp [PEn.none] at d0 d1 d2 d3 d4 d5 d6 d7
  have HB := Lib.hid hP2.bel
  clear d e hP2 hP b2
  go_wp2
  refine bodyPost_ret (v := .tuple #[enV PEn.none, .bool false]) (by simp [results, Tryd.results24, go_sem, enV, PEn.none, d0, d1, d2, d3, d4, d5, d6, d7, e0, e1, e2, e3, e4, e5, e6, e7, lt0]) rfl (Or.inr ⟨HN.out, rfl, ?_⟩)
  exact (set8_below (Nat.le_refl _) HB.out).alloc (by simp; omega) _

set_option maxHeartbeats 2000000 in
set_option maxRecDepth 100000 in
theorem parse_short (s x : List UInt8) (r : List (List UInt8)) (f : Fm) (w : World) (hl : s.length ≤ 100000) (hO : LnOk w) (hc : cutAt 32 s = x :: r) (hf : formOf x = some f) (hn : r.length ≠ f.ns.length) :
    Calls Tryd.prog 24 #[.string (bs s)] w (ParseP w s) := by
  have HO := Lib.hid hO
  have HS := Lib.hid (fun w hO => split_any s w hl hO)
  have HN := Lib.hid (parse_nolen hc hf hn)
  obtain ⟨k, hk1, hk2⟩ := find_yes x f hf
  have HF := Lib.hid (fun b w hx => find1_yes b x f k w hk1 hk2 hx)
  rw [hc] at HS
  have hrl : r.length ≤ 100000 := by have := cut_len s; rw [hc] at this; simp at this; omega
  have hfl : f.ns.length ≤ 4 := by
    rcases forms14 (formOf_mem hf).1 with h | h | h | h | h | h | h | h | h | h | h | h | h | h <;> (rw [h]; decide)
  have hne : ((r.length : Int) + 1 != (f.ns.length : Int) + 1) = true := by simp; omega
  have hne2 : ((r.length : Int) != (f.ns.length : Int)) = true := by simp; omega
  clear hO hf hc hk1 hk2 hn
  go_enter Tryd.func24, Tryd.ntmps24
  go_wp2_with fail
  refine (HS.out _ (HO.out.alloc _)).mono ?_
  rintro e w1 ⟨rfl, hw1⟩
  go_wp2_with fail
  refine calls_at ?_
  intro wz hwz
  have hP : P3 w (x :: r) (r.length + 1) wz := by rw [hwz]; exact P3.start w (x :: r) (r.length + 1)
  clear hwz hw1
  refine (HF.out _ _ hP.word).mono ?_
  rintro e w2 ⟨rfl, b2⟩
  have hP2 := hP.step b2
  have d := fun o => cell?_of_heap (o := o) hP2.h0
  have e := fun o => frozen?_of_heap (o := o) hP2.h0
  have d0 := d 0
  have d1 := d 1
  have d2 := d 2
  have d3 := d 3
  have d4 := d 4
  have d5 := d 5
  have d6 := d 6
  have d7 := d 7
  have e0 := e 0
  have e1 := e 1
  have e2 := e 2
  have e3 := e 3
  have e4 := e 4
  have e5 := e 5
  have e6 := e 6
  have e7 := e 7
  have s0 := cell?_of_heap (o := 0) hP2.h2
  have lt0 : w.heap.size < w2.heap.size := by have := hP2.lt; omega
  have lt2 : w.heap.size + 2 < w2.heap.size := hP2.lt
  simp [PEn.none] at d0 d1 d2 d3 d4 d5 d6 d7 s0
  have HB := Lib.hid hP2.bel
  clear d e hP2 hP b2
  go_wp2
  refine bodyPost_ret (v := .tuple #[enV PEn.none, .bool false]) (by simp [results, Tryd.results24, go_sem, enV, PEn.none, d0, d1, d2, d3, d4, d5, d6, d7, e0, e1, e2, e3, e4, e5, e6, e7, lt0]) rfl (Or.inr ⟨HN.out, rfl, ?_⟩)
  exact (set8_below (Nat.le_refl _) HB.out).alloc (by simp; omega) _
end Go.Proofs.YtloilknkhloegaaDoor
