/- parts of the proof, merged by a program. -/
import Derived.Test.YtcbikgafdclhaaaGreatMoc2
import Derived.Test.YtcbikgafdclhaaaGreatMoc3
import Derived.RangeFuncNested
import Derived.RangeFuncBound
import Derived.RangeFuncCalls
import Derived.RangeFuncLeaves
import Derived.Shelf.Abstract
import Derived.WalkKit
import Derived.OwnWalkIn
import Derived.TacticsInMore
import Derived.LoopNIn
import Derived.LoopIn
import Derived.OrdersIn
set_option linter.unusedSimpArgs false
set_option linter.unusedVariables false
/- the program's audit: what it looks at (look), and tiles. -/
set_option linter.unusedSimpArgs false
set_option linter.unusedVariables false
namespace Go.Proofs.YtcbikgafdclhaaaGreat
open Go.RowKit

/-- a look at a heap's values. -/
structure LK (b : Nat) (t p s : Int) (ad : Addr) (n c : Nat) (vs : List Int) (atv : Value) (mb : Nat) (W : World) : Prop where
 box : W.heap[b]? = some (.cells #[.int .i64 t, .int .i64 p, .int .i64 s, .slice (some ad) n c, atv, .map (some mb)] 157)
 xv : XV W t p s ad n vs
section
variable {b : Nat} {t p s : Int} {ad : Addr} {n c : Nat} {vs : List Int} {atv : Value} {mb : Nat} {W W' : World}
theorem LK.lt (h : LK b t p s ad n c vs atv mb W) : b < W.heap.size := (Array.getElem?_eq_some_iff.1 h.box).1
theorem LK.keep (h : LK b t p s ad n c vs atv mb W) (hb : Below W.heap.size W W') : LK b t p s ad n c vs atv mb W' :=
 ⟨(hb.block b h.lt).trans h.box, h.xv.keep hb⟩
theorem LK.cells (h : LK b t p s ad n c vs atv mb W) : (W.cell? ⟨b, 0, none⟩ = some (.int .i64 t) ∧ W.cell? ⟨b, 1, none⟩ = some (.int .i64 p) ∧ W.cell? ⟨b, 2, none⟩ = some (.int .i64 s)) ∧ W.cell? ⟨b, 3, none⟩ = some (.slice (some ad) n c) ∧ W.cell? ⟨b, 4, none⟩ = some atv ∧ W.cell? ⟨b, 5, none⟩ = some (.map (some mb)) :=
 ⟨⟨cell?_of_heap h.box, cell?_of_heap h.box, cell?_of_heap h.box⟩, cell?_of_heap h.box, cell?_of_heap h.box, cell?_of_heap h.box⟩
theorem LK.froz (h : LK b t p s ad n c vs atv mb W) (o : Nat) : W.frozen? ⟨b, o, none⟩ = false := frozen?_of_heap h.box

theorem pget_any (k : Nat) (W : World) (h : LK b t p s ad n c vs atv mb W) (hk : k < n) :
 Calls Tryz.prog 56 #[.pointer (some ⟨b, 0, none⟩), .int .i64 k] W fun e W' => e = .returned (.int .u32 (vs.getD k 0)) ∧ Below W.heap.size W W' := by
 obtain ⟨-, c3, -, -⟩ := h.cells
 have cv := h.xv.cells k hk
 have hlt : (k : Int) < n := by omega
 generalize vs.getD k 0 = x at *
 clear h
 go_enter Tryz.func56, Tryz.ntmps56
 go_wp2
 go_ret
 exact ⟨rfl, Below.refl _ _⟩
theorem held4 {w w' : World} {b : Nat} {v0 v1 v2 v3 : Value} (hb : Below w.heap.size w w') (h1 : b < w.heap.size)
 (h : (w.cell? ⟨b, 0, none⟩ = some v0 ∧ w.cell? ⟨b, 1, none⟩ = some v1 ∧ w.cell? ⟨b, 2, none⟩ = some v2) ∧ w.cell? ⟨b, 3, none⟩ = some v3) :
 (w'.cell? ⟨b, 0, none⟩ = some v0 ∧ w'.cell? ⟨b, 1, none⟩ = some v1 ∧ w'.cell? ⟨b, 2, none⟩ = some v2) ∧ w'.cell? ⟨b, 3, none⟩ = some v3 :=
 ⟨⟨(hb.cell (p := ⟨b, 0, none⟩) h1).trans h.1.1, (hb.cell (p := ⟨b, 1, none⟩) h1).trans h.1.2.1, (hb.cell (p := ⟨b, 2, none⟩) h1).trans h.1.2.2⟩, (hb.cell (p := ⟨b, 3, none⟩) h1).trans h.2⟩
theorem plsize_any (W : World) (h : LK b t p s ad n c vs atv mb W) :
 Calls Tryz.prog 102 #[.pointer (some ⟨b, 0, none⟩)] W fun e W' => e = .returned (.bool true) ∧ Below W.heap.size W W' := by
 obtain ⟨⟨c0, c1, c2⟩, c3, -, -⟩ := h.cells
 have HC := Lib.hid (fun w => check_right t p s w h.xv.right)
 have hcf : cellsF t p s = (n : Int) := by unfold cellsF; rw [h.xv.right, h.xv.num]; rfl
 have HN := Lib.hid (fun w => cells_any t p s w)
 rw [hcf] at HN
 have hlt := h.lt
 clear h hcf
 go_enter Tryz.func102, Tryz.ntmps102
 go_wp2_with fail
 refine wp_region_noPanic ?_
 refine wp_region_held_drew (S := fun w' => (w'.cell? ⟨b, 0, none⟩ = some (.int .i64 t) ∧ w'.cell? ⟨b, 1, none⟩ = some (.int .i64 p) ∧ w'.cell? ⟨b, 2, none⟩ = some (.int .i64 s)) ∧ w'.cell? ⟨b, 3, none⟩ = some (.slice (some ad) n c)) (by kernel_rfl) ?_ (fun hHeld => ?_)
 ·exact ⟨⟨c0, c1, c2⟩, c3⟩
 refine wT 0 ?_
 refine wT 1 ?_
 refine wT 2 ?_
 refine wT 3 ?_
 refine wR 4 fun K hK => ?_
 go_simp
 refine (HC.out _).mono ?_
 rintro e w1 ⟨rfl, b1⟩
 have k1 := held4 b1 hlt hHeld
 refine hK.out _ _ ?_ (fun hHeld => ?_)
 ·exact k1
 clear hK K
 try simp only [Act.put, zA, zB, zC, zD, zE, zF]
 refine wT 5 ?_
 refine wT 6 ?_
 refine wT 7 ?_
 refine wT 8 ?_
 refine wT 9 ?_
 refine wT 10 ?_
 refine wT 11 ?_
 refine wT 12 ?_
 refine wT 13 ?_
 refine wT 14 ?_
 refine wT 15 ?_
 refine wR 16 fun K hK => ?_
 go_simp
 refine (HN.out _).mono ?_
 rintro e w2 ⟨rfl, b2⟩
 have k2 := held4 b2 (Nat.lt_of_lt_of_le hlt b1.size) hHeld
 refine hK.out _ _ ?_ (fun hHeld => ?_)
 ·exact k2
 clear hK K
 try simp only [Act.put, zA, zB, zC, zD, zE, zF]
 refine wT 17 ?_
 refine wT 18 ?_
 refine wT 19 ?_
 refine wpAnyH_done (by kernel_rfl) (NoPanic.normal ?_) _
 go_wp2
 go_ret
 exact ⟨rfl, ((Below.refl _ _).drew.trans b1).trans (b2.mono b1.size)⟩
end
end Go.Proofs.YtcbikgafdclhaaaGreat
/- the program's audit: tiles. -/
set_option linter.unusedSimpArgs false
set_option linter.unusedVariables false
namespace Go.Proofs.YtcbikgafdclhaaaGreat
open Go.RowKit

theorem infoInfo : (Tryz.prog.info? 174).map (fun i => (i.zero, i.size, i.bytes)) = some (some (.agg #[.int .i64 0, .int .i64 0, .int .i64 0]), 3, 24) := by kernel_rfl
theorem make_info (N : Nat) (hN : N ≤ 10000) (w : World) : (Instr.makeSlice 155 (.int .i64 (N : Int)) (.int .i64 (N : Int))).run Tryz.prog w = .ok (.slice (some ⟨w.heap.size, 0, none⟩) N N) (w.alloc (.cells (madeCells #[.int .i64 0, .int .i64 0, .int .i64 0] (N * 3)) 174)) := by
 obtain ⟨i, hi, hzz⟩ := Option.map_eq_some_iff.1 infoInfo
 simp only [Prod.mk.injEq] at hzz
 obtain ⟨hz, hs, hb⟩ := hzz
 have hr := run_make (P := Tryz.prog) w 155 174 i _ Tryz.underlying155 hi hz .i64 .i64 N N (by omega) (Int.le_refl _) (by rw [hb]; omega) (by omega)
 simp only [Int.toNat_natCast, hs] at hr
 exact hr
theorem partCells_at : ∀ (l : List (Int × Int × Int)) (k : Nat) (x : Int × Int × Int), l[k]? = some x → (partCells l)[k * 3]? = some (.int .i64 x.1) ∧ (partCells l)[k * 3 + 1]? = some (.int .i64 x.2.1) ∧ (partCells l)[k * 3 + 2]? = some (.int .i64 x.2.2)
 | [], _, _, h => by simp at h
 | y :: l, 0, x, h => by
  simp at h
  subst h
  exact ⟨rfl, rfl, rfl⟩
 | y :: l, k + 1, x, h => by
  have ih := partCells_at l k x (by simpa using h)
  have e : partCells (y :: l) = [.int .i64 y.1, .int .i64 y.2.1, .int .i64 y.2.2] ++ partCells l := rfl
  rw [e]
  refine ⟨?_, ?_, ?_⟩
  ·rw [List.getElem?_append_right (by simp; omega)]; rw [← ih.1]; congr 1; simp; omega
  ·rw [List.getElem?_append_right (by simp; omega)]; rw [← ih.2.1]; congr 1; simp; omega
  ·rw [List.getElem?_append_right (by simp; omega)]; rw [← ih.2.2]; congr 1; simp; omega
theorem partCells_set : ∀ (l : List (Int × Int × Int)) (k : Nat) (x : Int × Int × Int), k < l.length → (((partCells l).set (k * 3) (.int .i64 x.1)).set (k * 3 + 1) (.int .i64 x.2.1)).set (k * 3 + 2) (.int .i64 x.2.2) = partCells (l.set k x)
 | [], _, _, h => by simp at h
 | y :: l, 0, x, h => rfl
 | y :: l, k + 1, x, h => by
  have ih := partCells_set l k x (by simpa using h)
  have e : partCells (y :: l) = .int .i64 y.1 :: .int .i64 y.2.1 :: .int .i64 y.2.2 :: partCells l := rfl
  rw [e, show (k + 1) * 3 + 2 = k * 3 + 2 + 1 + 1 + 1 by omega, show (k + 1) * 3 + 1 = k * 3 + 1 + 1 + 1 + 1 by omega, show (k + 1) * 3 = k * 3 + 1 + 1 + 1 by omega]
  simp only [List.set_cons_succ]
  rw [ih]
  rfl
theorem made_info (N : Nat) : madeCells #[.int .i64 0, .int .i64 0, .int .i64 0] (N * 3) = (partCells (List.replicate N (0, 0, 0))).toArray := by
 apply Array.ext_getElem?
 intro j
 have hl := partCells_len (List.replicate N (0, 0, 0))
 rw [List.length_replicate] at hl
 by_cases hj : j < N * 3
 ·have hk : j / 3 < N := by omega
  obtain ⟨a0, a1, a2⟩ := partCells_at (List.replicate N (0, 0, 0)) (j / 3) (0, 0, 0) (by simp [hk])
  unfold madeCells
  simp only [Array.getElem?_map, Array.getElem?_range, hj, if_true, Option.map_some, List.getElem?_toArray]
  show some ((#[.int .i64 0, .int .i64 0, .int .i64 0] : Array Value)[j % 3]!) = _
  rcases (by omega : j % 3 = 0 ∨ j % 3 = 1 ∨ j % 3 = 2) with e | e | e <;> rw [e]
  ·rw [show j = j / 3 * 3 by omega, a0]; rfl
  ·rw [show j = j / 3 * 3 + 1 by omega, a1]; rfl
  ·rw [show j = j / 3 * 3 + 2 by omega, a2]; rfl
 ·rw [Array.getElem?_eq_none (by rw [size_madeCells]; omega), List.getElem?_toArray, List.getElem?_eq_none (by omega)]

def tlStep (vs : List Int) (t p : Int) (k : Nat) (st : Int × List (Int × Int × Int)) : Option (Int × List (Int × Int × Int)) :=
 if (k : Int) < st.1 then (if gv vs t k 0 = 0 then some st else none)
 else if okI (gv vs t k 0) = false ∨ iK (gv vs t k 0) = 0 ∨ p - k < iL (gv vs t k 0) then none
 else some (k + iL (gv vs t k 0), st.2.set k (iK (gv vs t k 0), iL (gv vs t k 0), iC (gv vs t k 0)))
def tlN (vs : List Int) (t p : Int) : Nat → Option (Int × List (Int × Int × Int))
 | 0 => some (0, List.replicate p.toNat (0, 0, 0))
 | k + 1 => match tlN vs t p k with
  | none => none
  | some st => tlStep vs t p k st
theorem tlStep_len {vs : List Int} {t p : Int} {k : Nat} {st st' : Int × List (Int × Int × Int)} (h : tlStep vs t p k st = some st') : st'.2.length = st.2.length := by
 unfold tlStep at h
 split at h
 ·split at h
  ·simp at h; rw [← h]
  ·simp at h
 ·split at h
  ·simp at h
  ·simp at h; rw [← h]; simp
theorem tlN_len {vs : List Int} {t p : Int} : ∀ {k : Nat} {st : Int × List (Int × Int × Int)}, tlN vs t p k = some st → st.2.length = p.toNat
 | 0, st, h => by simp [tlN] at h; rw [← h]; simp
 | k + 1, st, h => by
  unfold tlN at h
  cases h2 : tlN vs t p k with
  | none => rw [h2] at h; simp at h
  | some st2 => rw [h2] at h; rw [tlStep_len h, tlN_len h2]
theorem tlN_none {vs : List Int} {t p : Int} {k : Nat} (h : tlN vs t p k = none) : ∀ m, tlN vs t p (k + m) = none
 | 0 => h
 | m + 1 => by
  show (match tlN vs t p (k + m) with | none => none | some st => tlStep vs t p (k + m) st) = none
  rw [tlN_none h m]
theorem tlN_bd {vs : List Int} {t p : Int} (hp : 0 ≤ p) : ∀ {k : Nat} {st : Int × List (Int × Int × Int)}, (k : Int) ≤ p → tlN vs t p k = some st → 0 ≤ st.1 ∧ st.1 ≤ p
 | 0, st, _, h => by simp [tlN] at h; rw [← h]; simp; exact hp
 | k + 1, st, hk, h => by
  unfold tlN at h
  cases h2 : tlN vs t p k with
  | none => rw [h2] at h; simp at h
  | some st2 =>
   rw [h2] at h
   have ih := tlN_bd hp (by omega) h2
   simp only [tlStep] at h
   split at h
   ·split at h
    ·simp at h; rw [← h]; exact ih
    ·simp at h
   ·split at h
    ·simp at h
    ·rename_i h5
     simp at h
     rw [← h]
     have := inf_bd (gv vs t k 0)
     simp only
     omega

section
variable {b : Nat} {t p s : Int} {ad : Addr} {n c : Nat} {vs : List Int} {atv : Value} {mb : Nat}
/-- a look, its map of lists, and that nothing else has turned. -/
structure LS (w0 : World) (b : Nat) (t p s : Int) (ad : Addr) (n c : Nat) (vs : List Int) (atv : Value) (mb : Nat) (ml : List (Int × Int)) (W : World) : Prop where
 lk : LK b t p s ad n c vs atv mb W
 bs : BS w0 [b, mb] W
 ne : mb ≠ b
 map : MapIs W mb ml
theorem LS.keep {w0 W W' : World} {ml : List (Int × Int)} (h : LS w0 b t p s ad n c vs atv mb ml W) (hb : Below W.heap.size W W') : LS w0 b t p s ad n c vs atv mb ml W' := by
 obtain ⟨es, clk, h1, h2⟩ := h.map
 exact ⟨h.lk.keep hb, h.bs.below hb, h.ne, ⟨es, clk, (hb.block mb (h.bs.ls mb (by simp)).1).trans h1, h2⟩⟩
theorem LS.setOther {w0 W : World} {ml : List (Int × Int)} (h : LS w0 b t p s ad n c vs atv mb ml W) {g o : Nat} {v : Value} (hg : w0.heap.size ≤ g) (h1 : g ≠ b) (h2 : g ≠ mb) (h3 : g ≠ ad.block) : LS w0 b t p s ad n c vs atv mb ml (W.setCell ⟨g, o, none⟩ v) := by
 obtain ⟨es, clk, m1, m2⟩ := h.map
 refine ⟨⟨(heap_setCell_other (Ne.symm h1)).trans h.lk.box, ?_⟩, ⟨h.bs.bel.setCell hg v, fun L hL => by simpa using h.bs.ls L hL⟩, h.ne, ⟨es, clk, (heap_setCell_other (Ne.symm h2)).trans m1, m2⟩⟩
 obtain ⟨x1, x2, x3, x4, x5, x6⟩ := h.lk.xv
 exact ⟨x1, x2, x3, x4, x5, fun k hk => (World.cell?_of_block (a := ad.add k) (heap_setCell_other (by rw [add_block]; exact Ne.symm h3))).trans (x6 k hk)⟩

/-- a row of infos of the look's own. -/
structure AtR (w0 : World) (b : Nat) (mb g P : Nat) (al : List (Int × Int × Int)) (ad : Addr) (W : World) : Prop where
 row : W.ownsRow 0 174 3 (.slice (some ⟨g, 0, none⟩) P P) P (partCells al)
 ge : w0.heap.size ≤ g
 n1 : g ≠ b
 n2 : g ≠ mb
 n3 : g ≠ ad.block
theorem AtR.keep {w0 W W' : World} {g P : Nat} {al : List (Int × Int × Int)} (h : AtR w0 b mb g P al ad W) (hb : Below W.heap.size W W') : AtR w0 b mb g P al ad W' :=
 ⟨((BS.start _).below hb).row h.row, h.ge, h.n1, h.n2, h.n3⟩
def TlRel (w0 W : World) (b : Nat) (t p s : Int) (ad : Addr) (n c : Nat) (vs : List Int) (mb : Nat) (ml : List (Int × Int)) (g P : Nat) (v3 v22 : Value) (wr : World) : Prop :=
 ∃ (k : Nat) (nx : Int) (al : List (Int × Int × Int)), k ≤ P ∧ tlN vs t p k = some (nx, al) ∧ v22 = .int .i64 k ∧ v3 = .int .i64 nx ∧ LS w0 b t p s ad n c vs (.slice (some ⟨g, 0, none⟩) P P) mb ml wr ∧ AtR w0 b mb g P al ad wr ∧ (∀ k' : Nat, k' ≠ b → k' < W.heap.size → wr.heap[k']? = W.heap[k']?) ∧ W.heap.size ≤ wr.heap.size
set_option maxHeartbeats 2000000 in
set_option maxRecDepth 100000 in
theorem ptiles_any (w0 W : World) (ml : List (Int × Int)) (h : LS w0 b t p s ad n c vs atv mb ml W) (hv : ad.block < w0.heap.size) :
 Calls Tryz.prog 103 #[.pointer (some ⟨b, 0, none⟩)] W fun e W' => e = .returned (.bool (tlN vs t p p.toNat).isSome) ∧
  (∀ st, tlN vs t p p.toNat = some st → ∃ g, LS w0 b t p s ad n c vs (.slice (some ⟨g, 0, none⟩) p.toNat p.toNat) mb ml W' ∧ AtR w0 b mb g p.toNat st.2 ad W') ∧ Below w0.heap.size w0 W' ∧ (∀ k' : Nat, k' ≠ b → k' < W.heap.size → W'.heap[k']? = W.heap[k']?) ∧ W.heap.size ≤ W'.heap.size := by
 obtain ⟨⟨c0, c1, c2⟩, c3, c4, c5⟩ := h.lk.cells
 have f4 := h.lk.froz 4
 have hlt := h.lk.lt
 obtain ⟨b1, b2, b3, b4, b5, b6, b7⟩ := h.lk.xv.bd
 obtain ⟨P, rfl⟩ : ∃ P : Nat, p = P := ⟨p.toNat, by omega⟩
 have hmk := make_info P (by omega)
 have hst : TlRel w0 W b t P s ad n c vs mb ml W.heap.size P (.int .i64 0) (.int .i64 0) ((W.setCell ⟨b, 4, none⟩ (.slice (some ⟨W.heap.size, 0, none⟩) P P)).alloc (.cells (madeCells #[.int .i64 0, .int .i64 0, .int .i64 0] (P * 3)) 174)) := by
  have hb0 := h.bs.ls b (by simp)
  have hm0 := h.bs.ls mb (by simp)
  have hsz := h.bs.bel.size
  obtain ⟨es, clk, m1, m2⟩ := h.map
  obtain ⟨x1, x2, x3, x4, x5, x6⟩ := h.lk.xv
  have hL : LS w0 b t P s ad n c vs (.slice (some ⟨W.heap.size, 0, none⟩) P P) mb ml (W.setCell ⟨b, 4, none⟩ (.slice (some ⟨W.heap.size, 0, none⟩) P P)) := by
   refine ⟨⟨?_, x1, x2, x3, x4, x5, fun k hk => (World.cell?_of_block (a := ad.add k) (heap_setCell_other (by rw [add_block]; omega))).trans (x6 k hk)⟩, h.bs.setCell (by simp) _ _, h.ne, ⟨es, clk, (heap_setCell_other h.ne).trans m1, m2⟩⟩
   have := heap_setCell_same (o := 4) (v := .slice (some ⟨W.heap.size, 0, none⟩) P P) h.lk.box
   simpa using this
  refine ⟨0, 0, List.replicate P (0, 0, 0), by omega, by simp [tlN], rfl, rfl, hL.keep ((Below.refl _ _).alloc (Nat.le_refl _) _), ⟨?_, by omega, by omega, by omega, by omega⟩, fun k' h1 h2 => (heap_alloc_old _ _ (by simpa using h2)).trans (heap_setCell_other h1), by simp⟩
  rw [made_info]
  have hpl := partCells_len (List.replicate P (0, 0, 0))
  rw [List.length_replicate] at hpl
  have hh : ((W.setCell ⟨b, 4, none⟩ (.slice (some ⟨W.heap.size, 0, none⟩) P P)).alloc (.cells (partCells (List.replicate P (0, 0, 0))).toArray 174)).heap[W.heap.size]? = some (.cells (partCells (List.replicate P (0, 0, 0))).toArray 174) := hb_alloc _ _ _ (by simp)
  refine ⟨hpl, Or.inr ⟨W.heap.size, P, (partCells (List.replicate P (0, 0, 0))).toArray, rfl, Nat.zero_le _, hh, Nat.le_refl _, by unfold maxLen; omega, by simpa using hpl, ?_⟩⟩
  simp [← hpl]
 have H0 := Lib.hid h
 clear h
 go_enter Tryz.func103, Tryz.ntmps103
 go_wp2
 go_loopw [3, 22] (fun v3 v22 wr => TlRel w0 W b t P s ad n c vs mb ml W.heap.size P v3 v22 wr) (fun _ v22 _ => P - (intOf v22).toNat)
 case atStart => exact hst
 case round =>
  clear hst c0 c1 c2 c3 c4 c5 f4 hlt hmk
  obtain ⟨k, nx, al, hk, htl, rfl, rfl, hL, hA, hS, hSz⟩ := hrel
  have HSm := Lib.hid (And.intro hS hSz)
  clear hS hSz
  obtain ⟨⟨c0, c1, c2⟩, c3, c4, c5⟩ := hL.lk.cells
  have hlt := hL.lk.lt
  have hg := hL.lk
  by_cases hkP : k < P
  ·have hcx := hL.lk.xv.cx (q := k) (part := 0) (by omega) (by omega) (by omega) (by omega)
   have HI := Lib.hid (fun w => pinfo_any t P s k w)
   rw [hcx.2] at HI
   have HLh := Lib.hid hL
   have HAh := Lib.hid hA
   have hgu := hL.lk.xv.gu k 0
   have HG := Lib.hid (fun (w : World) (h : LK b t P s ad n c vs (.slice (some ⟨W.heap.size, 0, none⟩) P P) mb w) => pget_any (cix t k 0) w h hcx.1)
   have hgd : vs.getD (cix t k 0) 0 = gv vs t k 0 := rfl
   rw [hgd] at HG
   have HN := Lib.hid (fun w => iget_any (gv vs t k 0) w hgu.1 hgu.2)
   clear hL hA hg
   go_wp2_with fail
   refine (HI.out _).mono ?_
   rintro e w1 ⟨rfl, d1⟩
   have HL1 := Lib.hid (HLh.out.keep d1)
   go_wp2_with fail
   refine (HG.out _ HL1.out.lk).mono ?_
   rintro e w2 ⟨rfl, d2⟩
   have HL2 := Lib.hid (HL1.out.keep d2)
   go_wp2_with fail
   refine (HN.out _).mono ?_
   rintro e w3 ⟨rfl, d3⟩
   have HL3 := Lib.hid (HL2.out.keep d3)
   have hstep : tlN vs t P (k + 1) = tlStep vs t P k (nx, al) := by
    show (match tlN vs t P k with | none => none | some st => tlStep vs t P k st) = _
    rw [htl]
   have HPk := Lib.hid (show P = (k + 1) + (P - (k + 1)) by omega)
   have hbd := inf_bd (gv vs t k 0)
   have hnb := tlN_bd (by omega) (by omega) htl
   have hall := tlN_len htl
   simp only [Int.toNat_natCast] at hall
   unfold tlStep at hstep
   have HS := Lib.hid hstep
   have HA3 := Lib.hid (((HAh.out.keep d1).keep d2).keep d3)
   have hdd : Below wr.heap.size wr (w3.alloc (.cells #[.int .i64 (iK (gv vs t k 0)), .int .i64 (iL (gv vs t k 0)), .int .i64 (iC (gv vs t k 0))] 174)) := (d1.trans ((d2.trans (d3.mono d2.size)).mono d1.size)).alloc (Nat.le_trans (Nat.le_trans d1.size d2.size) d3.size) _
   have HD := Lib.hid hdd
   clear hdd
   clear hstep HI HG HN d1 d2 d3 HL1 HL2 HLh HAh htl c0 c1 c2 c3 c4 c5 hlt
   generalize gv vs t k 0 = v at *
   generalize iK v = iKv at *
   generalize iL v = iLv at *
   generalize iC v = iCv at *
   obtain ⟨g1, g2, g3, g4, g5, g6, -, -⟩ := hbd
   have HL4 := Lib.hid (HL3.out.keep ((Below.refl _ _).alloc (Nat.le_refl _) (.cells #[.int .i64 iKv, .int .i64 iLv, .int .i64 iCv] 174)))
   have HA4 := Lib.hid (HA3.out.keep ((Below.refl _ _).alloc (Nat.le_refl _) (.cells #[.int .i64 iKv, .int .i64 iLv, .int .i64 iCv] 174)))
   have i4 := loc_alloc w3 #[.int .i64 iKv, .int .i64 iLv, .int .i64 iCv] 174
   obtain ⟨⟨c0, c1, c2⟩, c3, c4, c5⟩ := HL4.out.lk.cells
   have hltb := HL3.out.lk.lt
   have hwr : IntKind.i64.wrap ((P : Int) - k) = P - k := wrap_in _ (by omega)
   have hne4 : b ≠ w3.heap.size := by omega
   by_cases hkn : (k : Int) < nx
   ·by_cases hv0 : v = 0
    ·rw [if_pos hkn, if_pos hv0] at HS
     have hvb : (v != 0) = false := by simp [hv0]
     clear hv0
     go_wp2
     go_roundw
     case rel => exact ⟨k + 1, nx, al, by omega, HS.out, by go_num, rfl, HL4.out, HA4.out, fun k' h1 h2 => (HD.out.block k' (Nat.lt_of_lt_of_le h2 HSm.out.2)).trans (HSm.out.1 k' h1 h2), Nat.le_trans HSm.out.2 HD.out.size⟩
     case measure => simp [intOf]; omega
    ·rw [if_pos hkn, if_neg hv0] at HS
     have hvb : (v != 0) = true := by simpa using hv0
     clear hv0
     have hno : tlN vs t P P = none := by
      have := tlN_none HS.out (P - (k + 1))
      rwa [← HPk.out] at this
     have HNo := Lib.hid hno
     clear hno HS
     go_wp2
     go_ret
     refine ⟨ret_bool ?_, fun st hst => ?_, HL4.out.bs.bel, fun k' h1 h2 => (HD.out.block k' (Nat.lt_of_lt_of_le h2 HSm.out.2)).trans (HSm.out.1 k' h1 h2), Nat.le_trans HSm.out.2 HD.out.size⟩
     ·simp only [Int.toNat_natCast]
      rw [HNo.out]
      rfl
     ·simp only [Int.toNat_natCast] at hst
      rw [HNo.out] at hst
      simp at hst
   ·rw [if_neg hkn] at HS
    cases hok : okI v
    ·rw [if_pos (Or.inl hok)] at HS
     have hno : tlN vs t P P = none := by
      have := tlN_none HS.out (P - (k + 1))
      rwa [← HPk.out] at this
     have HNo := Lib.hid hno
     clear hno HS
     go_wp2_with fail
     refine wp_region_noPanic ?_
     refine wp_region_held_drew (S := fun w' => (∀ o : Nat, w'.cell? ⟨w3.heap.size, o, none⟩ = (#[.int .i64 iKv, .int .i64 iLv, .int .i64 iCv] : Array Value)[o]?) ∧ w'.cell? ⟨b, 1, none⟩ = some (.int .i64 P)) (by kernel_rfl) ?_ (fun hHeld => ?_)
     ·exact ⟨i4, c1⟩
     refine wT 0 ?_
     refine wT 1 ?_
     refine wT 2 ?_
     refine wU 3 ?_
     refine wU 4 ?_
     refine wU 5 ?_
     refine wT 6 ?_
     refine wT 7 ?_
     refine wU 8 ?_
     refine wU 9 ?_
     refine wU 10 ?_
     refine wU 11 ?_
     refine wU 12 ?_
     refine wU 13 ?_
     refine wU 14 ?_
     refine wU 15 ?_
     refine wU 16 ?_
     refine wU 17 ?_
     refine wT 18 ?_
     refine wT 19 ?_
     refine wpAnyH_done (by kernel_rfl) (NoPanic.normal ?_) _
     go_wp2
     go_ret
     refine ⟨ret_bool ?_, fun st hst => ?_, HL4.out.bs.bel.drew, fun k' h1 h2 => (HD.out.drew.block k' (Nat.lt_of_lt_of_le h2 HSm.out.2)).trans (HSm.out.1 k' h1 h2), Nat.le_trans HSm.out.2 HD.out.drew.size⟩
     ·simp only [Int.toNat_natCast]
      rw [HNo.out]
      rfl
     ·simp only [Int.toNat_natCast] at hst
      rw [HNo.out] at hst
      simp at hst
    ·by_cases hK : iKv = 0
     ·rw [if_pos (Or.inr (Or.inl hK))] at HS
      have hno : tlN vs t P P = none := by
       have := tlN_none HS.out (P - (k + 1))
       rwa [← HPk.out] at this
      have HNo := Lib.hid hno
      clear hno HS
      subst hK
      go_wp2_with fail
      refine wp_region_noPanic ?_
      refine wp_region_held_drew (S := fun w' => (∀ o : Nat, w'.cell? ⟨w3.heap.size, o, none⟩ = (#[.int .i64 0, .int .i64 iLv, .int .i64 iCv] : Array Value)[o]?) ∧ w'.cell? ⟨b, 1, none⟩ = some (.int .i64 P)) (by kernel_rfl) ?_ (fun hHeld => ?_)
      ·exact ⟨i4, c1⟩
      refine wT 0 ?_
      refine wT 1 ?_
      refine wT 2 ?_
      refine wT 3 ?_
      refine wT 4 ?_
      refine wT 5 ?_
      refine wT 6 ?_
      refine wT 7 ?_
      refine wU 8 ?_
      refine wU 9 ?_
      refine wU 10 ?_
      refine wU 11 ?_
      refine wU 12 ?_
      refine wU 13 ?_
      refine wU 14 ?_
      refine wU 15 ?_
      refine wU 16 ?_
      refine wU 17 ?_
      refine wT 18 ?_
      refine wT 19 ?_
      refine wpAnyH_done (by kernel_rfl) (NoPanic.normal ?_) _
      go_wp2
      go_ret
      refine ⟨ret_bool ?_, fun st hst => ?_, HL4.out.bs.bel.drew, fun k' h1 h2 => (HD.out.drew.block k' (Nat.lt_of_lt_of_le h2 HSm.out.2)).trans (HSm.out.1 k' h1 h2), Nat.le_trans HSm.out.2 HD.out.drew.size⟩
      ·simp only [Int.toNat_natCast]
       rw [HNo.out]
       rfl
      ·simp only [Int.toNat_natCast] at hst
       rw [HNo.out] at hst
       simp at hst
     ·have hKb : (iKv == 0) = false := by simpa using hK
      by_cases hLn : (P : Int) - k < iLv
      ·rw [if_pos (Or.inr (Or.inr hLn))] at HS
       have hno : tlN vs t P P = none := by
        have := tlN_none HS.out (P - (k + 1))
        rwa [← HPk.out] at this
       have HNo := Lib.hid hno
       clear hno HS
       clear hK
       go_wp2_with fail
       refine wp_region_noPanic ?_
       refine wp_region_held_drew (S := fun w' => (∀ o : Nat, w'.cell? ⟨w3.heap.size, o, none⟩ = (#[.int .i64 iKv, .int .i64 iLv, .int .i64 iCv] : Array Value)[o]?) ∧ w'.cell? ⟨b, 1, none⟩ = some (.int .i64 P)) (by kernel_rfl) ?_ (fun hHeld => ?_)
       ·exact ⟨i4, c1⟩
       refine wT 0 ?_
       refine wT 1 ?_
       refine wT 2 ?_
       refine wT 3 ?_
       refine wT 4 ?_
       refine wT 5 ?_
       refine wT 6 ?_
       refine wT 7 ?_
       refine wT 8 ?_
       refine wT 9 ?_
       refine wT 10 ?_
       refine wT 11 ?_
       refine wT 12 ?_
       refine wT 13 ?_
       refine wT 14 ?_
       refine wT 15 ?_
       refine wT 16 ?_
       refine wT 17 ?_
       refine wT 18 ?_
       refine wT 19 ?_
       refine wpAnyH_done (by kernel_rfl) (NoPanic.normal ?_) _
       go_wp2
       go_ret
       refine ⟨ret_bool ?_, fun st hst => ?_, HL4.out.bs.bel.drew, fun k' h1 h2 => (HD.out.drew.block k' (Nat.lt_of_lt_of_le h2 HSm.out.2)).trans (HSm.out.1 k' h1 h2), Nat.le_trans HSm.out.2 HD.out.drew.size⟩
       ·simp only [Int.toNat_natCast]
        rw [HNo.out]
        rfl
       ·simp only [Int.toNat_natCast] at hst
        rw [HNo.out] at hst
        simp at hst
      ·rw [if_neg (fun h => h.elim (fun h => by rw [hok] at h; simp at h) (fun h => h.elim hK hLn))] at HS
       clear hK
       have hLn2 : iLv ≤ (P : Int) - k := by omega
       clear hLn
       go_wp2_with fail
       refine wp_region_noPanic ?_
       refine wp_region_held_drew (S := fun w' => (∀ o : Nat, w'.cell? ⟨w3.heap.size, o, none⟩ = (#[.int .i64 iKv, .int .i64 iLv, .int .i64 iCv] : Array Value)[o]?) ∧ w'.cell? ⟨b, 1, none⟩ = some (.int .i64 P)) (by kernel_rfl) ?_ (fun hHeld => ?_)
       ·exact ⟨i4, c1⟩
       refine wT 0 ?_
       refine wT 1 ?_
       refine wT 2 ?_
       refine wT 3 ?_
       refine wT 4 ?_
       refine wT 5 ?_
       refine wT 6 ?_
       refine wT 7 ?_
       refine wT 8 ?_
       refine wT 9 ?_
       refine wT 10 ?_
       refine wT 11 ?_
       refine wT 12 ?_
       refine wT 13 ?_
       refine wT 14 ?_
       refine wT 15 ?_
       refine wT 16 ?_
       refine wT 17 ?_
       refine wT 18 ?_
       refine wT 19 ?_
       refine wpAnyH_done (by kernel_rfl) (NoPanic.normal ?_) _
       go_wp2_with fail
       have hgw : W.heap.size < w3.heap.size := ownsRow_lt HA3.out.row rfl
       have hgb : W.heap.size ≠ b := HA3.out.n1
       refine world_gen ?_
       intro wz hwz
       have hL5 : LS w0 b t P s ad n c vs (.slice (some ⟨W.heap.size, 0, none⟩) P P) mb ml wz := by rw [hwz]; exact HL4.out.keep (Below.refl _ _).drew
       have hA5 : AtR w0 b mb W.heap.size P al ad wz := by rw [hwz]; exact HA4.out.keep (Below.refl _ _).drew
       have i5 : ∀ o : Nat, wz.cell? ⟨w3.heap.size, o, none⟩ = (#[.int .i64 iKv, .int .i64 iLv, .int .i64 iCv] : Array Value)[o]? := by rw [hwz]; exact i4
       have HZ : Hid (Below wr.heap.size wr wz) := Lib.hid (by rw [hwz]; exact HD.out.drew)
       have c5' := hL5.lk.cells.2.2.1
       clear hwz i4 c0 c1 c2 c3 c4 c5 hHeld HL4 HA4 HL3 HA3
       have hrow := hA5.row
       obtain ⟨x, hx⟩ : ∃ x, al[k]? = some x := ⟨_, List.getElem?_eq_getElem (by omega)⟩
       obtain ⟨p0, p1, p2⟩ := partCells_at al k x hx
       have q0 : wz.cell? ⟨W.heap.size, k * 3, none⟩ = some (.int .i64 x.1) := (hrow.cellAt (k * 3) (by omega)).trans p0
       have q1 : wz.cell? ⟨W.heap.size, k * 3 + 1, none⟩ = some (.int .i64 x.2.1) := (hrow.cellAt (k * 3 + 1) (by omega)).trans p1
       have q2 : wz.cell? ⟨W.heap.size, k * 3 + 2, none⟩ = some (.int .i64 x.2.2) := (hrow.cellAt (k * 3 + 2) (by omega)).trans p2
       have j0 : wz.frozen? ⟨W.heap.size, k * 3, none⟩ = false := hrow.frozenAt (k * 3)
       have j1 : wz.frozen? ⟨W.heap.size, k * 3 + 1, none⟩ = false := hrow.frozenAt (k * 3 + 1)
       have j2 : wz.frozen? ⟨W.heap.size, k * 3 + 2, none⟩ = false := hrow.frozenAt (k * 3 + 2)
       have hkP2 : (k : Int) < P := by omega
       have HL5 := Lib.hid hL5
       have HA5 := Lib.hid hA5
       have HX := Lib.hid hx
       clear p0 p1 p2 hL5 hA5 hrow hx
       have keep : (∀ o : Nat, (((wz.drew.setCell ⟨W.heap.size, k * 3, none⟩ (.int .i64 iKv)).setCell ⟨W.heap.size, k * 3 + 1, none⟩ (.int .i64 iLv)).setCell ⟨W.heap.size, k * 3 + 2, none⟩ (.int .i64 iCv)).cell? ⟨w3.heap.size, o, none⟩ = (#[.int .i64 iKv, .int .i64 iLv, .int .i64 iCv] : Array Value)[o]?) ∧ (((wz.drew.setCell ⟨W.heap.size, k * 3, none⟩ (.int .i64 iKv)).setCell ⟨W.heap.size, k * 3 + 1, none⟩ (.int .i64 iLv)).setCell ⟨W.heap.size, k * 3 + 2, none⟩ (.int .i64 iCv)).cell? ⟨b, 4, none⟩ = some (.slice (some ⟨W.heap.size, 0, none⟩) P P) := by
        refine ⟨fun o => ?_, ?_⟩
        ·refine (World.cell?_of_block (a := ⟨w3.heap.size, o, none⟩) ?_).trans (i5 o)
         show (((wz.drew.setCell ⟨W.heap.size, k * 3, none⟩ (.int .i64 iKv)).setCell ⟨W.heap.size, k * 3 + 1, none⟩ (.int .i64 iLv)).setCell ⟨W.heap.size, k * 3 + 2, none⟩ (.int .i64 iCv)).heap[w3.heap.size]? = _
         rw [heap_setCell_other (by omega), heap_setCell_other (by omega), heap_setCell_other (by omega)]
         rfl
        ·refine (World.cell?_of_block (a := ⟨b, 4, none⟩) ?_).trans c5'
         show (((wz.drew.setCell ⟨W.heap.size, k * 3, none⟩ (.int .i64 iKv)).setCell ⟨W.heap.size, k * 3 + 1, none⟩ (.int .i64 iLv)).setCell ⟨W.heap.size, k * 3 + 2, none⟩ (.int .i64 iCv)).heap[b]? = _
         rw [heap_setCell_other (Ne.symm hgb), heap_setCell_other (Ne.symm hgb), heap_setCell_other (Ne.symm hgb)]
         rfl
       have HKeep := Lib.hid keep
       clear keep
       refine wp_region_noPanic ?_
       refine wp_region_held_drew (S := fun w' => (∀ o : Nat, w'.cell? ⟨w3.heap.size, o, none⟩ = (#[.int .i64 iKv, .int .i64 iLv, .int .i64 iCv] : Array Value)[o]?) ∧ w'.cell? ⟨b, 4, none⟩ = some (.slice (some ⟨W.heap.size, 0, none⟩) P P)) (by kernel_rfl) ?_ (fun hHeld => ?_)
       ·exact ⟨i5, c5'⟩
       refine wT 0 ?_
       refine wT 1 ?_
       refine wT 2 ?_
       refine wT 3 ?_
       refine wT 4 ?_
       refine wT 5 ?_
       refine wT 6 ?_
       refine wR 7 fun K hK => ?_
       go_simp
       refine hK.out _ _ ?_ (fun hHeld => ?_)
       ·exact HKeep.out
       clear hK K
       try simp only [Act.put, zA, zB, zC, zD, zE, zF]
       refine wpAnyH_done (by kernel_rfl) (NoPanic.normal ?_) _
       have HFin : Hid (TlRel w0 W b t P s ad n c vs mb ml W.heap.size P (.int .i64 (k + iLv)) (.int .i64 (k + 1)) (((wz.drew.setCell ⟨W.heap.size, k * 3, none⟩ (.int .i64 iKv)).setCell ⟨W.heap.size, k * 3 + 1, none⟩ (.int .i64 iLv)).setCell ⟨W.heap.size, k * 3 + 2, none⟩ (.int .i64 iCv))) := by
        have ge := HA5.out.ge
        have hlS := (((HL5.out.keep (Below.refl _ _).drew).setOther (o := k * 3) (v := .int .i64 iKv) ge HA5.out.n1 HA5.out.n2 HA5.out.n3).setOther (o := k * 3 + 1) (v := .int .i64 iLv) ge HA5.out.n1 HA5.out.n2 HA5.out.n3).setOther (o := k * 3 + 2) (v := .int .i64 iCv) ge HA5.out.n1 HA5.out.n2 HA5.out.n3
        have hrow := (HA5.out.keep (Below.refl _ _).drew).row
        have hr3 := (((hrow.stored (k * 3) (.int .i64 iKv)).1.stored (k * 3 + 1) (.int .i64 iLv)).1.stored (k * 3 + 2) (.int .i64 iCv)).1
        rw [partCells_set al k (iKv, iLv, iCv) (by omega)] at hr3
        refine ⟨k + 1, k + iLv, al.set k (iKv, iLv, iCv), by omega, HS.out, by go_num, rfl, hlS, ⟨hr3, HA5.out.ge, HA5.out.n1, HA5.out.n2, HA5.out.n3⟩, fun k' h1 h2 => ?_, ?_⟩
        ·rw [heap_setCell_other (by omega), heap_setCell_other (by omega), heap_setCell_other (by omega)]
         exact (HZ.out.drew.block k' (Nat.lt_of_lt_of_le h2 HSm.out.2)).trans (HSm.out.1 k' h1 h2)
        ·simpa using Nat.le_trans HSm.out.2 HZ.out.drew.size
       go_wp2
       go_roundw
       case rel => exact HFin.out
       case measure => simp [intOf]; omega
  ·have h1 : k = P := by omega
   rw [h1] at htl
   have HTl := Lib.hid htl
   have HL := Lib.hid hL
   have HA := Lib.hid hA
   clear htl hL hA hg h1 c0 c1 c2 c3 c4 c5 hlt
   go_wp2
   go_ret
   refine ⟨ret_bool ?_, fun st hst => ?_, HL.out.bs.bel, HSm.out.1, HSm.out.2⟩
   ·simp only [Int.toNat_natCast]
    rw [HTl.out]
    rfl
   ·simp only [Int.toNat_natCast] at hst ⊢
    rw [HTl.out] at hst
    simp at hst
    subst hst
    exact ⟨_, HL.out, HA.out⟩
end
end Go.Proofs.YtcbikgafdclhaaaGreat
/- the program's audit: slots. -/
set_option linter.unusedSimpArgs false
set_option linter.unusedVariables false
namespace Go.Proofs.YtcbikgafdclhaaaGreat
open Go.RowKit

def andN (a b : Int) : Int := bits BinOp.andNot IntKind.u32 a b
def psB (vs : List Int) (t : Int) (al : List (Int × Int × Int)) (q : Nat) : Bool :=
 if (al.getD q (0, 0, 0)).1 = 3 then !(gv vs t q 5 == 0) && (andN (gv vs t q 5) (2 ^ (slotsF (al.getD q (0, 0, 0)).2.2).toNat - 1) == 0) && (andN (gv vs t q 4) (gv vs t q 5) == 0)
 else gv vs t q 4 == 0 && gv vs t q 5 == 0
section
variable {b : Nat} {t p s : Int} {ad : Addr} {n c : Nat} {vs : List Int} {mb : Nat}
def PsRel (vs : List Int) (t : Int) (al : List (Int × Int × Int)) (P : Nat) (W : World) (i : Value) (wr : World) : Prop := ∃ k : Nat, k ≤ P ∧ i = .int .i64 k ∧ allN (psB vs t al) k = true ∧ Below W.heap.size W wr
set_option maxHeartbeats 2000000 in
set_option maxRecDepth 100000 in
theorem pslotsr_any (w0 W : World) (ml : List (Int × Int)) (g P : Nat) (al : List (Int × Int × Int)) (h : LS w0 b t p s ad n c vs (.slice (some ⟨g, 0, none⟩) P P) mb ml W) (hA : AtR w0 b mb g P al ad W) (hP : p = P) :
 Calls Tryz.prog 106 #[.pointer (some ⟨b, 0, none⟩)] W fun e W' => e = .returned (.bool (allN (psB vs t al) P)) ∧ Below W.heap.size W W' := by
 subst hP
 obtain ⟨b1, b2, b3, b4, b5, b6, b7⟩ := h.lk.xv.bd
 have H0 := Lib.hid h
 have A0 := Lib.hid hA
 obtain ⟨⟨c0, c1, c2⟩, c3, c4, c5⟩ := h.lk.cells
 clear h hA
 go_enter Tryz.func106, Tryz.ntmps106
 go_wp2
 go_loopw [12] (fun i wr => PsRel vs t al P W i wr) (fun i _ => P - (intOf i).toNat)
 case atStart => exact ⟨0, by omega, rfl, rfl, Below.refl _ _⟩
 case round =>
  clear c0 c1 c2 c3 c4 c5
  obtain ⟨k, hk, rfl, hall, hbel⟩ := hrel
  have HX := Lib.hid hbel
  have HAl := Lib.hid hall
  have hL := H0.out.keep hbel
  have hA := A0.out.keep hbel
  by_cases hlt : k < P
  ·have hkP : (k : Int) < P := by omega
   have hpl := hA.row.1
   have hal : k < al.length := by have := partCells_len al; omega
   obtain ⟨⟨K, L, C⟩, hx⟩ : ∃ x, al[k]? = some x := ⟨_, List.getElem?_eq_getElem hal⟩
   obtain ⟨p0, p1, p2⟩ := partCells_at al k _ hx
   have q0 : wr.cell? ⟨g, k * 3, none⟩ = some (.int .i64 K) := (hA.row.cellAt (k * 3) (by omega)).trans p0
   have q1 : wr.cell? ⟨g, k * 3 + 1, none⟩ = some (.int .i64 L) := (hA.row.cellAt (k * 3 + 1) (by omega)).trans p1
   have q2 : wr.cell? ⟨g, k * 3 + 2, none⟩ = some (.int .i64 C) := (hA.row.cellAt (k * 3 + 2) (by omega)).trans p2
   have hx4 := hL.lk.xv.cx (q := k) (part := 4) (by omega) (by omega) (by omega) (by omega)
   have hx5 := hL.lk.xv.cx (q := k) (part := 5) (by omega) (by omega) (by omega) (by omega)
   have H4 := Lib.hid (fun w => ppslots_any t P s k w)
   rw [hx4.2] at H4
   have H5 := Lib.hid (fun w => pptaken_any t P s k w)
   rw [hx5.2] at H5
   have G4 := Lib.hid (fun (w : World) (h : LK b t P s ad n c vs (.slice (some ⟨g, 0, none⟩) P P) mb w) => pget_any (cix t k 4) w h hx4.1)
   have G5 := Lib.hid (fun (w : World) (h : LK b t P s ad n c vs (.slice (some ⟨g, 0, none⟩) P P) mb w) => pget_any (cix t k 5) w h hx5.1)
   have hd4 : vs.getD (cix t k 4) 0 = gv vs t k 4 := rfl
   have hd5 : vs.getD (cix t k 5) 0 = gv vs t k 5 := rfl
   rw [hd4] at G4
   rw [hd5] at G5
   have HWh := Lib.hid (fun w => pwhole_any C w)
   have hb : psB vs t al k = if K = 3 then !(gv vs t k 5 == 0) && (andN (gv vs t k 5) (2 ^ (slotsF C).toNat - 1) == 0) && (andN (gv vs t k 4) (gv vs t k 5) == 0) else gv vs t k 4 == 0 && gv vs t k 5 == 0 := by
    unfold psB
    rw [List.getD_eq_getElem?_getD, hx]
    rfl
   have HB := Lib.hid hb
   have hLa := hL.keep ((Below.refl _ _).alloc (Nat.le_refl _) (.cells #[.int .i64 K, .int .i64 L, .int .i64 C] 174))
   obtain ⟨⟨c0, c1, c2⟩, c3, -, -⟩ := hLa.lk.cells
   have i4 := loc_alloc wr #[.int .i64 K, .int .i64 L, .int .i64 C] 174
   obtain ⟨⟨-, -, -⟩, -, d4, -⟩ := hL.lk.cells
   have hltb := hL.lk.lt
   have HLa := Lib.hid hLa
   have SA := (BS.start wr).alloc (.cells #[.int .i64 K, .int .i64 L, .int .i64 C] 174)
   clear hL hA hpl hx p0 p1 p2 hd4 hd5 hb hLa hall hbel hx4 hx5
   generalize gv vs t k 4 = a at *
   generalize gv vs t k 5 = u at *
   generalize (2 : Int) ^ (slotsF C).toNat - 1 = wv at *
   generalize cix t k 4 = x4 at *
   generalize cix t k 5 = x5 at *
   obtain ⟨x2, h2⟩ : ∃ x, bits BinOp.andNot IntKind.u32 u wv = x := ⟨_, rfl⟩
   obtain ⟨x3, h3⟩ : ∃ x, bits BinOp.andNot IntKind.u32 a u = x := ⟨_, rfl⟩
   unfold andN at HB
   rw [h2, h3] at HB
   go_wp2_with fail
   refine wp_region_noPanic ?_
   refine wp_region_held_drew (S := fun w' => (w'.cell? ⟨b, 0, none⟩ = some (.int .i64 t) ∧ w'.cell? ⟨b, 1, none⟩ = some (.int .i64 P) ∧ w'.cell? ⟨b, 2, none⟩ = some (.int .i64 s)) ∧ w'.cell? ⟨b, 3, none⟩ = some (.slice (some ad) n c)) (by kernel_rfl) ?_ (fun hHeld => ?_)
   ·exact ⟨⟨c0, c1, c2⟩, c3⟩
   refine wT 0 ?_
   refine wT 1 ?_
   refine wT 2 ?_
   refine wT 3 ?_
   refine wT 4 ?_
   refine wT 5 ?_
   refine wT 8 ?_
   refine wT 9 ?_
   refine wT 10 ?_
   refine wT 11 ?_
   refine wT 12 ?_
   refine wT 13 ?_
   refine wR 6 fun K hK => ?_
   go_simp
   refine (H4.out _).mono ?_
   rintro e w1 ⟨rfl, d1⟩
   have L1 := Lib.hid ((HLa.out.keep (Below.refl _ _).drew).keep d1)
   have S1 := SA.drew.below d1
   have k1 := held4 d1 HLa.out.lk.lt hHeld
   refine hK.out _ _ ?_ (fun hHeld => ?_)
   ·exact k1
   clear hK K
   try simp only [Act.put, zA, zB, zC, zD, zE, zF]
   refine wR 7 fun K hK => ?_
   go_simp
   refine (G4.out _ L1.out.lk).mono ?_
   rintro e w2 ⟨rfl, d2⟩
   have L2 := Lib.hid (L1.out.keep d2)
   have S2 := S1.below d2
   have k2 := held4 d2 L1.out.lk.lt hHeld
   refine hK.out _ _ ?_ (fun hHeld => ?_)
   ·exact k2
   clear hK K
   try simp only [Act.put, zA, zB, zC, zD, zE, zF]
   refine wR 14 fun K hK => ?_
   go_simp
   refine (H5.out _).mono ?_
   rintro e w3 ⟨rfl, d3⟩
   have L3 := Lib.hid (L2.out.keep d3)
   have S3 := S2.below d3
   have k3 := held4 d3 L2.out.lk.lt hHeld
   refine hK.out _ _ ?_ (fun hHeld => ?_)
   ·exact k3
   clear hK K
   try simp only [Act.put, zA, zB, zC, zD, zE, zF]
   refine wR 15 fun K hK => ?_
   go_simp
   refine (G5.out _ L3.out.lk).mono ?_
   rintro e w4 ⟨rfl, d5⟩
   have L4 := Lib.hid (L3.out.keep d5)
   have S4 := S3.below d5
   have k4 := held4 d5 L3.out.lk.lt hHeld
   refine hK.out _ _ ?_ (fun hHeld => ?_)
   ·exact k4
   clear hK K
   try simp only [Act.put, zA, zB, zC, zD, zE, zF]
   refine wT 16 ?_
   refine wT 17 ?_
   refine wpAnyH_done (by kernel_rfl) (NoPanic.normal ?_) _
   have hsz := (SA.ls wr.heap.size (by simp)).1
   have dAll : Below (wr.alloc (.cells #[.int .i64 K, .int .i64 L, .int .i64 C] 174)).heap.size (wr.alloc (.cells #[.int .i64 K, .int .i64 L, .int .i64 C] 174)) w4 := (((((Below.refl _ _).drew).trans d1).trans (d2.mono d1.size)).trans (d3.mono (Nat.le_trans d1.size d2.size))).trans (d5.mono (Nat.le_trans (Nat.le_trans d1.size d2.size) d3.size))
   have i5 : ∀ o : Nat, w4.cell? ⟨wr.heap.size, o, none⟩ = (#[.int .i64 K, .int .i64 L, .int .i64 C] : Array Value)[o]? := ((BS.start _).below dAll).oldbox i4 (by simp)
   have e0 := i5 0
   have e2 := i5 2
   simp at e0 e2
   have bel4 : Below wr.heap.size wr w4 := S4.bel
   have HB4 := Lib.hid bel4
   clear i4 i5 c0 c1 c2 c3 d1 d2 d3 d5 dAll L1 L2 L3 S1 S2 S3 S4 SA k1 k2 k3 k4 hHeld G4 G5 H4 H5 bel4 q0 q1 q2 hsz
   have hne3 : wr.heap.size ≠ b := by omega
   by_cases hK3 : K = 3
   ·subst hK3
    by_cases hu : u = 0
    ·subst hu
     go_wp2
     go_ret
     refine ⟨ret_bool ?_, HX.out.trans (HB4.out.mono HX.out.size)⟩
     symm
     refine allN_no hlt ?_
     rw [HB.out]
     simp [*]
    ·have hub : (u == 0) = false := by simpa using hu
     go_wp2_with fail
     refine (HWh.out _).mono ?_
     rintro e w5 ⟨rfl, d5⟩
     have HB5 := Lib.hid (HB4.out.trans (d5.mono HB4.out.size))
     by_cases hx2 : x2 = 0
     ·subst hx2
      by_cases hx3 : x3 = 0
      ·subst hx3
       go_wp2
       go_roundw
       case rel =>
        refine ⟨k + 1, by omega, by go_num, ?_, HX.out.trans (HB5.out.mono HX.out.size)⟩
        simp only [allN, HAl.out, Bool.true_and]
        rw [HB.out]
        simp [*]
       case measure => simp [intOf]; omega
      ·have hxb : (x3 != 0) = true := by simpa using hx3
       go_wp2
       go_ret
       refine ⟨ret_bool ?_, HX.out.trans (HB5.out.mono HX.out.size)⟩
       symm
       refine allN_no hlt ?_
       rw [HB.out]
       simp [*]
     ·have hxb : (x2 != 0) = true := by simpa using hx2
      go_wp2
      go_ret
      refine ⟨ret_bool ?_, HX.out.trans (HB5.out.mono HX.out.size)⟩
      symm
      refine allN_no hlt ?_
      rw [HB.out]
      simp [*]
   ·have hKb : (K != 3) = true := by simpa using hK3
    by_cases ha : a = 0
    ·subst ha
     by_cases hu : u = 0
     ·subst hu
      go_wp2
      go_roundw
      case rel =>
       refine ⟨k + 1, by omega, by go_num, ?_, HX.out.trans (HB4.out.mono HX.out.size)⟩
       simp only [allN, HAl.out, Bool.true_and]
       rw [HB.out]
       simp [*]
      case measure => simp [intOf]; omega
     ·have hub : (u != 0) = true := by simpa using hu
      go_wp2
      go_ret
      refine ⟨ret_bool ?_, HX.out.trans (HB4.out.mono HX.out.size)⟩
      symm
      refine allN_no hlt ?_
      rw [HB.out]
      simp [*]
    ·have hab : (a != 0) = true := by simpa using ha
     go_wp2
     go_ret
     refine ⟨ret_bool ?_, HX.out.trans (HB4.out.mono HX.out.size)⟩
     symm
     refine allN_no hlt ?_
     rw [HB.out]
     simp [*]
  ·have h1 : k = P := by omega
   go_wp2
   go_ret
   exact ⟨ret_bool (by rw [← HAl.out, h1]), HX.out⟩
end
end Go.Proofs.YtcbikgafdclhaaaGreat
/- the program's audit: lists (bins, racks). -/
set_option linter.unusedSimpArgs false
set_option linter.unusedVariables false
namespace Go.Proofs.YtcbikgafdclhaaaGreat
open Go.RowKit
section
variable {b : Nat} {t p s : Int} {ad : Addr} {n c : Nat} {vs : List Int} {mb : Nat}
def bnB (al : List (Int × Int × Int)) (k : Int) (q : Nat) : Bool := (al.getD q (0, 0, 0)).1 == 1 && logF (al.getD q (0, 0, 0)).2.1 == k
/-- what a page's info, as the look has it, offers. -/
theorem AtR.at {w0 W : World} {g P : Nat} {al : List (Int × Int × Int)} (hA : AtR w0 b mb g P al ad W) {q : Nat} (hq : q < P) : ∃ K L C, al[q]? = some (K, L, C) ∧ W.cell? ⟨g, q * 3, none⟩ = some (.int .i64 K) ∧ W.cell? ⟨g, q * 3 + 1, none⟩ = some (.int .i64 L) ∧ W.cell? ⟨g, q * 3 + 2, none⟩ = some (.int .i64 C) := by
 have hpl := hA.row.1
 have hal : q < al.length := by have := partCells_len al; omega
 obtain ⟨⟨K, L, C⟩, hx⟩ : ∃ x, al[q]? = some x := ⟨_, List.getElem?_eq_getElem hal⟩
 obtain ⟨p0, p1, p2⟩ := partCells_at al q _ hx
 exact ⟨K, L, C, hx, (hA.row.cellAt (q * 3) (by omega)).trans p0, (hA.row.cellAt (q * 3 + 1) (by omega)).trans p1, (hA.row.cellAt (q * 3 + 2) (by omega)).trans p2⟩
set_option maxHeartbeats 2000000 in
set_option maxRecDepth 100000 in
theorem pbinned1_any (w0 W : World) (ml : List (Int × Int)) (g P q kb kb2 : Nat) (k : Int) (al : List (Int × Int × Int)) (h : LS w0 b t p s ad n c vs (.slice (some ⟨g, 0, none⟩) P P) mb ml W) (hA : AtR w0 b mb g P al ad W) (hq : q < P)
 (hlen : ∀ x ∈ al, x.1 = 1 → 1 ≤ x.2.1 ∧ x.2.1 ≤ 1024) (hk : W.cell? ⟨kb, 0, none⟩ = some (.int .i64 k)) (hk2 : W.cell? ⟨kb2, 0, none⟩ = some (.pointer (some ⟨b, 0, none⟩))) :
 Calls Tryz.prog 193 #[.int .i64 q, .pointer (some ⟨kb2, 0, none⟩), .pointer (some ⟨kb, 0, none⟩)] W fun e W' => e = .returned (.bool (bnB al k q)) ∧ Below W.heap.size W W' := by
 obtain ⟨-, -, c4, -⟩ := h.lk.cells
 obtain ⟨K, L, C, hx, q0, q1, -⟩ := hA.at hq
 have hb : bnB al k q = (K == 1 && logF L == k) := by
  unfold bnB
  rw [List.getD_eq_getElem?_getD, hx]
  rfl
 have hl := hlen _ (List.mem_of_getElem? hx)
 have hqP : (q : Int) < P := by omega
 rw [hb]
 by_cases hK : K = 1
 ·obtain ⟨l1, l2⟩ := hl hK
  simp only at l1 l2
  obtain ⟨Ln, rfl⟩ : ∃ Ln : Nat, L = Ln := ⟨L.toNat, by omega⟩
  have HL := Lib.hid (fun w => hlog_any Ln w (by omega) (by omega))
  subst hK
  have hlb := bitsN_le Ln
  generalize hlf : logF (Ln : Int) = lf at *
  clear h hA hx hl hlen hb hlf
  have z1 := World.block_lt_of_cell? W _ hk
  have z2 := World.block_lt_of_cell? W _ hk2
  have z3 := World.block_lt_of_cell? W _ c4
  have z4 := World.block_lt_of_cell? W _ q0
  have z5 := World.block_lt_of_cell? W _ q1
  go_enter Tryz.func193, Tryz.ntmps193
  go_wp2_with fail
  refine wp_region_noPanic ?_
  refine wp_region_held_drew (S := fun w' => w'.cell? ⟨kb, 0, none⟩ = some (.int .i64 k) ∧ w'.cell? ⟨kb2, 0, none⟩ = some (.pointer (some ⟨b, 0, none⟩)) ∧ w'.cell? ⟨b, 4, none⟩ = some (.slice (some ⟨g, 0, none⟩) P P) ∧ w'.cell? ⟨g, q * 3, none⟩ = some (.int .i64 1) ∧ w'.cell? ⟨g, q * 3 + 1, none⟩ = some (.int .i64 Ln)) (by kernel_rfl) ?_ (fun hHeld => ?_)
  ·exact ⟨hk, hk2, c4, q0, q1⟩
  refine wT 0 ?_
  refine wT 1 ?_
  refine wT 2 ?_
  refine wT 3 ?_
  refine wT 4 ?_
  refine wT 5 ?_
  refine wT 6 ?_
  refine wT 7 ?_
  refine wT 8 ?_
  refine wT 9 ?_
  refine wT 10 ?_
  refine wT 11 ?_
  refine wT 12 ?_
  refine wT 13 ?_
  refine wT 14 ?_
  refine wT 15 ?_
  refine wT 16 ?_
  refine wT 17 ?_
  refine wT 19 ?_
  refine wR 18 fun K hK => ?_
  go_simp
  refine (HL.out _).mono ?_
  rintro e w1 ⟨rfl, d1⟩
  have k1 : w1.cell? ⟨kb, 0, none⟩ = some (.int .i64 k) ∧ w1.cell? ⟨kb2, 0, none⟩ = some (.pointer (some ⟨b, 0, none⟩)) ∧ w1.cell? ⟨b, 4, none⟩ = some (.slice (some ⟨g, 0, none⟩) P P) ∧ w1.cell? ⟨g, q * 3, none⟩ = some (.int .i64 1) ∧ w1.cell? ⟨g, q * 3 + 1, none⟩ = some (.int .i64 Ln) := ⟨(d1.cell z1).trans hk, (d1.cell z2).trans hk2, (d1.cell z3).trans c4, (d1.cell z4).trans q0, (d1.cell z5).trans q1⟩
  refine hK.out _ _ ?_ (fun hHeld => ?_)
  ·exact k1
  clear hK K
  try simp only [Act.put, zA, zB, zC, zD, zE, zF]
  refine wT 20 ?_
  refine wT 21 ?_
  refine wT 22 ?_
  refine wpAnyH_done (by kernel_rfl) (NoPanic.normal ?_) _
  go_wp2
  go_ret
  exact ⟨ret_bool (by simp), (Below.refl _ _).drew.trans d1⟩
 ·have hKb : (K == 1) = false := by simpa using hK
  clear h hA hx hl hlen hb hK
  go_enter Tryz.func193, Tryz.ntmps193
  go_wp2_with fail
  refine wp_region_noPanic ?_
  refine wp_region_held_drew (S := fun w' => w'.cell? ⟨kb2, 0, none⟩ = some (.pointer (some ⟨b, 0, none⟩)) ∧ w'.cell? ⟨b, 4, none⟩ = some (.slice (some ⟨g, 0, none⟩) P P) ∧ w'.cell? ⟨g, q * 3, none⟩ = some (.int .i64 K)) (by kernel_rfl) ?_ (fun hHeld => ?_)
  ·exact ⟨hk2, c4, q0⟩
  refine wT 0 ?_
  refine wT 1 ?_
  refine wT 2 ?_
  refine wT 3 ?_
  refine wT 4 ?_
  refine wT 5 ?_
  refine wT 6 ?_
  refine wT 7 ?_
  refine wT 8 ?_
  refine wT 9 ?_
  refine wU 10 ?_
  refine wU 11 ?_
  refine wU 12 ?_
  refine wU 13 ?_
  refine wU 14 ?_
  refine wU 15 ?_
  refine wU 16 ?_
  refine wU 17 ?_
  refine wU 18 ?_
  refine wU 19 ?_
  refine wU 20 ?_
  refine wT 21 ?_
  refine wT 22 ?_
  refine wpAnyH_done (by kernel_rfl) (NoPanic.normal ?_) _
  go_wp2
  go_ret
  exact ⟨ret_bool (by simp [hKb]), (Below.refl _ _).drew⟩

/-- the pages that are met on the way of a list: how many, whether all is well, and all that were met. -/
def plL (f : Nat → Bool) (vs : List Int) (t : Int) (P : Nat) : Nat → Int → Int → Nat → List Nat → Nat × Bool × List Nat
 | 0, _, _, _, vis => (0, false, vis)
 | m + 1, q, ah, k, vis => if q = 0 then (k, true, vis) else if (P : Int) ≤ q - 1 ∨ (q - 1).toNat ∈ vis ∨ f (q - 1).toNat = false ∨ gv vs t (q - 1) 3 ≠ ah then (0, false, vis)
  else plL f vs t P m (gv vs t (q - 1) 2) q (k + 1) (vis ++ [(q - 1).toNat])
def mlOf (vis : List Nat) : List (Int × Int) := vis.map fun (q : Nat) => ((q : Int), (1 : Int))
theorem look_ml (q : Nat) : ∀ (vis : List Nat) (i : Nat), (look (mlOf vis) (q : Int) i).isSome = decide (q ∈ vis) ∧ ∀ x, look (mlOf vis) (q : Int) i = some x → x.2 = 1
 | [], i => by simp [mlOf, look]
 | y :: vis, i => by
  have ih := look_ml q vis (i + 1)
  have e : mlOf (y :: vis) = ((y : Int), 1) :: mlOf vis := rfl
  rw [e]
  simp only [look]
  by_cases h : (y : Int) = q
  ·have : y = q := by omega
   subst this
   rw [if_pos rfl]
   exact ⟨by simp, fun x hx => by simp at hx; rw [← hx]⟩
  ·rw [if_neg h]
   refine ⟨?_, ih.2⟩
   rw [ih.1]
   have : q ≠ y := by omega
   simp [this]
theorem assoc_ml (q : Nat) (vis : List Nat) : (assoc (mlOf vis) (q : Int)).getD 0 = if q ∈ vis then 1 else 0 := by
 have h := look_ml q vis 0
 unfold assoc
 cases hl : look (mlOf vis) (q : Int) 0 with
 | none =>
  rw [hl] at h
  have := h.1
  simp at this
  simp [this]
 | some x =>
  rw [hl] at h
  have h1 := h.1
  simp at h1
  have := h.2 x rfl
  simp [h1, this]
theorem upsert_ml (q : Nat) (vis : List Nat) (h : q ∉ vis) : upsert (mlOf vis) (q : Int) 1 = mlOf (vis ++ [q]) := by
 have hk := (look_ml q vis 0).1
 unfold upsert
 cases hl : look (mlOf vis) (q : Int) 0 with
 | none => simp [mlOf]
 | some x =>
  rw [hl] at hk
  simp at hk
  exact absurd hk h
theorem LS.grownMap {atv : Value} {w0 W W' : World} {ml ml' : List (Int × Int)} (h : LS w0 b t p s ad n c vs atv mb ml W) (hv : ad.block < w0.heap.size) (hg : W.grownBy W' (some mb)) (hm : MapIs W' mb ml') : LS w0 b t p s ad n c vs atv mb ml' W' := by
 have hb0 := h.bs.ls b (by simp)
 have hm0 := h.bs.ls mb (by simp)
 obtain ⟨x1, x2, x3, x4, x5, x6⟩ := h.lk.xv
 refine ⟨⟨(hg.block b hb0.1 (by simp; exact Ne.symm h.ne)).trans h.lk.box, x1, x2, x3, x4, x5, fun k hk => hg.cell (x6 k hk) (by rw [add_block]; simp; omega)⟩, h.bs.grown hg (fun k hk => by simp at hk; subst hk; simp) _ (fun L hL => Or.inl hL), h.ne, hm⟩
theorem AtR.grownMap {w0 W W' : World} {g P : Nat} {al : List (Int × Int × Int)} (h : AtR w0 b mb g P al ad W) (hg : W.grownBy W' (some mb)) : AtR w0 b mb g P al ad W' :=
 ⟨h.row.kept hg (Or.inr (by simp [Value.ownBlock]; exact h.n2)), h.ge, h.n1, h.n2, h.n3⟩
def PlRel (w0 W : World) (b : Nat) (t p s : Int) (ad : Addr) (n c : Nat) (vs : List Int) (mb g P kb kb2 : Nat) (k : Int) (al : List (Int × Int × Int)) (f : Nat → Bool) (res : Nat × Bool × List Nat) (va vn vq : Value) (wr : World) : Prop :=
 ∃ (q ah : Int) (m : Nat) (vis : List Nat), vq = .int .u32 q ∧ va = .int .u32 ah ∧ vn = .int .i64 m ∧ 0 ≤ q ∧ q < 4294967296 ∧ 0 ≤ ah ∧ ah < 4294967296 ∧ m ≤ vis.length ∧ vis.Nodup ∧ (∀ y ∈ vis, y < P) ∧ plL f vs t P (P + 1 - vis.length) q ah m vis = res ∧
  LS w0 b t p s ad n c vs (.slice (some ⟨g, 0, none⟩) P P) mb (mlOf vis) wr ∧ AtR w0 b mb g P al ad wr ∧ wr.cell? ⟨kb, 0, none⟩ = some (.int .i64 k) ∧ wr.cell? ⟨kb2, 0, none⟩ = some (.pointer (some ⟨b, 0, none⟩)) ∧ (∀ k' : Nat, k' ≠ mb → k' < W.heap.size → wr.heap[k']? = W.heap[k']?) ∧ W.heap.size ≤ wr.heap.size
set_option maxHeartbeats 2000000 in
set_option maxRecDepth 100000 in
theorem plistb_any (w0 W : World) (k : Int) (hd g P kb kb2 : Nat) (vis : List Nat) (al : List (Int × Int × Int)) (h : LS w0 b t p s ad n c vs (.slice (some ⟨g, 0, none⟩) P P) mb (mlOf vis) W) (hA : AtR w0 b mb g P al ad W) (hP : p = P)
 (hlen : ∀ x ∈ al, x.1 = 1 → 1 ≤ x.2.1 ∧ x.2.1 ≤ 1024) (hk : W.cell? ⟨kb, 0, none⟩ = some (.int .i64 k)) (hk2 : W.cell? ⟨kb2, 0, none⟩ = some (.pointer (some ⟨b, 0, none⟩))) (hd1 : hd < n) (hv : ad.block < w0.heap.size) (hnd : vis.Nodup) (hvis : ∀ y ∈ vis, y < P) :
 Calls Tryz.prog 195 #[.pointer (some ⟨b, 0, none⟩), .int .i64 hd, .func (.func 193) #[] #[.pointer (some ⟨kb2, 0, none⟩), .pointer (some ⟨kb, 0, none⟩)]] W fun e W' =>
  ∃ r, r = plL (bnB al k) vs t P (P + 1 - vis.length) (vs.getD hd 0) 0 0 vis ∧ e = .returned (.tuple #[.int .i64 r.1, .bool r.2.1]) ∧ LS w0 b t p s ad n c vs (.slice (some ⟨g, 0, none⟩) P P) mb (mlOf r.2.2) W' ∧ AtR w0 b mb g P al ad W' ∧ (∀ k' : Nat, k' ≠ mb → k' < W.heap.size → W'.heap[k']? = W.heap[k']?) ∧ W.heap.size ≤ W'.heap.size := by
 subst hP
 obtain ⟨b1, b2, b3, b4, b5, b6, b7⟩ := h.lk.xv.bd
 have HG := Lib.hid (fun (w : World) (h : LK b t P s ad n c vs (.slice (some ⟨g, 0, none⟩) P P) mb w) => pget_any hd w h hd1)
 have hu := getD_u32 h.lk.xv.u32 hd
 have H0 := Lib.hid h
 have A0 := Lib.hid hA
 have HK := Lib.hid (And.intro hk hk2)
 have hvl := VS.length_le_of_nodup P vis hnd hvis
 have hkm : kb ≠ mb := by
  rintro rfl
  obtain ⟨es, clk, h1, -⟩ := h.map
  simp [World.cell?, h1] at hk
 have hkm2 : kb2 ≠ mb := by
  rintro rfl
  obtain ⟨es, clk, h1, -⟩ := h.map
  simp [World.cell?, h1] at hk2
 have hbm := h.ne
 generalize hres : plL (bnB al k) vs t P (P + 1 - vis.length) (vs.getD hd 0) 0 0 vis = res
 have HRes := Lib.hid hres
 unfold VS.U32 at hu
 clear hres h hA hk hk2
 go_enter Tryz.func195, Tryz.ntmps195
 go_wp2_with fail
 refine (HG.out _ H0.out.lk).mono ?_
 rintro e w1 ⟨rfl, d1⟩
 generalize vs.getD hd 0 = q0 at *
 have hstart : PlRel w0 W b t P s ad n c vs mb g P kb kb2 k al (bnB al k) res (.int .u32 0) (.int .i64 0) (.int .u32 q0) w1 := by
  refine ⟨q0, 0, 0, vis, rfl, rfl, rfl, by omega, by omega, by omega, by omega, by omega, hnd, hvis, HRes.out, H0.out.keep d1, A0.out.keep d1, (d1.cell (World.block_lt_of_cell? _ _ HK.out.1)).trans HK.out.1, (d1.cell (World.block_lt_of_cell? _ _ HK.out.2)).trans HK.out.2, fun k' _ hk' => d1.block k' hk', d1.size⟩
 clear d1 HRes
 go_wp2
 go_loopw [8, 9, 10] (fun va vn vq wr => PlRel w0 W b t P s ad n c vs mb g P kb kb2 k al (bnB al k) res va vn vq wr) (fun _ vn _ _ => P + 1 - (intOf vn).toNat)
 case atStart => exact hstart
 case round =>
  clear hstart
  obtain ⟨q, ah, m, vi, rfl, rfl, rfl, z0, z1, z2, z3, hm, hnd2, hvis2, hpl, hL, hA, hk, hk2, hsame, hsz⟩ := hrel
  have hvl2 := VS.length_le_of_nodup P vi hnd2 hvis2
  obtain ⟨fu, hfu⟩ : ∃ fu, P + 1 - vi.length = fu + 1 := ⟨P - vi.length, by omega⟩
  rw [hfu] at hpl
  have HFu := Lib.hid hfu
  clear hfu
  unfold plL at hpl
  by_cases hq0 : q = 0
  ·rw [if_pos hq0] at hpl
   subst hq0
   have HP := Lib.hid hpl
   have HL := Lib.hid hL
   have HA := Lib.hid hA
   have HS := Lib.hid (And.intro hsame hsz)
   clear hpl hL hA hk hk2 hsame hsz
   go_wp2
   exact bodyPost_ret (v := .tuple #[.int .i64 m, .bool true]) (by simp [results, Tryz.results195, go_sem]) rfl ⟨res, rfl, by rw [← HP.out], by rw [← HP.out]; exact HL.out, HA.out, HS.out.1, HS.out.2⟩
  ·rw [if_neg hq0] at hpl
   obtain ⟨x, hqx⟩ : ∃ x : Nat, q - 1 = (x : Int) := ⟨(q - 1).toNat, by omega⟩
   rw [hqx, Int.toNat_natCast] at hpl
   have hqb : (q != 0) = true := by simpa using hq0
   obtain ⟨⟨c0, c1, c2⟩, c3, c4, c5⟩ := hL.lk.cells
   have hlkq := run_lookup_ok (P := Tryz.prog) hL.map uMap Tryz.underlying3 (zInt _) (x : Int) false
   simp only [Bool.false_eq_true, if_false] at hlkq
   rw [assoc_ml] at hlkq
   by_cases hPx : (P : Int) ≤ x
   ·rw [if_pos (Or.inl hPx)] at hpl
    have HP := Lib.hid hpl
    have HL := Lib.hid hL
    have HA := Lib.hid hA
    have HS := Lib.hid (And.intro hsame hsz)
    clear hpl hL hA hk hk2 hsame hsz hlkq
    go_wp2
    exact bodyPost_ret (v := .tuple #[.int .i64 0, .bool false]) (by simp [results, Tryz.results195, go_sem]) rfl ⟨res, rfl, by rw [← HP.out]; rfl, by rw [← HP.out]; exact HL.out, HA.out, HS.out.1, HS.out.2⟩
   ·have hPx2 : (x : Int) < P := by omega
    have hPxn : x < P := by omega
    by_cases hxv : x ∈ vi
    ·rw [if_pos (Or.inr (Or.inl hxv))] at hpl
     rw [if_pos hxv] at hlkq
     have HP := Lib.hid hpl
     have HL := Lib.hid hL
     have HA := Lib.hid hA
     have HS := Lib.hid (And.intro hsame hsz)
     clear hpl hL hA hk hk2 hsame hsz hPx
     go_wp2
     exact bodyPost_ret (v := .tuple #[.int .i64 0, .bool false]) (by simp [results, Tryz.results195, go_sem]) rfl ⟨res, rfl, by rw [← HP.out]; rfl, by rw [← HP.out]; exact HL.out, HA.out, HS.out.1, HS.out.2⟩
    ·rw [if_neg hxv] at hlkq
     have HB := Lib.hid (pbinned1_any w0 wr (mlOf vi) g P x kb kb2 k al hL hA hPxn hlen hk hk2)
     have HL := Lib.hid hL
     have HA := Lib.hid hA
     have HS := Lib.hid (And.intro hsame hsz)
     have HKK := Lib.hid (And.intro hk hk2)
     have HP := Lib.hid hpl
     clear hpl hL hA hk hk2 hsame hsz hPx
     generalize bnB al k x = bx at *
     go_wp2_with fail
     refine (HB.out).mono ?_
     rintro e w2 ⟨rfl, d2⟩
     have hx3 := HL.out.lk.xv.cx (q := x) (part := 3) (by omega) (by omega) (by omega) (by omega)
     have hx2 := HL.out.lk.xv.cx (q := x) (part := 2) (by omega) (by omega) (by omega) (by omega)
     have H3 := Lib.hid (fun w => ppprev_any t P s x w)
     rw [hx3.2] at H3
     have H2 := Lib.hid (fun w => ppnext_any t P s x w)
     rw [hx2.2] at H2
     have G3 := Lib.hid (fun (w : World) (h : LK b t P s ad n c vs (.slice (some ⟨g, 0, none⟩) P P) mb w) => pget_any (cix t x 3) w h hx3.1)
     have G2 := Lib.hid (fun (w : World) (h : LK b t P s ad n c vs (.slice (some ⟨g, 0, none⟩) P P) mb w) => pget_any (cix t x 2) w h hx2.1)
     have hd3 : vs.getD (cix t x 3) 0 = gv vs t x 3 := rfl
     have hd2 : vs.getD (cix t x 2) 0 = gv vs t x 2 := rfl
     rw [hd3] at G3
     rw [hd2] at G2
     have hgu := HL.out.lk.xv.gu x 2
     have hL2 := HL.out.keep d2
     have HL2 := Lib.hid hL2
     obtain ⟨⟨c0, c1, c2⟩, c3, c4, c5⟩ := hL2.lk.cells
     clear hL2 hx3 hx2 hd3 hd2
     generalize gv vs t x 3 = pv at *
     generalize gv vs t x 2 = nv at *
     generalize cix t x 3 = x3 at *
     generalize cix t x 2 = x2 at *
     cases bx
     ·rw [if_pos (Or.inr (Or.inr (Or.inl rfl)))] at HP
      have DD := Lib.hid d2
      go_wp2
      exact bodyPost_ret (v := .tuple #[.int .i64 0, .bool false]) (by simp [results, Tryz.results195, go_sem]) rfl ⟨res, rfl, by rw [← HP.out]; rfl, by rw [← HP.out]; exact HL.out.keep DD.out, HA.out.keep DD.out, fun k' h1 h2 => (DD.out.block k' (Nat.lt_of_lt_of_le h2 HS.out.2)).trans (HS.out.1 k' h1 h2), Nat.le_trans HS.out.2 DD.out.size⟩
     ·go_wp2_with fail
      refine (H3.out _).mono ?_
      rintro e w3 ⟨rfl, d3⟩
      have HL3 := Lib.hid (HL2.out.keep d3)
      go_wp2_with fail
      refine (G3.out _ HL3.out.lk).mono ?_
      rintro e w4 ⟨rfl, d4⟩
      have HL4 := Lib.hid (HL3.out.keep d4)
      have DD := Lib.hid (d2.trans ((d3.trans (d4.mono d3.size)).mono d2.size))
      clear d2 d3 d4 c0 c1 c2 c3 c4 c5
      obtain ⟨⟨c0, c1, c2⟩, c3, c4, c5⟩ := HL4.out.lk.cells
      by_cases hpa : pv = ah
      ·subst hpa
       rw [if_neg (by simp [hxv, hPxn])] at HP
       obtain ⟨w5, hrun, hm5, hg5⟩ := run_update (P := Tryz.prog) HL4.out.map uMap Tryz.underlying3 (x : Int) 1
       rw [upsert_ml x vi hxv] at hm5
       have HL5 := Lib.hid (HL4.out.grownMap hv hg5 hm5)
       have HA5 := Lib.hid ((HA.out.keep DD.out).grownMap hg5)
       obtain ⟨⟨e0, e1, e2⟩, e3, e4, e5⟩ := HL5.out.lk.cells
       have hk5 := hg5.cell ((DD.out.cell (World.block_lt_of_cell? _ _ HKK.out.1)).trans HKK.out.1) (by simp; exact hkm)
       have hk52 := hg5.cell ((DD.out.cell (World.block_lt_of_cell? _ _ HKK.out.2)).trans HKK.out.2) (by simp; exact hkm2)
       have HKK5 := Lib.hid (And.intro hk5 hk52)
       have HS5 : Hid ((∀ k' : Nat, k' ≠ mb → k' < W.heap.size → w5.heap[k']? = W.heap[k']?) ∧ W.heap.size ≤ w5.heap.size) := Lib.hid ⟨fun k' h1 h2 => (hg5.block k' (Nat.lt_of_lt_of_le (Nat.lt_of_lt_of_le h2 HS.out.2) DD.out.size) (by simp; exact h1)).trans ((DD.out.block k' (Nat.lt_of_lt_of_le h2 HS.out.2)).trans (HS.out.1 k' h1 h2)), Nat.le_trans (Nat.le_trans HS.out.2 DD.out.size) hg5.size⟩
       have hnd5 : (vi ++ [x]).Nodup := by
        rw [List.nodup_append]
        exact ⟨hnd2, by simp, fun a ha c hc e => by simp at hc; subst hc; subst e; exact hxv ha⟩
       have hvis5 : ∀ y ∈ vi ++ [x], y < P := by
        intro y hy
        simp at hy
        rcases hy with hy | rfl
        ·exact hvis2 y hy
        ·exact hPxn
       have hvl5 := VS.length_le_of_nodup P _ hnd5 hvis5
       have HN5 := Lib.hid (And.intro hnd5 hvis5)
       clear hm5 hg5 hk5 hk52 hnd5 hvis5
       go_wp2_with fail
       refine (H2.out _).mono ?_
       rintro e w6 ⟨rfl, d6⟩
       have HL6 := Lib.hid (HL5.out.keep d6)
       go_wp2_with fail
       refine (G2.out _ HL6.out.lk).mono ?_
       rintro e w7 ⟨rfl, d7⟩
       have D7 := Lib.hid (d6.trans (d7.mono d6.size))
       clear d6 d7
       go_wp2
       go_roundw
       case rel =>
        refine ⟨nv, q, m + 1, vi ++ [x], rfl, rfl, by go_num, by omega, by omega, by omega, by omega, by simp; omega, HN5.out.1, HN5.out.2, ?_, HL5.out.keep D7.out, HA5.out.keep D7.out, (D7.out.cell (World.block_lt_of_cell? _ _ HKK5.out.1)).trans HKK5.out.1, (D7.out.cell (World.block_lt_of_cell? _ _ HKK5.out.2)).trans HKK5.out.2, fun k' h1 h2 => (D7.out.block k' (Nat.lt_of_lt_of_le h2 HS5.out.2)).trans (HS5.out.1 k' h1 h2), Nat.le_trans HS5.out.2 D7.out.size⟩
        rw [← HP.out]
        have := HFu.out
        congr 1
        simp
        omega
       case measure => simp [intOf] at hvl5 ⊢; omega
      ·rw [if_pos (Or.inr (Or.inr (Or.inr hpa)))] at HP
       have hpb : (pv != ah) = true := by simpa using hpa
       go_wp2
       exact bodyPost_ret (v := .tuple #[.int .i64 0, .bool false]) (by simp [results, Tryz.results195, go_sem]) rfl ⟨res, rfl, by rw [← HP.out]; rfl, by rw [← HP.out]; exact HL.out.keep DD.out, HA.out.keep DD.out, fun k' h1 h2 => (DD.out.block k' (Nat.lt_of_lt_of_le h2 HS.out.2)).trans (HS.out.1 k' h1 h2), Nat.le_trans HS.out.2 DD.out.size⟩
end
end Go.Proofs.YtcbikgafdclhaaaGreat
/- the program's audit: count, binned. -/
set_option linter.unusedSimpArgs false
set_option linter.unusedVariables false
namespace Go.Proofs.YtcbikgafdclhaaaGreat
open Go.RowKit
section
variable {b : Nat} {t p s : Int} {ad : Addr} {n c : Nat} {vs : List Int} {mb : Nat}
def cntN (f : Nat → Bool) : Nat → Nat
 | 0 => 0
 | k + 1 => cntN f k + if f k then 1 else 0
theorem cntN_le (f : Nat → Bool) : ∀ k, cntN f k ≤ k
 | 0 => Nat.le_refl _
 | k + 1 => by have := cntN_le f k; unfold cntN; split <;> omega
def CbRel (f : Nat → Bool) (P : Nat) (W : World) (vn vi : Value) (wr : World) : Prop := ∃ k : Nat, k ≤ P ∧ vi = .int .i64 k ∧ vn = .int .i64 (cntN f k) ∧ Below W.heap.size W wr
set_option maxHeartbeats 2000000 in
set_option maxRecDepth 100000 in
theorem pcountb_any (w0 W : World) (k : Int) (g P kb kb2 : Nat) (ml : List (Int × Int)) (al : List (Int × Int × Int)) (h : LS w0 b t p s ad n c vs (.slice (some ⟨g, 0, none⟩) P P) mb ml W) (hA : AtR w0 b mb g P al ad W) (hP : P ≤ 1024)
 (hlen : ∀ x ∈ al, x.1 = 1 → 1 ≤ x.2.1 ∧ x.2.1 ≤ 1024) (hk : W.cell? ⟨kb, 0, none⟩ = some (.int .i64 k)) (hk2 : W.cell? ⟨kb2, 0, none⟩ = some (.pointer (some ⟨b, 0, none⟩))) :
 Calls Tryz.prog 197 #[.pointer (some ⟨b, 0, none⟩), .func (.func 193) #[] #[.pointer (some ⟨kb2, 0, none⟩), .pointer (some ⟨kb, 0, none⟩)]] W fun e W' =>
  e = .returned (.int .i64 (cntN (bnB al k) P)) ∧ Below W.heap.size W W' := by
 obtain ⟨-, -, c4, -⟩ := h.lk.cells
 have H0 := Lib.hid h
 have A0 := Lib.hid hA
 have HK := Lib.hid (And.intro hk hk2)
 clear h hA hk hk2
 go_enter Tryz.func197, Tryz.ntmps197
 go_wp2
 go_loopw [5, 12] (fun vn vi wr => CbRel (bnB al k) P W vn vi wr) (fun _ vi _ => P - (intOf vi).toNat)
 case atStart => exact ⟨0, by omega, rfl, rfl, Below.refl _ _⟩
 case round =>
  clear c4
  obtain ⟨q, hq, rfl, rfl, hb⟩ := hrel
  have hcl := cntN_le (bnB al k) q
  by_cases hlt : q < P
  ·have HB := Lib.hid (pbinned1_any w0 wr ml g P q kb kb2 k al (H0.out.keep hb) (A0.out.keep hb) hlt hlen ((hb.cell (World.block_lt_of_cell? _ _ HK.out.1)).trans HK.out.1) ((hb.cell (World.block_lt_of_cell? _ _ HK.out.2)).trans HK.out.2))
   have HX := Lib.hid hb
   have hs : cntN (bnB al k) (q + 1) = cntN (bnB al k) q + if bnB al k q then 1 else 0 := rfl
   have HS := Lib.hid hs
   have hqP : (q : Int) < P := by omega
   clear hb hs
   generalize bnB al k q = z at *
   generalize cntN (bnB al k) q = m at *
   cases z
   ·go_wp2_with fail
    refine (HB.out).mono ?_
    rintro e w2 ⟨rfl, d2⟩
    go_wp2
    go_roundw
    case rel => exact ⟨q + 1, by omega, by go_num, by rw [HS.out]; simp, HX.out.trans (d2.mono HX.out.size)⟩
    case measure => simp [intOf]; omega
   ·go_wp2_with fail
    refine (HB.out).mono ?_
    rintro e w2 ⟨rfl, d2⟩
    go_wp2
    go_roundw
    case rel => exact ⟨q + 1, by omega, by go_num, by rw [HS.out]; simp, HX.out.trans (d2.mono HX.out.size)⟩
    case measure => simp [intOf]; omega
  ·have h1 : q = P := by omega
   rw [h1]
   go_wp2
   go_ret
   exact ⟨rfl, hb⟩
theorem plL_nd {f : Nat → Bool} {vs : List Int} {t : Int} {P : Nat} : ∀ (m : Nat) (q ah : Int) (k : Nat) (vis : List Nat), vis.Nodup → (∀ y ∈ vis, y < P) → 0 ≤ q → (∀ q part, 0 ≤ gv vs t q part) → (plL f vs t P m q ah k vis).2.2.Nodup ∧ ∀ y ∈ (plL f vs t P m q ah k vis).2.2, y < P
 | 0, q, ah, k, vis, h1, h2, _, _ => ⟨h1, h2⟩
 | m + 1, q, ah, k, vis, h1, h2, h3, h4 => by
  unfold plL
  by_cases e : q = 0
  ·rw [if_pos e]; exact ⟨h1, h2⟩
  ·rw [if_neg e]
   by_cases e2 : (P : Int) ≤ q - 1 ∨ (q - 1).toNat ∈ vis ∨ f (q - 1).toNat = false ∨ gv vs t (q - 1) 3 ≠ ah
   ·rw [if_pos e2]; exact ⟨h1, h2⟩
   ·rw [if_neg e2]
    have a1 : ¬ (P : Int) ≤ q - 1 := fun h => e2 (Or.inl h)
    have a2 : (q - 1).toNat ∉ vis := fun h => e2 (Or.inr (Or.inl h))
    refine plL_nd m _ _ _ _ ?_ ?_ (h4 _ _) h4
    ·rw [List.nodup_append]
     exact ⟨h1, by simp, fun a ha c hc e => by simp only [List.mem_singleton] at hc; subst hc; subst e; exact a2 ha⟩
    ·intro y hy
     simp at hy
     rcases hy with hy | rfl
     ·exact h2 y hy
     ·omega
/-- what binned and racked answer. -/
def BnP (w0 W : World) (b : Nat) (t p s : Int) (ad : Addr) (n c : Nat) (vs : List Int) (mb g P : Nat) (al : List (Int × Int × Int)) (f : Nat → Bool) (r : Nat × Bool × List Nat) (e : Ending) (W' : World) : Prop :=
 e = .returned (.bool (r.2.1 && r.1 == cntN f P)) ∧ LS w0 b t p s ad n c vs (.slice (some ⟨g, 0, none⟩) P P) mb (mlOf r.2.2) W' ∧ AtR w0 b mb g P al ad W' ∧ (∀ k' : Nat, k' ≠ mb → k' < W.heap.size → W'.heap[k']? = W.heap[k']?) ∧ W.heap.size ≤ W'.heap.size
set_option maxHeartbeats 2000000 in
set_option maxRecDepth 100000 in
theorem pbinned_any (w0 W : World) (k g P : Nat) (hk : k < 11) (vis : List Nat) (al : List (Int × Int × Int)) (h : LS w0 b t p s ad n c vs (.slice (some ⟨g, 0, none⟩) P P) mb (mlOf vis) W) (hA : AtR w0 b mb g P al ad W) (hP : p = P)
 (hlen : ∀ x ∈ al, x.1 = 1 → 1 ≤ x.2.1 ∧ x.2.1 ≤ 1024) (hv : ad.block < w0.heap.size) (hnd : vis.Nodup) (hvis : ∀ y ∈ vis, y < P) :
 Calls Tryz.prog 152 #[.pointer (some ⟨b, 0, none⟩), .int .i64 k] W (BnP w0 W b t p s ad n c vs mb g P al (bnB al k) (plL (bnB al k) vs t P (P + 1 - vis.length) (vs.getD (2 + k) 0) 0 0 vis)) := by
 subst hP
 obtain ⟨b1, b2, b3, b4, b5, b6, b7⟩ := h.lk.xv.bd
 have HB := Lib.hid (fun w => pbin_any k w)
 have hwf : withinF 2 k 11 = ((2 + k : Nat) : Int) := by unfold withinF; rw [if_neg (by omega)]; omega
 rw [hwf] at HB
 have hmW := (h.bs.ls mb (by simp)).1
 have hm1 : W.heap.size ≠ mb := by omega
 have hm2 : W.heap.size + 1 ≠ mb := by omega
 have S0 := ((BS.start W).alloc (.cells #[.pointer (some ⟨b, 0, none⟩)] 106)).alloc (.cells #[.int .i64 k] 3)
 simp only [World.size_alloc] at S0
 have x0 : ((W.alloc (.cells #[.pointer (some ⟨b, 0, none⟩)] 106)).alloc (.cells #[.int .i64 k] 3)).cell? ⟨W.heap.size, 0, none⟩ = some (.pointer (some ⟨b, 0, none⟩)) := loc_old (.cells #[.int .i64 k] 3) (by simp) (loc_alloc W #[.pointer (some ⟨b, 0, none⟩)] 106) 0
 have x1 : ((W.alloc (.cells #[.pointer (some ⟨b, 0, none⟩)] 106)).alloc (.cells #[.int .i64 k] 3)).cell? ⟨W.heap.size + 1, 0, none⟩ = some (.int .i64 k) := by
  simp
 have HL0 := Lib.hid (h.keep S0.bel)
 have HA0 := Lib.hid (hA.keep S0.bel)
 have HLi := Lib.hid (fun (w : World) (hw : LS w0 b t P s ad n c vs (.slice (some ⟨g, 0, none⟩) P P) mb (mlOf vis) w) (ha : AtR w0 b mb g P al ad w) (h1 : w.cell? ⟨W.heap.size + 1, 0, none⟩ = some (.int .i64 k)) (h2 : w.cell? ⟨W.heap.size, 0, none⟩ = some (.pointer (some ⟨b, 0, none⟩))) => plistb_any w0 w k (2 + k) g P (W.heap.size + 1) W.heap.size vis al hw ha rfl hlen h1 h2 (by omega) hv hnd hvis)
 have HCo := Lib.hid (fun (ml : List (Int × Int)) (w : World) (hw : LS w0 b t P s ad n c vs (.slice (some ⟨g, 0, none⟩) P P) mb ml w) (ha : AtR w0 b mb g P al ad w) (h1 : w.cell? ⟨W.heap.size + 1, 0, none⟩ = some (.int .i64 k)) (h2 : w.cell? ⟨W.heap.size, 0, none⟩ = some (.pointer (some ⟨b, 0, none⟩))) => pcountb_any w0 w k g P (W.heap.size + 1) W.heap.size ml al hw ha (by omega) hlen h1 h2)
 generalize plL (bnB al k) vs t P (P + 1 - vis.length) (vs.getD (2 + k) 0) 0 0 vis = res at *
 obtain ⟨rn, rb, rv⟩ := res
 generalize 2 + k = k2 at *
 clear h hA hwf hnd hvis hlen
 go_enter Tryz.func152, Tryz.ntmps152
 go_wp2_with fail
 refine wp_region_noPanic ?_
 refine wp_region_held_drew (S := fun w' => w'.cell? ⟨W.heap.size, 0, none⟩ = some (.pointer (some ⟨b, 0, none⟩)) ∧ w'.cell? ⟨W.heap.size + 1, 0, none⟩ = some (.int .i64 k)) (by kernel_rfl) ?_ (fun hHeld => ?_)
 ·exact ⟨x0, x1⟩
 refine wT 0 ?_
 refine wT 1 ?_
 refine wT 3 ?_
 refine wR 2 fun K hK => ?_
 go_simp
 refine (HB.out _).mono ?_
 rintro e w1 ⟨rfl, d1⟩
 have L1 := Lib.hid ((HL0.out.keep (Below.refl _ _).drew).keep d1)
 have A1 := Lib.hid ((HA0.out.keep (Below.refl _ _).drew).keep d1)
 have y0 := (d1.cell (World.block_lt_of_cell? _ _ hHeld.1)).trans hHeld.1
 have y1 := (d1.cell (World.block_lt_of_cell? _ _ hHeld.2)).trans hHeld.2
 have S1 := S0.drew.below d1
 refine hK.out _ _ ?_ (fun hHeld => ?_)
 ·exact ⟨y0, y1⟩
 clear hK K
 try simp only [Act.put, zA, zB, zC, zD, zE, zF]
 refine wR 4 fun K hK => ?_
 go_simp
 refine (HLi.out _ L1.out A1.out y1 y0).mono ?_
 rintro e w2 ⟨r, rfl, rfl, hL2, hA2, hs2, hz2⟩
 have z0 : w2.cell? ⟨W.heap.size, 0, none⟩ = some (.pointer (some ⟨b, 0, none⟩)) := (World.cell?_of_block (a := ⟨W.heap.size, 0, none⟩) (hs2 _ hm1 (World.block_lt_of_cell? _ _ y0))).trans y0
 have z1 : w2.cell? ⟨W.heap.size + 1, 0, none⟩ = some (.int .i64 k) := (World.cell?_of_block (a := ⟨W.heap.size + 1, 0, none⟩) (hs2 _ hm2 (World.block_lt_of_cell? _ _ y1))).trans y1
 refine hK.out _ _ ?_ (fun hHeld => ?_)
 ·exact ⟨z0, z1⟩
 clear hK K
 try simp only [Act.put, zA, zB, zC, zD, zE, zF]
 refine wT 5 ?_
 refine wT 6 ?_
 refine wT 7 ?_
 refine wT 8 ?_
 refine wT 9 ?_
 refine wpAnyH_done (by kernel_rfl) (NoPanic.normal ?_) _
 have hsAll : ∀ k' : Nat, k' ≠ mb → k' < W.heap.size → w2.heap[k']? = W.heap[k']? := fun k' h1 h2 => (hs2 k' h1 (Nat.lt_of_lt_of_le h2 S1.bel.size)).trans (S1.bel.block k' h2)
 have hzAll : W.heap.size ≤ w2.heap.size := Nat.le_trans S1.bel.size hz2
 have HS := Lib.hid (And.intro hsAll hzAll)
 have HL2 := Lib.hid hL2
 have HA2 := Lib.hid hA2
 clear hs2 hz2 hsAll hzAll hL2 hA2 L1 A1 y0 y1 S1 S0 x0 x1 hHeld d1
 cases rb
 ·go_wp2
  go_ret
  exact ⟨rfl, HL2.out, HA2.out, HS.out.1, HS.out.2⟩
 ·go_wp2_with fail
  refine (HCo.out _ _ HL2.out HA2.out z1 z0).mono ?_
  rintro e w3 ⟨rfl, d3⟩
  go_wp2
  go_ret
  refine ⟨ret_bool ?_, HL2.out.keep d3, HA2.out.keep d3, fun k' h1 h2 => (d3.block k' (Nat.lt_of_lt_of_le h2 HS.out.2)).trans (HS.out.1 k' h1 h2), Nat.le_trans HS.out.2 d3.size⟩
  simp only [Bool.true_and]
  rw [Bool.eq_iff_iff]
  simp
  try omega
end
end Go.Proofs.YtcbikgafdclhaaaGreat
/- the program's audit: racks. -/
set_option linter.unusedSimpArgs false
set_option linter.unusedVariables false
namespace Go.Proofs.YtcbikgafdclhaaaGreat
open Go.RowKit
section
variable {b : Nat} {t p s : Int} {ad : Addr} {n c : Nat} {vs : List Int} {mb : Nat}
theorem heldR {w w' : World} {L1 kb kb2 b : Nat} {c1 : Array Value} {u1 u2 v0 v1 v2 : Value} (hb : Below w.heap.size w w') (h1 : L1 < w.heap.size)
 (h : (∀ o : Nat, w.cell? ⟨L1, o, none⟩ = c1[o]?) ∧ w.cell? ⟨kb, 0, none⟩ = some u1 ∧ w.cell? ⟨kb2, 0, none⟩ = some u2 ∧ w.cell? ⟨b, 0, none⟩ = some v0 ∧ w.cell? ⟨b, 1, none⟩ = some v1 ∧ w.cell? ⟨b, 2, none⟩ = some v2) :
 (∀ o : Nat, w'.cell? ⟨L1, o, none⟩ = c1[o]?) ∧ w'.cell? ⟨kb, 0, none⟩ = some u1 ∧ w'.cell? ⟨kb2, 0, none⟩ = some u2 ∧ w'.cell? ⟨b, 0, none⟩ = some v0 ∧ w'.cell? ⟨b, 1, none⟩ = some v1 ∧ w'.cell? ⟨b, 2, none⟩ = some v2 := by
 have cc : ∀ {a : Addr} {v : Value}, w.cell? a = some v → w'.cell? a = some v := fun hc => (hb.cell (World.block_lt_of_cell? _ _ hc)).trans hc
 exact ⟨fun o => (hb.cell (p := ⟨L1, o, none⟩) h1).trans (h.1 o), cc h.2.1, cc h.2.2.1, cc h.2.2.2.1, cc h.2.2.2.2.1, cc h.2.2.2.2.2⟩
def rkB (vs : List Int) (t : Int) (al : List (Int × Int × Int)) (k : Int) (q : Nat) : Bool := (al.getD q (0, 0, 0)).1 == 3 && (al.getD q (0, 0, 0)).2.2 == k && !(gv vs t q 5 == 2 ^ (slotsF (al.getD q (0, 0, 0)).2.2).toNat - 1)
set_option maxHeartbeats 2000000 in
set_option maxRecDepth 100000 in
theorem pracked1_any (w0 W : World) (ml : List (Int × Int)) (g P q kb kb2 : Nat) (k : Int) (al : List (Int × Int × Int)) (h : LS w0 b t P s ad n c vs (.slice (some ⟨g, 0, none⟩) P P) mb ml W) (hA : AtR w0 b mb g P al ad W) (hq : q < P)
 (hk : W.cell? ⟨kb, 0, none⟩ = some (.int .i64 k)) (hk2 : W.cell? ⟨kb2, 0, none⟩ = some (.pointer (some ⟨b, 0, none⟩))) :
 Calls Tryz.prog 198 #[.int .i64 q, .pointer (some ⟨kb2, 0, none⟩), .pointer (some ⟨kb, 0, none⟩)] W fun e W' => e = .returned (.bool (rkB vs t al k q)) ∧ Below W.heap.size W W' := by
 obtain ⟨⟨c0, c1, c2⟩, -, c4, -⟩ := h.lk.cells
 obtain ⟨K, L, C, hx, q0, q1, q2⟩ := hA.at hq
 have hb : rkB vs t al k q = (K == 3 && C == k && !(gv vs t q 5 == 2 ^ (slotsF C).toNat - 1)) := by
  unfold rkB
  rw [List.getD_eq_getElem?_getD, hx]
  rfl
 have hqP : (q : Int) < P := by omega
 rw [hb]
 have hx5 := h.lk.xv.cx (q := q) (part := 5) (by omega) (by omega) (by omega) (by omega)
 have H5 := Lib.hid (fun w => pptaken_any t P s q w)
 rw [hx5.2] at H5
 have G5 := Lib.hid (fun (w : World) (h : LK b t P s ad n c vs (.slice (some ⟨g, 0, none⟩) P P) mb w) => pget_any (cix t q 5) w h hx5.1)
 have hd5 : vs.getD (cix t q 5) 0 = gv vs t q 5 := rfl
 rw [hd5] at G5
 have HWh := Lib.hid (fun w => pwhole_any C w)
 have hLa := h.keep ((Below.refl _ _).alloc (Nat.le_refl _) (.cells #[.int .i64 K, .int .i64 L, .int .i64 C] 174))
 have HLa := Lib.hid hLa
 have SA := (BS.start W).alloc (.cells #[.int .i64 K, .int .i64 L, .int .i64 C] 174)
 have i4 := loc_alloc W #[.int .i64 K, .int .i64 L, .int .i64 C] 174
 have hltb := h.lk.lt
 have lk1 := World.block_lt_of_cell? _ _ hk
 have lk2 := World.block_lt_of_cell? _ _ hk2
 simp only at lk1 lk2
 have x1 : (W.alloc (.cells #[.int .i64 K, .int .i64 L, .int .i64 C] 174)).cell? ⟨kb, 0, none⟩ = some (.int .i64 k) := (World.cell?_of_block (a := ⟨kb, 0, none⟩) (heap_alloc_old _ _ lk1)).trans hk
 have x2 : (W.alloc (.cells #[.int .i64 K, .int .i64 L, .int .i64 C] 174)).cell? ⟨kb2, 0, none⟩ = some (.pointer (some ⟨b, 0, none⟩)) := (World.cell?_of_block (a := ⟨kb2, 0, none⟩) (heap_alloc_old _ _ lk2)).trans hk2
 obtain ⟨⟨e0, e1, e2⟩, -, -, -⟩ := hLa.lk.cells
 clear h hA hx hb hx5 hd5 hLa
 generalize gv vs t q 5 = u at *
 generalize (2 : Int) ^ (slotsF C).toNat - 1 = wv at *
 generalize cix t q 5 = x5 at *
 by_cases hK : K = 3
 ·subst hK
  by_cases hC : C = k
  ·subst hC
   go_enter Tryz.func198, Tryz.ntmps198
   go_wp2_with fail
   refine wp_region_noPanic ?_
   refine wp_region_held_drew (S := fun w' => (∀ o : Nat, w'.cell? ⟨W.heap.size, o, none⟩ = (#[.int .i64 3, .int .i64 L, .int .i64 C] : Array Value)[o]?) ∧ w'.cell? ⟨kb, 0, none⟩ = some (.int .i64 C) ∧ w'.cell? ⟨kb2, 0, none⟩ = some (.pointer (some ⟨b, 0, none⟩)) ∧ w'.cell? ⟨b, 0, none⟩ = some (.int .i64 t) ∧ w'.cell? ⟨b, 1, none⟩ = some (.int .i64 P) ∧ w'.cell? ⟨b, 2, none⟩ = some (.int .i64 s)) (by kernel_rfl) ?_ (fun hHeld => ?_)
   ·exact ⟨i4, x1, x2, e0, e1, e2⟩
   refine wT 0 ?_
   refine wT 1 ?_
   refine wT 2 ?_
   refine wT 3 ?_
   refine wT 4 ?_
   refine wT 5 ?_
   refine wT 6 ?_
   refine wT 7 ?_
   refine wT 8 ?_
   refine wT 9 ?_
   refine wT 10 ?_
   refine wT 11 ?_
   refine wT 12 ?_
   refine wT 13 ?_
   refine wT 14 ?_
   refine wT 15 ?_
   refine wT 18 ?_
   refine wR 16 fun K hK => ?_
   go_simp
   refine (H5.out _).mono ?_
   rintro e w1 ⟨rfl, d1⟩
   have S1 := SA.drew.below d1
   have L1 := Lib.hid ((HLa.out.keep (Below.refl _ _).drew).keep d1)
   have k1 := heldR d1 (SA.drew.ls W.heap.size (by simp)).1 hHeld
   refine hK.out _ _ ?_ (fun hHeld => ?_)
   ·exact k1
   clear hK K
   try simp only [Act.put, zA, zB, zC, zD, zE, zF]
   refine wR 17 fun K hK => ?_
   go_simp
   refine (G5.out _ L1.out.lk).mono ?_
   rintro e w2 ⟨rfl, d2⟩
   have S2 := S1.below d2
   have k2 := heldR d2 (S1.ls W.heap.size (by simp)).1 hHeld
   refine hK.out _ _ ?_ (fun hHeld => ?_)
   ·exact k2
   clear hK K
   try simp only [Act.put, zA, zB, zC, zD, zE, zF]
   refine wR 19 fun K hK => ?_
   go_simp
   refine (HWh.out _).mono ?_
   rintro e w3 ⟨rfl, d3⟩
   have S3 := S2.below d3
   have k3 := heldR d3 (S2.ls W.heap.size (by simp)).1 hHeld
   refine hK.out _ _ ?_ (fun hHeld => ?_)
   ·exact k3
   clear hK K
   try simp only [Act.put, zA, zB, zC, zD, zE, zF]
   refine wT 20 ?_
   refine wT 21 ?_
   refine wT 22 ?_
   refine wpAnyH_done (by kernel_rfl) (NoPanic.normal ?_) _
   go_wp2
   go_ret
   refine ⟨ret_bool ?_, S3.bel⟩
   simp [bne]
  ·have hCb : (C == k) = false := by simpa using hC
   go_enter Tryz.func198, Tryz.ntmps198
   go_wp2_with fail
   refine wp_region_noPanic ?_
   refine wp_region_held_drew (S := fun w' => (∀ o : Nat, w'.cell? ⟨W.heap.size, o, none⟩ = (#[.int .i64 3, .int .i64 L, .int .i64 C] : Array Value)[o]?) ∧ w'.cell? ⟨kb, 0, none⟩ = some (.int .i64 k)) (by kernel_rfl) ?_ (fun hHeld => ?_)
   ·exact ⟨i4, x1⟩
   refine wT 0 ?_
   refine wT 1 ?_
   refine wT 2 ?_
   refine wT 3 ?_
   refine wT 4 ?_
   refine wT 5 ?_
   refine wT 6 ?_
   refine wT 7 ?_
   refine wT 8 ?_
   refine wT 9 ?_
   refine wU 10 ?_
   refine wU 11 ?_
   refine wU 12 ?_
   refine wU 13 ?_
   refine wU 14 ?_
   refine wU 15 ?_
   refine wU 16 ?_
   refine wU 17 ?_
   refine wU 18 ?_
   refine wU 19 ?_
   refine wU 20 ?_
   refine wT 21 ?_
   refine wT 22 ?_
   refine wpAnyH_done (by kernel_rfl) (NoPanic.normal ?_) _
   go_wp2
   go_ret
   exact ⟨ret_bool (by simp [hCb]), SA.bel.drew⟩
 ·have hKb : (K == 3) = false := by simpa using hK
  go_enter Tryz.func198, Tryz.ntmps198
  go_wp2_with fail
  refine wp_region_noPanic ?_
  refine wp_region_held_drew (S := fun w' => (∀ o : Nat, w'.cell? ⟨W.heap.size, o, none⟩ = (#[.int .i64 K, .int .i64 L, .int .i64 C] : Array Value)[o]?)) (by kernel_rfl) ?_ (fun hHeld => ?_)
  ·exact i4
  refine wT 0 ?_
  refine wT 1 ?_
  refine wT 2 ?_
  refine wT 3 ?_
  refine wU 4 ?_
  refine wU 5 ?_
  refine wU 6 ?_
  refine wU 7 ?_
  refine wT 8 ?_
  refine wT 9 ?_
  refine wU 10 ?_
  refine wU 11 ?_
  refine wU 12 ?_
  refine wU 13 ?_
  refine wU 14 ?_
  refine wU 15 ?_
  refine wU 16 ?_
  refine wU 17 ?_
  refine wU 18 ?_
  refine wU 19 ?_
  refine wU 20 ?_
  refine wT 21 ?_
  refine wT 22 ?_
  refine wpAnyH_done (by kernel_rfl) (NoPanic.normal ?_) _
  go_wp2
  go_ret
  exact ⟨ret_bool (by simp [hKb]), SA.bel.drew⟩
set_option maxHeartbeats 2000000 in
set_option maxRecDepth 100000 in
theorem plistr_any (w0 W : World) (k : Int) (hd g P kb kb2 : Nat) (vis : List Nat) (al : List (Int × Int × Int)) (h : LS w0 b t p s ad n c vs (.slice (some ⟨g, 0, none⟩) P P) mb (mlOf vis) W) (hA : AtR w0 b mb g P al ad W) (hP : p = P)
 (hk : W.cell? ⟨kb, 0, none⟩ = some (.int .i64 k)) (hk2 : W.cell? ⟨kb2, 0, none⟩ = some (.pointer (some ⟨b, 0, none⟩))) (hd1 : hd < n) (hv : ad.block < w0.heap.size) (hnd : vis.Nodup) (hvis : ∀ y ∈ vis, y < P) :
 Calls Tryz.prog 195 #[.pointer (some ⟨b, 0, none⟩), .int .i64 hd, .func (.func 198) #[] #[.pointer (some ⟨kb2, 0, none⟩), .pointer (some ⟨kb, 0, none⟩)]] W fun e W' =>
  ∃ r, r = plL (rkB vs t al k) vs t P (P + 1 - vis.length) (vs.getD hd 0) 0 0 vis ∧ e = .returned (.tuple #[.int .i64 r.1, .bool r.2.1]) ∧ LS w0 b t p s ad n c vs (.slice (some ⟨g, 0, none⟩) P P) mb (mlOf r.2.2) W' ∧ AtR w0 b mb g P al ad W' ∧ (∀ k' : Nat, k' ≠ mb → k' < W.heap.size → W'.heap[k']? = W.heap[k']?) ∧ W.heap.size ≤ W'.heap.size := by
 subst hP
 obtain ⟨b1, b2, b3, b4, b5, b6, b7⟩ := h.lk.xv.bd
 have HG := Lib.hid (fun (w : World) (h : LK b t P s ad n c vs (.slice (some ⟨g, 0, none⟩) P P) mb w) => pget_any hd w h hd1)
 have hu := getD_u32 h.lk.xv.u32 hd
 have H0 := Lib.hid h
 have A0 := Lib.hid hA
 have HK := Lib.hid (And.intro hk hk2)
 have hvl := VS.length_le_of_nodup P vis hnd hvis
 have hkm : kb ≠ mb := by
  rintro rfl
  obtain ⟨es, clk, h1, -⟩ := h.map
  simp [World.cell?, h1] at hk
 have hkm2 : kb2 ≠ mb := by
  rintro rfl
  obtain ⟨es, clk, h1, -⟩ := h.map
  simp [World.cell?, h1] at hk2
 have hbm := h.ne
 generalize hres : plL (rkB vs t al k) vs t P (P + 1 - vis.length) (vs.getD hd 0) 0 0 vis = res
 have HRes := Lib.hid hres
 unfold VS.U32 at hu
 clear hres h hA hk hk2
 go_enter Tryz.func195, Tryz.ntmps195
 go_wp2_with fail
 refine (HG.out _ H0.out.lk).mono ?_
 rintro e w1 ⟨rfl, d1⟩
 generalize vs.getD hd 0 = q0 at *
 have hstart : PlRel w0 W b t P s ad n c vs mb g P kb kb2 k al (rkB vs t al k) res (.int .u32 0) (.int .i64 0) (.int .u32 q0) w1 := by
  refine ⟨q0, 0, 0, vis, rfl, rfl, rfl, by omega, by omega, by omega, by omega, by omega, hnd, hvis, HRes.out, H0.out.keep d1, A0.out.keep d1, (d1.cell (World.block_lt_of_cell? _ _ HK.out.1)).trans HK.out.1, (d1.cell (World.block_lt_of_cell? _ _ HK.out.2)).trans HK.out.2, fun k' _ hk' => d1.block k' hk', d1.size⟩
 clear d1 HRes
 go_wp2
 go_loopw [8, 9, 10] (fun va vn vq wr => PlRel w0 W b t P s ad n c vs mb g P kb kb2 k al (rkB vs t al k) res va vn vq wr) (fun _ vn _ _ => P + 1 - (intOf vn).toNat)
 case atStart => exact hstart
 case round =>
  clear hstart
  obtain ⟨q, ah, m, vi, rfl, rfl, rfl, z0, z1, z2, z3, hm, hnd2, hvis2, hpl, hL, hA, hk, hk2, hsame, hsz⟩ := hrel
  have hvl2 := VS.length_le_of_nodup P vi hnd2 hvis2
  obtain ⟨fu, hfu⟩ : ∃ fu, P + 1 - vi.length = fu + 1 := ⟨P - vi.length, by omega⟩
  rw [hfu] at hpl
  have HFu := Lib.hid hfu
  clear hfu
  unfold plL at hpl
  by_cases hq0 : q = 0
  ·rw [if_pos hq0] at hpl
   subst hq0
   have HP := Lib.hid hpl
   have HL := Lib.hid hL
   have HA := Lib.hid hA
   have HS := Lib.hid (And.intro hsame hsz)
   clear hpl hL hA hk hk2 hsame hsz
   go_wp2
   exact bodyPost_ret (v := .tuple #[.int .i64 m, .bool true]) (by simp [results, Tryz.results195, go_sem]) rfl ⟨res, rfl, by rw [← HP.out], by rw [← HP.out]; exact HL.out, HA.out, HS.out.1, HS.out.2⟩
  ·rw [if_neg hq0] at hpl
   obtain ⟨x, hqx⟩ : ∃ x : Nat, q - 1 = (x : Int) := ⟨(q - 1).toNat, by omega⟩
   rw [hqx, Int.toNat_natCast] at hpl
   have hqb : (q != 0) = true := by simpa using hq0
   obtain ⟨⟨c0, c1, c2⟩, c3, c4, c5⟩ := hL.lk.cells
   have hlkq := run_lookup_ok (P := Tryz.prog) hL.map uMap Tryz.underlying3 (zInt _) (x : Int) false
   simp only [Bool.false_eq_true, if_false] at hlkq
   rw [assoc_ml] at hlkq
   by_cases hPx : (P : Int) ≤ x
   ·rw [if_pos (Or.inl hPx)] at hpl
    have HP := Lib.hid hpl
    have HL := Lib.hid hL
    have HA := Lib.hid hA
    have HS := Lib.hid (And.intro hsame hsz)
    clear hpl hL hA hk hk2 hsame hsz hlkq
    go_wp2
    exact bodyPost_ret (v := .tuple #[.int .i64 0, .bool false]) (by simp [results, Tryz.results195, go_sem]) rfl ⟨res, rfl, by rw [← HP.out]; rfl, by rw [← HP.out]; exact HL.out, HA.out, HS.out.1, HS.out.2⟩
   ·have hPx2 : (x : Int) < P := by omega
    have hPxn : x < P := by omega
    by_cases hxv : x ∈ vi
    ·rw [if_pos (Or.inr (Or.inl hxv))] at hpl
     rw [if_pos hxv] at hlkq
     have HP := Lib.hid hpl
     have HL := Lib.hid hL
     have HA := Lib.hid hA
     have HS := Lib.hid (And.intro hsame hsz)
     clear hpl hL hA hk hk2 hsame hsz hPx
     go_wp2
     exact bodyPost_ret (v := .tuple #[.int .i64 0, .bool false]) (by simp [results, Tryz.results195, go_sem]) rfl ⟨res, rfl, by rw [← HP.out]; rfl, by rw [← HP.out]; exact HL.out, HA.out, HS.out.1, HS.out.2⟩
    ·rw [if_neg hxv] at hlkq
     have HB := Lib.hid (pracked1_any w0 wr (mlOf vi) g P x kb kb2 k al hL hA hPxn hk hk2)
     have HL := Lib.hid hL
     have HA := Lib.hid hA
     have HS := Lib.hid (And.intro hsame hsz)
     have HKK := Lib.hid (And.intro hk hk2)
     have HP := Lib.hid hpl
     clear hpl hL hA hk hk2 hsame hsz hPx
     generalize rkB vs t al k x = bx at *
     go_wp2_with fail
     refine (HB.out).mono ?_
     rintro e w2 ⟨rfl, d2⟩
     have hx3 := HL.out.lk.xv.cx (q := x) (part := 3) (by omega) (by omega) (by omega) (by omega)
     have hx2 := HL.out.lk.xv.cx (q := x) (part := 2) (by omega) (by omega) (by omega) (by omega)
     have H3 := Lib.hid (fun w => ppprev_any t P s x w)
     rw [hx3.2] at H3
     have H2 := Lib.hid (fun w => ppnext_any t P s x w)
     rw [hx2.2] at H2
     have G3 := Lib.hid (fun (w : World) (h : LK b t P s ad n c vs (.slice (some ⟨g, 0, none⟩) P P) mb w) => pget_any (cix t x 3) w h hx3.1)
     have G2 := Lib.hid (fun (w : World) (h : LK b t P s ad n c vs (.slice (some ⟨g, 0, none⟩) P P) mb w) => pget_any (cix t x 2) w h hx2.1)
     have hd3 : vs.getD (cix t x 3) 0 = gv vs t x 3 := rfl
     have hd2 : vs.getD (cix t x 2) 0 = gv vs t x 2 := rfl
     rw [hd3] at G3
     rw [hd2] at G2
     have hgu := HL.out.lk.xv.gu x 2
     have hL2 := HL.out.keep d2
     have HL2 := Lib.hid hL2
     obtain ⟨⟨c0, c1, c2⟩, c3, c4, c5⟩ := hL2.lk.cells
     clear hL2 hx3 hx2 hd3 hd2
     generalize gv vs t x 3 = pv at *
     generalize gv vs t x 2 = nv at *
     generalize cix t x 3 = x3 at *
     generalize cix t x 2 = x2 at *
     cases bx
     ·rw [if_pos (Or.inr (Or.inr (Or.inl rfl)))] at HP
      have DD := Lib.hid d2
      go_wp2
      exact bodyPost_ret (v := .tuple #[.int .i64 0, .bool false]) (by simp [results, Tryz.results195, go_sem]) rfl ⟨res, rfl, by rw [← HP.out]; rfl, by rw [← HP.out]; exact HL.out.keep DD.out, HA.out.keep DD.out, fun k' h1 h2 => (DD.out.block k' (Nat.lt_of_lt_of_le h2 HS.out.2)).trans (HS.out.1 k' h1 h2), Nat.le_trans HS.out.2 DD.out.size⟩
     ·go_wp2_with fail
      refine (H3.out _).mono ?_
      rintro e w3 ⟨rfl, d3⟩
      have HL3 := Lib.hid (HL2.out.keep d3)
      go_wp2_with fail
      refine (G3.out _ HL3.out.lk).mono ?_
      rintro e w4 ⟨rfl, d4⟩
      have HL4 := Lib.hid (HL3.out.keep d4)
      have DD := Lib.hid (d2.trans ((d3.trans (d4.mono d3.size)).mono d2.size))
      clear d2 d3 d4 c0 c1 c2 c3 c4 c5
      obtain ⟨⟨c0, c1, c2⟩, c3, c4, c5⟩ := HL4.out.lk.cells
      by_cases hpa : pv = ah
      ·subst hpa
       rw [if_neg (by simp [hxv, hPxn])] at HP
       obtain ⟨w5, hrun, hm5, hg5⟩ := run_update (P := Tryz.prog) HL4.out.map uMap Tryz.underlying3 (x : Int) 1
       rw [upsert_ml x vi hxv] at hm5
       have HL5 := Lib.hid (HL4.out.grownMap hv hg5 hm5)
       have HA5 := Lib.hid ((HA.out.keep DD.out).grownMap hg5)
       obtain ⟨⟨e0, e1, e2⟩, e3, e4, e5⟩ := HL5.out.lk.cells
       have hk5 := hg5.cell ((DD.out.cell (World.block_lt_of_cell? _ _ HKK.out.1)).trans HKK.out.1) (by simp; exact hkm)
       have hk52 := hg5.cell ((DD.out.cell (World.block_lt_of_cell? _ _ HKK.out.2)).trans HKK.out.2) (by simp; exact hkm2)
       have HKK5 := Lib.hid (And.intro hk5 hk52)
       have HS5 : Hid ((∀ k' : Nat, k' ≠ mb → k' < W.heap.size → w5.heap[k']? = W.heap[k']?) ∧ W.heap.size ≤ w5.heap.size) := Lib.hid ⟨fun k' h1 h2 => (hg5.block k' (Nat.lt_of_lt_of_le (Nat.lt_of_lt_of_le h2 HS.out.2) DD.out.size) (by simp; exact h1)).trans ((DD.out.block k' (Nat.lt_of_lt_of_le h2 HS.out.2)).trans (HS.out.1 k' h1 h2)), Nat.le_trans (Nat.le_trans HS.out.2 DD.out.size) hg5.size⟩
       have hnd5 : (vi ++ [x]).Nodup := by
        rw [List.nodup_append]
        exact ⟨hnd2, by simp, fun a ha c hc e => by simp at hc; subst hc; subst e; exact hxv ha⟩
       have hvis5 : ∀ y ∈ vi ++ [x], y < P := by
        intro y hy
        simp at hy
        rcases hy with hy | rfl
        ·exact hvis2 y hy
        ·exact hPxn
       have hvl5 := VS.length_le_of_nodup P _ hnd5 hvis5
       have HN5 := Lib.hid (And.intro hnd5 hvis5)
       clear hm5 hg5 hk5 hk52 hnd5 hvis5
       go_wp2_with fail
       refine (H2.out _).mono ?_
       rintro e w6 ⟨rfl, d6⟩
       have HL6 := Lib.hid (HL5.out.keep d6)
       go_wp2_with fail
       refine (G2.out _ HL6.out.lk).mono ?_
       rintro e w7 ⟨rfl, d7⟩
       have D7 := Lib.hid (d6.trans (d7.mono d6.size))
       clear d6 d7
       go_wp2
       go_roundw
       case rel =>
        refine ⟨nv, q, m + 1, vi ++ [x], rfl, rfl, by go_num, by omega, by omega, by omega, by omega, by simp; omega, HN5.out.1, HN5.out.2, ?_, HL5.out.keep D7.out, HA5.out.keep D7.out, (D7.out.cell (World.block_lt_of_cell? _ _ HKK5.out.1)).trans HKK5.out.1, (D7.out.cell (World.block_lt_of_cell? _ _ HKK5.out.2)).trans HKK5.out.2, fun k' h1 h2 => (D7.out.block k' (Nat.lt_of_lt_of_le h2 HS5.out.2)).trans (HS5.out.1 k' h1 h2), Nat.le_trans HS5.out.2 D7.out.size⟩
        rw [← HP.out]
        have := HFu.out
        congr 1
        simp
        omega
       case measure => simp [intOf] at hvl5 ⊢; omega
      ·rw [if_pos (Or.inr (Or.inr (Or.inr hpa)))] at HP
       have hpb : (pv != ah) = true := by simpa using hpa
       go_wp2
       exact bodyPost_ret (v := .tuple #[.int .i64 0, .bool false]) (by simp [results, Tryz.results195, go_sem]) rfl ⟨res, rfl, by rw [← HP.out]; rfl, by rw [← HP.out]; exact HL.out.keep DD.out, HA.out.keep DD.out, fun k' h1 h2 => (DD.out.block k' (Nat.lt_of_lt_of_le h2 HS.out.2)).trans (HS.out.1 k' h1 h2), Nat.le_trans HS.out.2 DD.out.size⟩
set_option maxHeartbeats 2000000 in
set_option maxRecDepth 100000 in
theorem pcountr_any (w0 W : World) (k : Int) (g P kb kb2 : Nat) (ml : List (Int × Int)) (al : List (Int × Int × Int)) (h : LS w0 b t P s ad n c vs (.slice (some ⟨g, 0, none⟩) P P) mb ml W) (hA : AtR w0 b mb g P al ad W) (hP : P ≤ 1024)
 (hk : W.cell? ⟨kb, 0, none⟩ = some (.int .i64 k)) (hk2 : W.cell? ⟨kb2, 0, none⟩ = some (.pointer (some ⟨b, 0, none⟩))) :
 Calls Tryz.prog 197 #[.pointer (some ⟨b, 0, none⟩), .func (.func 198) #[] #[.pointer (some ⟨kb2, 0, none⟩), .pointer (some ⟨kb, 0, none⟩)]] W fun e W' =>
  e = .returned (.int .i64 (cntN (rkB vs t al k) P)) ∧ Below W.heap.size W W' := by
 obtain ⟨-, -, c4, -⟩ := h.lk.cells
 have H0 := Lib.hid h
 have A0 := Lib.hid hA
 have HK := Lib.hid (And.intro hk hk2)
 clear h hA hk hk2
 go_enter Tryz.func197, Tryz.ntmps197
 go_wp2
 go_loopw [5, 12] (fun vn vi wr => CbRel (rkB vs t al k) P W vn vi wr) (fun _ vi _ => P - (intOf vi).toNat)
 case atStart => exact ⟨0, by omega, rfl, rfl, Below.refl _ _⟩
 case round =>
  clear c4
  obtain ⟨q, hq, rfl, rfl, hb⟩ := hrel
  have hcl := cntN_le (rkB vs t al k) q
  by_cases hlt : q < P
  ·have HB := Lib.hid (pracked1_any w0 wr ml g P q kb kb2 k al (H0.out.keep hb) (A0.out.keep hb) hlt ((hb.cell (World.block_lt_of_cell? _ _ HK.out.1)).trans HK.out.1) ((hb.cell (World.block_lt_of_cell? _ _ HK.out.2)).trans HK.out.2))
   have HX := Lib.hid hb
   have hs : cntN (rkB vs t al k) (q + 1) = cntN (rkB vs t al k) q + if rkB vs t al k q then 1 else 0 := rfl
   have HS := Lib.hid hs
   have hqP : (q : Int) < P := by omega
   clear hb hs
   generalize rkB vs t al k q = z at *
   generalize cntN (rkB vs t al k) q = m at *
   cases z
   ·go_wp2_with fail
    refine (HB.out).mono ?_
    rintro e w2 ⟨rfl, d2⟩
    go_wp2
    go_roundw
    case rel => exact ⟨q + 1, by omega, by go_num, by rw [HS.out]; simp, HX.out.trans (d2.mono HX.out.size)⟩
    case measure => simp [intOf]; omega
   ·go_wp2_with fail
    refine (HB.out).mono ?_
    rintro e w2 ⟨rfl, d2⟩
    go_wp2
    go_roundw
    case rel => exact ⟨q + 1, by omega, by go_num, by rw [HS.out]; simp, HX.out.trans (d2.mono HX.out.size)⟩
    case measure => simp [intOf]; omega
  ·have h1 : q = P := by omega
   rw [h1]
   go_wp2
   go_ret
   exact ⟨rfl, hb⟩
set_option maxHeartbeats 2000000 in
set_option maxRecDepth 100000 in
theorem pracked_any (w0 W : World) (k g P : Nat) (hk : k < 9) (vis : List Nat) (al : List (Int × Int × Int)) (h : LS w0 b t p s ad n c vs (.slice (some ⟨g, 0, none⟩) P P) mb (mlOf vis) W) (hA : AtR w0 b mb g P al ad W) (hP : p = P)
 (hv : ad.block < w0.heap.size) (hnd : vis.Nodup) (hvis : ∀ y ∈ vis, y < P) :
 Calls Tryz.prog 153 #[.pointer (some ⟨b, 0, none⟩), .int .i64 k] W (BnP w0 W b t p s ad n c vs mb g P al (rkB vs t al k) (plL (rkB vs t al k) vs t P (P + 1 - vis.length) (vs.getD (13 + k) 0) 0 0 vis)) := by
 subst hP
 obtain ⟨b1, b2, b3, b4, b5, b6, b7⟩ := h.lk.xv.bd
 have HB := Lib.hid (fun w => pprack_any k w hk)
 have hmW := (h.bs.ls mb (by simp)).1
 have hm1 : W.heap.size ≠ mb := by omega
 have hm2 : W.heap.size + 1 ≠ mb := by omega
 have S0 := ((BS.start W).alloc (.cells #[.pointer (some ⟨b, 0, none⟩)] 106)).alloc (.cells #[.int .i64 k] 3)
 simp only [World.size_alloc] at S0
 have x0 : ((W.alloc (.cells #[.pointer (some ⟨b, 0, none⟩)] 106)).alloc (.cells #[.int .i64 k] 3)).cell? ⟨W.heap.size, 0, none⟩ = some (.pointer (some ⟨b, 0, none⟩)) := loc_old (.cells #[.int .i64 k] 3) (by simp) (loc_alloc W #[.pointer (some ⟨b, 0, none⟩)] 106) 0
 have x1 : ((W.alloc (.cells #[.pointer (some ⟨b, 0, none⟩)] 106)).alloc (.cells #[.int .i64 k] 3)).cell? ⟨W.heap.size + 1, 0, none⟩ = some (.int .i64 k) := by
  simp
 have HL0 := Lib.hid (h.keep S0.bel)
 have HA0 := Lib.hid (hA.keep S0.bel)
 have HLi := Lib.hid (fun (w : World) (hw : LS w0 b t P s ad n c vs (.slice (some ⟨g, 0, none⟩) P P) mb (mlOf vis) w) (ha : AtR w0 b mb g P al ad w) (h1 : w.cell? ⟨W.heap.size + 1, 0, none⟩ = some (.int .i64 k)) (h2 : w.cell? ⟨W.heap.size, 0, none⟩ = some (.pointer (some ⟨b, 0, none⟩))) => plistr_any w0 w k (13 + k) g P (W.heap.size + 1) W.heap.size vis al hw ha rfl h1 h2 (by omega) hv hnd hvis)
 have HCo := Lib.hid (fun (ml : List (Int × Int)) (w : World) (hw : LS w0 b t P s ad n c vs (.slice (some ⟨g, 0, none⟩) P P) mb ml w) (ha : AtR w0 b mb g P al ad w) (h1 : w.cell? ⟨W.heap.size + 1, 0, none⟩ = some (.int .i64 k)) (h2 : w.cell? ⟨W.heap.size, 0, none⟩ = some (.pointer (some ⟨b, 0, none⟩))) => pcountr_any w0 w k g P (W.heap.size + 1) W.heap.size ml al hw ha (by omega) h1 h2)
 generalize plL (rkB vs t al k) vs t P (P + 1 - vis.length) (vs.getD (13 + k) 0) 0 0 vis = res at *
 obtain ⟨rn, rb, rv⟩ := res
 generalize 13 + k = k2 at *
 clear h hA hnd hvis
 go_enter Tryz.func153, Tryz.ntmps153
 go_wp2_with fail
 refine wp_region_noPanic ?_
 refine wp_region_held_drew (S := fun w' => w'.cell? ⟨W.heap.size, 0, none⟩ = some (.pointer (some ⟨b, 0, none⟩)) ∧ w'.cell? ⟨W.heap.size + 1, 0, none⟩ = some (.int .i64 k)) (by kernel_rfl) ?_ (fun hHeld => ?_)
 ·exact ⟨x0, x1⟩
 refine wT 0 ?_
 refine wT 1 ?_
 refine wT 3 ?_
 refine wR 2 fun K hK => ?_
 go_simp
 refine (HB.out _).mono ?_
 rintro e w1 ⟨rfl, d1⟩
 have L1 := Lib.hid ((HL0.out.keep (Below.refl _ _).drew).keep d1)
 have A1 := Lib.hid ((HA0.out.keep (Below.refl _ _).drew).keep d1)
 have y0 := (d1.cell (World.block_lt_of_cell? _ _ hHeld.1)).trans hHeld.1
 have y1 := (d1.cell (World.block_lt_of_cell? _ _ hHeld.2)).trans hHeld.2
 have S1 := S0.drew.below d1
 refine hK.out _ _ ?_ (fun hHeld => ?_)
 ·exact ⟨y0, y1⟩
 clear hK K
 try simp only [Act.put, zA, zB, zC, zD, zE, zF]
 refine wR 4 fun K hK => ?_
 go_simp
 refine (HLi.out _ L1.out A1.out y1 y0).mono ?_
 rintro e w2 ⟨r, rfl, rfl, hL2, hA2, hs2, hz2⟩
 have z0 : w2.cell? ⟨W.heap.size, 0, none⟩ = some (.pointer (some ⟨b, 0, none⟩)) := (World.cell?_of_block (a := ⟨W.heap.size, 0, none⟩) (hs2 _ hm1 (World.block_lt_of_cell? _ _ y0))).trans y0
 have z1 : w2.cell? ⟨W.heap.size + 1, 0, none⟩ = some (.int .i64 k) := (World.cell?_of_block (a := ⟨W.heap.size + 1, 0, none⟩) (hs2 _ hm2 (World.block_lt_of_cell? _ _ y1))).trans y1
 refine hK.out _ _ ?_ (fun hHeld => ?_)
 ·exact ⟨z0, z1⟩
 clear hK K
 try simp only [Act.put, zA, zB, zC, zD, zE, zF]
 refine wT 5 ?_
 refine wT 6 ?_
 refine wT 7 ?_
 refine wT 8 ?_
 refine wT 9 ?_
 refine wpAnyH_done (by kernel_rfl) (NoPanic.normal ?_) _
 have hsAll : ∀ k' : Nat, k' ≠ mb → k' < W.heap.size → w2.heap[k']? = W.heap[k']? := fun k' h1 h2 => (hs2 k' h1 (Nat.lt_of_lt_of_le h2 S1.bel.size)).trans (S1.bel.block k' h2)
 have hzAll : W.heap.size ≤ w2.heap.size := Nat.le_trans S1.bel.size hz2
 have HS := Lib.hid (And.intro hsAll hzAll)
 have HL2 := Lib.hid hL2
 have HA2 := Lib.hid hA2
 clear hs2 hz2 hsAll hzAll hL2 hA2 L1 A1 y0 y1 S1 S0 x0 x1 hHeld d1
 cases rb
 ·go_wp2
  go_ret
  exact ⟨rfl, HL2.out, HA2.out, HS.out.1, HS.out.2⟩
 ·go_wp2_with fail
  refine (HCo.out _ _ HL2.out HA2.out z1 z0).mono ?_
  rintro e w3 ⟨rfl, d3⟩
  go_wp2
  go_ret
  refine ⟨ret_bool ?_, HL2.out.keep d3, HA2.out.keep d3, fun k' h1 h2 => (d3.block k' (Nat.lt_of_lt_of_le h2 HS.out.2)).trans (HS.out.1 k' h1 h2), Nat.le_trans HS.out.2 d3.size⟩
  simp only [Bool.true_and]
  rw [Bool.eq_iff_iff]
  simp
  try omega
end
end Go.Proofs.YtcbikgafdclhaaaGreat
/- the program's audit: all. -/
set_option linter.unusedSimpArgs false
set_option linter.unusedVariables false
namespace Go.Proofs.YtcbikgafdclhaaaGreat
open Go.RowKit

def AlRelBn (fb : Nat → Bool) (I : Nat → World → Prop) (N : Nat) (vi : Value) (wr : World) : Prop := ∃ k : Nat, k ≤ N ∧ vi = .int .i64 k ∧ allN fb k = true ∧ I k wr
set_option maxRecDepth 100000 in
theorem pallBn (N : Nat) (hN : N ≤ 1024) (v : Value) (fb : Nat → Bool) (I : Nat → World → Prop) (W : World) (h0 : I 0 W)
 (hc : ∀ (k : Nat) w, k < N → allN fb k = true → I k w → Calls Tryz.prog 152 #[v, .int .i64 k] w fun e w' => e = .returned (.bool (fb k)) ∧ I (k + 1) w') :
 Calls Tryz.prog 151 #[.int .i64 N, .func (.func 152) #[v] #[]] W fun e W' => e = .returned (.bool (allN fb N)) ∧ ∃ k, k ≤ N + 1 ∧ (allN fb N = true → k = N) ∧ I k W' := by
 have HC := Lib.hid hc
 clear hc
 go_enter Tryz.func151, Tryz.ntmps151
 go_wp2
 go_loopw [7] (fun vi wr => AlRelBn fb I N vi wr) (fun vi _ => N - (intOf vi).toNat)
 case atStart => exact ⟨0, by omega, rfl, rfl, h0⟩
 case round =>
  clear h0
  obtain ⟨k, hk, rfl, hall, hI⟩ := hrel
  by_cases hlt : k < N
  ·have hkN : (k : Int) < N := by omega
   have HK := Lib.hid (HC.out k wr hlt hall hI)
   have hs : allN fb (k + 1) = (allN fb k && fb k) := rfl
   rw [hall] at hs
   have HS := Lib.hid hs
   have HNo := Lib.hid (fun (h : fb k = false) => allN_no hlt h)
   clear hs hall hI
   generalize hz : fb k = z at *
   clear hz
   go_wp2_with fail
   refine (HK.out).mono ?_
   rintro e w2 ⟨rfl, hI2⟩
   have HI2 := Lib.hid hI2
   clear hI2
   cases z
   ·go_wp2
    go_ret
    refine ⟨ret_bool (HNo.out (by simp)).symm, k + 1, by omega, fun h => ?_, HI2.out⟩
    rw [HNo.out (by simp)] at h
    simp at h
   ·go_wp2
    go_roundw
    case rel => exact ⟨k + 1, by omega, by go_num, by rw [HS.out]; rfl, HI2.out⟩
    case measure => simp [intOf]; omega
  ·have h1 : k = N := by omega
   rw [h1] at hall hI
   have HA := Lib.hid hall
   have HI := Lib.hid hI
   clear hall hI h1
   go_wp2
   go_ret
   exact ⟨ret_bool HA.out.symm, N, by omega, fun _ => rfl, HI.out⟩
def AlRelRk (fb : Nat → Bool) (I : Nat → World → Prop) (N : Nat) (vi : Value) (wr : World) : Prop := ∃ k : Nat, k ≤ N ∧ vi = .int .i64 k ∧ allN fb k = true ∧ I k wr
set_option maxRecDepth 100000 in
theorem pallRk (N : Nat) (hN : N ≤ 1024) (v : Value) (fb : Nat → Bool) (I : Nat → World → Prop) (W : World) (h0 : I 0 W)
 (hc : ∀ (k : Nat) w, k < N → allN fb k = true → I k w → Calls Tryz.prog 153 #[v, .int .i64 k] w fun e w' => e = .returned (.bool (fb k)) ∧ I (k + 1) w') :
 Calls Tryz.prog 151 #[.int .i64 N, .func (.func 153) #[v] #[]] W fun e W' => e = .returned (.bool (allN fb N)) ∧ ∃ k, k ≤ N + 1 ∧ (allN fb N = true → k = N) ∧ I k W' := by
 have HC := Lib.hid hc
 clear hc
 go_enter Tryz.func151, Tryz.ntmps151
 go_wp2
 go_loopw [7] (fun vi wr => AlRelRk fb I N vi wr) (fun vi _ => N - (intOf vi).toNat)
 case atStart => exact ⟨0, by omega, rfl, rfl, h0⟩
 case round =>
  clear h0
  obtain ⟨k, hk, rfl, hall, hI⟩ := hrel
  by_cases hlt : k < N
  ·have hkN : (k : Int) < N := by omega
   have HK := Lib.hid (HC.out k wr hlt hall hI)
   have hs : allN fb (k + 1) = (allN fb k && fb k) := rfl
   rw [hall] at hs
   have HS := Lib.hid hs
   have HNo := Lib.hid (fun (h : fb k = false) => allN_no hlt h)
   clear hs hall hI
   generalize hz : fb k = z at *
   clear hz
   go_wp2_with fail
   refine (HK.out).mono ?_
   rintro e w2 ⟨rfl, hI2⟩
   have HI2 := Lib.hid hI2
   clear hI2
   cases z
   ·go_wp2
    go_ret
    refine ⟨ret_bool (HNo.out (by simp)).symm, k + 1, by omega, fun h => ?_, HI2.out⟩
    rw [HNo.out (by simp)] at h
    simp at h
   ·go_wp2
    go_roundw
    case rel => exact ⟨k + 1, by omega, by go_num, by rw [HS.out]; rfl, HI2.out⟩
    case measure => simp [intOf]; omega
  ·have h1 : k = N := by omega
   rw [h1] at hall hI
   have HA := Lib.hid hall
   have HI := Lib.hid hI
   clear hall hI h1
   go_wp2
   go_ret
   exact ⟨ret_bool HA.out.symm, N, by omega, fun _ => rfl, HI.out⟩
def AlRelLs (fb : Nat → Bool) (I : Nat → World → Prop) (N : Nat) (vi : Value) (wr : World) : Prop := ∃ k : Nat, k ≤ N ∧ vi = .int .i64 k ∧ allN fb k = true ∧ I k wr
set_option maxRecDepth 100000 in
theorem pallLs (N : Nat) (hN : N ≤ 1024) (v : Value) (fb : Nat → Bool) (I : Nat → World → Prop) (W : World) (h0 : I 0 W)
 (hc : ∀ (k : Nat) w, k < N → allN fb k = true → I k w → Calls Tryz.prog 154 #[.int .i64 k, v] w fun e w' => e = .returned (.bool (fb k)) ∧ I (k + 1) w') :
 Calls Tryz.prog 151 #[.int .i64 N, .func (.func 154) #[] #[v]] W fun e W' => e = .returned (.bool (allN fb N)) ∧ ∃ k, k ≤ N + 1 ∧ (allN fb N = true → k = N) ∧ I k W' := by
 have HC := Lib.hid hc
 clear hc
 go_enter Tryz.func151, Tryz.ntmps151
 go_wp2
 go_loopw [7] (fun vi wr => AlRelLs fb I N vi wr) (fun vi _ => N - (intOf vi).toNat)
 case atStart => exact ⟨0, by omega, rfl, rfl, h0⟩
 case round =>
  clear h0
  obtain ⟨k, hk, rfl, hall, hI⟩ := hrel
  by_cases hlt : k < N
  ·have hkN : (k : Int) < N := by omega
   have HK := Lib.hid (HC.out k wr hlt hall hI)
   have hs : allN fb (k + 1) = (allN fb k && fb k) := rfl
   rw [hall] at hs
   have HS := Lib.hid hs
   have HNo := Lib.hid (fun (h : fb k = false) => allN_no hlt h)
   clear hs hall hI
   generalize hz : fb k = z at *
   clear hz
   go_wp2_with fail
   refine (HK.out).mono ?_
   rintro e w2 ⟨rfl, hI2⟩
   have HI2 := Lib.hid hI2
   clear hI2
   cases z
   ·go_wp2
    go_ret
    refine ⟨ret_bool (HNo.out (by simp)).symm, k + 1, by omega, fun h => ?_, HI2.out⟩
    rw [HNo.out (by simp)] at h
    simp at h
   ·go_wp2
    go_roundw
    case rel => exact ⟨k + 1, by omega, by go_num, by rw [HS.out]; rfl, HI2.out⟩
    case measure => simp [intOf]; omega
  ·have h1 : k = N := by omega
   rw [h1] at hall hI
   have HA := Lib.hid hall
   have HI := Lib.hid hI
   clear hall hI h1
   go_wp2
   go_ret
   exact ⟨ret_bool HA.out.symm, N, by omega, fun _ => rfl, HI.out⟩
def AlRelRt (fb : Nat → Bool) (I : Nat → World → Prop) (N : Nat) (vi : Value) (wr : World) : Prop := ∃ k : Nat, k ≤ N ∧ vi = .int .i64 k ∧ allN fb k = true ∧ I k wr
set_option maxRecDepth 100000 in
theorem pallRt (N : Nat) (hN : N ≤ 1024) (v1 v2 : Value) (fb : Nat → Bool) (I : Nat → World → Prop) (W : World) (h0 : I 0 W)
 (hc : ∀ (k : Nat) w, k < N → allN fb k = true → I k w → Calls Tryz.prog 158 #[.int .i64 k, v1, v2] w fun e w' => e = .returned (.bool (fb k)) ∧ I (k + 1) w') :
 Calls Tryz.prog 151 #[.int .i64 N, .func (.func 158) #[] #[v1, v2]] W fun e W' => e = .returned (.bool (allN fb N)) ∧ ∃ k, k ≤ N + 1 ∧ (allN fb N = true → k = N) ∧ I k W' := by
 have HC := Lib.hid hc
 clear hc
 go_enter Tryz.func151, Tryz.ntmps151
 go_wp2
 go_loopw [7] (fun vi wr => AlRelRt fb I N vi wr) (fun vi _ => N - (intOf vi).toNat)
 case atStart => exact ⟨0, by omega, rfl, rfl, h0⟩
 case round =>
  clear h0
  obtain ⟨k, hk, rfl, hall, hI⟩ := hrel
  by_cases hlt : k < N
  ·have hkN : (k : Int) < N := by omega
   have HK := Lib.hid (HC.out k wr hlt hall hI)
   have hs : allN fb (k + 1) = (allN fb k && fb k) := rfl
   rw [hall] at hs
   have HS := Lib.hid hs
   have HNo := Lib.hid (fun (h : fb k = false) => allN_no hlt h)
   clear hs hall hI
   generalize hz : fb k = z at *
   clear hz
   go_wp2_with fail
   refine (HK.out).mono ?_
   rintro e w2 ⟨rfl, hI2⟩
   have HI2 := Lib.hid hI2
   clear hI2
   cases z
   ·go_wp2
    go_ret
    refine ⟨ret_bool (HNo.out (by simp)).symm, k + 1, by omega, fun h => ?_, HI2.out⟩
    rw [HNo.out (by simp)] at h
    simp at h
   ·go_wp2
    go_roundw
    case rel => exact ⟨k + 1, by omega, by go_num, by rw [HS.out]; rfl, HI2.out⟩
    case measure => simp [intOf]; omega
  ·have h1 : k = N := by omega
   rw [h1] at hall hI
   have HA := Lib.hid hall
   have HI := Lib.hid hI
   clear hall hI h1
   go_wp2
   go_ret
   exact ⟨ret_bool HA.out.symm, N, by omega, fun _ => rfl, HI.out⟩
end Go.Proofs.YtcbikgafdclhaaaGreat
/- the program's audit: bins and racks. -/
set_option linter.unusedSimpArgs false
set_option linter.unusedVariables false
namespace Go.Proofs.YtcbikgafdclhaaaGreat
open Go.RowKit
section
variable {b : Nat} {t p s : Int} {ad : Addr} {n c : Nat} {vs : List Int} {mb : Nat}
/-- one list's way, from the pages that were met before. -/
def wayN (hd : Nat) (f : Nat → Nat → Bool) (vs : List Int) (t : Int) (P : Nat) (vis : List Nat) (k : Nat) : Nat × Bool × List Nat := plL (f k) vs t P (P + 1 - vis.length) (vs.getD (hd + k) 0) 0 0 vis
def visN (hd : Nat) (f : Nat → Nat → Bool) (vs : List Int) (t : Int) (P : Nat) (vis : List Nat) : Nat → List Nat
 | 0 => vis
 | k + 1 => (wayN hd f vs t P (visN hd f vs t P vis k) k).2.2
def fitN (hd : Nat) (f : Nat → Nat → Bool) (vs : List Int) (t : Int) (P : Nat) (vis : List Nat) (k : Nat) : Bool := (wayN hd f vs t P (visN hd f vs t P vis k) k).2.1 && (wayN hd f vs t P (visN hd f vs t P vis k) k).1 == cntN (f k) P
theorem visN_nd {hd : Nat} {f : Nat → Nat → Bool} {vs : List Int} {t : Int} {P : Nat} {vis : List Nat} (h1 : vis.Nodup) (h2 : ∀ y ∈ vis, y < P) (h3 : ∀ k, 0 ≤ vs.getD k 0) : ∀ k, (visN hd f vs t P vis k).Nodup ∧ ∀ y ∈ visN hd f vs t P vis k, y < P
 | 0 => ⟨h1, h2⟩
 | k + 1 => by
  have ih := visN_nd (hd := hd) (f := f) (t := t) h1 h2 h3 k
  exact plL_nd _ _ _ _ _ ih.1 ih.2 (h3 _) (fun q part => h3 _)
set_option maxRecDepth 100000 in
theorem pbins_any (w0 W : World) (g P : Nat) (vis : List Nat) (al : List (Int × Int × Int)) (h : LS w0 b t P s ad n c vs (.slice (some ⟨g, 0, none⟩) P P) mb (mlOf vis) W) (hA : AtR w0 b mb g P al ad W) (hlen : ∀ x ∈ al, x.1 = 1 → 1 ≤ x.2.1 ∧ x.2.1 ≤ 1024) (hv : ad.block < w0.heap.size) (hnd : vis.Nodup) (hvis : ∀ y ∈ vis, y < P) :
 Calls Tryz.prog 107 #[.pointer (some ⟨b, 0, none⟩)] W fun e W' => e = .returned (.bool (allN (fitN 2 (fun k => bnB al (k : Int)) vs t P vis) 11)) ∧
  ∃ k, k ≤ 12 ∧ (allN (fitN 2 (fun k => bnB al (k : Int)) vs t P vis) 11 = true → k = 11) ∧ LS w0 b t P s ad n c vs (.slice (some ⟨g, 0, none⟩) P P) mb (mlOf (visN 2 (fun k => bnB al (k : Int)) vs t P vis k)) W' ∧ AtR w0 b mb g P al ad W' ∧ (∀ k' : Nat, k' ≠ mb → k' < W.heap.size → W'.heap[k']? = W.heap[k']?) ∧ W.heap.size ≤ W'.heap.size := by
 have hu : ∀ k, 0 ≤ vs.getD k 0 := fun k => (getD_u32 h.lk.xv.u32 k).1
 have hN := fun k => visN_nd (hd := 2) (f := fun k => bnB al (k : Int)) (vs := vs) (t := t) (P := P) hnd hvis hu k
 have H := pallBn 11 (by omega) (.pointer (some ⟨b, 0, none⟩)) (fitN 2 (fun k => bnB al (k : Int)) vs t P vis)
  (fun k w => LS w0 b t P s ad n c vs (.slice (some ⟨g, 0, none⟩) P P) mb (mlOf (visN 2 (fun k => bnB al (k : Int)) vs t P vis k)) w ∧ AtR w0 b mb g P al ad w ∧ (∀ k' : Nat, k' ≠ mb → k' < W.heap.size → w.heap[k']? = W.heap[k']?) ∧ W.heap.size ≤ w.heap.size)
  W ⟨h, hA, fun _ _ _ => rfl, Nat.le_refl _⟩ (fun k w hk _ hI => by
   obtain ⟨i1, i2, i3, i4⟩ := hI
   refine (pbinned_any w0 w k g P hk (visN 2 (fun k => bnB al (k : Int)) vs t P vis k) al i1 i2 rfl hlen hv (hN k).1 (hN k).2).mono ?_
   rintro e w' ⟨e1, e2, e3, e4, e5⟩
   exact ⟨e1, e2, e3, fun k' a1 a2 => (e4 k' a1 (Nat.lt_of_lt_of_le a2 i4)).trans (i3 k' a1 a2), Nat.le_trans i4 e5⟩)
 have HH := Lib.hid H
 clear H hN hu
 go_enter Tryz.func107, Tryz.ntmps107
 go_wp2_with fail
 refine HH.out.mono ?_
 rintro e w1 ⟨rfl, hx⟩
 have HX := Lib.hid hx
 clear hx
 go_wp2
 go_ret
 exact ⟨rfl, HX.out⟩
set_option maxRecDepth 100000 in
theorem pracks_any (w0 W : World) (g P : Nat) (vis : List Nat) (al : List (Int × Int × Int)) (h : LS w0 b t P s ad n c vs (.slice (some ⟨g, 0, none⟩) P P) mb (mlOf vis) W) (hA : AtR w0 b mb g P al ad W) (hv : ad.block < w0.heap.size) (hnd : vis.Nodup) (hvis : ∀ y ∈ vis, y < P) :
 Calls Tryz.prog 108 #[.pointer (some ⟨b, 0, none⟩)] W fun e W' => e = .returned (.bool (allN (fitN 13 (fun k => rkB vs t al (k : Int)) vs t P vis) 9)) ∧
  ∃ k, k ≤ 10 ∧ (allN (fitN 13 (fun k => rkB vs t al (k : Int)) vs t P vis) 9 = true → k = 9) ∧ LS w0 b t P s ad n c vs (.slice (some ⟨g, 0, none⟩) P P) mb (mlOf (visN 13 (fun k => rkB vs t al (k : Int)) vs t P vis k)) W' ∧ AtR w0 b mb g P al ad W' ∧ (∀ k' : Nat, k' ≠ mb → k' < W.heap.size → W'.heap[k']? = W.heap[k']?) ∧ W.heap.size ≤ W'.heap.size := by
 have hu : ∀ k, 0 ≤ vs.getD k 0 := fun k => (getD_u32 h.lk.xv.u32 k).1
 have hN := fun k => visN_nd (hd := 13) (f := fun k => rkB vs t al (k : Int)) (vs := vs) (t := t) (P := P) hnd hvis hu k
 have H := pallRk 9 (by omega) (.pointer (some ⟨b, 0, none⟩)) (fitN 13 (fun k => rkB vs t al (k : Int)) vs t P vis)
  (fun k w => LS w0 b t P s ad n c vs (.slice (some ⟨g, 0, none⟩) P P) mb (mlOf (visN 13 (fun k => rkB vs t al (k : Int)) vs t P vis k)) w ∧ AtR w0 b mb g P al ad w ∧ (∀ k' : Nat, k' ≠ mb → k' < W.heap.size → w.heap[k']? = W.heap[k']?) ∧ W.heap.size ≤ w.heap.size)
  W ⟨h, hA, fun _ _ _ => rfl, Nat.le_refl _⟩ (fun k w hk _ hI => by
   obtain ⟨i1, i2, i3, i4⟩ := hI
   refine (pracked_any w0 w k g P hk (visN 13 (fun k => rkB vs t al (k : Int)) vs t P vis k) al i1 i2 rfl hv (hN k).1 (hN k).2).mono ?_
   rintro e w' ⟨e1, e2, e3, e4, e5⟩
   exact ⟨e1, e2, e3, fun k' a1 a2 => (e4 k' a1 (Nat.lt_of_lt_of_le a2 i4)).trans (i3 k' a1 a2), Nat.le_trans i4 e5⟩)
 have HH := Lib.hid H
 clear H hN hu
 go_enter Tryz.func108, Tryz.ntmps108
 go_wp2_with fail
 refine HH.out.mono ?_
 rintro e w1 ⟨rfl, hx⟩
 have HX := Lib.hid hx
 clear hx
 go_wp2
 go_ret
 exact ⟨rfl, HX.out⟩
end
end Go.Proofs.YtcbikgafdclhaaaGreat
/- the program's audit: loose. -/
set_option linter.unusedSimpArgs false
set_option linter.unusedVariables false
namespace Go.Proofs.YtcbikgafdclhaaaGreat
open Go.RowKit
theorem heldL {w w' : World} {a0 a1 a2 a3 a5 : Addr} {u0 u1 u2 u3 u5 : Value} (hb : Below w.heap.size w w') (h : w.cell? a0 = some u0 ∧ w.cell? a1 = some u1 ∧ w.cell? a2 = some u2 ∧ w.cell? a3 = some u3 ∧ w.cell? a5 = some u5) :
 w'.cell? a0 = some u0 ∧ w'.cell? a1 = some u1 ∧ w'.cell? a2 = some u2 ∧ w'.cell? a3 = some u3 ∧ w'.cell? a5 = some u5 := by
 have cc : ∀ {a : Addr} {v : Value}, w.cell? a = some v → w'.cell? a = some v := fun hc => (hb.cell (World.block_lt_of_cell? _ _ hc)).trans hc
 exact ⟨cc h.1, cc h.2.1, cc h.2.2.1, cc h.2.2.2.1, cc h.2.2.2.2⟩
section
variable {b : Nat} {t p s : Int} {ad : Addr} {n c : Nat} {vs : List Int} {mb : Nat}
def lsB (vs : List Int) (t : Int) (vis : List Nat) (q : Nat) : Bool := decide (q ∈ vis) || (gv vs t q 2 == 0 && gv vs t q 3 == 0)
set_option maxHeartbeats 2000000 in
set_option maxRecDepth 100000 in
theorem ploose1_any (w0 W : World) (g P q kb : Nat) (vis : List Nat) (h : LS w0 b t P s ad n c vs (.slice (some ⟨g, 0, none⟩) P P) mb (mlOf vis) W) (hq : q < P) (hk : W.cell? ⟨kb, 0, none⟩ = some (.pointer (some ⟨b, 0, none⟩))) :
 Calls Tryz.prog 154 #[.int .i64 q, .pointer (some ⟨kb, 0, none⟩)] W fun e W' => e = .returned (.bool (lsB vs t vis q)) ∧ Below W.heap.size W W' := by
 obtain ⟨⟨c0, c1, c2⟩, -, -, c5⟩ := h.lk.cells
 have hx3 := h.lk.xv.cx (q := q) (part := 3) (by omega) (by omega) (by omega) (by omega)
 have hx2 := h.lk.xv.cx (q := q) (part := 2) (by omega) (by omega) (by omega) (by omega)
 have H3 := Lib.hid (fun w => ppprev_any t P s q w)
 rw [hx3.2] at H3
 have H2 := Lib.hid (fun w => ppnext_any t P s q w)
 rw [hx2.2] at H2
 have G3 := Lib.hid (fun (w : World) (h : LK b t P s ad n c vs (.slice (some ⟨g, 0, none⟩) P P) mb w) => pget_any (cix t q 3) w h hx3.1)
 have G2 := Lib.hid (fun (w : World) (h : LK b t P s ad n c vs (.slice (some ⟨g, 0, none⟩) P P) mb w) => pget_any (cix t q 2) w h hx2.1)
 have hd3 : vs.getD (cix t q 3) 0 = gv vs t q 3 := rfl
 have hd2 : vs.getD (cix t q 2) 0 = gv vs t q 2 := rfl
 rw [hd3] at G3
 rw [hd2] at G2
 have hD := h.keep (Below.refl _ _).drew
 have hlkq := run_lookup_ok (P := Tryz.prog) hD.map uMap Tryz.underlying3 (zInt _) (q : Int) false
 simp only [Bool.false_eq_true, if_false] at hlkq
 rw [assoc_ml] at hlkq
 have HD := Lib.hid hD
 unfold lsB
 clear h hx3 hx2 hd3 hd2 hD
 generalize gv vs t q 3 = pv at *
 generalize gv vs t q 2 = nv at *
 generalize cix t q 3 = x3 at *
 generalize cix t q 2 = x2 at *
 by_cases hm : q ∈ vis
 ·rw [if_pos hm] at hlkq
  have hmd : decide (q ∈ vis) = true := by simpa using hm
  rw [hmd]
  clear hm hmd
  go_enter Tryz.func154, Tryz.ntmps154
  go_wp2_with fail
  refine wp_region_noPanic ?_
  refine wp_region_held_drew (S := fun w' => w'.cell? ⟨kb, 0, none⟩ = some (.pointer (some ⟨b, 0, none⟩)) ∧ w'.cell? ⟨b, 0, none⟩ = some (.int .i64 t) ∧ w'.cell? ⟨b, 1, none⟩ = some (.int .i64 P) ∧ w'.cell? ⟨b, 2, none⟩ = some (.int .i64 s) ∧ w'.cell? ⟨b, 5, none⟩ = some (.map (some mb))) (by kernel_rfl) ?_ (fun hHeld => ?_)
  ·exact ⟨hk, c0, c1, c2, c5⟩
  refine wT 0 ?_
  refine wT 1 ?_
  refine wT 2 ?_
  refine wT 3 ?_
  refine wT 4 ?_
  refine wR 5 fun K hK => ?_
  go_simp
  refine hK.out _ _ ?_ (fun hHeld => ?_)
  ·exact hHeld
  clear hK K
  try simp only [Act.put, zA, zB, zC, zD, zE, zF]
  refine wT 6 ?_
  refine wT 7 ?_
  refine wU 8 ?_
  refine wU 9 ?_
  refine wU 10 ?_
  refine wU 11 ?_
  refine wU 12 ?_
  refine wU 13 ?_
  refine wU 14 ?_
  refine wU 15 ?_
  refine wU 16 ?_
  refine wU 17 ?_
  refine wU 18 ?_
  refine wU 19 ?_
  refine wU 20 ?_
  refine wU 21 ?_
  refine wU 22 ?_
  refine wU 23 ?_
  refine wU 24 ?_
  refine wU 25 ?_
  refine wU 26 ?_
  refine wU 27 ?_
  refine wT 28 ?_
  refine wT 29 ?_
  refine wpAnyH_done (by kernel_rfl) (NoPanic.normal ?_) _
  go_wp2
  go_ret
  exact ⟨ret_bool (by simp), (Below.refl _ _).drew⟩
 ·rw [if_neg hm] at hlkq
  have hmd : decide (q ∈ vis) = false := by simpa using hm
  rw [hmd]
  clear hm hmd
  by_cases hnv : nv = 0
  ·subst hnv
   go_enter Tryz.func154, Tryz.ntmps154
   go_wp2_with fail
   refine wp_region_noPanic ?_
   refine wp_region_held_drew (S := fun w' => w'.cell? ⟨kb, 0, none⟩ = some (.pointer (some ⟨b, 0, none⟩)) ∧ w'.cell? ⟨b, 0, none⟩ = some (.int .i64 t) ∧ w'.cell? ⟨b, 1, none⟩ = some (.int .i64 P) ∧ w'.cell? ⟨b, 2, none⟩ = some (.int .i64 s) ∧ w'.cell? ⟨b, 5, none⟩ = some (.map (some mb))) (by kernel_rfl) ?_ (fun hHeld => ?_)
   ·exact ⟨hk, c0, c1, c2, c5⟩
   refine wT 0 ?_
   refine wT 1 ?_
   refine wT 2 ?_
   refine wT 3 ?_
   refine wT 4 ?_
   refine wR 5 fun K hK => ?_
   go_simp
   refine hK.out _ _ ?_ (fun hHeld => ?_)
   ·exact hHeld
   clear hK K
   try simp only [Act.put, zA, zB, zC, zD, zE, zF]
   refine wT 6 ?_
   refine wT 7 ?_
   refine wT 8 ?_
   refine wT 9 ?_
   refine wT 10 ?_
   refine wT 11 ?_
   refine wT 12 ?_
   refine wT 13 ?_
   refine wR 14 fun K hK => ?_
   go_simp
   refine (H2.out _).mono ?_
   rintro e w1 ⟨rfl, d1⟩
   have L1 := Lib.hid (HD.out.keep d1)
   have k1 := heldL d1 hHeld
   refine hK.out _ _ ?_ (fun hHeld => ?_)
   ·exact k1
   clear hK K
   try simp only [Act.put, zA, zB, zC, zD, zE, zF]
   refine wR 15 fun K hK => ?_
   go_simp
   refine (G2.out _ L1.out.lk).mono ?_
   rintro e w2 ⟨rfl, d2⟩
   have L2 := Lib.hid (L1.out.keep d2)
   have k2 := heldL d2 hHeld
   refine hK.out _ _ ?_ (fun hHeld => ?_)
   ·exact k2
   clear hK K
   try simp only [Act.put, zA, zB, zC, zD, zE, zF]
   refine wT 16 ?_
   refine wT 17 ?_
   refine wT 18 ?_
   refine wT 19 ?_
   refine wT 20 ?_
   refine wT 21 ?_
   refine wT 22 ?_
   refine wT 23 ?_
   refine wR 24 fun K hK => ?_
   go_simp
   refine (H3.out _).mono ?_
   rintro e w3 ⟨rfl, d3⟩
   have L3 := Lib.hid (L2.out.keep d3)
   have k3 := heldL d3 hHeld
   refine hK.out _ _ ?_ (fun hHeld => ?_)
   ·exact k3
   clear hK K
   try simp only [Act.put, zA, zB, zC, zD, zE, zF]
   refine wR 25 fun K hK => ?_
   go_simp
   refine (G3.out _ L3.out.lk).mono ?_
   rintro e w4 ⟨rfl, d4⟩
   have k4 := heldL d4 hHeld
   refine hK.out _ _ ?_ (fun hHeld => ?_)
   ·exact k4
   clear hK K
   try simp only [Act.put, zA, zB, zC, zD, zE, zF]
   refine wT 26 ?_
   refine wT 27 ?_
   refine wT 28 ?_
   refine wT 29 ?_
   refine wpAnyH_done (by kernel_rfl) (NoPanic.normal ?_) _
   go_wp2
   go_ret
   exact ⟨ret_bool (by simp), (Below.refl _ _).drew.trans (d1.trans ((d2.trans ((d3.trans (d4.mono d3.size)).mono d2.size)).mono d1.size))⟩
  ·have hnb : (nv == 0) = false := by simpa using hnv
   clear hnv
   go_enter Tryz.func154, Tryz.ntmps154
   go_wp2_with fail
   refine wp_region_noPanic ?_
   refine wp_region_held_drew (S := fun w' => w'.cell? ⟨kb, 0, none⟩ = some (.pointer (some ⟨b, 0, none⟩)) ∧ w'.cell? ⟨b, 0, none⟩ = some (.int .i64 t) ∧ w'.cell? ⟨b, 1, none⟩ = some (.int .i64 P) ∧ w'.cell? ⟨b, 2, none⟩ = some (.int .i64 s) ∧ w'.cell? ⟨b, 5, none⟩ = some (.map (some mb))) (by kernel_rfl) ?_ (fun hHeld => ?_)
   ·exact ⟨hk, c0, c1, c2, c5⟩
   refine wT 0 ?_
   refine wT 1 ?_
   refine wT 2 ?_
   refine wT 3 ?_
   refine wT 4 ?_
   refine wR 5 fun K hK => ?_
   go_simp
   refine hK.out _ _ ?_ (fun hHeld => ?_)
   ·exact hHeld
   clear hK K
   try simp only [Act.put, zA, zB, zC, zD, zE, zF]
   refine wT 6 ?_
   refine wT 7 ?_
   refine wT 8 ?_
   refine wT 9 ?_
   refine wT 10 ?_
   refine wT 11 ?_
   refine wT 12 ?_
   refine wT 13 ?_
   refine wR 14 fun K hK => ?_
   go_simp
   refine (H2.out _).mono ?_
   rintro e w1 ⟨rfl, d1⟩
   have L1 := Lib.hid (HD.out.keep d1)
   have k1 := heldL d1 hHeld
   refine hK.out _ _ ?_ (fun hHeld => ?_)
   ·exact k1
   clear hK K
   try simp only [Act.put, zA, zB, zC, zD, zE, zF]
   refine wR 15 fun K hK => ?_
   go_simp
   refine (G2.out _ L1.out.lk).mono ?_
   rintro e w2 ⟨rfl, d2⟩
   have k2 := heldL d2 hHeld
   refine hK.out _ _ ?_ (fun hHeld => ?_)
   ·exact k2
   clear hK K
   try simp only [Act.put, zA, zB, zC, zD, zE, zF]
   refine wT 16 ?_
   refine wT 17 ?_
   refine wU 18 ?_
   refine wU 19 ?_
   refine wU 20 ?_
   refine wU 21 ?_
   refine wU 22 ?_
   refine wU 23 ?_
   refine wU 24 ?_
   refine wU 25 ?_
   refine wU 26 ?_
   refine wT 27 ?_
   refine wT 28 ?_
   refine wT 29 ?_
   refine wpAnyH_done (by kernel_rfl) (NoPanic.normal ?_) _
   go_wp2
   go_ret
   exact ⟨ret_bool (by simp [hnb]), (Below.refl _ _).drew.trans (d1.trans (d2.mono d1.size))⟩
set_option maxRecDepth 100000 in
theorem ploose_any (w0 W : World) (g P : Nat) (vis : List Nat) (h : LS w0 b t P s ad n c vs (.slice (some ⟨g, 0, none⟩) P P) mb (mlOf vis) W) :
 Calls Tryz.prog 109 #[.pointer (some ⟨b, 0, none⟩)] W fun e W' => e = .returned (.bool (allN (lsB vs t vis) P)) ∧ Below W.heap.size W W' := by
 obtain ⟨⟨c0, c1, c2⟩, c3, c4, c5⟩ := h.lk.cells
 have hlt := h.lk.lt
 obtain ⟨b1, b2, b3, b4, b5, b6, b7⟩ := h.lk.xv.bd
 have hb0 : Below W.heap.size W (W.alloc (.cells #[.pointer (some ⟨b, 0, none⟩)] 106)) := (Below.refl _ _).alloc (Nat.le_refl _) _
 have x0 : (W.alloc (.cells #[.pointer (some ⟨b, 0, none⟩)] 106)).cell? ⟨W.heap.size, 0, none⟩ = some (.pointer (some ⟨b, 0, none⟩)) := loc_alloc W #[.pointer (some ⟨b, 0, none⟩)] 106 0
 have H := pallLs P (by omega) (.pointer (some ⟨W.heap.size, 0, none⟩)) (lsB vs t vis)
  (fun _ w => LS w0 b t P s ad n c vs (.slice (some ⟨g, 0, none⟩) P P) mb (mlOf vis) w ∧ w.cell? ⟨W.heap.size, 0, none⟩ = some (.pointer (some ⟨b, 0, none⟩)) ∧ Below W.heap.size W w)
  _ ⟨h.keep hb0, x0, hb0⟩ (fun k w hk _ hI => by
   obtain ⟨i1, i2, i3⟩ := hI
   refine (ploose1_any w0 w g P k W.heap.size vis i1 hk i2).mono ?_
   rintro e w' ⟨e1, e2⟩
   exact ⟨e1, i1.keep e2, (e2.cell (World.block_lt_of_cell? _ _ i2)).trans i2, i3.trans (e2.mono i3.size)⟩)
 have HH := Lib.hid H
 clear H h
 go_enter Tryz.func109, Tryz.ntmps109
 go_wp2_with fail
 refine HH.out.mono ?_
 rintro e w1 ⟨rfl, k, -, -, -, -, hx⟩
 go_wp2
 go_ret
 exact ⟨rfl, hx⟩
end
end Go.Proofs.YtcbikgafdclhaaaGreat
/- regions that draw, in a round of a range over a function; the iterator over spans. -/
set_option linter.unusedSimpArgs false
set_option linter.unusedVariables false
namespace Go.Proofs.YtcbikgafdclhaaaGreat
open Go.RowKit
attribute [local go_sem] Oper.semAt_some

/-- an operation that is no defer statement. -/
def noDefer (o : Oper) : Bool := match o.op with | .defer _ => false | _ => true
theorem noDefer_spec {o : Oper} (h : noDefer o = true) : ∀ c, o.op ≠ .defer c := by
 intro c e
 unfold noDefer at h
 rw [e] at h
 simp at h
/-- the post of a way on alone. -/
def Only (Q : Exit → Act → World → Prop) : Exit → Act → World → Prop
 | .normal, a, w => Q .normal a w
 | _, _, _ => False
theorem Only.normal {Q : Exit → Act → World → Prop} {a : Act} {w : World} (h : Q .normal a w) : Only Q .normal a w := h
theorem Only.imp {Q : Exit → Act → World → Prop} : ∀ (e : Exit) (a : Act) (w : World), Only Q e a w → Q e a w := fun e a w h => by
 cases e <;> first | exact h | exact (h : False).elim
theorem noOut {Q : Exit → Act → World → Prop} : ¬ LetsOut (NoPanic (Only Q)) := fun ⟨_, _, h⟩ => h
section
variable {P : Program} {ops : Array Oper} {Q : Exit → Act → World → Prop} {md : Region.Mode} {l n : Nat}
theorem wideDepth : (Fence.wide.inRound l).depth.isSome = true → 1 ≤ n := fun h => by
 have : (Fence.wide.inRound l).depth = none := rfl
 rw [this] at h
 simp at h
theorem wpOpIn_of_wpOp (hnd : ops.all noDefer = true) (hQ : ¬ LetsOut Q) {i : Nat} {K : Act → World → Prop} {a : Act} {w : World} (h : wpOp P ops Q i K a w) : wpOpIn (Fence.wide.inRound l) n P ops Q i K a w := by
 unfold wpOp at h
 unfold wpOpIn
 cases ho : ops[i]? with
 | none => simpa [ho] using h
 | some o =>
  simp only [ho] at h ⊢
  have hno : noDefer o = true := by
   obtain ⟨hi, e⟩ := Array.getElem?_eq_some_iff.1 ho
   rw [← e]
   exact (Array.all_eq_true.1 hnd) i hi
  split
  ·rename_i hw
   simp only [hw, if_true] at h
   rcases h with h | ⟨-, h⟩
   ·refine ⟨fun _ _ => trivial, ?_⟩
    unfold Oper.wp at h
    rw [show (Fence.wide.inRound l).round = some l from rfl, Oper.semAt_some l _ o (noDefer_spec hno)]
    generalize (execOp a.eval o).run P w = r at *
    cases r with
    | ok x w' =>
     cases x with
     | value v => exact h
     | skip => exact h
     | defer d => exact h
     | enter f args => exact ⟨wideDepth, CallsIn.inRound l (callsIn_wide.2 h)⟩
     | row row args =>
      refine ⟨wideDepth, fun c cs _ => ?_⟩
      obtain ⟨v, w2, hR, hs⟩ := h c cs
      exact ⟨v, w2, hR, stepsIn_wide.2 hs⟩
     | round l f tmps assign body => exact (h : False).elim
     | _ => exact (h : False).elim
    | halt x w' =>
     cases x <;> first | exact h | exact (h : False).elim
   ·exact absurd h hQ
  ·rename_i hw
   simp only [hw] at h
   exact ⟨fun _ _ => trivial, h⟩
theorem wpAnyIn_of_wpAny (hnd : ops.all noDefer = true) (hQ : ¬ LetsOut Q) : ∀ (fuel : Nat) (listed : Array Bool) (a : Act) (w : World), wpAny P md ops Q fuel listed a w → wpAnyIn (Fence.wide.inRound l) n P md ops Q fuel listed a w
 | 0, _, _, _, h => h
 | fuel + 1, _, _, _, h => ⟨h.1, fun i hi => wpOpIn_mono (fun a' w' h' => wpAnyIn_of_wpAny hnd hQ fuel _ a' w' h') (wpOpIn_of_wpOp hnd hQ (h.2 i hi))⟩
theorem wpIn_region_held_drew {S : World → Prop} {id : Nat} {a : Act} {w : World} (hm : P.follows .mixedOrders = true) (hnd : ops.all noDefer = true) (hS : S w.drew)
 (h : S w.drew → wpAnyH P .any ops (NoPanic (Only Q)) S ops.size (Array.replicate ops.size false) a w.drew) : (Code.region id ops true).wpIn (Fence.wide.inRound l) n P Q a w :=
 wpIn_mono (wpIn_region_any hm (wpAnyIn_of_wpAny hnd noOut _ _ _ _ (wpAny_of_held _ _ _ _ (h hS)))) fun e a w hq => Only.imp e a w (NoPanic.imp e a w hq)
end
/-- a body that calls keeps what is no cells. -/
theorem Below.from {W W' : World} (h : Below W.heap.size W W') (B : Nat) : KeepsFrom B W W' :=
 ⟨h.size, fun k o _ hk _ => (h.block k (Array.getElem?_eq_some_iff.1 hk).1).trans hk⟩

def spV (x : Nat × Int × Int × Int) : Array Value := #[.int .i64 (x.1 : Int), .agg #[.int .i64 x.2.1, .int .i64 x.2.2.1, .int .i64 x.2.2.2]]
/-- the spans that begin among the first k pages. -/
def spN (al : List (Int × Int × Int)) : Nat → List (Nat × Int × Int × Int)
 | 0 => []
 | k + 1 => if (al.getD k (0, 0, 0)).1 = 0 then spN al k else spN al k ++ [(k, al.getD k (0, 0, 0))]
theorem spN_len (al : List (Int × Int × Int)) : ∀ k, (spN al k).length ≤ k
 | 0 => Nat.le_refl _
 | k + 1 => by
  have := spN_len al k
  unfold spN
  split
  ·omega
  ·simp; omega
/-- a span lies in the pages, and is of a kind and a class. -/
def SpIn (P : Nat) (x : Nat × Int × Int × Int) : Prop := (1 ≤ x.2.2.1 ∧ x.1 + x.2.2.1 ≤ P) ∧ (1 ≤ x.2.1 ∧ x.2.1 ≤ 3) ∧ 0 ≤ x.2.2.2 ∧ x.2.2.2 ≤ 8
abbrev SpT (P : Nat) := { x : Nat × Int × Int × Int // SpIn P x }
def raw {P : Nat} (pre : List (SpT P)) : List (Nat × Int × Int × Int) := pre.map Subtype.val
theorem raw_snoc {P : Nat} (pre : List (SpT P)) (x : SpT P) : raw (pre ++ [x]) = raw pre ++ [x.1] := by simp [raw]
section
variable {P : Nat}
theorem pspans_any (w : World) (b : Nat) :
 Calls Tryz.prog 146 #[.pointer (some ⟨b, 0, none⟩)] w fun e w' => e = .returned (.func (.func 191) #[] #[.pointer (some ⟨w.heap.size, 0, none⟩)]) ∧ w' = w.alloc (.cells #[.pointer (some ⟨b, 0, none⟩)] 106) := by
 go_enter Tryz.func146, Tryz.ntmps146
 go_wp2
 go_ret
 exact ⟨rfl, rfl⟩
set_option maxHeartbeats 2000000 in
set_option maxRecDepth 100000 in
theorem spans1_in (n : Nat) (hn : 1 ≤ n) (l Bl n₀ b g : Nat) (al : List (Int × Int × Int)) (hP : P ≤ 10000) (hlen : al.length = P) (hsp : ∀ k x, al[k]? = some x → x.1 ≠ 0 → SpIn P (k, x)) (hg : g < n₀) (J Jx : List (SpT P) → World → Prop)
 (hY : ∀ pre x W, J pre W → pre.length < P → YieldAt Fence.wide (n - 1) Tryz.prog l (spV x.1) W fun e W' =>
  (e = .returned (.bool true) ∧ J (pre ++ [x]) W' ∧ Below n₀ W W') ∨ (e = .returned (.bool false) ∧ Jx (pre ++ [x]) W'))
 (W : World) (hn₀ : n₀ ≤ W.heap.size) (hJ : AbidesFrom W.heap.size J) (hBl : W.cell? ⟨Bl, 0, none⟩ = some (.pointer (some ⟨b, 0, none⟩))) (h4 : W.cell? ⟨b, 4, none⟩ = some (.slice (some ⟨g, 0, none⟩) P P))
 (hc : ∀ k x, al[k]? = some x → W.cell? ⟨g, k * 3, none⟩ = some (.int .i64 x.1) ∧ W.cell? ⟨g, k * 3 + 1, none⟩ = some (.int .i64 x.2.1) ∧ W.cell? ⟨g, k * 3 + 2, none⟩ = some (.int .i64 x.2.2)) (h0 : J [] W) :
 CallsIn Fence.wide n Tryz.prog 191 #[.func (.yield l) #[] #[], .pointer (some ⟨Bl, 0, none⟩)] W fun e W' => (∃ v, e = .returned v) ∧
  ((∃ ys, raw ys = spN al P ∧ J ys W') ∨ (∃ pre, (∃ k, k ≤ P ∧ raw pre = spN al k) ∧ Jx pre W')) := by
 refine callsIn_of_wp Tryz.func191 rfl trivial ?_ rfl
 simp only [Tryz.ntmps191, List.size_toArray, List.length_cons, List.length_nil, Nat.reduceAdd, Nat.reduceSub, Array.replicate_succ, Array.replicate_zero, List.push_toArray, List.append_toArray, List.nil_append, List.cons_append]
 gi_wp2
 gi_loopw [10] (fun i wr => ∃ (k : Nat) (pre : List (SpT P)), k ≤ P ∧ i = .int .i64 k ∧ raw pre = spN al k ∧ J pre wr ∧ Below n₀ W wr ∧ W.heap.size ≤ wr.heap.size)
  (fun i _ => P - (intOf i).toNat)
 case atStart => exact ⟨0, [], Nat.zero_le _, rfl, rfl, h0, Below.refl _ _, Nat.le_refl _⟩
 case round =>
  obtain ⟨k, pre, hk, rfl, hpre, hJs, hnx, hsz⟩ := hrel
  by_cases hlt : k < P
  ·obtain ⟨⟨K, L, C⟩, hx⟩ : ∃ x, al[k]? = some x := ⟨_, List.getElem?_eq_getElem (by omega)⟩
   obtain ⟨p0, p1, p2⟩ := hc k _ hx
   have q0 : wr.cell? ⟨g, k * 3, none⟩ = some (.int .i64 K) := (hnx.cell (p := ⟨g, k * 3, none⟩) hg).trans p0
   have q1 : wr.cell? ⟨g, k * 3 + 1, none⟩ = some (.int .i64 L) := (hnx.cell (p := ⟨g, k * 3 + 1, none⟩) hg).trans p1
   have q2 : wr.cell? ⟨g, k * 3 + 2, none⟩ = some (.int .i64 C) := (hnx.cell (p := ⟨g, k * 3 + 2, none⟩) hg).trans p2
   have hgd : al.getD k (0, 0, 0) = (K, L, C) := by rw [List.getD_eq_getElem?_getD, hx]; rfl
   have hJa : J pre (wr.alloc (.cells #[.int .i64 K, .int .i64 L, .int .i64 C] 174)) := hJ _ _ _ none hJs (World.grownBy_alloc _ _ none) (fun r e => by cases e)
   have hba : Below n₀ wr (wr.alloc (.cells #[.int .i64 K, .int .i64 L, .int .i64 C] 174)) := (Below.refl _ _).alloc (Nat.le_trans hn₀ hsz) _
   have i4 := loc_alloc wr #[.int .i64 K, .int .i64 L, .int .i64 C] 174
   by_cases hK : K = 0
   ·have hs : spN al (k + 1) = spN al k := by rw [spN, hgd, if_pos hK]
    subst hK
    gi_wp2
    refine ⟨fun _ h => (by cases h), ?_⟩
    gi_wp2
    go_roundw
    case rel => exact ⟨k + 1, pre, by omega, by go_num, by rw [hs]; exact hpre, hJa, hnx.trans hba, by simp; omega⟩
    case measure => simp [intOf]; omega
   ·have hs : spN al (k + 1) = spN al k ++ [(k, K, L, C)] := by rw [spN, hgd, if_neg hK]
    have hKb : (K != 0) = true := by simpa using hK
    have hpl : pre.length = (spN al k).length := by rw [← hpre]; simp [raw]
    obtain ⟨fn, tmps, assign, body, hy, hR⟩ := hY _ ⟨(k, K, L, C), hsp k _ hx hK⟩ _ hJa (by have := spN_len al k; omega)
    dsimp only [spV] at hy
    gi_wp2
    refine hR.mono ?_
    rintro e W3 (⟨rfl, hJ3, hk3⟩ | ⟨rfl, hJx3⟩)
    ·gi_wp2
     go_roundw
     case rel => exact ⟨k + 1, _, by omega, by go_num, by rw [hs, raw_snoc, hpre], hJ3, (hnx.trans hba).trans hk3, by have := hk3.size; simp at this; omega⟩
     case measure => simp [intOf]; omega
    ·gi_wp2
     refine bodyPost_ret (results_none rfl _ _ _) rfl ?_
     exact ⟨⟨_, rfl⟩, .inr ⟨_, ⟨k + 1, by omega, by rw [hs, raw_snoc, hpre]⟩, hJx3⟩⟩
  ·obtain rfl : k = P := by omega
   gi_wp2
   go_end0
   exact ⟨⟨_, rfl⟩, .inl ⟨_, hpre, hJs⟩⟩
theorem spans_stops (n : Nat) (hn : 1 ≤ n) (Bl n₀ b g : Nat) (al : List (Int × Int × Int)) (hP : P ≤ 10000) (hlen : al.length = P) (hsp : ∀ k x, al[k]? = some x → x.1 ≠ 0 → SpIn P (k, x)) (w : World) (hBl0 : Bl < w.heap.size) (hn₀ : n₀ ≤ w.heap.size) (hg : g < n₀) (hb : b < n₀) (hBl : w.cell? ⟨Bl, 0, none⟩ = some (.pointer (some ⟨b, 0, none⟩))) (h4 : w.cell? ⟨b, 4, none⟩ = some (.slice (some ⟨g, 0, none⟩) P P))
 (hc : ∀ k x, al[k]? = some x → w.cell? ⟨g, k * 3, none⟩ = some (.int .i64 x.1) ∧ w.cell? ⟨g, k * 3 + 1, none⟩ = some (.int .i64 x.2.1) ∧ w.cell? ⟨g, k * 3 + 2, none⟩ = some (.int .i64 x.2.2)) :
 SeqStopsK Fence.wide n Tryz.prog 191 #[.pointer (some ⟨Bl, 0, none⟩)] (fun x : SpT P => spV x.1) (Below n₀) (fun ys => raw ys = spN al P) (fun pre => ∃ k, k ≤ P ∧ raw pre = spN al k) P w := fun l J Jx W hW hJ _ hY h0 => by
 have hsz := hW.size
 exact spans1_in n hn l Bl n₀ b g al hP hlen hsp hg J Jx hY W (by omega) hJ ((hW.cell (p := ⟨Bl, 0, none⟩) hBl0).trans hBl) ((hW.cell (p := ⟨b, 4, none⟩) (by show b < _; omega)).trans h4)
  (fun k x hx => by
   obtain ⟨a0, a1, a2⟩ := hc k x hx
   exact ⟨(hW.cell (p := ⟨g, k * 3, none⟩) (by show g < _; omega)).trans a0, (hW.cell (p := ⟨g, k * 3 + 1, none⟩) (by show g < _; omega)).trans a1, (hW.cell (p := ⟨g, k * 3 + 2, none⟩) (by show g < _; omega)).trans a2⟩) h0
end
end Go.Proofs.YtcbikgafdclhaaaGreat
/- a word of bytes: the program's. -/
set_option linter.unusedSimpArgs false
set_option linter.unusedVariables false
namespace Go.Proofs.YtcbikgafdclhaaaGreat
open Go.RowKit
attribute [local go_sem] Oper.semAt_some

theorem pback_any (w : World) (a : Option Addr) (n c : Nat) :
 Calls Tryz.prog 43 #[.slice a n c] w fun e w' => e = .returned (.func (.func 75) #[] #[.pointer (some ⟨w.heap.size, 0, none⟩)]) ∧ w' = w.alloc (.cells #[.slice a n c] 23) := by
 go_enter Tryz.func43, Tryz.ntmps43
 go_wp2
 go_ret
 exact ⟨rfl, rfl⟩
abbrev BkT := { x : Nat × Int // U8 x.2 }
def bkV (x : Nat × Int) : Array Value := #[.int .i64 (x.1 : Int), .int .u8 x.2]
def rawB (pre : List BkT) : List (Nat × Int) := pre.map Subtype.val
theorem rawB_snoc (pre : List BkT) (x : BkT) : rawB (pre ++ [x]) = rawB pre ++ [x.1] := by simp [rawB]
/-- the last k bytes, from behind. -/
def bkL (bs : List Int) (N : Nat) : Nat → List (Nat × Int)
 | 0 => []
 | k + 1 => bkL bs N k ++ [(N - 1 - k, bs.getD (N - 1 - k) 0)]
def accB (l : List (Nat × Int)) : Int := l.foldl (fun a x => a * 256 + x.2) 0
theorem accB_snoc (l : List (Nat × Int)) (x : Nat × Int) : accB (l ++ [x]) = accB l * 256 + x.2 := by simp [accB]
theorem accB_bd : ∀ l : List BkT, 0 ≤ accB (rawB l) ∧ accB (rawB l) < 256 ^ l.length := by
 intro l
 suffices h : ∀ (l : List BkT) (a : Int) (n : Nat), 0 ≤ a → a < 256 ^ n → 0 ≤ (rawB l).foldl (fun a x => a * 256 + x.2) a ∧ (rawB l).foldl (fun a x => a * 256 + x.2) a < 256 ^ (n + l.length) by
  have := h l 0 0 (by omega) (by simp)
  simpa [accB] using this
 intro l
 induction l with
 | nil => intro a n h1 h2; simpa [rawB] using ⟨h1, h2⟩
 | cons x l ih =>
  intro a n h1 h2
  have hx := x.2
  unfold U8 at hx
  have := ih (a * 256 + x.1.2) (n + 1) (by omega) (by rw [Int.pow_succ]; omega)
  simpa [rawB, Nat.add_assoc, Nat.add_comm, Nat.add_left_comm] using this
theorem accB_all (bs : List Int) : ∀ k, k ≤ bs.length → accB (bkL bs bs.length k) = wordOf (bs.drop (bs.length - k))
 | 0, _ => by simp [bkL, accB, wordOf]
 | k + 1, hk => by
  unfold bkL
  rw [accB_snoc, accB_all bs k (by omega)]
  have hd : bs.drop (bs.length - (k + 1)) = bs.getD (bs.length - 1 - k) 0 :: bs.drop (bs.length - k) := by
   rw [List.drop_eq_getElem_cons (by omega)]
   congr 1
   ·simp [List.getD_eq_getElem?_getD, show bs.length - (k + 1) = bs.length - 1 - k by omega, show bs.length - 1 - k < bs.length by omega]
   ·congr 1; omega
  rw [hd]
  rfl
def KpB (n B : Nat) (A C : World) : Prop := Below n A C ∧ C.heap[B]? = A.heap[B]?
theorem kpB_t {n B : Nat} {A C D : World} (h : KpB n B A C) (k : KpB n B C D) : KpB n B A D := ⟨belowK_t h.1 k.1, k.2.trans h.2⟩
theorem kpB_b {w : World} {n B : Nat} (hn : n ≤ w.heap.size) (hB : B < w.heap.size) (W : World) (l : Nat) (o o' : Obj) (hl : w.heap.size ≤ l) (h1 : W.heap[l]? = some o) (h2 : o.isCells = false) (h3 : o.isWalk = false) : KpB n B W (W.putObj l o') :=
 ⟨belowK_b hn W l o o' hl h1 h2 h3, World.putObj_heap_other (by omega)⟩
set_option maxHeartbeats 2000000 in
set_option maxRecDepth 100000 in
theorem back1_in (n : Nat) (hn : 1 ≤ n) (l Bl n₀ : Nat) (ad : Addr) (N c : Nat) (bs : List Int) (hlen : bs.length = N) (hN : N ≤ 100) (hu : ∀ x ∈ bs, U8 x) (J Jx : List BkT → World → Prop)
 (hY : ∀ pre x W, J pre W → pre.length < N → YieldAt Fence.wide (n - 1) Tryz.prog l (bkV x.1) W fun e W' =>
  (e = .returned (.bool true) ∧ J (pre ++ [x]) W' ∧ KpB n₀ Bl W W') ∨ (e = .returned (.bool false) ∧ Jx (pre ++ [x]) W'))
 (W : World) (hBl : W.cell? ⟨Bl, 0, none⟩ = some (.slice (some ad) N c)) (had : ∀ k, k < N → (ad.add k).block < n₀)
 (hc : ∀ k, k < N → W.cell? (ad.add k) = some (.int .u8 (bs.getD k 0))) (h0 : J [] W) :
 CallsIn Fence.wide n Tryz.prog 75 #[.func (.yield l) #[] #[], .pointer (some ⟨Bl, 0, none⟩)] W fun e W' => (∃ v, e = .returned v) ∧
  ((∃ ys, rawB ys = bkL bs N N ∧ J ys W') ∨ (∃ pre, (∃ k, k ≤ N ∧ rawB pre = bkL bs N k) ∧ Jx pre W')) := by
 refine callsIn_of_wp Tryz.func75 rfl trivial ?_ rfl
 simp only [Tryz.ntmps75, List.size_toArray, List.length_cons, List.length_nil, Nat.reduceAdd, Nat.reduceSub, Array.replicate_succ, Array.replicate_zero, List.push_toArray, List.append_toArray, List.nil_append, List.cons_append]
 gi_wp2
 gi_loopw [3] (fun i wr => ∃ (k : Nat) (pre : List BkT) (z : Int), k ≤ N ∧ i = .int .i64 z ∧ z + 1 + k = N ∧ rawB pre = bkL bs N k ∧ J pre wr ∧ KpB n₀ Bl W wr)
  (fun i _ => (intOf i + 1).toNat)
 case atStart => exact ⟨0, [], (N : Int) - 1, Nat.zero_le _, rfl, by omega, rfl, h0, Below.refl _ _, rfl⟩
 case round =>
  obtain ⟨k, pre, z, hk, rfl, hz, hpre, hJs, hkp⟩ := hrel
  have hpl : pre.length = k := by
   have h1 : (rawB pre).length = pre.length := by simp [rawB]
   rw [← h1, hpre]
   clear h1 hpre hk hz
   induction k with
   | zero => rfl
   | succ k ih => simp [bkL, ih]
  by_cases hlt : k < N
  ·obtain ⟨i, rfl⟩ : ∃ i : Nat, z = i := ⟨z.toNat, by omega⟩
   have hiN : i < N := by omega
   have hii : (i : Int) < N := by omega
   have hie : N - 1 - k = i := by omega
   have hbx : bkL bs N (k + 1) = bkL bs N k ++ [(i, bs.getD i 0)] := by rw [bkL, hie]
   have hx8 : U8 (bs.getD i 0) := by
    have e : bs.getD i 0 = bs[i]'(by omega) := by simp [show i < bs.length by omega]
    rw [e]; exact hu _ (List.getElem_mem _)
   have q0 := (World.cell?_of_block (a := ⟨Bl, 0, none⟩) hkp.2).trans hBl
   have q1 := (hkp.1.cell (had i hiN)).trans (hc i hiN)
   obtain ⟨fn, tmps, assign, body, hy, hR⟩ := hY pre ⟨(i, bs.getD i 0), hx8⟩ _ hJs (by omega)
   dsimp only [bkV] at hy
   have HBx := Lib.hid hbx
   have HZ := Lib.hid hz
   have HPre := Lib.hid hpre
   have HKp := Lib.hid hkp
   clear hbx hz hpre hkp hie hpl hk
   generalize bs.getD i 0 = x at *
   gi_wp2
   refine hR.mono ?_
   rintro e W3 (⟨rfl, hJ3, hk3⟩ | ⟨rfl, hJx3⟩)
   ·gi_wp2
    go_roundw
    case rel => exact ⟨k + 1, _, (i : Int) - 1, by omega, rfl, by have := HZ.out; omega, by rw [HBx.out, rawB_snoc, HPre.out], hJ3, kpB_t HKp.out hk3⟩
    case measure => first | (simp [intOf]; done) | (simp [intOf]; omega)
   ·gi_wp2
    refine bodyPost_ret (results_none rfl _ _ _) rfl ?_
    exact ⟨⟨_, rfl⟩, .inr ⟨_, ⟨k + 1, by omega, by rw [HBx.out, rawB_snoc, HPre.out]⟩, hJx3⟩⟩
  ·have hkN : k = N := by omega
   subst hkN
   have hz1 : z = -1 := by omega
   subst hz1
   gi_wp2
   go_end0
   exact ⟨⟨_, rfl⟩, .inl ⟨_, hpre, hJs⟩⟩
theorem back_stops (n : Nat) (hn : 1 ≤ n) (Bl n₀ : Nat) (ad : Addr) (N c : Nat) (bs : List Int) (hlen : bs.length = N) (hN : N ≤ 100) (hu : ∀ x ∈ bs, U8 x) (w : World) (hBl0 : Bl < w.heap.size) (hn₀ : n₀ ≤ w.heap.size)
 (hBl : w.cell? ⟨Bl, 0, none⟩ = some (.slice (some ad) N c)) (had : ∀ k, k < N → (ad.add k).block < n₀) (hc : ∀ k, k < N → w.cell? (ad.add k) = some (.int .u8 (bs.getD k 0))) :
 SeqStopsK Fence.wide n Tryz.prog 75 #[.pointer (some ⟨Bl, 0, none⟩)] (fun x : BkT => bkV x.1) (KpB n₀ Bl) (fun ys => rawB ys = bkL bs N N) (fun pre => ∃ k, k ≤ N ∧ rawB pre = bkL bs N k) N w := fun l J Jx W hW hJ _ hY h0 => by
 exact back1_in n hn l Bl n₀ ad N c bs hlen hN hu J Jx hY W ((hW.cell (p := ⟨Bl, 0, none⟩) hBl0).trans hBl) had (fun k hk => (hW.cell (by have := had k hk; omega)).trans (hc k hk)) h0
set_option maxHeartbeats 2000000 in
set_option maxRecDepth 100000 in
theorem word_any (ad : Addr) (N c : Nat) (bs : List Int) (w : World) (hl : bs.length = N) (hN : N ≤ 8) (hu : ∀ x ∈ bs, U8 x) (hc : ∀ k, k < N → w.cell? (ad.add k) = some (.int .u8 (bs.getD k 0))) (hn0 : 0 < N) :
 Calls Tryz.prog 24 #[.slice (some ad) N c] w fun e w' => e = .returned (.int .u64 (wordOf bs)) ∧ Below w.heap.size w w' := by
 refine (callsIn_wide (n := 10)).1 ?_
 refine callsIn_of_wp_marks Tryz.func24 rfl trivial ?_ rfl
 simp only [Tryz.ntmps24, List.size_toArray, List.length_cons, List.length_nil, Nat.reduceAdd, Nat.reduceSub, Array.replicate_succ, Array.replicate_zero, List.push_toArray, List.append_toArray, List.nil_append, List.cons_append]
 gi_wp2_with (refine ⟨trivial, ?_⟩; gi_at_call 43; refine (callsIn_wide.2 (pback_any _ _ _ _)).mono ?_; rintro e w' ⟨rfl, rfl⟩)
 have bV := (Boxed.new w 61 (.int .u64 0)).alloc (.cells #[.slice (some ad) N c] 23)
 have bL := Boxed.new (w.alloc (.cells #[.int .u64 0] 61)) 23 (.slice (some ad) N c)
 simp only [World.size_alloc] at bL
 have hB0 : Below w.heap.size w ((w.alloc (.cells #[.int .u64 0] 61)).alloc (.cells #[.slice (some ad) N c] 23)) := ((Below.refl _ w).alloc (Nat.le_refl _) _).alloc (by simp) _
 have hsz : ((w.alloc (.cells #[.int .u64 0] 61)).alloc (.cells #[.slice (some ad) N c] 23)).heap.size = w.heap.size + 2 := by simp
 have had : ∀ k, k < N → (ad.add k).block < w.heap.size := fun k hk => World.block_lt_of_cell? w _ (hc k hk)
 have hc0 : ∀ k, k < N → ((w.alloc (.cells #[.int .u64 0] 61)).alloc (.cells #[.slice (some ad) N c] 23)).cell? (ad.add k) = some (.int .u8 (bs.getD k 0)) := fun k hk => (hB0.cell (had k hk)).trans (hc k hk)
 obtain ⟨W0, hW0⟩ : ∃ W0, ((w.alloc (.cells #[.int .u64 0] 61)).alloc (.cells #[.slice (some ad) N c] 23)) = W0 := ⟨_, rfl⟩
 rw [hW0] at bV bL hB0 hsz hc0 ⊢
 clear hW0
 have HAll := Lib.hid (show accB (bkL bs N N) = wordOf bs by
  have := accB_all bs N (by omega)
  rw [hl] at this
  simpa using this)
 refine wpIn_rangeFunc_ownH rfl (by omega) (gf := 75) (lb := #[.pointer (some ⟨w.heap.size + 1, 0, none⟩)]) rfl trivial (enters_of Tryz.func75 (by kernel_rfl) rfl)
  (back_stops _ (by omega) (w.heap.size + 1) w.heap.size ad N c bs hl (by omega) hu W0 (by omega) (by omega) bL.cell had hc0)
  kpB_t (kpB_b (by omega) (by omega)) (Below.refl _ _) (fun _ => rfl)
  (fun pre W => Boxed W w.heap.size 61 (.int .u64 (accB (rawB pre))) ∧ Below w.heap.size w W)
  (fun _ _ _ => False)
  (OwnFrom.and (Own.from (boxed_own _ _ _) _) (ownFrom_below (Nat.le_refl _) (by omega)))
  (fun _ _ _ _ _ hs _ _ => hs)
  ⟨bV, hB0⟩
  (fun x a' W => a' = { tmps := #[.slice (some ad) N c, undef, .int .u64 0, .pointer (some ⟨w.heap.size, 0, none⟩), undef, .int .u8 x.1.2, .slice (some ad) N c, .func (.func 75) #[] #[.pointer (some ⟨w.heap.size + 1, 0, none⟩)], .int .i64 (x.1.1 : Int), .int .u8 x.1.2, undef, undef, undef, undef, undef, undef], defers := [] })
  (fun x a' _ X Y row hs _ _ => hs)
  ?assign ?body ?done ?stop
 case assign =>
  rintro l pre x W K ⟨i1, iB⟩ hK
  dsimp only [bkV]
  gi_wp2
  exact hK _ _ (KeepsFrom.refl _ _) ⟨Below.refl _ _, rfl⟩ ⟨i1, iB⟩ rfl
 case body =>
  rintro l pre x a' W hl2 _ ⟨i1, iB⟩ rfl hlt
  have c1 := i1.cell
  have hbd := accB_bd pre
  have hacc : accB (rawB (pre ++ [x])) = accB (rawB pre) * 256 + x.1.2 := by rw [rawB_snoc, accB_snoc]
  have hx8 : U8 x.1.2 := x.2
  have hp7 : (256 : Int) ^ pre.length ≤ 72057594037927936 := by
   rcases (by omega : pre.length = 0 ∨ pre.length = 1 ∨ pre.length = 2 ∨ pre.length = 3 ∨ pre.length = 4 ∨ pre.length = 5 ∨ pre.length = 6 ∨ pre.length = 7) with e | e | e | e | e | e | e | e <;> rw [e] <;> decide
  have HAcc := Lib.hid hacc
  clear hacc
  generalize x.1.2 = xv at *
  generalize x.1.1 = xi at *
  generalize accB (rawB pre) = a at *
  unfold U8 at hx8
  have ha : 0 ≤ a ∧ a < 72057594037927936 := by omega
  have hw1 : IntKind.u64.wrap (a * 256) = a * 256 := wraps_u64 _ (by omega) (by omega)
  have hw2 : IntKind.u64.wrap xv = xv := wraps_u64 _ (by omega) (by omega)
  have ho : bits BinOp.or IntKind.u64 (a * 256) xv = a * 256 + xv := bits_join .u64 64 (by decide) wraps_u64 8 (a * 256) xv (by omega) (by omega) (by omega) (by omega) (by omega) (by omega)
  have fr := frozen?_of_heap (o := 0) i1
  clear hbd hp7
  gi_wp2
  exact ⟨(KeepsOthers.setCell _ _ _).from _, ⟨(Below.refl _ W).setCell (p := ⟨w.heap.size, 0, none⟩) (Nat.le_refl _) _, heap_setCell_other (by omega)⟩, by rw [HAcc.out]; exact (heap_setCell_same i1).trans (by simp), iB.setCell (p := ⟨w.heap.size, 0, none⟩) (Nat.le_refl _) _⟩
 case done =>
  rintro D ys W hD hys ⟨i1, iB⟩ hK
  rw [hys] at i1
  rw [HAll.out] at i1
  have c1 := i1.cell
  gi_wp2
  refine ⟨by simp, .inl ⟨_, _, rfl, run_takeDeferred hK, ?_⟩⟩
  refine ⟨_, results_tmp rfl _ _ _, rfl, iB.trans (belowK_b (w := w) (Nat.le_refl _) _ D _ _ (by omega) hK rfl rfl)⟩
 case stop =>
  rintro D cd pre W hD _ h _
  exact h.elim
end Go.Proofs.YtcbikgafdclhaaaGreat
/- the program's audit: apart. -/
set_option linter.unusedSimpArgs false
set_option linter.unusedVariables false
namespace Go.Proofs.YtcbikgafdclhaaaGreat
open Go.RowKit
attribute [local go_sem] Oper.semAt_some

def apS (s : Int × Bool) (x : Nat × Int × Int × Int) : Int × Bool := (x.2.1, s.2 && !(x.2.1 == 1 && s.1 == 1))
def apL (pre : List (Nat × Int × Int × Int)) : Int × Bool := pre.foldl apS (0, true)
theorem apL_snoc (pre : List (Nat × Int × Int × Int)) (x : Nat × Int × Int × Int) : apL (pre ++ [x]) = apS (apL pre) x := by simp [apL]
theorem spN_pre (al : List (Int × Int × Int)) (k : Nat) : ∀ m, ∃ r, spN al (k + m) = spN al k ++ r
 | 0 => ⟨[], by simp⟩
 | m + 1 => by
  obtain ⟨r, h⟩ := spN_pre al k m
  rw [show k + (m + 1) = (k + m) + 1 from rfl, spN, h]
  split
  ·exact ⟨r, rfl⟩
  ·exact ⟨r ++ [(k + m, al.getD (k + m) (0, 0, 0))], by simp⟩
theorem apS_false : ∀ (r : List (Nat × Int × Int × Int)) (s : Int × Bool), s.2 = false → (r.foldl apS s).2 = false
 | [], s, h => h
 | x :: r, s, h => by
  rw [List.foldl_cons]
  exact apS_false r _ (by simp [apS, h])
theorem apL_false {al : List (Int × Int × Int)} {k P : Nat} (hk : k ≤ P) (h : (apL (spN al k)).2 = false) : (apL (spN al P)).2 = false := by
 obtain ⟨r, e⟩ := spN_pre al k (P - k)
 rw [show P = k + (P - k) by omega, e]
 unfold apL
 rw [List.foldl_append]
 exact apS_false _ _ h
/-- the cells of a row of infos. -/
theorem AtR.cells {w0 : World} {b mb g P : Nat} {al : List (Int × Int × Int)} {ad : Addr} {W : World} (h : AtR w0 b mb g P al ad W) : ∀ k x, al[k]? = some x → W.cell? ⟨g, k * 3, none⟩ = some (.int .i64 x.1) ∧ W.cell? ⟨g, k * 3 + 1, none⟩ = some (.int .i64 x.2.1) ∧ W.cell? ⟨g, k * 3 + 2, none⟩ = some (.int .i64 x.2.2) := fun k x hx => by
 obtain ⟨p0, p1, p2⟩ := partCells_at al k x hx
 have hpl := h.row.1
 have hal : k < al.length := (List.getElem?_eq_some_iff.1 hx).1
 have hl := partCells_len al
 exact ⟨(h.row.cellAt (k * 3) (by omega)).trans p0, (h.row.cellAt (k * 3 + 1) (by omega)).trans p1, (h.row.cellAt (k * 3 + 2) (by omega)).trans p2⟩
theorem AtR.len {w0 : World} {b mb g P : Nat} {al : List (Int × Int × Int)} {ad : Addr} {W : World} (h : AtR w0 b mb g P al ad W) : al.length = P := by
 have hpl := h.row.1
 have hl := partCells_len al
 omega
/-- a loop variable's box. -/
def InfoAt (W : World) (B : Nat) (x : Nat × Int × Int × Int) : Prop := W.heap[B]? = some (.cells #[.int .i64 x.2.1, .int .i64 x.2.2.1, .int .i64 x.2.2.2] 174)
theorem InfoAt.own {n : Nat} {B : Nat} {x : Nat × Int × Int × Int} : OwnFrom n (fun (_ : Unit) W => InfoAt W B x) := fun _ X Y row hs hg hr => by
 refine (hg.block B (Array.getElem?_eq_some_iff.1 hs).1 (fun e => ?_)).trans hs
 obtain ⟨_, o, ho, hc⟩ := hr B e.symm
 rw [show X.heap[B]? = _ from hs] at ho
 cases ho
 cases hc
theorem InfoAt.cell {W : World} {B : Nat} {x : Nat × Int × Int × Int} (h : InfoAt W B x) : W.cell? ⟨B, 0, none⟩ = some (.int .i64 x.2.1) ∧ W.cell? ⟨B, 1, none⟩ = some (.int .i64 x.2.2.1) ∧ W.cell? ⟨B, 2, none⟩ = some (.int .i64 x.2.2.2) :=
 ⟨cell?_of_heap h, cell?_of_heap h, cell?_of_heap h⟩
section
variable {b : Nat} {t s : Int} {ad : Addr} {n c : Nat} {vs : List Int} {mb : Nat}
set_option maxHeartbeats 4000000 in
set_option maxRecDepth 100000 in
theorem papart_any (w0 w : World) (ml : List (Int × Int)) (g P : Nat) (al : List (Int × Int × Int)) (h : LS w0 b t P s ad n c vs (.slice (some ⟨g, 0, none⟩) P P) mb ml w) (hA : AtR w0 b mb g P al ad w) (hsp : ∀ k x, al[k]? = some x → x.1 ≠ 0 → SpIn P (k, x)) :
 Calls Tryz.prog 105 #[.pointer (some ⟨b, 0, none⟩)] w fun e W' => e = .returned (.bool (apL (spN al P)).2) ∧ Below w.heap.size w W' := by
 obtain ⟨b1, b2, b3, b4, b5, b6, b7⟩ := h.lk.xv.bd
 have hblt := h.lk.lt
 have hglt : g < w.heap.size := ownsRow_lt hA.row rfl
 have hc4 := h.lk.cells.2.2.1
 have hcs := hA.cells
 have hal := hA.len
 clear h hA
 refine (callsIn_wide (n := 10)).1 ?_
 refine callsIn_of_wp_marks Tryz.func105 rfl trivial ?_ rfl
 simp only [Tryz.ntmps105, List.size_toArray, List.length_cons, List.length_nil, Nat.reduceAdd, Nat.reduceSub, Array.replicate_succ, Array.replicate_zero, List.push_toArray, List.append_toArray, List.nil_append, List.cons_append]
 gi_wp2_with (refine ⟨trivial, ?_⟩; gi_at_call 146; refine (callsIn_wide.2 (pspans_any _ b)).mono ?_; rintro e w' ⟨rfl, rfl⟩)
 have bR := ((Boxed.new w 4 (.bool false)).alloc (.cells #[.int .i64 0] 3)).alloc (.cells #[.pointer (some ⟨b, 0, none⟩)] 106)
 have bW := (Boxed.new (w.alloc (.cells #[.bool false] 4)) 3 (.int .i64 0)).alloc (.cells #[.pointer (some ⟨b, 0, none⟩)] 106)
 have bL := Boxed.new ((w.alloc (.cells #[.bool false] 4)).alloc (.cells #[.int .i64 0] 3)) 106 (.pointer (some ⟨b, 0, none⟩))
 simp only [World.size_alloc] at bW bL
 have hB0 : Below w.heap.size w (((w.alloc (.cells #[.bool false] 4)).alloc (.cells #[.int .i64 0] 3)).alloc (.cells #[.pointer (some ⟨b, 0, none⟩)] 106)) := (((Below.refl _ w).alloc (Nat.le_refl _) _).alloc (by simp) _).alloc (by simp; omega) _
 have hsz : (((w.alloc (.cells #[.bool false] 4)).alloc (.cells #[.int .i64 0] 3)).alloc (.cells #[.pointer (some ⟨b, 0, none⟩)] 106)).heap.size = w.heap.size + 3 := by simp
 obtain ⟨W0, hW0⟩ : ∃ W0, ((w.alloc (.cells #[.bool false] 4)).alloc (.cells #[.int .i64 0] 3)).alloc (.cells #[.pointer (some ⟨b, 0, none⟩)] 106) = W0 := ⟨_, rfl⟩
 rw [hW0] at bR bW bL hB0 hsz ⊢
 clear hW0
 refine wpIn_rangeFunc_ownH rfl (by omega) (gf := 191) (lb := #[.pointer (some ⟨w.heap.size + 1 + 1, 0, none⟩)]) rfl trivial (enters_of Tryz.func191 (by kernel_rfl) rfl)
  (spans_stops _ (by omega) (w.heap.size + 1 + 1) w.heap.size b g al (P := P) (by omega) hal hsp W0 (by omega) (by omega) hglt hblt bL.cell ((hB0.cell (p := ⟨b, 4, none⟩) hblt).trans hc4)
   (fun k x hx => ⟨(hB0.cell (p := ⟨g, k * 3, none⟩) hglt).trans (hcs k x hx).1, (hB0.cell (p := ⟨g, k * 3 + 1, none⟩) hglt).trans (hcs k x hx).2.1, (hB0.cell (p := ⟨g, k * 3 + 2, none⟩) hglt).trans (hcs k x hx).2.2⟩))
  belowK_t (belowK_b (by omega)) (Below.refl _ _) (fun _ => rfl)
  (fun pre W => (Boxed W w.heap.size 4 (.bool false) ∧ (Boxed W (w.heap.size + 1) 3 (.int .i64 (apL (raw pre)).1) ∧ (apL (raw pre)).2 = true)) ∧ Below w.heap.size w W)
  (fun cd pre W => (Boxed W w.heap.size 4 (.bool false) ∧ (cd = .ret ∧ (apL (raw pre)).2 = false)) ∧ Below w.heap.size w W)
  (OwnFrom.and (OwnFrom.and (Own.from (boxed_own _ _ _) _) (OwnFrom.and (Own.from (boxed_own _ _ _) _) (ownFrom_pure _ _))) (ownFrom_below (Nat.le_refl _) (by omega)))
  (fun cd => OwnFrom.and (OwnFrom.and (Own.from (boxed_own _ _ _) _) (ownFrom_pure _ _)) (ownFrom_below (Nat.le_refl _) (by omega)))
  ⟨⟨bR, bW, rfl⟩, hB0⟩
  (fun x a' W => ∃ Bx, w.heap.size + 1 < Bx ∧ InfoAt W Bx x.1 ∧ a' = { tmps := #[.pointer (some ⟨b, 0, none⟩), undef, .pointer (some ⟨w.heap.size, 0, none⟩), .pointer (some ⟨w.heap.size + 1, 0, none⟩), undef, .pointer (some ⟨Bx, 0, none⟩), .pointer (some ⟨b, 0, none⟩), .func (.func 191) #[] #[.pointer (some ⟨w.heap.size + 1 + 1, 0, none⟩)], .int .i64 (x.1.1 : Int), .agg #[.int .i64 x.1.2.1, .int .i64 x.1.2.2.1, .int .i64 x.1.2.2.2], undef, undef, undef, undef, undef, undef, undef, undef, undef], defers := [] })
  (fun x a' _ X Y row hs hg hr => by obtain ⟨Bx, h1, h2, h3⟩ := hs; exact ⟨Bx, h1, InfoAt.own () X Y row h2 hg hr, h3⟩)
  ?assign ?body ?done ?stop
 case assign =>
  rintro l pre x W K ⟨⟨i1, i2, i3⟩, iB⟩ hK
  have hszW := iB.size
  have hw2 := i2.lt
  dsimp only [spV]
  gi_wp2
  refine hK _ _ ((KeepsOthers.alloc _ _).from _) ((Below.refl _ W).alloc hszW _) ⟨⟨i1.alloc _, i2.alloc _, i3⟩, iB.alloc hszW _⟩ ⟨W.heap.size, by omega, World.alloc_heap_new W _, rfl⟩
 case body =>
  rintro l pre x a' W hl _ ⟨⟨i1, i2, i3⟩, iB⟩ ⟨Bx, hBx, hI, rfl⟩ hlt
  obtain ⟨q0, q1, q2⟩ := hI.cell
  have c1 := i1.cell
  have f1 := i1.frozen
  have c2 := i2.cell
  have f2 := i2.frozen
  have hsn := apL_snoc (raw pre) x.1
  rw [← raw_snoc] at hsn
  generalize pre ++ [x] = pn at *
  obtain ⟨⟨p, K, L, C⟩, hx⟩ := x
  dsimp only at hsn q0 q1 q2 ⊢
  clear hI hx
  unfold apS at hsn
  rw [i3] at hsn
  generalize hwas : (apL (raw pre)).1 = wv at *
  by_cases hK : K = 1
  ·by_cases hw : wv = 1
   ·rw [hK, hw] at hsn
    subst hK hw
    gi_wp2
    exact ⟨(KeepsOthers.setCell _ _ _).from _, ⟨i1.set _, rfl, by rw [hsn]; rfl⟩, iB.setCell (p := ⟨w.heap.size, 0, none⟩) (Nat.le_refl _) _⟩
   ·have hwb : (wv == 1) = false := by simpa using hw
    rw [hwb] at hsn
    subst hK
    gi_wp2
    exact ⟨(KeepsOthers.setCell _ _ _).from _, (Below.refl _ W).setCell (p := ⟨w.heap.size + 1, 0, none⟩) (by show w.heap.size ≤ w.heap.size + 1; omega) _, ⟨i1.other (by omega) _, by rw [hsn]; exact i2.set _, by rw [hsn]; simp⟩, iB.setCell (p := ⟨w.heap.size + 1, 0, none⟩) (by show w.heap.size ≤ w.heap.size + 1; omega) _⟩
  ·have hKb : (K == 1) = false := by simpa using hK
   rw [hKb] at hsn
   gi_wp2
   exact ⟨(KeepsOthers.setCell _ _ _).from _, (Below.refl _ W).setCell (p := ⟨w.heap.size + 1, 0, none⟩) (by show w.heap.size ≤ w.heap.size + 1; omega) _, ⟨i1.other (by omega) _, by rw [hsn]; exact i2.set _, by rw [hsn]; simp⟩, iB.setCell (p := ⟨w.heap.size + 1, 0, none⟩) (by show w.heap.size ≤ w.heap.size + 1; omega) _⟩
 case done =>
  rintro D ys W hD hys ⟨⟨i1, i2, i3⟩, iB⟩ hK
  rw [hys] at i2 i3
  have c1 := i1.cell
  have f1 := i1.frozen
  gi_wp2
  have hK' := (KeepsOthers.setCell W ⟨w.heap.size, 0, none⟩ (.bool true)).same D _ hK rfl
  refine ⟨by simp, .inl ⟨_, _, rfl, run_takeDeferred hK', ?_⟩⟩
  have hc5 := cell_kept (i1.set (.bool true)).cell (grownBy_putObj' _ D (.deferred none)) (fun r e => by cases e; exact ⟨_, hK', rfl⟩)
  refine ⟨.bool true, ?_, ?_, (iB.setCell (p := ⟨w.heap.size, 0, none⟩) (Nat.le_refl _) _).trans (belowK_b (w := w) (Nat.le_refl _) _ D _ _ (by omega) hK' rfl rfl)⟩
  ·simp [results, Tryz.f105, go_sem, hc5]
  ·exact ret_bool i3.symm
 case stop =>
  rintro D cd pre W hD ⟨k, hk, hpre⟩ ⟨⟨i1, rfl, i3⟩, iB⟩ hK
  rw [hpre] at i3
  have c1 := i1.cell
  gi_wp2
  refine ⟨by simp, .inl ⟨_, _, rfl, run_takeDeferred hK, ?_⟩⟩
  have hc5 := cell_kept i1.cell (grownBy_putObj' _ D (.deferred none)) (fun r e => by cases e; exact ⟨_, hK, rfl⟩)
  refine ⟨.bool false, ?_, ?_, iB.trans (belowK_b (w := w) (Nat.le_refl _) _ D _ _ (by omega) hK rfl rfl)⟩
  ·simp [results, Tryz.f105, go_sem, hc5]
  ·exact ret_bool (apL_false hk i3).symm
end
end Go.Proofs.YtcbikgafdclhaaaGreat
/- regions that draw, in a walk by a fence, outside a round. -/
set_option linter.unusedSimpArgs false
set_option linter.unusedVariables false
namespace Go.Proofs.YtcbikgafdclhaaaGreat
open Go.RowKit
section
variable {P : Program} {ops : Array Oper} {Q : Exit → Act → World → Prop} {md : Region.Mode} {n : Nat}
theorem wideDepth0 : Fence.wide.depth.isSome = true → 1 ≤ n := fun h => by
 have : Fence.wide.depth = none := rfl
 rw [this] at h
 simp at h
theorem wpOpIn_of_wpOp0 (hnd : ops.all noDefer = true) (hQ : ¬ LetsOut Q) {i : Nat} {K : Act → World → Prop} {a : Act} {w : World} (h : wpOp P ops Q i K a w) : wpOpIn Fence.wide n P ops Q i K a w := by
 unfold wpOp at h
 unfold wpOpIn
 cases ho : ops[i]? with
 | none => simpa [ho] using h
 | some o =>
  simp only [ho] at h ⊢
  have hno : noDefer o = true := by
   obtain ⟨hi, e⟩ := Array.getElem?_eq_some_iff.1 ho
   rw [← e]
   exact (Array.all_eq_true.1 hnd) i hi
  split
  ·rename_i hw
   simp only [hw, if_true] at h
   rcases h with h | ⟨-, h⟩
   ·refine ⟨fun _ _ => trivial, ?_⟩
    unfold Oper.wp at h
    rw [show Fence.wide.round = none from rfl, Oper.semAt_none]
    generalize (execOp a.eval o).run P w = r at *
    cases r with
    | ok x w' =>
     cases x with
     | value v => exact h
     | skip => exact h
     | defer d => exact h
     | enter f args => exact ⟨wideDepth0, callsIn_wide.2 h⟩
     | row row args =>
      refine ⟨wideDepth0, fun c cs _ => ?_⟩
      obtain ⟨v, w2, hR, hs⟩ := h c cs
      exact ⟨v, w2, hR, stepsIn_wide.2 hs⟩
     | round l f tmps assign body => exact (h : False).elim
     | _ => exact (h : False).elim
    | halt x w' =>
     cases x <;> first | exact h | exact (h : False).elim
   ·exact absurd h hQ
  ·rename_i hw
   simp only [hw] at h
   exact ⟨fun _ _ => trivial, h⟩
theorem wpAnyIn_of_wpAny0 (hnd : ops.all noDefer = true) (hQ : ¬ LetsOut Q) : ∀ (fuel : Nat) (listed : Array Bool) (a : Act) (w : World), wpAny P md ops Q fuel listed a w → wpAnyIn Fence.wide n P md ops Q fuel listed a w
 | 0, _, _, _, h => h
 | fuel + 1, _, _, _, h => ⟨h.1, fun i hi => wpOpIn_mono (fun a' w' h' => wpAnyIn_of_wpAny0 hnd hQ fuel _ a' w' h') (wpOpIn_of_wpOp0 hnd hQ (h.2 i hi))⟩
theorem wpIn_region_held_drew0 {S : World → Prop} {id : Nat} {a : Act} {w : World} (hm : P.follows .mixedOrders = true) (hnd : ops.all noDefer = true) (hS : S w.drew)
 (h : S w.drew → wpAnyH P .any ops (NoPanic (Only Q)) S ops.size (Array.replicate ops.size false) a w.drew) : (Code.region id ops true).wpIn Fence.wide n P Q a w :=
 wpIn_mono (wpIn_region_any hm (wpAnyIn_of_wpAny0 hnd noOut _ _ _ _ (wpAny_of_held _ _ _ _ (h hS)))) fun e a w hq => Only.imp e a w (NoPanic.imp e a w hq)
end
end Go.Proofs.YtcbikgafdclhaaaGreat
/- bytes as words: the program's. -/
set_option linter.unusedSimpArgs false
set_option linter.unusedVariables false
namespace Go.Proofs.YtcbikgafdclhaaaGreat
open Go.RowKit
attribute [local go_sem] Oper.semAt_some

theorem pchunk_any (w : World) (a : Option Addr) (n c : Nat) :
 Calls Tryz.prog 23 #[.slice a n c, .int .i64 8] w fun e w' => e = .returned (.func (.func 42) #[] #[.pointer (some ⟨w.heap.size, 0, none⟩), .pointer (some ⟨w.heap.size + 1, 0, none⟩)]) ∧ w' = (w.alloc (.cells #[.slice a n c] 23)).alloc (.cells #[.int .i64 8] 3) := by
 go_enter Tryz.func23, Tryz.ntmps23
 go_wp2
 go_ret
 exact ⟨rfl, rfl⟩
def chV (ad : Addr) (q : Nat) : Array Value := #[.slice (some (ad.add (8 * q))) 8 8]
abbrev ChT (n : Nat) := { q : Nat // q < n }
def rawC {n : Nat} (pre : List (ChT n)) : List Nat := pre.map Subtype.val
theorem rawC_snoc {n : Nat} (pre : List (ChT n)) (x : ChT n) : rawC (pre ++ [x]) = rawC pre ++ [x.1] := by simp [rawC]
def chF (bs : List Int) (q : Nat) : Int := wordOf ((bs.drop (8 * q)).take 8)
theorem chunks_range (n : Nat) (bs : List Int) : chunks n bs = (List.range n).map (chF bs) := by
 apply List.ext_getElem?
 intro j
 by_cases hj : j < n
 ·rw [chunks_get n bs j hj]; simp [chF, hj]
 ·rw [List.getElem?_eq_none (by rw [chunks_len]; omega), List.getElem?_eq_none (by simp; omega)]
def KpC (n B C : Nat) (A D : World) : Prop := Below n A D ∧ D.heap[B]? = A.heap[B]? ∧ D.heap[C]? = A.heap[C]?
theorem kpC_t {n B C : Nat} {A D E : World} (h : KpC n B C A D) (k : KpC n B C D E) : KpC n B C A E := ⟨belowK_t h.1 k.1, k.2.1.trans h.2.1, k.2.2.trans h.2.2⟩
theorem kpC_b {w : World} {n B C : Nat} (hn : n ≤ w.heap.size) (hB : B < w.heap.size) (hC : C < w.heap.size) (W : World) (l : Nat) (o o' : Obj) (hl : w.heap.size ≤ l) (h1 : W.heap[l]? = some o) (h2 : o.isCells = false) (h3 : o.isWalk = false) : KpC n B C W (W.putObj l o') :=
 ⟨belowK_b hn W l o o' hl h1 h2 h3, World.putObj_heap_other (by omega), World.putObj_heap_other (by omega)⟩
theorem slice1_8 (W : World) (ad : Addr) (n c l : Nat) (x : Int) (hx : x = (l : Int)) (h1 : l ≤ n) (h2 : n ≤ c) :
 (Instr.slice 23 (.slice (some ad) n c) (some (.int .i64 x)) none none).run Tryz.prog W = .ok (.slice (some (if c = l then ad else ad.add l)) (n - l) (c - l)) W := by
 subst hx
 have ht : Tryz.prog.underlying 23 = some (.slice (Tryz.prog.elem 23)) := by simp [Program.elem, Tryz.underlying23]
 have he : Tryz.prog.elem 23 = 5 := by simp [Program.elem, Tryz.underlying23]
 rw [run_slice_l W _ _ _ _ ht .i64 _ (by omega) (by omega), he]
 have hs : (Go.sizeOf 5).run Tryz.prog W = .ok 1 W := by kernel_rfl
 rw [hs]
 simp only [Result.andThen, sliced, Int.toNat_natCast, Nat.mul_one]
 by_cases h0 : c = l <;> simp [h0]
theorem slice3_8 (W : World) (ad : Addr) (n c l h : Nat) (x y : Int) (hx : x = (l : Int)) (hy : y = (h : Int)) (h1 : l < h) (h2 : h ≤ c) :
 (Instr.slice 23 (.slice (some ad) n c) (some (.int .i64 x)) (some (.int .i64 y)) (some (.int .i64 y))).run Tryz.prog W = .ok (.slice (some (ad.add l)) (h - l) (h - l)) W := by
 subst hx hy
 have ht : Tryz.prog.underlying 23 = some (.slice (Tryz.prog.elem 23)) := by simp [Program.elem, Tryz.underlying23]
 have he : Tryz.prog.elem 23 = 5 := by simp [Program.elem, Tryz.underlying23]
 rw [run_slice_lhm W _ _ _ _ ht .i64 .i64 .i64 _ _ _ (by omega) (by omega) (by omega) (by omega), he]
 have hs : (Go.sizeOf 5).run Tryz.prog W = .ok 1 W := by kernel_rfl
 rw [hs]
 have h0 : ¬ h = l := by omega
 simp [Result.andThen, sliced, h0]
set_option maxHeartbeats 2000000 in
set_option maxRecDepth 100000 in
theorem chunk1_in (n : Nat) (hn : 1 ≤ n) (l Bs Bn n₀ : Nat) (a : Option Addr) (ad : Addr) (N c : Nat) (ha : 0 < N → a = some ad) (hN : N ≤ 65536) (hcap : 8 * N ≤ c) (J Jx : List (ChT N) → World → Prop)
 (hY : ∀ pre x W, J pre W → pre.length < N → YieldAt Fence.wide (n - 1) Tryz.prog l (chV ad x.1) W fun e W' =>
  (e = .returned (.bool true) ∧ J (pre ++ [x]) W' ∧ KpC n₀ Bs Bn W W') ∨ (e = .returned (.bool false) ∧ Jx (pre ++ [x]) W'))
 (W : World) (hJ : AbidesFrom W.heap.size J) (hBs : W.cell? ⟨Bs, 0, none⟩ = some (.slice a (8 * N) c)) (hBn : W.cell? ⟨Bn, 0, none⟩ = some (.int .i64 8)) (h0 : J [] W) :
 CallsIn Fence.wide n Tryz.prog 42 #[.func (.yield l) #[] #[], .pointer (some ⟨Bs, 0, none⟩), .pointer (some ⟨Bn, 0, none⟩)] W fun e W' => (∃ v, e = .returned v) ∧
  ((∃ ys : List (ChT N), rawC ys = List.range N ∧ J ys W') ∨ (∃ pre : List (ChT N), (∃ k, k ≤ N ∧ rawC pre = List.range k) ∧ Jx pre W')) := by
 refine callsIn_of_wp Tryz.func42 rfl trivial ?_ rfl
 simp only [Tryz.ntmps42, List.size_toArray, List.length_cons, List.length_nil, Nat.reduceAdd, Nat.reduceSub, Array.replicate_succ, Array.replicate_zero, List.push_toArray, List.append_toArray, List.nil_append, List.cons_append]
 gi_wp2
 gi_loopw [4, 5] (fun v4 _ wr => ∃ (k : Nat) (pre : List (ChT N)), k ≤ N ∧ v4 = .int .i64 (8 * k : Nat) ∧ rawC pre = List.range k ∧ J pre wr ∧ KpC n₀ Bs Bn W wr)
  (fun v4 _ _ => 8 * N - (intOf v4).toNat)
 case atStart => exact ⟨0, [], Nat.zero_le _, rfl, rfl, h0, Below.refl _ _, rfl, rfl⟩
 case round =>
  obtain ⟨k, pre, hk, rfl, hpre, hJs, hkp⟩ := hrel
  have hpl : pre.length = k := by
   have h1 : (rawC pre).length = pre.length := by simp [rawC]
   rw [← h1, hpre]; simp
  have q0 := (World.cell?_of_block (a := ⟨Bs, 0, none⟩) hkp.2.1).trans hBs
  have q1 := (World.cell?_of_block (a := ⟨Bn, 0, none⟩) hkp.2.2).trans hBn
  by_cases hlt : k < N
  ·obtain rfl := ha (by omega)
   obtain ⟨i, hi⟩ : ∃ i : Nat, 8 * k = i := ⟨_, rfl⟩
   obtain ⟨M, hM⟩ : ∃ M : Nat, 8 * N = M := ⟨_, rfl⟩
   have hiM : i + 8 ≤ M := by omega
   have hiMi : (i : Int) < M := by omega
   have hsl := fun W => slice1_8 W ad M c i (i : Int) rfl (by omega) (by omega)
   have hs3 := fun W => slice3_8 W ad M c i (i + 8) (i : Int) ((i : Int) + 8) rfl (by omega) (by omega) (by omega)
   rw [show i + 8 - i = 8 by omega] at hs3
   obtain ⟨m, hm⟩ : ∃ m : Nat, M - i = m := ⟨_, rfl⟩
   have hm8 : (8 : Int) ≤ m := by omega
   have hmin : min (8 : Int) (m : Int) = 8 := by omega
   have hwr1 : IntKind.i64.wrap ((i : Int) + 8) = (i : Int) + 8 := wrap_in _ (by omega)
   rw [hm] at hsl
   rw [hM] at q0
   have HI := Lib.hid hi
   have HM := Lib.hid hM
   have HPre := Lib.hid hpre
   have HKp := Lib.hid hkp
   have HPl := Lib.hid hpl
   rw [hi, hM]
   have HJd : Hid (J pre wr.drew) := Lib.hid (hJ _ _ wr.drew none hJs ⟨rfl, rfl, rfl, Nat.le_refl _, fun _ _ _ => rfl⟩ (fun r e => by cases e))
   generalize (if c = i then ad else ad.add i) = ad1 at *
   clear hm hpre hkp hpl hk hi hM hJs
   gi_wp2
   refine wpIn_region_held_drew0 (S := fun w' => w'.cell? ⟨Bs, 0, none⟩ = some (.slice (some ad) M c) ∧ w'.cell? ⟨Bn, 0, none⟩ = some (.int .i64 8)) (by kernel_rfl) (by kernel_rfl) ?_ (fun hHeld => ?_)
   ·exact ⟨q0, q1⟩
   refine wT 0 ?_
   refine wT 1 ?_
   refine wT 2 ?_
   refine wT 3 ?_
   refine wT 4 ?_
   refine wT 5 ?_
   refine wT 6 ?_
   refine wpAnyH_done (by kernel_rfl) (NoPanic.normal ?_) _
   refine Only.normal ?_
   have q0d : wr.drew.cell? ⟨Bs, 0, none⟩ = some (.slice (some ad) M c) := q0
   have q1d : wr.drew.cell? ⟨Bn, 0, none⟩ = some (.int .i64 8) := q1
   have hkN : k < N := hlt
   obtain ⟨fn, tmps, assign, body, hy, hR⟩ := hY pre ⟨k, hkN⟩ _ HJd.out (by rw [HPl.out]; exact hkN)
   dsimp only [chV] at hy
   rw [HI.out] at hy
   have HKd : Hid (KpC n₀ Bs Bn W wr.drew) := Lib.hid ⟨belowK_t HKp.out.1 (Below.refl _ _).drew, HKp.out.2.1, HKp.out.2.2⟩
   clear hHeld hmin
   gi_wp2
   refine hR.mono ?_
   rintro e W3 (⟨rfl, hJ3, hk3⟩ | ⟨rfl, hJx3⟩)
   ·have HK3 := Lib.hid (kpC_t HKd.out hk3)
    have q1e := (World.cell?_of_block (a := ⟨Bn, 0, none⟩) hk3.2.2).trans q1d
    gi_wp2
    go_roundw
    case rel => exact ⟨k + 1, _, by omega, by rw [show 8 * (k + 1) = i + 8 by have := HI.out; omega]; go_num, by rw [rawC_snoc, HPre.out, List.range_succ], hJ3, HK3.out⟩
    case measure => have := HM.out; simp [intOf]; omega
   ·gi_wp2
    refine bodyPost_ret (results_none rfl _ _ _) rfl ?_
    exact ⟨⟨_, rfl⟩, .inr ⟨_, ⟨k + 1, by omega, by rw [rawC_snoc, HPre.out, List.range_succ]⟩, hJx3⟩⟩
  ·have hkN : k = N := by omega
   subst hkN
   gi_wp2
   go_end0
   exact ⟨⟨_, rfl⟩, .inl ⟨_, hpre, hJs⟩⟩
theorem chunk_stops (n : Nat) (hn : 1 ≤ n) (Bs Bn n₀ : Nat) (a : Option Addr) (ad : Addr) (N c : Nat) (ha : 0 < N → a = some ad) (hN : N ≤ 65536) (hcap : 8 * N ≤ c) (w : World) (h1 : Bs < w.heap.size) (h2 : Bn < w.heap.size)
 (hBs : w.cell? ⟨Bs, 0, none⟩ = some (.slice a (8 * N) c)) (hBn : w.cell? ⟨Bn, 0, none⟩ = some (.int .i64 8)) :
 SeqStopsK Fence.wide n Tryz.prog 42 #[.pointer (some ⟨Bs, 0, none⟩), .pointer (some ⟨Bn, 0, none⟩)] (fun x : ChT N => chV ad x.1) (KpC n₀ Bs Bn) (fun ys => rawC ys = List.range N) (fun pre => ∃ k, k ≤ N ∧ rawC pre = List.range k) N w := fun l J Jx W hW hJ _ hY h0 =>
 chunk1_in n hn l Bs Bn n₀ a ad N c ha hN hcap J Jx hY W hJ ((hW.cell (p := ⟨Bs, 0, none⟩) h1).trans hBs) ((hW.cell (p := ⟨Bn, 0, none⟩) h2).trans hBn) h0
end Go.Proofs.YtcbikgafdclhaaaGreat
