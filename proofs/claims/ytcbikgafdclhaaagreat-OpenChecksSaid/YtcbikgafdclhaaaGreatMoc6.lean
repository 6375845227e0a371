/- parts of the proof, merged by a program. -/
import Derived.Test.YtcbikgafdclhaaaGreatMoc3
set_option linter.unusedSimpArgs false
set_option linter.unusedVariables false
/- the document's audit: feet. -/
set_option linter.unusedSimpArgs false
set_option linter.unusedVariables false
namespace Go.Proofs.YtcbikgafdclhaaaGreat
open Go.RowKit
section
variable {t p s : Int} {ad : Addr} {n c : Nat} {vs : List Int}

def advN (l : List Int) (m : Nat) (q : Int) : Nat := if l[m + 1]? = some q then m + 1 else m
def wantF (vs : List Int) (t : Int) (l : List Int) (m : Nat) (q : Int) : Int := if q = l.getD m 0 + iL (gv vs t (l.getD m 0) 0) - 1 then l.getD m 0 + 1 else 0
def feetN (vs : List Int) (t : Int) (l : List Int) : Nat → Option Nat
 | 0 => some 0
 | q + 1 => match feetN vs t l q with
  | none => none
  | some m => if gv vs t (q : Int) 1 = wantF vs t l (advN l m q) q then some (advN l m q) else none
def feetF (vs : List Int) (t p : Int) : Bool := (feetN vs t (startsF (fun q => gv vs t q 0) p).1 p.toNat).isSome
theorem feetN_no {vs : List Int} {t : Int} {l : List Int} {k N : Nat} (hk : k ≤ N) (h : feetN vs t l k = none) : feetN vs t l N = none := by
 induction N with
 | zero => obtain rfl : k = 0 := by omega
           exact h
 | succ N ih =>
  by_cases e : k = N + 1
  ·subst e; exact h
  ·unfold feetN; rw [ih (by omega)]
def FeetRel (vs : List Int) (t p : Int) (l : List Int) (W0 : World) (v5 v6 : Value) (wr : World) : Prop := ∃ q m : Nat, (q : Int) ≤ p ∧ v6 = .int .i64 q ∧ v5 = .int .i64 m ∧ m < l.length ∧ feetN vs t l q = some m ∧ Below W0.heap.size W0 wr

set_option maxHeartbeats 4000000 in
set_option maxRecDepth 100000 in
theorem feet_any (c : Nat) (w : World) (h : XV w t p s ad n vs) (hne : (startsF (fun q => gv vs t q 0) p).1 ≠ []) :
 Calls Tryz.prog 167 #[.agg #[.int .i64 t, .int .i64 p, .int .i64 s, .slice (some ad) n c]] w fun e w' => e = .returned (.bool (feetF vs t p)) ∧ Below w.heap.size w w' := by
 have X0 := h.boxed c
 have bd : 4 ≤ p ∧ p ≤ 1024 := by have := h.bd; omega
 have HS := Lib.hid (fun (w : World) (h : XV w t p s ad n vs) => starts_any c w h)
 have HX : ∀ q, 0 ≤ q → q < p → ∃ k : Nat, k < n ∧ (∀ w, Calls Tryz.prog 74 #[.agg #[.int .i64 t, .int .i64 p, .int .i64 s], .int .i64 q] w fun e w' => e = .returned (.int .i64 k) ∧ Below w.heap.size w w') ∧ w.cell? (ad.add k) = some (.int .u32 (gv vs t q 1)) := by
  intro q h0 h1
  obtain ⟨hx1, hx2⟩ := h.cx h0 h1 (part := 1) (by omega) (by omega)
  refine ⟨cix t q 1, hx1, fun w => ?_, h.cells _ hx1⟩
  have := rfoot_any t p s q w
  rwa [hx2] at this
 have HXX := Lib.hid HX
 obtain ⟨hm1, -, hlen⟩ := startsF_mem (g := fun q => gv vs t q 0) (p := p) (by omega)
 have HM := Lib.hid hm1
 have HI := Lib.hid (fun (q : Int) (w : World) (h : XV w t p s ad n vs) (h0 : 0 ≤ q) (h1 : q < p) => xinfo_any q c w h h0 h1)
 generalize hr : feetF vs t p = r
 have hr2 : (feetN vs t (startsF (fun q => gv vs t q 0) p).1 p.toNat).isSome = r := hr
 have HR := Lib.hid hr2
 have HLen := Lib.hid hlen
 clear h hr hr2 HX hm1 hlen
 generalize startsF (fun q => gv vs t q 0) p = st at *
 obtain ⟨l, lb⟩ := st
 have hl0 : 0 < l.length := List.length_pos_iff.2 hne
 clear hne
 go_enter Tryz.func167, Tryz.ntmps167
 go_wp2_with fail
 refine (HS.out _ X0.xv).mono ?_
 rintro e w1 ⟨lv, rfl, hlv⟩
 have X1 := X0.keep hlv.2.2
 obtain ⟨la, lc, rfl⟩ := hlv.row
 have HL := Lib.hid hlv
 clear hlv X0
 obtain ⟨x0, x1, x2, x3⟩ := X1.cells
 go_wp2_with fail
 go_loopw [5, 6, 7] (fun v5 v6 _ wr => FeetRel vs t p l w1 v5 v6 wr) (fun _ v6 _ _ => p.toNat - (intOf v6).toNat)
 case atStart => exact ⟨0, 0, by omega, rfl, rfl, hl0, rfl, Below.refl _ _⟩
 case round =>
  obtain ⟨q, m, hq, rfl, rfl, hml, htn, hbq⟩ := hrel
  have X3 := X1.keep hbq
  have HT := Lib.hid htn
  have HB := Lib.hid hbq
  clear htn hbq x0 x1 x2 x3
  obtain ⟨x0, x1, x2, x3⟩ := X3.cells
  have HLen2 := HLen.out
  have HBox := Lib.hid X3.box
  have hxl := X3.lt
  by_cases hqp : (q : Int) < p
  ·have hstep : feetN vs t l (q + 1) = if gv vs t (q : Int) 1 = wantF vs t l (advN l m q) q then some (advN l m q) else none := by
    show (match feetN vs t l q with
     | none => none
     | some m => if gv vs t (q : Int) 1 = wantF vs t l (advN l m q) q then some (advN l m q) else none) = _
    rw [HT.out]
   have HSt := Lib.hid hstep
   clear hstep
   obtain ⟨k, hkn, hI, hd0⟩ := HXX.out q (by omega) hqp
   have hd2 := (BS.mk X3.bel (by simp) : BS w [] wr).old hd0
   have HFt := Lib.hid hI
   clear hI hd0
   have hk1 : 0 ≤ (m : Int) + 1 := by omega
   by_cases hm : m + 1 < l.length
   ·obtain ⟨g, rfl, hx0⟩ := HL.out.cell hm
    have hx1 := (HB.out.cell (World.block_lt_of_cell? _ _ hx0)).trans hx0
    have hget : l[m + 1]? = some (l.getD (m + 1) 0) := by simp [hm]
    have hxa := hx1
    generalize hz : l.getD (m + 1) 0 = z at hxa hget
    clear hx0 hx1
    by_cases hzq : z = (q : Int)
    ·have hzb : (z == (q : Int)) = true := by simp [hzq]
     have hadv : advN l m q = m + 1 := by simp [advN, hget, hzq]
     have hwant : wantF vs t l (m + 1) q = if (q : Int) = l.getD (m + 1) 0 + iL (gv vs t (l.getD (m + 1) 0) 0) - 1 then l.getD (m + 1) 0 + 1 else 0 := rfl
     have m1 := HM.out (l.getD (m + 1) 0) (by simp [show m + 1 < l.length by omega])
     obtain ⟨g', hg', hc0⟩ := HL.out.cell (k := m + 1) (by omega)
     try (simp only [Option.some.injEq, Addr.mk.injEq, and_true] at hg'; subst hg')
     have hc1 := (HB.out.cell (World.block_lt_of_cell? _ _ hc0)).trans hc0
     generalize l.getD (m + 1) 0 = y at *
     subst hz; subst hzq
     have I1 := Lib.hid (fun (w : World) (h : XV w t p s ad n vs) => HI.out (q : Int) w h m1.1 m1.2)
     have bd9 := inf_bd (gv vs t (q : Int) 0)
     have b9 : 0 ≤ iL (gv vs t (q : Int) 0) ∧ iL (gv vs t (q : Int) 0) ≤ 1024 := by omega
     clear bd9 hc0
     generalize iK (gv vs t (q : Int) 0) = a1 at *
     generalize iL (gv vs t (q : Int) 0) = a2 at *
     generalize iC (gv vs t (q : Int) 0) = a3 at *
     generalize gv vs t (q : Int) 1 = u at *
     have hfa := fieldInfo1 (.int .i64 a1) (.int .i64 a2) (.int .i64 a3)
     have hwa : IntKind.i64.wrap ((q : Int) + a2) = (q : Int) + a2 := wrap_in _ (by omega)
     have hwb : IntKind.i64.wrap ((q : Int) + a2 - 1) = (q : Int) + a2 - 1 := wrap_in _ (by omega)
     by_cases h9 : (q : Int) = (q : Int) + a2 - 1
     ·have hb9 : ((q : Int) == (q : Int) + a2 - 1) = true := by simpa using h9
      rw [if_pos h9] at hwant
      by_cases hu : u = (q : Int) + 1
      ·have hub : (u != (q : Int) + 1) = false := by simp [hu]
       have hst : feetN vs t l (q + 1) = some (m + 1) := by rw [HSt.out, hadv, if_pos (by rw [hwant]; exact hu)]
       have HS2 := Lib.hid hst
       clear hst hu h9 hwant
       have hw32 : IntKind.u32.wrap ((q : Int) + 1) = (q : Int) + 1 := IntWalk.u32_in _ (by omega)
       go_wp2_with fail
       refine wp_region_noPanic ?_
       refine wp_region_held_drew (S := fun w' => BS wr ([] : List Nat) w' ∧ (∀ o : Nat, w'.cell? ⟨w.heap.size, o, none⟩ = (#[.int .i64 t, .int .i64 p, .int .i64 s, .slice (some ad) n c] : Array Value)[o]?) ∧ w'.cell? ⟨g, m + 1, none⟩ = some (.int .i64 (q : Int))) (by kernel_rfl) ?_ (fun hHeld => ?_)
       ·exact ⟨(BS.start wr).drew, HBox.out, hc1⟩
       refine wT 0 ?_
       refine wT 1 ?_
       refine wT 2 ?_
       refine wT 3 ?_
       refine wT 4 ?_
       refine wT 5 ?_
       refine wT 6 ?_
       refine wT 7 ?_
       refine wT 8 ?_
       refine wT 9 ?_
       refine wR 10 fun K hK => ?_
       go_simp
       refine (calls_b hHeld.1 (I1.out _ (X3.xv.keep hHeld.1.bel))).mono ?_
       rintro e wr1 ⟨rfl, hV, hVl⟩
       dsimp only
       refine hK.out _ _ ?_ (fun hHeld2 => ?_)
       ·exact ⟨hV, hV.oldbox HBox.out hxl, hV.old hc1⟩
       clear hK K hV hVl hHeld
       have hHeld := hHeld2
       clear hHeld2
       try simp only [Act.put, zA, zB, zC, zD, zE, zF]
       refine wT 11 ?_
       refine wT 12 ?_
       refine wT 13 ?_
       refine wT 14 ?_
       refine wpAnyH_done (by kernel_rfl) (NoPanic.normal ?_) _
       refine world_gen ?_
       intro wz hwz
       rw [← hwz] at hHeld
       clear hwz
       have X5 := X3.keep hHeld.1.bel
       have HBw := Lib.hid (HB.out.trans (hHeld.1.bel.mono HB.out.size))
       have hc5 := hHeld.1.old hc1
       have hd5 := hHeld.1.old hd2
       have hlt5 := X5.lt
       have HBox5 := Lib.hid X5.box
       obtain ⟨w0, w1', w2', w3'⟩ := X5.cells
       clear hHeld
       go_wp2_with fail
       refine wp_region_noPanic ?_
       refine wp_region_held_drew (S := fun w' => BS wz ([] : List Nat) w' ∧ (∀ o : Nat, w'.cell? ⟨w.heap.size, o, none⟩ = (#[.int .i64 t, .int .i64 p, .int .i64 s, .slice (some ad) n c] : Array Value)[o]?) ∧ w'.cell? (ad.add k) = some (.int .u32 u)) (by kernel_rfl) ?_ (fun hHeld => ?_)
       ·exact ⟨(BS.start wz).drew, HBox5.out, hd5⟩
       refine wT 0 ?_
       refine wT 1 ?_
       refine wT 2 ?_
       refine wT 3 ?_
       refine wT 4 ?_
       refine wT 8 ?_
       refine wR 5 fun K hK => ?_
       go_simp
       refine (calls_b hHeld.1 (HFt.out _)).mono ?_
       rintro e wr1 ⟨rfl, hV, hVl⟩
       dsimp only
       refine hK.out _ _ ?_ (fun hHeld2 => ?_)
       ·exact ⟨hV, hV.oldbox HBox5.out hlt5, hV.old hd5⟩
       clear hK K hV hVl hHeld
       have hHeld := hHeld2
       clear hHeld2
       try simp only [Act.put, zA, zB, zC, zD, zE, zF]
       refine wT 6 ?_
       refine wT 7 ?_
       refine wT 9 ?_
       refine wpAnyH_done (by kernel_rfl) (NoPanic.normal ?_) _
       refine world_gen ?_
       intro wz hwz
       rw [← hwz] at hHeld
       clear hwz
       have hbz := HBw.out.trans (hHeld.1.bel.mono HBw.out.size)
       clear hHeld
       go_wp2_with fail
       go_roundw
       case rel => exact ⟨q + 1, m + 1, by omega, by go_num, by go_num, by omega, HS2.out, hbz⟩
       case measure => simp [intOf]; omega
      ·have hub : (u != (q : Int) + 1) = true := by simp [hu]
       have hst : feetN vs t l (q + 1) = none := by rw [HSt.out, hadv, if_neg (by rw [hwant]; exact hu)]
       have hres : r = false := by rw [← HR.out, feetN_no (k := q + 1) (by omega) hst]; rfl
       subst hres
       clear hst hu h9 hwant
       have hw32 : IntKind.u32.wrap ((q : Int) + 1) = (q : Int) + 1 := IntWalk.u32_in _ (by omega)
       go_wp2_with fail
       refine wp_region_noPanic ?_
       refine wp_region_held_drew (S := fun w' => BS wr ([] : List Nat) w' ∧ (∀ o : Nat, w'.cell? ⟨w.heap.size, o, none⟩ = (#[.int .i64 t, .int .i64 p, .int .i64 s, .slice (some ad) n c] : Array Value)[o]?) ∧ w'.cell? ⟨g, m + 1, none⟩ = some (.int .i64 (q : Int))) (by kernel_rfl) ?_ (fun hHeld => ?_)
       ·exact ⟨(BS.start wr).drew, HBox.out, hc1⟩
       refine wT 0 ?_
       refine wT 1 ?_
       refine wT 2 ?_
       refine wT 3 ?_
       refine wT 4 ?_
       refine wT 5 ?_
       refine wT 6 ?_
       refine wT 7 ?_
       refine wT 8 ?_
       refine wT 9 ?_
       refine wR 10 fun K hK => ?_
       go_simp
       refine (calls_b hHeld.1 (I1.out _ (X3.xv.keep hHeld.1.bel))).mono ?_
       rintro e wr1 ⟨rfl, hV, hVl⟩
       dsimp only
       refine hK.out _ _ ?_ (fun hHeld2 => ?_)
       ·exact ⟨hV, hV.oldbox HBox.out hxl, hV.old hc1⟩
       clear hK K hV hVl hHeld
       have hHeld := hHeld2
       clear hHeld2
       try simp only [Act.put, zA, zB, zC, zD, zE, zF]
       refine wT 11 ?_
       refine wT 12 ?_
       refine wT 13 ?_
       refine wT 14 ?_
       refine wpAnyH_done (by kernel_rfl) (NoPanic.normal ?_) _
       refine world_gen ?_
       intro wz hwz
       rw [← hwz] at hHeld
       clear hwz
       have X5 := X3.keep hHeld.1.bel
       have HBw := Lib.hid (HB.out.trans (hHeld.1.bel.mono HB.out.size))
       have hc5 := hHeld.1.old hc1
       have hd5 := hHeld.1.old hd2
       have hlt5 := X5.lt
       have HBox5 := Lib.hid X5.box
       obtain ⟨w0, w1', w2', w3'⟩ := X5.cells
       clear hHeld
       go_wp2_with fail
       refine wp_region_noPanic ?_
       refine wp_region_held_drew (S := fun w' => BS wz ([] : List Nat) w' ∧ (∀ o : Nat, w'.cell? ⟨w.heap.size, o, none⟩ = (#[.int .i64 t, .int .i64 p, .int .i64 s, .slice (some ad) n c] : Array Value)[o]?) ∧ w'.cell? (ad.add k) = some (.int .u32 u)) (by kernel_rfl) ?_ (fun hHeld => ?_)
       ·exact ⟨(BS.start wz).drew, HBox5.out, hd5⟩
       refine wT 0 ?_
       refine wT 1 ?_
       refine wT 2 ?_
       refine wT 3 ?_
       refine wT 4 ?_
       refine wT 8 ?_
       refine wR 5 fun K hK => ?_
       go_simp
       refine (calls_b hHeld.1 (HFt.out _)).mono ?_
       rintro e wr1 ⟨rfl, hV, hVl⟩
       dsimp only
       refine hK.out _ _ ?_ (fun hHeld2 => ?_)
       ·exact ⟨hV, hV.oldbox HBox5.out hlt5, hV.old hd5⟩
       clear hK K hV hVl hHeld
       have hHeld := hHeld2
       clear hHeld2
       try simp only [Act.put, zA, zB, zC, zD, zE, zF]
       refine wT 6 ?_
       refine wT 7 ?_
       refine wT 9 ?_
       refine wpAnyH_done (by kernel_rfl) (NoPanic.normal ?_) _
       refine world_gen ?_
       intro wz hwz
       rw [← hwz] at hHeld
       clear hwz
       have hbz := X5.keep hHeld.1.bel
       clear hHeld
       go_wp2
       go_ret
       exact ⟨rfl, hbz.bel⟩
     ·have hb9 : ((q : Int) == (q : Int) + a2 - 1) = false := by simpa using h9
      rw [if_neg h9] at hwant
      by_cases hu : u = 0
      ·have hub : (u != 0) = false := by simp [hu]
       have hst : feetN vs t l (q + 1) = some (m + 1) := by rw [HSt.out, hadv, if_pos (by rw [hwant]; exact hu)]
       have HS2 := Lib.hid hst
       clear hst hu h9 hwant
       go_wp2_with fail
       refine wp_region_noPanic ?_
       refine wp_region_held_drew (S := fun w' => BS wr ([] : List Nat) w' ∧ (∀ o : Nat, w'.cell? ⟨w.heap.size, o, none⟩ = (#[.int .i64 t, .int .i64 p, .int .i64 s, .slice (some ad) n c] : Array Value)[o]?) ∧ w'.cell? ⟨g, m + 1, none⟩ = some (.int .i64 (q : Int))) (by kernel_rfl) ?_ (fun hHeld => ?_)
       ·exact ⟨(BS.start wr).drew, HBox.out, hc1⟩
       refine wT 0 ?_
       refine wT 1 ?_
       refine wT 2 ?_
       refine wT 3 ?_
       refine wT 4 ?_
       refine wT 5 ?_
       refine wT 6 ?_
       refine wT 7 ?_
       refine wT 8 ?_
       refine wT 9 ?_
       refine wR 10 fun K hK => ?_
       go_simp
       refine (calls_b hHeld.1 (I1.out _ (X3.xv.keep hHeld.1.bel))).mono ?_
       rintro e wr1 ⟨rfl, hV, hVl⟩
       dsimp only
       refine hK.out _ _ ?_ (fun hHeld2 => ?_)
       ·exact ⟨hV, hV.oldbox HBox.out hxl, hV.old hc1⟩
       clear hK K hV hVl hHeld
       have hHeld := hHeld2
       clear hHeld2
       try simp only [Act.put, zA, zB, zC, zD, zE, zF]
       refine wT 11 ?_
       refine wT 12 ?_
       refine wT 13 ?_
       refine wT 14 ?_
       refine wpAnyH_done (by kernel_rfl) (NoPanic.normal ?_) _
       refine world_gen ?_
       intro wz hwz
       rw [← hwz] at hHeld
       clear hwz
       have X5 := X3.keep hHeld.1.bel
       have HBw := Lib.hid (HB.out.trans (hHeld.1.bel.mono HB.out.size))
       have hc5 := hHeld.1.old hc1
       have hd5 := hHeld.1.old hd2
       have hlt5 := X5.lt
       have HBox5 := Lib.hid X5.box
       obtain ⟨w0, w1', w2', w3'⟩ := X5.cells
       clear hHeld
       go_wp2_with fail
       refine wp_region_noPanic ?_
       refine wp_region_held_drew (S := fun w' => BS wz ([] : List Nat) w' ∧ (∀ o : Nat, w'.cell? ⟨w.heap.size, o, none⟩ = (#[.int .i64 t, .int .i64 p, .int .i64 s, .slice (some ad) n c] : Array Value)[o]?) ∧ w'.cell? (ad.add k) = some (.int .u32 u)) (by kernel_rfl) ?_ (fun hHeld => ?_)
       ·exact ⟨(BS.start wz).drew, HBox5.out, hd5⟩
       refine wT 0 ?_
       refine wT 1 ?_
       refine wT 2 ?_
       refine wT 3 ?_
       refine wT 4 ?_
       refine wT 8 ?_
       refine wR 5 fun K hK => ?_
       go_simp
       refine (calls_b hHeld.1 (HFt.out _)).mono ?_
       rintro e wr1 ⟨rfl, hV, hVl⟩
       dsimp only
       refine hK.out _ _ ?_ (fun hHeld2 => ?_)
       ·exact ⟨hV, hV.oldbox HBox5.out hlt5, hV.old hd5⟩
       clear hK K hV hVl hHeld
       have hHeld := hHeld2
       clear hHeld2
       try simp only [Act.put, zA, zB, zC, zD, zE, zF]
       refine wT 6 ?_
       refine wT 7 ?_
       refine wT 9 ?_
       refine wpAnyH_done (by kernel_rfl) (NoPanic.normal ?_) _
       refine world_gen ?_
       intro wz hwz
       rw [← hwz] at hHeld
       clear hwz
       have hbz := HBw.out.trans (hHeld.1.bel.mono HBw.out.size)
       clear hHeld
       go_wp2_with fail
       go_roundw
       case rel => exact ⟨q + 1, m + 1, by omega, by go_num, by go_num, by omega, HS2.out, hbz⟩
       case measure => simp [intOf]; omega
      ·have hub : (u != 0) = true := by simp [hu]
       have hst : feetN vs t l (q + 1) = none := by rw [HSt.out, hadv, if_neg (by rw [hwant]; exact hu)]
       have hres : r = false := by rw [← HR.out, feetN_no (k := q + 1) (by omega) hst]; rfl
       subst hres
       clear hst hu h9 hwant
       go_wp2_with fail
       refine wp_region_noPanic ?_
       refine wp_region_held_drew (S := fun w' => BS wr ([] : List Nat) w' ∧ (∀ o : Nat, w'.cell? ⟨w.heap.size, o, none⟩ = (#[.int .i64 t, .int .i64 p, .int .i64 s, .slice (some ad) n c] : Array Value)[o]?) ∧ w'.cell? ⟨g, m + 1, none⟩ = some (.int .i64 (q : Int))) (by kernel_rfl) ?_ (fun hHeld => ?_)
       ·exact ⟨(BS.start wr).drew, HBox.out, hc1⟩
       refine wT 0 ?_
       refine wT 1 ?_
       refine wT 2 ?_
       refine wT 3 ?_
       refine wT 4 ?_
       refine wT 5 ?_
       refine wT 6 ?_
       refine wT 7 ?_
       refine wT 8 ?_
       refine wT 9 ?_
       refine wR 10 fun K hK => ?_
       go_simp
       refine (calls_b hHeld.1 (I1.out _ (X3.xv.keep hHeld.1.bel))).mono ?_
       rintro e wr1 ⟨rfl, hV, hVl⟩
       dsimp only
       refine hK.out _ _ ?_ (fun hHeld2 => ?_)
       ·exact ⟨hV, hV.oldbox HBox.out hxl, hV.old hc1⟩
       clear hK K hV hVl hHeld
       have hHeld := hHeld2
       clear hHeld2
       try simp only [Act.put, zA, zB, zC, zD, zE, zF]
       refine wT 11 ?_
       refine wT 12 ?_
       refine wT 13 ?_
       refine wT 14 ?_
       refine wpAnyH_done (by kernel_rfl) (NoPanic.normal ?_) _
       refine world_gen ?_
       intro wz hwz
       rw [← hwz] at hHeld
       clear hwz
       have X5 := X3.keep hHeld.1.bel
       have HBw := Lib.hid (HB.out.trans (hHeld.1.bel.mono HB.out.size))
       have hc5 := hHeld.1.old hc1
       have hd5 := hHeld.1.old hd2
       have hlt5 := X5.lt
       have HBox5 := Lib.hid X5.box
       obtain ⟨w0, w1', w2', w3'⟩ := X5.cells
       clear hHeld
       go_wp2_with fail
       refine wp_region_noPanic ?_
       refine wp_region_held_drew (S := fun w' => BS wz ([] : List Nat) w' ∧ (∀ o : Nat, w'.cell? ⟨w.heap.size, o, none⟩ = (#[.int .i64 t, .int .i64 p, .int .i64 s, .slice (some ad) n c] : Array Value)[o]?) ∧ w'.cell? (ad.add k) = some (.int .u32 u)) (by kernel_rfl) ?_ (fun hHeld => ?_)
       ·exact ⟨(BS.start wz).drew, HBox5.out, hd5⟩
       refine wT 0 ?_
       refine wT 1 ?_
       refine wT 2 ?_
       refine wT 3 ?_
       refine wT 4 ?_
       refine wT 8 ?_
       refine wR 5 fun K hK => ?_
       go_simp
       refine (calls_b hHeld.1 (HFt.out _)).mono ?_
       rintro e wr1 ⟨rfl, hV, hVl⟩
       dsimp only
       refine hK.out _ _ ?_ (fun hHeld2 => ?_)
       ·exact ⟨hV, hV.oldbox HBox5.out hlt5, hV.old hd5⟩
       clear hK K hV hVl hHeld
       have hHeld := hHeld2
       clear hHeld2
       try simp only [Act.put, zA, zB, zC, zD, zE, zF]
       refine wT 6 ?_
       refine wT 7 ?_
       refine wT 9 ?_
       refine wpAnyH_done (by kernel_rfl) (NoPanic.normal ?_) _
       refine world_gen ?_
       intro wz hwz
       rw [← hwz] at hHeld
       clear hwz
       have hbz := X5.keep hHeld.1.bel
       clear hHeld
       go_wp2
       go_ret
       exact ⟨rfl, hbz.bel⟩
    ·have hzb : (z == (q : Int)) = false := by simp [hzq]
     have hadv : advN l m q = m := by simp [advN, hget, hzq]
     have hwant : wantF vs t l (m) q = if (q : Int) = l.getD (m) 0 + iL (gv vs t (l.getD (m) 0) 0) - 1 then l.getD (m) 0 + 1 else 0 := rfl
     have m1 := HM.out (l.getD (m) 0) (by simp [show m < l.length by omega])
     obtain ⟨g', hg', hc0⟩ := HL.out.cell (k := m) (by omega)
     try (simp only [Option.some.injEq, Addr.mk.injEq, and_true] at hg'; subst hg')
     have hc1 := (HB.out.cell (World.block_lt_of_cell? _ _ hc0)).trans hc0
     generalize l.getD (m) 0 = y at *

     have I1 := Lib.hid (fun (w : World) (h : XV w t p s ad n vs) => HI.out y w h m1.1 m1.2)
     have bd9 := inf_bd (gv vs t y 0)
     have b9 : 0 ≤ iL (gv vs t y 0) ∧ iL (gv vs t y 0) ≤ 1024 := by omega
     clear bd9 hc0
     generalize iK (gv vs t y 0) = a1 at *
     generalize iL (gv vs t y 0) = a2 at *
     generalize iC (gv vs t y 0) = a3 at *
     generalize gv vs t (q : Int) 1 = u at *
     have hfa := fieldInfo1 (.int .i64 a1) (.int .i64 a2) (.int .i64 a3)
     have hwa : IntKind.i64.wrap (y + a2) = y + a2 := wrap_in _ (by omega)
     have hwb : IntKind.i64.wrap (y + a2 - 1) = y + a2 - 1 := wrap_in _ (by omega)
     by_cases h9 : (q : Int) = y + a2 - 1
     ·have hb9 : ((q : Int) == y + a2 - 1) = true := by simpa using h9
      rw [if_pos h9] at hwant
      by_cases hu : u = y + 1
      ·have hub : (u != y + 1) = false := by simp [hu]
       have hst : feetN vs t l (q + 1) = some (m) := by rw [HSt.out, hadv, if_pos (by rw [hwant]; exact hu)]
       have HS2 := Lib.hid hst
       clear hst hu h9 hwant
       have hw32 : IntKind.u32.wrap (y + 1) = y + 1 := IntWalk.u32_in _ (by omega)
       go_wp2_with fail
       refine wp_region_noPanic ?_
       refine wp_region_held_drew (S := fun w' => BS wr ([] : List Nat) w' ∧ (∀ o : Nat, w'.cell? ⟨w.heap.size, o, none⟩ = (#[.int .i64 t, .int .i64 p, .int .i64 s, .slice (some ad) n c] : Array Value)[o]?) ∧ w'.cell? ⟨g, m, none⟩ = some (.int .i64 y)) (by kernel_rfl) ?_ (fun hHeld => ?_)
       ·exact ⟨(BS.start wr).drew, HBox.out, hc1⟩
       refine wT 0 ?_
       refine wT 1 ?_
       refine wT 2 ?_
       refine wT 3 ?_
       refine wT 4 ?_
       refine wT 5 ?_
       refine wT 6 ?_
       refine wT 7 ?_
       refine wT 8 ?_
       refine wT 9 ?_
       refine wR 10 fun K hK => ?_
       go_simp
       refine (calls_b hHeld.1 (I1.out _ (X3.xv.keep hHeld.1.bel))).mono ?_
       rintro e wr1 ⟨rfl, hV, hVl⟩
       dsimp only
       refine hK.out _ _ ?_ (fun hHeld2 => ?_)
       ·exact ⟨hV, hV.oldbox HBox.out hxl, hV.old hc1⟩
       clear hK K hV hVl hHeld
       have hHeld := hHeld2
       clear hHeld2
       try simp only [Act.put, zA, zB, zC, zD, zE, zF]
       refine wT 11 ?_
       refine wT 12 ?_
       refine wT 13 ?_
       refine wT 14 ?_
       refine wpAnyH_done (by kernel_rfl) (NoPanic.normal ?_) _
       refine world_gen ?_
       intro wz hwz
       rw [← hwz] at hHeld
       clear hwz
       have X5 := X3.keep hHeld.1.bel
       have HBw := Lib.hid (HB.out.trans (hHeld.1.bel.mono HB.out.size))
       have hc5 := hHeld.1.old hc1
       have hd5 := hHeld.1.old hd2
       have hlt5 := X5.lt
       have HBox5 := Lib.hid X5.box
       obtain ⟨w0, w1', w2', w3'⟩ := X5.cells
       clear hHeld
       go_wp2_with fail
       refine wp_region_noPanic ?_
       refine wp_region_held_drew (S := fun w' => BS wz ([] : List Nat) w' ∧ (∀ o : Nat, w'.cell? ⟨w.heap.size, o, none⟩ = (#[.int .i64 t, .int .i64 p, .int .i64 s, .slice (some ad) n c] : Array Value)[o]?) ∧ w'.cell? (ad.add k) = some (.int .u32 u)) (by kernel_rfl) ?_ (fun hHeld => ?_)
       ·exact ⟨(BS.start wz).drew, HBox5.out, hd5⟩
       refine wT 0 ?_
       refine wT 1 ?_
       refine wT 2 ?_
       refine wT 3 ?_
       refine wT 4 ?_
       refine wT 8 ?_
       refine wR 5 fun K hK => ?_
       go_simp
       refine (calls_b hHeld.1 (HFt.out _)).mono ?_
       rintro e wr1 ⟨rfl, hV, hVl⟩
       dsimp only
       refine hK.out _ _ ?_ (fun hHeld2 => ?_)
       ·exact ⟨hV, hV.oldbox HBox5.out hlt5, hV.old hd5⟩
       clear hK K hV hVl hHeld
       have hHeld := hHeld2
       clear hHeld2
       try simp only [Act.put, zA, zB, zC, zD, zE, zF]
       refine wT 6 ?_
       refine wT 7 ?_
       refine wT 9 ?_
       refine wpAnyH_done (by kernel_rfl) (NoPanic.normal ?_) _
       refine world_gen ?_
       intro wz hwz
       rw [← hwz] at hHeld
       clear hwz
       have hbz := HBw.out.trans (hHeld.1.bel.mono HBw.out.size)
       clear hHeld
       go_wp2_with fail
       go_roundw
       case rel => exact ⟨q + 1, m, by omega, by go_num, rfl, by omega, HS2.out, hbz⟩
       case measure => simp [intOf]; omega
      ·have hub : (u != y + 1) = true := by simp [hu]
       have hst : feetN vs t l (q + 1) = none := by rw [HSt.out, hadv, if_neg (by rw [hwant]; exact hu)]
       have hres : r = false := by rw [← HR.out, feetN_no (k := q + 1) (by omega) hst]; rfl
       subst hres
       clear hst hu h9 hwant
       have hw32 : IntKind.u32.wrap (y + 1) = y + 1 := IntWalk.u32_in _ (by omega)
       go_wp2_with fail
       refine wp_region_noPanic ?_
       refine wp_region_held_drew (S := fun w' => BS wr ([] : List Nat) w' ∧ (∀ o : Nat, w'.cell? ⟨w.heap.size, o, none⟩ = (#[.int .i64 t, .int .i64 p, .int .i64 s, .slice (some ad) n c] : Array Value)[o]?) ∧ w'.cell? ⟨g, m, none⟩ = some (.int .i64 y)) (by kernel_rfl) ?_ (fun hHeld => ?_)
       ·exact ⟨(BS.start wr).drew, HBox.out, hc1⟩
       refine wT 0 ?_
       refine wT 1 ?_
       refine wT 2 ?_
       refine wT 3 ?_
       refine wT 4 ?_
       refine wT 5 ?_
       refine wT 6 ?_
       refine wT 7 ?_
       refine wT 8 ?_
       refine wT 9 ?_
       refine wR 10 fun K hK => ?_
       go_simp
       refine (calls_b hHeld.1 (I1.out _ (X3.xv.keep hHeld.1.bel))).mono ?_
       rintro e wr1 ⟨rfl, hV, hVl⟩
       dsimp only
       refine hK.out _ _ ?_ (fun hHeld2 => ?_)
       ·exact ⟨hV, hV.oldbox HBox.out hxl, hV.old hc1⟩
       clear hK K hV hVl hHeld
       have hHeld := hHeld2
       clear hHeld2
       try simp only [Act.put, zA, zB, zC, zD, zE, zF]
       refine wT 11 ?_
       refine wT 12 ?_
       refine wT 13 ?_
       refine wT 14 ?_
       refine wpAnyH_done (by kernel_rfl) (NoPanic.normal ?_) _
       refine world_gen ?_
       intro wz hwz
       rw [← hwz] at hHeld
       clear hwz
       have X5 := X3.keep hHeld.1.bel
       have HBw := Lib.hid (HB.out.trans (hHeld.1.bel.mono HB.out.size))
       have hc5 := hHeld.1.old hc1
       have hd5 := hHeld.1.old hd2
       have hlt5 := X5.lt
       have HBox5 := Lib.hid X5.box
       obtain ⟨w0, w1', w2', w3'⟩ := X5.cells
       clear hHeld
       go_wp2_with fail
       refine wp_region_noPanic ?_
       refine wp_region_held_drew (S := fun w' => BS wz ([] : List Nat) w' ∧ (∀ o : Nat, w'.cell? ⟨w.heap.size, o, none⟩ = (#[.int .i64 t, .int .i64 p, .int .i64 s, .slice (some ad) n c] : Array Value)[o]?) ∧ w'.cell? (ad.add k) = some (.int .u32 u)) (by kernel_rfl) ?_ (fun hHeld => ?_)
       ·exact ⟨(BS.start wz).drew, HBox5.out, hd5⟩
       refine wT 0 ?_
       refine wT 1 ?_
       refine wT 2 ?_
       refine wT 3 ?_
       refine wT 4 ?_
       refine wT 8 ?_
       refine wR 5 fun K hK => ?_
       go_simp
       refine (calls_b hHeld.1 (HFt.out _)).mono ?_
       rintro e wr1 ⟨rfl, hV, hVl⟩
       dsimp only
       refine hK.out _ _ ?_ (fun hHeld2 => ?_)
       ·exact ⟨hV, hV.oldbox HBox5.out hlt5, hV.old hd5⟩
       clear hK K hV hVl hHeld
       have hHeld := hHeld2
       clear hHeld2
       try simp only [Act.put, zA, zB, zC, zD, zE, zF]
       refine wT 6 ?_
       refine wT 7 ?_
       refine wT 9 ?_
       refine wpAnyH_done (by kernel_rfl) (NoPanic.normal ?_) _
       refine world_gen ?_
       intro wz hwz
       rw [← hwz] at hHeld
       clear hwz
       have hbz := X5.keep hHeld.1.bel
       clear hHeld
       go_wp2
       go_ret
       exact ⟨rfl, hbz.bel⟩
     ·have hb9 : ((q : Int) == y + a2 - 1) = false := by simpa using h9
      rw [if_neg h9] at hwant
      by_cases hu : u = 0
      ·have hub : (u != 0) = false := by simp [hu]
       have hst : feetN vs t l (q + 1) = some (m) := by rw [HSt.out, hadv, if_pos (by rw [hwant]; exact hu)]
       have HS2 := Lib.hid hst
       clear hst hu h9 hwant
       go_wp2_with fail
       refine wp_region_noPanic ?_
       refine wp_region_held_drew (S := fun w' => BS wr ([] : List Nat) w' ∧ (∀ o : Nat, w'.cell? ⟨w.heap.size, o, none⟩ = (#[.int .i64 t, .int .i64 p, .int .i64 s, .slice (some ad) n c] : Array Value)[o]?) ∧ w'.cell? ⟨g, m, none⟩ = some (.int .i64 y)) (by kernel_rfl) ?_ (fun hHeld => ?_)
       ·exact ⟨(BS.start wr).drew, HBox.out, hc1⟩
       refine wT 0 ?_
       refine wT 1 ?_
       refine wT 2 ?_
       refine wT 3 ?_
       refine wT 4 ?_
       refine wT 5 ?_
       refine wT 6 ?_
       refine wT 7 ?_
       refine wT 8 ?_
       refine wT 9 ?_
       refine wR 10 fun K hK => ?_
       go_simp
       refine (calls_b hHeld.1 (I1.out _ (X3.xv.keep hHeld.1.bel))).mono ?_
       rintro e wr1 ⟨rfl, hV, hVl⟩
       dsimp only
       refine hK.out _ _ ?_ (fun hHeld2 => ?_)
       ·exact ⟨hV, hV.oldbox HBox.out hxl, hV.old hc1⟩
       clear hK K hV hVl hHeld
       have hHeld := hHeld2
       clear hHeld2
       try simp only [Act.put, zA, zB, zC, zD, zE, zF]
       refine wT 11 ?_
       refine wT 12 ?_
       refine wT 13 ?_
       refine wT 14 ?_
       refine wpAnyH_done (by kernel_rfl) (NoPanic.normal ?_) _
       refine world_gen ?_
       intro wz hwz
       rw [← hwz] at hHeld
       clear hwz
       have X5 := X3.keep hHeld.1.bel
       have HBw := Lib.hid (HB.out.trans (hHeld.1.bel.mono HB.out.size))
       have hc5 := hHeld.1.old hc1
       have hd5 := hHeld.1.old hd2
       have hlt5 := X5.lt
       have HBox5 := Lib.hid X5.box
       obtain ⟨w0, w1', w2', w3'⟩ := X5.cells
       clear hHeld
       go_wp2_with fail
       refine wp_region_noPanic ?_
       refine wp_region_held_drew (S := fun w' => BS wz ([] : List Nat) w' ∧ (∀ o : Nat, w'.cell? ⟨w.heap.size, o, none⟩ = (#[.int .i64 t, .int .i64 p, .int .i64 s, .slice (some ad) n c] : Array Value)[o]?) ∧ w'.cell? (ad.add k) = some (.int .u32 u)) (by kernel_rfl) ?_ (fun hHeld => ?_)
       ·exact ⟨(BS.start wz).drew, HBox5.out, hd5⟩
       refine wT 0 ?_
       refine wT 1 ?_
       refine wT 2 ?_
       refine wT 3 ?_
       refine wT 4 ?_
       refine wT 8 ?_
       refine wR 5 fun K hK => ?_
       go_simp
       refine (calls_b hHeld.1 (HFt.out _)).mono ?_
       rintro e wr1 ⟨rfl, hV, hVl⟩
       dsimp only
       refine hK.out _ _ ?_ (fun hHeld2 => ?_)
       ·exact ⟨hV, hV.oldbox HBox5.out hlt5, hV.old hd5⟩
       clear hK K hV hVl hHeld
       have hHeld := hHeld2
       clear hHeld2
       try simp only [Act.put, zA, zB, zC, zD, zE, zF]
       refine wT 6 ?_
       refine wT 7 ?_
       refine wT 9 ?_
       refine wpAnyH_done (by kernel_rfl) (NoPanic.normal ?_) _
       refine world_gen ?_
       intro wz hwz
       rw [← hwz] at hHeld
       clear hwz
       have hbz := HBw.out.trans (hHeld.1.bel.mono HBw.out.size)
       clear hHeld
       go_wp2_with fail
       go_roundw
       case rel => exact ⟨q + 1, m, by omega, by go_num, rfl, by omega, HS2.out, hbz⟩
       case measure => simp [intOf]; omega
      ·have hub : (u != 0) = true := by simp [hu]
       have hst : feetN vs t l (q + 1) = none := by rw [HSt.out, hadv, if_neg (by rw [hwant]; exact hu)]
       have hres : r = false := by rw [← HR.out, feetN_no (k := q + 1) (by omega) hst]; rfl
       subst hres
       clear hst hu h9 hwant
       go_wp2_with fail
       refine wp_region_noPanic ?_
       refine wp_region_held_drew (S := fun w' => BS wr ([] : List Nat) w' ∧ (∀ o : Nat, w'.cell? ⟨w.heap.size, o, none⟩ = (#[.int .i64 t, .int .i64 p, .int .i64 s, .slice (some ad) n c] : Array Value)[o]?) ∧ w'.cell? ⟨g, m, none⟩ = some (.int .i64 y)) (by kernel_rfl) ?_ (fun hHeld => ?_)
       ·exact ⟨(BS.start wr).drew, HBox.out, hc1⟩
       refine wT 0 ?_
       refine wT 1 ?_
       refine wT 2 ?_
       refine wT 3 ?_
       refine wT 4 ?_
       refine wT 5 ?_
       refine wT 6 ?_
       refine wT 7 ?_
       refine wT 8 ?_
       refine wT 9 ?_
       refine wR 10 fun K hK => ?_
       go_simp
       refine (calls_b hHeld.1 (I1.out _ (X3.xv.keep hHeld.1.bel))).mono ?_
       rintro e wr1 ⟨rfl, hV, hVl⟩
       dsimp only
       refine hK.out _ _ ?_ (fun hHeld2 => ?_)
       ·exact ⟨hV, hV.oldbox HBox.out hxl, hV.old hc1⟩
       clear hK K hV hVl hHeld
       have hHeld := hHeld2
       clear hHeld2
       try simp only [Act.put, zA, zB, zC, zD, zE, zF]
       refine wT 11 ?_
       refine wT 12 ?_
       refine wT 13 ?_
       refine wT 14 ?_
       refine wpAnyH_done (by kernel_rfl) (NoPanic.normal ?_) _
       refine world_gen ?_
       intro wz hwz
       rw [← hwz] at hHeld
       clear hwz
       have X5 := X3.keep hHeld.1.bel
       have HBw := Lib.hid (HB.out.trans (hHeld.1.bel.mono HB.out.size))
       have hc5 := hHeld.1.old hc1
       have hd5 := hHeld.1.old hd2
       have hlt5 := X5.lt
       have HBox5 := Lib.hid X5.box
       obtain ⟨w0, w1', w2', w3'⟩ := X5.cells
       clear hHeld
       go_wp2_with fail
       refine wp_region_noPanic ?_
       refine wp_region_held_drew (S := fun w' => BS wz ([] : List Nat) w' ∧ (∀ o : Nat, w'.cell? ⟨w.heap.size, o, none⟩ = (#[.int .i64 t, .int .i64 p, .int .i64 s, .slice (some ad) n c] : Array Value)[o]?) ∧ w'.cell? (ad.add k) = some (.int .u32 u)) (by kernel_rfl) ?_ (fun hHeld => ?_)
       ·exact ⟨(BS.start wz).drew, HBox5.out, hd5⟩
       refine wT 0 ?_
       refine wT 1 ?_
       refine wT 2 ?_
       refine wT 3 ?_
       refine wT 4 ?_
       refine wT 8 ?_
       refine wR 5 fun K hK => ?_
       go_simp
       refine (calls_b hHeld.1 (HFt.out _)).mono ?_
       rintro e wr1 ⟨rfl, hV, hVl⟩
       dsimp only
       refine hK.out _ _ ?_ (fun hHeld2 => ?_)
       ·exact ⟨hV, hV.oldbox HBox5.out hlt5, hV.old hd5⟩
       clear hK K hV hVl hHeld
       have hHeld := hHeld2
       clear hHeld2
       try simp only [Act.put, zA, zB, zC, zD, zE, zF]
       refine wT 6 ?_
       refine wT 7 ?_
       refine wT 9 ?_
       refine wpAnyH_done (by kernel_rfl) (NoPanic.normal ?_) _
       refine world_gen ?_
       intro wz hwz
       rw [← hwz] at hHeld
       clear hwz
       have hbz := X5.keep hHeld.1.bel
       clear hHeld
       go_wp2
       go_ret
       exact ⟨rfl, hbz.bel⟩
   ·have hadv : advN l m q = m := by simp [advN, show l[m + 1]? = none from List.getElem?_eq_none (by omega)]
    obtain ⟨g, rfl, hx0⟩ := HL.out.cell hml
    clear hx0
    have hwant : wantF vs t l (m) q = if (q : Int) = l.getD (m) 0 + iL (gv vs t (l.getD (m) 0) 0) - 1 then l.getD (m) 0 + 1 else 0 := rfl
    have m1 := HM.out (l.getD (m) 0) (by simp [show m < l.length by omega])
    obtain ⟨g', hg', hc0⟩ := HL.out.cell (k := m) (by omega)
    try (simp only [Option.some.injEq, Addr.mk.injEq, and_true] at hg'; subst hg')
    have hc1 := (HB.out.cell (World.block_lt_of_cell? _ _ hc0)).trans hc0
    generalize l.getD (m) 0 = y at *

    have I1 := Lib.hid (fun (w : World) (h : XV w t p s ad n vs) => HI.out y w h m1.1 m1.2)
    have bd9 := inf_bd (gv vs t y 0)
    have b9 : 0 ≤ iL (gv vs t y 0) ∧ iL (gv vs t y 0) ≤ 1024 := by omega
    clear bd9 hc0
    generalize iK (gv vs t y 0) = a1 at *
    generalize iL (gv vs t y 0) = a2 at *
    generalize iC (gv vs t y 0) = a3 at *
    generalize gv vs t (q : Int) 1 = u at *
    have hfa := fieldInfo1 (.int .i64 a1) (.int .i64 a2) (.int .i64 a3)
    have hwa : IntKind.i64.wrap (y + a2) = y + a2 := wrap_in _ (by omega)
    have hwb : IntKind.i64.wrap (y + a2 - 1) = y + a2 - 1 := wrap_in _ (by omega)
    by_cases h9 : (q : Int) = y + a2 - 1
    ·have hb9 : ((q : Int) == y + a2 - 1) = true := by simpa using h9
     rw [if_pos h9] at hwant
     by_cases hu : u = y + 1
     ·have hub : (u != y + 1) = false := by simp [hu]
      have hst : feetN vs t l (q + 1) = some (m) := by rw [HSt.out, hadv, if_pos (by rw [hwant]; exact hu)]
      have HS2 := Lib.hid hst
      clear hst hu h9 hwant
      have hw32 : IntKind.u32.wrap (y + 1) = y + 1 := IntWalk.u32_in _ (by omega)
      go_wp2_with fail
      refine wp_region_noPanic ?_
      refine wp_region_held_drew (S := fun w' => BS wr ([] : List Nat) w' ∧ (∀ o : Nat, w'.cell? ⟨w.heap.size, o, none⟩ = (#[.int .i64 t, .int .i64 p, .int .i64 s, .slice (some ad) n c] : Array Value)[o]?) ∧ w'.cell? ⟨g, m, none⟩ = some (.int .i64 y)) (by kernel_rfl) ?_ (fun hHeld => ?_)
      ·exact ⟨(BS.start wr).drew, HBox.out, hc1⟩
      refine wT 0 ?_
      refine wT 1 ?_
      refine wT 2 ?_
      refine wT 3 ?_
      refine wT 4 ?_
      refine wT 5 ?_
      refine wT 6 ?_
      refine wT 7 ?_
      refine wT 8 ?_
      refine wT 9 ?_
      refine wR 10 fun K hK => ?_
      go_simp
      refine (calls_b hHeld.1 (I1.out _ (X3.xv.keep hHeld.1.bel))).mono ?_
      rintro e wr1 ⟨rfl, hV, hVl⟩
      dsimp only
      refine hK.out _ _ ?_ (fun hHeld2 => ?_)
      ·exact ⟨hV, hV.oldbox HBox.out hxl, hV.old hc1⟩
      clear hK K hV hVl hHeld
      have hHeld := hHeld2
      clear hHeld2
      try simp only [Act.put, zA, zB, zC, zD, zE, zF]
      refine wT 11 ?_
      refine wT 12 ?_
      refine wT 13 ?_
      refine wT 14 ?_
      refine wpAnyH_done (by kernel_rfl) (NoPanic.normal ?_) _
      refine world_gen ?_
      intro wz hwz
      rw [← hwz] at hHeld
      clear hwz
      have X5 := X3.keep hHeld.1.bel
      have HBw := Lib.hid (HB.out.trans (hHeld.1.bel.mono HB.out.size))
      have hc5 := hHeld.1.old hc1
      have hd5 := hHeld.1.old hd2
      have hlt5 := X5.lt
      have HBox5 := Lib.hid X5.box
      obtain ⟨w0, w1', w2', w3'⟩ := X5.cells
      clear hHeld
      go_wp2_with fail
      refine wp_region_noPanic ?_
      refine wp_region_held_drew (S := fun w' => BS wz ([] : List Nat) w' ∧ (∀ o : Nat, w'.cell? ⟨w.heap.size, o, none⟩ = (#[.int .i64 t, .int .i64 p, .int .i64 s, .slice (some ad) n c] : Array Value)[o]?) ∧ w'.cell? (ad.add k) = some (.int .u32 u)) (by kernel_rfl) ?_ (fun hHeld => ?_)
      ·exact ⟨(BS.start wz).drew, HBox5.out, hd5⟩
      refine wT 0 ?_
      refine wT 1 ?_
      refine wT 2 ?_
      refine wT 3 ?_
      refine wT 4 ?_
      refine wT 8 ?_
      refine wR 5 fun K hK => ?_
      go_simp
      refine (calls_b hHeld.1 (HFt.out _)).mono ?_
      rintro e wr1 ⟨rfl, hV, hVl⟩
      dsimp only
      refine hK.out _ _ ?_ (fun hHeld2 => ?_)
      ·exact ⟨hV, hV.oldbox HBox5.out hlt5, hV.old hd5⟩
      clear hK K hV hVl hHeld
      have hHeld := hHeld2
      clear hHeld2
      try simp only [Act.put, zA, zB, zC, zD, zE, zF]
      refine wT 6 ?_
      refine wT 7 ?_
      refine wT 9 ?_
      refine wpAnyH_done (by kernel_rfl) (NoPanic.normal ?_) _
      refine world_gen ?_
      intro wz hwz
      rw [← hwz] at hHeld
      clear hwz
      have hbz := HBw.out.trans (hHeld.1.bel.mono HBw.out.size)
      clear hHeld
      go_wp2_with fail
      go_roundw
      case rel => exact ⟨q + 1, m, by omega, by go_num, rfl, by omega, HS2.out, hbz⟩
      case measure => simp [intOf]; omega
     ·have hub : (u != y + 1) = true := by simp [hu]
      have hst : feetN vs t l (q + 1) = none := by rw [HSt.out, hadv, if_neg (by rw [hwant]; exact hu)]
      have hres : r = false := by rw [← HR.out, feetN_no (k := q + 1) (by omega) hst]; rfl
      subst hres
      clear hst hu h9 hwant
      have hw32 : IntKind.u32.wrap (y + 1) = y + 1 := IntWalk.u32_in _ (by omega)
      go_wp2_with fail
      refine wp_region_noPanic ?_
      refine wp_region_held_drew (S := fun w' => BS wr ([] : List Nat) w' ∧ (∀ o : Nat, w'.cell? ⟨w.heap.size, o, none⟩ = (#[.int .i64 t, .int .i64 p, .int .i64 s, .slice (some ad) n c] : Array Value)[o]?) ∧ w'.cell? ⟨g, m, none⟩ = some (.int .i64 y)) (by kernel_rfl) ?_ (fun hHeld => ?_)
      ·exact ⟨(BS.start wr).drew, HBox.out, hc1⟩
      refine wT 0 ?_
      refine wT 1 ?_
      refine wT 2 ?_
      refine wT 3 ?_
      refine wT 4 ?_
      refine wT 5 ?_
      refine wT 6 ?_
      refine wT 7 ?_
      refine wT 8 ?_
      refine wT 9 ?_
      refine wR 10 fun K hK => ?_
      go_simp
      refine (calls_b hHeld.1 (I1.out _ (X3.xv.keep hHeld.1.bel))).mono ?_
      rintro e wr1 ⟨rfl, hV, hVl⟩
      dsimp only
      refine hK.out _ _ ?_ (fun hHeld2 => ?_)
      ·exact ⟨hV, hV.oldbox HBox.out hxl, hV.old hc1⟩
      clear hK K hV hVl hHeld
      have hHeld := hHeld2
      clear hHeld2
      try simp only [Act.put, zA, zB, zC, zD, zE, zF]
      refine wT 11 ?_
      refine wT 12 ?_
      refine wT 13 ?_
      refine wT 14 ?_
      refine wpAnyH_done (by kernel_rfl) (NoPanic.normal ?_) _
      refine world_gen ?_
      intro wz hwz
      rw [← hwz] at hHeld
      clear hwz
      have X5 := X3.keep hHeld.1.bel
      have HBw := Lib.hid (HB.out.trans (hHeld.1.bel.mono HB.out.size))
      have hc5 := hHeld.1.old hc1
      have hd5 := hHeld.1.old hd2
      have hlt5 := X5.lt
      have HBox5 := Lib.hid X5.box
      obtain ⟨w0, w1', w2', w3'⟩ := X5.cells
      clear hHeld
      go_wp2_with fail
      refine wp_region_noPanic ?_
      refine wp_region_held_drew (S := fun w' => BS wz ([] : List Nat) w' ∧ (∀ o : Nat, w'.cell? ⟨w.heap.size, o, none⟩ = (#[.int .i64 t, .int .i64 p, .int .i64 s, .slice (some ad) n c] : Array Value)[o]?) ∧ w'.cell? (ad.add k) = some (.int .u32 u)) (by kernel_rfl) ?_ (fun hHeld => ?_)
      ·exact ⟨(BS.start wz).drew, HBox5.out, hd5⟩
      refine wT 0 ?_
      refine wT 1 ?_
      refine wT 2 ?_
      refine wT 3 ?_
      refine wT 4 ?_
      refine wT 8 ?_
      refine wR 5 fun K hK => ?_
      go_simp
      refine (calls_b hHeld.1 (HFt.out _)).mono ?_
      rintro e wr1 ⟨rfl, hV, hVl⟩
      dsimp only
      refine hK.out _ _ ?_ (fun hHeld2 => ?_)
      ·exact ⟨hV, hV.oldbox HBox5.out hlt5, hV.old hd5⟩
      clear hK K hV hVl hHeld
      have hHeld := hHeld2
      clear hHeld2
      try simp only [Act.put, zA, zB, zC, zD, zE, zF]
      refine wT 6 ?_
      refine wT 7 ?_
      refine wT 9 ?_
      refine wpAnyH_done (by kernel_rfl) (NoPanic.normal ?_) _
      refine world_gen ?_
      intro wz hwz
      rw [← hwz] at hHeld
      clear hwz
      have hbz := X5.keep hHeld.1.bel
      clear hHeld
      go_wp2
      go_ret
      exact ⟨rfl, hbz.bel⟩
    ·have hb9 : ((q : Int) == y + a2 - 1) = false := by simpa using h9
     rw [if_neg h9] at hwant
     by_cases hu : u = 0
     ·have hub : (u != 0) = false := by simp [hu]
      have hst : feetN vs t l (q + 1) = some (m) := by rw [HSt.out, hadv, if_pos (by rw [hwant]; exact hu)]
      have HS2 := Lib.hid hst
      clear hst hu h9 hwant
      go_wp2_with fail
      refine wp_region_noPanic ?_
      refine wp_region_held_drew (S := fun w' => BS wr ([] : List Nat) w' ∧ (∀ o : Nat, w'.cell? ⟨w.heap.size, o, none⟩ = (#[.int .i64 t, .int .i64 p, .int .i64 s, .slice (some ad) n c] : Array Value)[o]?) ∧ w'.cell? ⟨g, m, none⟩ = some (.int .i64 y)) (by kernel_rfl) ?_ (fun hHeld => ?_)
      ·exact ⟨(BS.start wr).drew, HBox.out, hc1⟩
      refine wT 0 ?_
      refine wT 1 ?_
      refine wT 2 ?_
      refine wT 3 ?_
      refine wT 4 ?_
      refine wT 5 ?_
      refine wT 6 ?_
      refine wT 7 ?_
      refine wT 8 ?_
      refine wT 9 ?_
      refine wR 10 fun K hK => ?_
      go_simp
      refine (calls_b hHeld.1 (I1.out _ (X3.xv.keep hHeld.1.bel))).mono ?_
      rintro e wr1 ⟨rfl, hV, hVl⟩
      dsimp only
      refine hK.out _ _ ?_ (fun hHeld2 => ?_)
      ·exact ⟨hV, hV.oldbox HBox.out hxl, hV.old hc1⟩
      clear hK K hV hVl hHeld
      have hHeld := hHeld2
      clear hHeld2
      try simp only [Act.put, zA, zB, zC, zD, zE, zF]
      refine wT 11 ?_
      refine wT 12 ?_
      refine wT 13 ?_
      refine wT 14 ?_
      refine wpAnyH_done (by kernel_rfl) (NoPanic.normal ?_) _
      refine world_gen ?_
      intro wz hwz
      rw [← hwz] at hHeld
      clear hwz
      have X5 := X3.keep hHeld.1.bel
      have HBw := Lib.hid (HB.out.trans (hHeld.1.bel.mono HB.out.size))
      have hc5 := hHeld.1.old hc1
      have hd5 := hHeld.1.old hd2
      have hlt5 := X5.lt
      have HBox5 := Lib.hid X5.box
      obtain ⟨w0, w1', w2', w3'⟩ := X5.cells
      clear hHeld
      go_wp2_with fail
      refine wp_region_noPanic ?_
      refine wp_region_held_drew (S := fun w' => BS wz ([] : List Nat) w' ∧ (∀ o : Nat, w'.cell? ⟨w.heap.size, o, none⟩ = (#[.int .i64 t, .int .i64 p, .int .i64 s, .slice (some ad) n c] : Array Value)[o]?) ∧ w'.cell? (ad.add k) = some (.int .u32 u)) (by kernel_rfl) ?_ (fun hHeld => ?_)
      ·exact ⟨(BS.start wz).drew, HBox5.out, hd5⟩
      refine wT 0 ?_
      refine wT 1 ?_
      refine wT 2 ?_
      refine wT 3 ?_
      refine wT 4 ?_
      refine wT 8 ?_
      refine wR 5 fun K hK => ?_
      go_simp
      refine (calls_b hHeld.1 (HFt.out _)).mono ?_
      rintro e wr1 ⟨rfl, hV, hVl⟩
      dsimp only
      refine hK.out _ _ ?_ (fun hHeld2 => ?_)
      ·exact ⟨hV, hV.oldbox HBox5.out hlt5, hV.old hd5⟩
      clear hK K hV hVl hHeld
      have hHeld := hHeld2
      clear hHeld2
      try simp only [Act.put, zA, zB, zC, zD, zE, zF]
      refine wT 6 ?_
      refine wT 7 ?_
      refine wT 9 ?_
      refine wpAnyH_done (by kernel_rfl) (NoPanic.normal ?_) _
      refine world_gen ?_
      intro wz hwz
      rw [← hwz] at hHeld
      clear hwz
      have hbz := HBw.out.trans (hHeld.1.bel.mono HBw.out.size)
      clear hHeld
      go_wp2_with fail
      go_roundw
      case rel => exact ⟨q + 1, m, by omega, by go_num, rfl, by omega, HS2.out, hbz⟩
      case measure => simp [intOf]; omega
     ·have hub : (u != 0) = true := by simp [hu]
      have hst : feetN vs t l (q + 1) = none := by rw [HSt.out, hadv, if_neg (by rw [hwant]; exact hu)]
      have hres : r = false := by rw [← HR.out, feetN_no (k := q + 1) (by omega) hst]; rfl
      subst hres
      clear hst hu h9 hwant
      go_wp2_with fail
      refine wp_region_noPanic ?_
      refine wp_region_held_drew (S := fun w' => BS wr ([] : List Nat) w' ∧ (∀ o : Nat, w'.cell? ⟨w.heap.size, o, none⟩ = (#[.int .i64 t, .int .i64 p, .int .i64 s, .slice (some ad) n c] : Array Value)[o]?) ∧ w'.cell? ⟨g, m, none⟩ = some (.int .i64 y)) (by kernel_rfl) ?_ (fun hHeld => ?_)
      ·exact ⟨(BS.start wr).drew, HBox.out, hc1⟩
      refine wT 0 ?_
      refine wT 1 ?_
      refine wT 2 ?_
      refine wT 3 ?_
      refine wT 4 ?_
      refine wT 5 ?_
      refine wT 6 ?_
      refine wT 7 ?_
      refine wT 8 ?_
      refine wT 9 ?_
      refine wR 10 fun K hK => ?_
      go_simp
      refine (calls_b hHeld.1 (I1.out _ (X3.xv.keep hHeld.1.bel))).mono ?_
      rintro e wr1 ⟨rfl, hV, hVl⟩
      dsimp only
      refine hK.out _ _ ?_ (fun hHeld2 => ?_)
      ·exact ⟨hV, hV.oldbox HBox.out hxl, hV.old hc1⟩
      clear hK K hV hVl hHeld
      have hHeld := hHeld2
      clear hHeld2
      try simp only [Act.put, zA, zB, zC, zD, zE, zF]
      refine wT 11 ?_
      refine wT 12 ?_
      refine wT 13 ?_
      refine wT 14 ?_
      refine wpAnyH_done (by kernel_rfl) (NoPanic.normal ?_) _
      refine world_gen ?_
      intro wz hwz
      rw [← hwz] at hHeld
      clear hwz
      have X5 := X3.keep hHeld.1.bel
      have HBw := Lib.hid (HB.out.trans (hHeld.1.bel.mono HB.out.size))
      have hc5 := hHeld.1.old hc1
      have hd5 := hHeld.1.old hd2
      have hlt5 := X5.lt
      have HBox5 := Lib.hid X5.box
      obtain ⟨w0, w1', w2', w3'⟩ := X5.cells
      clear hHeld
      go_wp2_with fail
      refine wp_region_noPanic ?_
      refine wp_region_held_drew (S := fun w' => BS wz ([] : List Nat) w' ∧ (∀ o : Nat, w'.cell? ⟨w.heap.size, o, none⟩ = (#[.int .i64 t, .int .i64 p, .int .i64 s, .slice (some ad) n c] : Array Value)[o]?) ∧ w'.cell? (ad.add k) = some (.int .u32 u)) (by kernel_rfl) ?_ (fun hHeld => ?_)
      ·exact ⟨(BS.start wz).drew, HBox5.out, hd5⟩
      refine wT 0 ?_
      refine wT 1 ?_
      refine wT 2 ?_
      refine wT 3 ?_
      refine wT 4 ?_
      refine wT 8 ?_
      refine wR 5 fun K hK => ?_
      go_simp
      refine (calls_b hHeld.1 (HFt.out _)).mono ?_
      rintro e wr1 ⟨rfl, hV, hVl⟩
      dsimp only
      refine hK.out _ _ ?_ (fun hHeld2 => ?_)
      ·exact ⟨hV, hV.oldbox HBox5.out hlt5, hV.old hd5⟩
      clear hK K hV hVl hHeld
      have hHeld := hHeld2
      clear hHeld2
      try simp only [Act.put, zA, zB, zC, zD, zE, zF]
      refine wT 6 ?_
      refine wT 7 ?_
      refine wT 9 ?_
      refine wpAnyH_done (by kernel_rfl) (NoPanic.normal ?_) _
      refine world_gen ?_
      intro wz hwz
      rw [← hwz] at hHeld
      clear hwz
      have hbz := X5.keep hHeld.1.bel
      clear hHeld
      go_wp2
      go_ret
      exact ⟨rfl, hbz.bel⟩
  ·obtain rfl : q = p.toNat := by omega
   have hres : r = true := by rw [← HR.out, HT.out]; rfl
   subst hres
   go_wp2
   go_ret
   exact ⟨rfl, X3.bel⟩
end
end Go.Proofs.YtcbikgafdclhaaaGreat
/- the document's audit: slots. -/
set_option linter.unusedSimpArgs false
set_option linter.unusedVariables false
namespace Go.Proofs.YtcbikgafdclhaaaGreat
open Go.RowKit
section
variable {t p s : Int} {ad : Addr} {n c : Nat} {vs : List Int}

/-- a slot that is not as it must be. -/
def badB (k cl : Int) (x y : Bool) (b : Nat) : Bool := (x && !y) || (y && (k != 3 || decide (slotsF cl ≤ (b : Int))))
def slotB (vs : List Int) (t q : Int) (b : Nat) : Bool := !badB (iK (gv vs t q 0)) (iC (gv vs t q 0)) (bitB (gv vs t q 4) b) (bitB (gv vs t q 5) b) b
def slotsQ (vs : List Int) (t : Int) (q : Nat) : Bool := allN (slotB vs t q) 32 && !(iK (gv vs t q 0) == 3 && gv vs t q 5 == 0)
def slotsAll (vs : List Int) (t p : Int) : Bool := allN (slotsQ vs t) p.toNat

set_option maxHeartbeats 4000000 in
set_option maxRecDepth 100000 in
theorem slots_any (c : Nat) (w : World) (h : XV w t p s ad n vs) :
 Calls Tryz.prog 169 #[.agg #[.int .i64 t, .int .i64 p, .int .i64 s, .slice (some ad) n c]] w fun e w' => e = .returned (.bool (slotsAll vs t p)) ∧ Below w.heap.size w w' := by
 have X0 := h.boxed c
 have bd : 4 ≤ p ∧ p ≤ 1024 := by have := h.bd; omega
 have HG := Lib.hid h.gu
 have HI := Lib.hid (fun (q : Int) (w : World) (h : XV w t p s ad n vs) (h0 : 0 ≤ q) (h1 : q < p) => xinfo_any q c w h h0 h1)
 have HSl := Lib.hid (fun (q : Int) (w : World) (h : XV w t p s ad n vs) (h0 : 0 ≤ q) (h1 : q < p) => xslots_any q c w h h0 h1)
 have HTk := Lib.hid (fun (q : Int) (w : World) (h : XV w t p s ad n vs) (h0 : 0 ≤ q) (h1 : q < p) => xtaken_any q c w h h0 h1)
 generalize hr : slotsAll vs t p = r
 have hr2 : allN (slotsQ vs t) p.toNat = r := hr
 have HR := Lib.hid hr2
 clear h hr hr2
 go_enter Tryz.func169, Tryz.ntmps169
 go_wp2_with fail
 go_loopw [3, 4, 5, 6, 7] (fun v3 _ _ _ _ wr => AllRel (slotsQ vs t) p.toNat (w.alloc (.cells #[.int .i64 t, .int .i64 p, .int .i64 s, .slice (some ad) n c] 169)) v3 wr) (fun v3 _ _ _ _ _ => p.toNat - (intOf v3).toNat)
 case atStart => exact ⟨0, by omega, rfl, rfl, Below.refl _ _⟩
 case round =>
  obtain ⟨q, hq, rfl, hall, hbel⟩ := hrel
  have X1 := X0.keep hbel
  have HA := Lib.hid hall
  have HBel := Lib.hid hbel
  clear hall hbel X0
  obtain ⟨x0, x1, x2, x3⟩ := X1.cells
  by_cases hqp : (q : Int) < p
  ·have hsq : slotsQ vs t q = (allN (slotB vs t q) 32 && !(iK (gv vs t q 0) == 3 && gv vs t q 5 == 0)) := rfl
   have HSQ := Lib.hid hsq
   have I1 := Lib.hid (fun (w : World) (h : XV w t p s ad n vs) => HI.out q w h (by omega) hqp)
   have I2 := Lib.hid (fun (w : World) (h : XV w t p s ad n vs) => HSl.out q w h (by omega) hqp)
   have I3 := Lib.hid (fun (w : World) (h : XV w t p s ad n vs) => HTk.out q w h (by omega) hqp)
   have g4 := (HG.out q 4).1
   have g5 := (HG.out q 5).1
   have hsb : ∀ b, slotB vs t q b = !badB (iK (gv vs t q 0)) (iC (gv vs t q 0)) (bitB (gv vs t q 4) b) (bitB (gv vs t q 5) b) b := fun _ => rfl
   have HSB := Lib.hid hsb
   clear hsq hsb HI HSl HTk HG
   generalize iK (gv vs t q 0) = a1 at *
   generalize iL (gv vs t q 0) = a2 at *
   generalize iC (gv vs t q 0) = a3 at *
   generalize gv vs t q 4 = u4 at *
   generalize gv vs t q 5 = u5 at *
   go_wp2_with fail
   refine (I1.out _ X1.xv).mono ?_
   rintro e w1 ⟨rfl, hb1⟩
   have X2 := X1.keep hb1
   obtain ⟨X20, X21, X22, X23⟩ := X2.cells
   have X2z := X2.lt
   have hbw1 := HBel.out.trans (hb1.mono HBel.out.size)
   have X2a := X2.alloc (.cells #[.int .i64 a1, .int .i64 a2, .int .i64 a3] 174)
   have HBw1 := Lib.hid ((hbw1).alloc (Nat.le_trans hbw1.size (Nat.le_refl _)) (.cells #[.int .i64 a1, .int .i64 a2, .int .i64 a3] 174))
   clear hbw1 hb1
   go_wp2_with fail
   go_loopw [5, 6, 7] (fun v5 _ _ wq => AllRel (slotB vs t q) 32 (w1.alloc (.cells #[.int .i64 a1, .int .i64 a2, .int .i64 a3] 174)) v5 wq) (fun v5 _ _ _ => 32 - (intOf v5).toNat)
   case atStart => exact ⟨0, by omega, rfl, rfl, Below.refl _ _⟩
   case round =>
    obtain ⟨b, hb, rfl, hallb, hbq⟩ := hrel
    have X3 := X2a.keep hbq
    obtain ⟨i0, i1, i2⟩ := box3 hbq
    have HQ := Lib.hid hallb
    have HBq := Lib.hid hbq
    clear hallb hbq x0 x1 x2 x3 X20 X21 X22 X23 X2 X2a X2z
    obtain ⟨x0, x1, x2, x3⟩ := X3.cells
    by_cases hbl : b < 32
    ·have HBit4 := Lib.hid (fun w => rbit_any u4 b w hbl g4)
     have HBit5 := Lib.hid (fun w => rbit_any u5 b w hbl g5)
     have hs2 := HSB.out b
     have HBox := Lib.hid X3.box
     have hxl := X3.lt
     generalize bitB u4 b = z4 at *
     generalize bitB u5 b = z5 at *
     cases z4
     ·cases z5
      ·have hyes : slotB vs t q b = true := by rw [hs2]; simp [badB]
       have HY := Lib.hid hyes
       clear hyes hs2
       go_wp2_with fail
       refine wp_region_noPanic ?_
       refine wp_region_held_drew (S := fun w' => BS wr ([] : List Nat) w' ∧ (∀ o : Nat, w'.cell? ⟨w.heap.size, o, none⟩ = (#[.int .i64 t, .int .i64 p, .int .i64 s, .slice (some ad) n c] : Array Value)[o]?)) (by kernel_rfl) ?_ (fun hHeld => ?_)
       ·exact ⟨(BS.start wr).drew, HBox.out⟩
       refine wT 0 ?_
       refine wT 1 ?_
       refine wT 3 ?_
       refine wT 5 ?_
       refine wT 6 ?_
       refine wT 8 ?_
       refine wR 2 fun K hK => ?_
       go_simp
       refine (calls_b hHeld.1 (I2.out _ (X3.xv.keep hHeld.1.bel))).mono ?_
       rintro e wr1 ⟨rfl, hV, hVl⟩
       dsimp only
       refine hK.out _ _ ?_ (fun hHeld2 => ?_)
       ·exact ⟨hV, hV.oldbox HBox.out hxl⟩
       clear hK K hV hVl hHeld
       have hHeld := hHeld2
       clear hHeld2
       try simp only [Act.put, zA, zB, zC, zD, zE, zF]
       refine wR 4 fun K hK => ?_
       go_simp
       refine (calls_b hHeld.1 (HBit4.out _)).mono ?_
       rintro e wr2 ⟨rfl, hV, hVl⟩
       dsimp only
       refine hK.out _ _ ?_ (fun hHeld2 => ?_)
       ·exact ⟨hV, hV.oldbox HBox.out hxl⟩
       clear hK K hV hVl hHeld
       have hHeld := hHeld2
       clear hHeld2
       try simp only [Act.put, zA, zB, zC, zD, zE, zF]
       refine wR 7 fun K hK => ?_
       go_simp
       refine (calls_b hHeld.1 (I3.out _ (X3.xv.keep hHeld.1.bel))).mono ?_
       rintro e wr3 ⟨rfl, hV, hVl⟩
       dsimp only
       refine hK.out _ _ ?_ (fun hHeld2 => ?_)
       ·exact ⟨hV, hV.oldbox HBox.out hxl⟩
       clear hK K hV hVl hHeld
       have hHeld := hHeld2
       clear hHeld2
       try simp only [Act.put, zA, zB, zC, zD, zE, zF]
       refine wR 9 fun K hK => ?_
       go_simp
       refine (calls_b hHeld.1 (HBit5.out _)).mono ?_
       rintro e wr4 ⟨rfl, hV, hVl⟩
       dsimp only
       refine hK.out _ _ ?_ (fun hHeld2 => ?_)
       ·exact ⟨hV, hV.oldbox HBox.out hxl⟩
       clear hK K hV hVl hHeld
       have hHeld := hHeld2
       clear hHeld2
       try simp only [Act.put, zA, zB, zC, zD, zE, zF]
       refine wT 10 ?_
       refine wT 11 ?_
       refine wpAnyH_done (by kernel_rfl) (NoPanic.normal ?_) _
       refine world_gen ?_
       intro wz hwz
       rw [← hwz] at hHeld
       clear hwz
       have X5 := X3.keep hHeld.1.bel
       have hb9 := HBq.out.trans (hHeld.1.bel.mono HBq.out.size)
       have j0 := hHeld.1.old i0
       have j1 := hHeld.1.old i1
       have j2 := hHeld.1.old i2
       have HB9 := Lib.hid hb9
       clear hHeld hb9
       go_wp2_with fail
       go_roundw
       case rel => exact ⟨b + 1, by omega, by go_num, by simp [allN, HQ.out, HY.out], HB9.out⟩
       case measure => simp [intOf]; omega
      ·by_cases hk : a1 = 3
       ·have hkb : (a1 != 3) = false := by simp [hk]
        have HSlt := Lib.hid (fun w => rkslots_any a3 w)
        by_cases hsl : slotsF a3 ≤ (b : Int)
        ·have hsl2 := hsl
         have hno : slotB vs t q b = false := by rw [hs2]; simp [badB, hsl]
         generalize slotsF a3 = sl at *
         have hno2 : slotsQ vs t q = false := by rw [HSQ.out, allN_no hbl hno]; rfl
         have hres : r = false := by rw [← HR.out]; exact allN_no (by omega) hno2
         subst hres
         clear hno hno2 hs2 hk hsl2
         go_wp2_with fail
         refine wp_region_noPanic ?_
         refine wp_region_held_drew (S := fun w' => BS wr ([] : List Nat) w' ∧ (∀ o : Nat, w'.cell? ⟨w.heap.size, o, none⟩ = (#[.int .i64 t, .int .i64 p, .int .i64 s, .slice (some ad) n c] : Array Value)[o]?)) (by kernel_rfl) ?_ (fun hHeld => ?_)
         ·exact ⟨(BS.start wr).drew, HBox.out⟩
         refine wT 0 ?_
         refine wT 1 ?_
         refine wT 3 ?_
         refine wT 5 ?_
         refine wT 6 ?_
         refine wT 8 ?_
         refine wR 2 fun K hK => ?_
         go_simp
         refine (calls_b hHeld.1 (I2.out _ (X3.xv.keep hHeld.1.bel))).mono ?_
         rintro e wr1 ⟨rfl, hV, hVl⟩
         dsimp only
         refine hK.out _ _ ?_ (fun hHeld2 => ?_)
         ·exact ⟨hV, hV.oldbox HBox.out hxl⟩
         clear hK K hV hVl hHeld
         have hHeld := hHeld2
         clear hHeld2
         try simp only [Act.put, zA, zB, zC, zD, zE, zF]
         refine wR 4 fun K hK => ?_
         go_simp
         refine (calls_b hHeld.1 (HBit4.out _)).mono ?_
         rintro e wr2 ⟨rfl, hV, hVl⟩
         dsimp only
         refine hK.out _ _ ?_ (fun hHeld2 => ?_)
         ·exact ⟨hV, hV.oldbox HBox.out hxl⟩
         clear hK K hV hVl hHeld
         have hHeld := hHeld2
         clear hHeld2
         try simp only [Act.put, zA, zB, zC, zD, zE, zF]
         refine wR 7 fun K hK => ?_
         go_simp
         refine (calls_b hHeld.1 (I3.out _ (X3.xv.keep hHeld.1.bel))).mono ?_
         rintro e wr3 ⟨rfl, hV, hVl⟩
         dsimp only
         refine hK.out _ _ ?_ (fun hHeld2 => ?_)
         ·exact ⟨hV, hV.oldbox HBox.out hxl⟩
         clear hK K hV hVl hHeld
         have hHeld := hHeld2
         clear hHeld2
         try simp only [Act.put, zA, zB, zC, zD, zE, zF]
         refine wR 9 fun K hK => ?_
         go_simp
         refine (calls_b hHeld.1 (HBit5.out _)).mono ?_
         rintro e wr4 ⟨rfl, hV, hVl⟩
         dsimp only
         refine hK.out _ _ ?_ (fun hHeld2 => ?_)
         ·exact ⟨hV, hV.oldbox HBox.out hxl⟩
         clear hK K hV hVl hHeld
         have hHeld := hHeld2
         clear hHeld2
         try simp only [Act.put, zA, zB, zC, zD, zE, zF]
         refine wT 10 ?_
         refine wT 11 ?_
         refine wpAnyH_done (by kernel_rfl) (NoPanic.normal ?_) _
         refine world_gen ?_
         intro wz hwz
         rw [← hwz] at hHeld
         clear hwz
         have X5 := X3.keep hHeld.1.bel
         have hb9 := HBq.out.trans (hHeld.1.bel.mono HBq.out.size)
         have j0 := hHeld.1.old i0
         have j1 := hHeld.1.old i1
         have j2 := hHeld.1.old i2
         have HB9 := Lib.hid hb9
         clear hHeld hb9
         go_wp2_with fail
         refine (HSlt.out _).mono ?_
         rintro e wy ⟨rfl, hy⟩
         go_wp2
         go_ret
         exact ⟨rfl, (X5.keep hy).bel⟩
        ·have hyes : slotB vs t q b = true := by rw [hs2]; simp [badB, hk, hsl]
         generalize slotsF a3 = sl at *
         have HY := Lib.hid hyes
         clear hyes hs2 hk
         go_wp2_with fail
         refine wp_region_noPanic ?_
         refine wp_region_held_drew (S := fun w' => BS wr ([] : List Nat) w' ∧ (∀ o : Nat, w'.cell? ⟨w.heap.size, o, none⟩ = (#[.int .i64 t, .int .i64 p, .int .i64 s, .slice (some ad) n c] : Array Value)[o]?)) (by kernel_rfl) ?_ (fun hHeld => ?_)
         ·exact ⟨(BS.start wr).drew, HBox.out⟩
         refine wT 0 ?_
         refine wT 1 ?_
         refine wT 3 ?_
         refine wT 5 ?_
         refine wT 6 ?_
         refine wT 8 ?_
         refine wR 2 fun K hK => ?_
         go_simp
         refine (calls_b hHeld.1 (I2.out _ (X3.xv.keep hHeld.1.bel))).mono ?_
         rintro e wr1 ⟨rfl, hV, hVl⟩
         dsimp only
         refine hK.out _ _ ?_ (fun hHeld2 => ?_)
         ·exact ⟨hV, hV.oldbox HBox.out hxl⟩
         clear hK K hV hVl hHeld
         have hHeld := hHeld2
         clear hHeld2
         try simp only [Act.put, zA, zB, zC, zD, zE, zF]
         refine wR 4 fun K hK => ?_
         go_simp
         refine (calls_b hHeld.1 (HBit4.out _)).mono ?_
         rintro e wr2 ⟨rfl, hV, hVl⟩
         dsimp only
         refine hK.out _ _ ?_ (fun hHeld2 => ?_)
         ·exact ⟨hV, hV.oldbox HBox.out hxl⟩
         clear hK K hV hVl hHeld
         have hHeld := hHeld2
         clear hHeld2
         try simp only [Act.put, zA, zB, zC, zD, zE, zF]
         refine wR 7 fun K hK => ?_
         go_simp
         refine (calls_b hHeld.1 (I3.out _ (X3.xv.keep hHeld.1.bel))).mono ?_
         rintro e wr3 ⟨rfl, hV, hVl⟩
         dsimp only
         refine hK.out _ _ ?_ (fun hHeld2 => ?_)
         ·exact ⟨hV, hV.oldbox HBox.out hxl⟩
         clear hK K hV hVl hHeld
         have hHeld := hHeld2
         clear hHeld2
         try simp only [Act.put, zA, zB, zC, zD, zE, zF]
         refine wR 9 fun K hK => ?_
         go_simp
         refine (calls_b hHeld.1 (HBit5.out _)).mono ?_
         rintro e wr4 ⟨rfl, hV, hVl⟩
         dsimp only
         refine hK.out _ _ ?_ (fun hHeld2 => ?_)
         ·exact ⟨hV, hV.oldbox HBox.out hxl⟩
         clear hK K hV hVl hHeld
         have hHeld := hHeld2
         clear hHeld2
         try simp only [Act.put, zA, zB, zC, zD, zE, zF]
         refine wT 10 ?_
         refine wT 11 ?_
         refine wpAnyH_done (by kernel_rfl) (NoPanic.normal ?_) _
         refine world_gen ?_
         intro wz hwz
         rw [← hwz] at hHeld
         clear hwz
         have X5 := X3.keep hHeld.1.bel
         have hb9 := HBq.out.trans (hHeld.1.bel.mono HBq.out.size)
         have j0 := hHeld.1.old i0
         have j1 := hHeld.1.old i1
         have j2 := hHeld.1.old i2
         have HB9 := Lib.hid hb9
         clear hHeld hb9
         go_wp2_with fail
         refine (HSlt.out _).mono ?_
         rintro e wy ⟨rfl, hy⟩
         have bel9 := HB9.out.trans (hy.mono HB9.out.size)
         go_wp2_with fail
         go_roundw
         case rel => exact ⟨b + 1, by omega, by go_num, by simp [allN, HQ.out, HY.out], bel9⟩
         case measure => simp [intOf]; omega
       ·have hkb : (a1 != 3) = true := by simp [hk]
        clear hk
        have hno : slotB vs t q b = false := by rw [hs2]; simp [badB, hkb]
        have hno2 : slotsQ vs t q = false := by rw [HSQ.out, allN_no hbl hno]; rfl
        have hres : r = false := by rw [← HR.out]; exact allN_no (by omega) hno2
        subst hres
        clear hno hno2 hs2
        go_wp2_with fail
        refine wp_region_noPanic ?_
        refine wp_region_held_drew (S := fun w' => BS wr ([] : List Nat) w' ∧ (∀ o : Nat, w'.cell? ⟨w.heap.size, o, none⟩ = (#[.int .i64 t, .int .i64 p, .int .i64 s, .slice (some ad) n c] : Array Value)[o]?)) (by kernel_rfl) ?_ (fun hHeld => ?_)
        ·exact ⟨(BS.start wr).drew, HBox.out⟩
        refine wT 0 ?_
        refine wT 1 ?_
        refine wT 3 ?_
        refine wT 5 ?_
        refine wT 6 ?_
        refine wT 8 ?_
        refine wR 2 fun K hK => ?_
        go_simp
        refine (calls_b hHeld.1 (I2.out _ (X3.xv.keep hHeld.1.bel))).mono ?_
        rintro e wr1 ⟨rfl, hV, hVl⟩
        dsimp only
        refine hK.out _ _ ?_ (fun hHeld2 => ?_)
        ·exact ⟨hV, hV.oldbox HBox.out hxl⟩
        clear hK K hV hVl hHeld
        have hHeld := hHeld2
        clear hHeld2
        try simp only [Act.put, zA, zB, zC, zD, zE, zF]
        refine wR 4 fun K hK => ?_
        go_simp
        refine (calls_b hHeld.1 (HBit4.out _)).mono ?_
        rintro e wr2 ⟨rfl, hV, hVl⟩
        dsimp only
        refine hK.out _ _ ?_ (fun hHeld2 => ?_)
        ·exact ⟨hV, hV.oldbox HBox.out hxl⟩
        clear hK K hV hVl hHeld
        have hHeld := hHeld2
        clear hHeld2
        try simp only [Act.put, zA, zB, zC, zD, zE, zF]
        refine wR 7 fun K hK => ?_
        go_simp
        refine (calls_b hHeld.1 (I3.out _ (X3.xv.keep hHeld.1.bel))).mono ?_
        rintro e wr3 ⟨rfl, hV, hVl⟩
        dsimp only
        refine hK.out _ _ ?_ (fun hHeld2 => ?_)
        ·exact ⟨hV, hV.oldbox HBox.out hxl⟩
        clear hK K hV hVl hHeld
        have hHeld := hHeld2
        clear hHeld2
        try simp only [Act.put, zA, zB, zC, zD, zE, zF]
        refine wR 9 fun K hK => ?_
        go_simp
        refine (calls_b hHeld.1 (HBit5.out _)).mono ?_
        rintro e wr4 ⟨rfl, hV, hVl⟩
        dsimp only
        refine hK.out _ _ ?_ (fun hHeld2 => ?_)
        ·exact ⟨hV, hV.oldbox HBox.out hxl⟩
        clear hK K hV hVl hHeld
        have hHeld := hHeld2
        clear hHeld2
        try simp only [Act.put, zA, zB, zC, zD, zE, zF]
        refine wT 10 ?_
        refine wT 11 ?_
        refine wpAnyH_done (by kernel_rfl) (NoPanic.normal ?_) _
        refine world_gen ?_
        intro wz hwz
        rw [← hwz] at hHeld
        clear hwz
        have X5 := X3.keep hHeld.1.bel
        have hb9 := HBq.out.trans (hHeld.1.bel.mono HBq.out.size)
        have j0 := hHeld.1.old i0
        have j1 := hHeld.1.old i1
        have j2 := hHeld.1.old i2
        have HB9 := Lib.hid hb9
        clear hHeld hb9
        go_wp2
        go_ret
        exact ⟨rfl, X5.bel⟩
     ·cases z5
      ·have hno : slotB vs t q b = false := by rw [hs2]; simp [badB]
       have hno2 : slotsQ vs t q = false := by rw [HSQ.out, allN_no hbl hno]; rfl
       have hres : r = false := by rw [← HR.out]; exact allN_no (by omega) hno2
       subst hres
       clear hno hno2 hs2
       go_wp2_with fail
       refine wp_region_noPanic ?_
       refine wp_region_held_drew (S := fun w' => BS wr ([] : List Nat) w' ∧ (∀ o : Nat, w'.cell? ⟨w.heap.size, o, none⟩ = (#[.int .i64 t, .int .i64 p, .int .i64 s, .slice (some ad) n c] : Array Value)[o]?)) (by kernel_rfl) ?_ (fun hHeld => ?_)
       ·exact ⟨(BS.start wr).drew, HBox.out⟩
       refine wT 0 ?_
       refine wT 1 ?_
       refine wT 3 ?_
       refine wT 5 ?_
       refine wT 6 ?_
       refine wT 8 ?_
       refine wR 2 fun K hK => ?_
       go_simp
       refine (calls_b hHeld.1 (I2.out _ (X3.xv.keep hHeld.1.bel))).mono ?_
       rintro e wr1 ⟨rfl, hV, hVl⟩
       dsimp only
       refine hK.out _ _ ?_ (fun hHeld2 => ?_)
       ·exact ⟨hV, hV.oldbox HBox.out hxl⟩
       clear hK K hV hVl hHeld
       have hHeld := hHeld2
       clear hHeld2
       try simp only [Act.put, zA, zB, zC, zD, zE, zF]
       refine wR 4 fun K hK => ?_
       go_simp
       refine (calls_b hHeld.1 (HBit4.out _)).mono ?_
       rintro e wr2 ⟨rfl, hV, hVl⟩
       dsimp only
       refine hK.out _ _ ?_ (fun hHeld2 => ?_)
       ·exact ⟨hV, hV.oldbox HBox.out hxl⟩
       clear hK K hV hVl hHeld
       have hHeld := hHeld2
       clear hHeld2
       try simp only [Act.put, zA, zB, zC, zD, zE, zF]
       refine wR 7 fun K hK => ?_
       go_simp
       refine (calls_b hHeld.1 (I3.out _ (X3.xv.keep hHeld.1.bel))).mono ?_
       rintro e wr3 ⟨rfl, hV, hVl⟩
       dsimp only
       refine hK.out _ _ ?_ (fun hHeld2 => ?_)
       ·exact ⟨hV, hV.oldbox HBox.out hxl⟩
       clear hK K hV hVl hHeld
       have hHeld := hHeld2
       clear hHeld2
       try simp only [Act.put, zA, zB, zC, zD, zE, zF]
       refine wR 9 fun K hK => ?_
       go_simp
       refine (calls_b hHeld.1 (HBit5.out _)).mono ?_
       rintro e wr4 ⟨rfl, hV, hVl⟩
       dsimp only
       refine hK.out _ _ ?_ (fun hHeld2 => ?_)
       ·exact ⟨hV, hV.oldbox HBox.out hxl⟩
       clear hK K hV hVl hHeld
       have hHeld := hHeld2
       clear hHeld2
       try simp only [Act.put, zA, zB, zC, zD, zE, zF]
       refine wT 10 ?_
       refine wT 11 ?_
       refine wpAnyH_done (by kernel_rfl) (NoPanic.normal ?_) _
       refine world_gen ?_
       intro wz hwz
       rw [← hwz] at hHeld
       clear hwz
       have X5 := X3.keep hHeld.1.bel
       have hb9 := HBq.out.trans (hHeld.1.bel.mono HBq.out.size)
       have j0 := hHeld.1.old i0
       have j1 := hHeld.1.old i1
       have j2 := hHeld.1.old i2
       have HB9 := Lib.hid hb9
       clear hHeld hb9
       go_wp2
       go_ret
       exact ⟨rfl, X5.bel⟩
      ·by_cases hk : a1 = 3
       ·have hkb : (a1 != 3) = false := by simp [hk]
        have HSlt := Lib.hid (fun w => rkslots_any a3 w)
        by_cases hsl : slotsF a3 ≤ (b : Int)
        ·have hsl2 := hsl
         have hno : slotB vs t q b = false := by rw [hs2]; simp [badB, hsl]
         generalize slotsF a3 = sl at *
         have hno2 : slotsQ vs t q = false := by rw [HSQ.out, allN_no hbl hno]; rfl
         have hres : r = false := by rw [← HR.out]; exact allN_no (by omega) hno2
         subst hres
         clear hno hno2 hs2 hk hsl2
         go_wp2_with fail
         refine wp_region_noPanic ?_
         refine wp_region_held_drew (S := fun w' => BS wr ([] : List Nat) w' ∧ (∀ o : Nat, w'.cell? ⟨w.heap.size, o, none⟩ = (#[.int .i64 t, .int .i64 p, .int .i64 s, .slice (some ad) n c] : Array Value)[o]?)) (by kernel_rfl) ?_ (fun hHeld => ?_)
         ·exact ⟨(BS.start wr).drew, HBox.out⟩
         refine wT 0 ?_
         refine wT 1 ?_
         refine wT 3 ?_
         refine wT 5 ?_
         refine wT 6 ?_
         refine wT 8 ?_
         refine wR 2 fun K hK => ?_
         go_simp
         refine (calls_b hHeld.1 (I2.out _ (X3.xv.keep hHeld.1.bel))).mono ?_
         rintro e wr1 ⟨rfl, hV, hVl⟩
         dsimp only
         refine hK.out _ _ ?_ (fun hHeld2 => ?_)
         ·exact ⟨hV, hV.oldbox HBox.out hxl⟩
         clear hK K hV hVl hHeld
         have hHeld := hHeld2
         clear hHeld2
         try simp only [Act.put, zA, zB, zC, zD, zE, zF]
         refine wR 4 fun K hK => ?_
         go_simp
         refine (calls_b hHeld.1 (HBit4.out _)).mono ?_
         rintro e wr2 ⟨rfl, hV, hVl⟩
         dsimp only
         refine hK.out _ _ ?_ (fun hHeld2 => ?_)
         ·exact ⟨hV, hV.oldbox HBox.out hxl⟩
         clear hK K hV hVl hHeld
         have hHeld := hHeld2
         clear hHeld2
         try simp only [Act.put, zA, zB, zC, zD, zE, zF]
         refine wR 7 fun K hK => ?_
         go_simp
         refine (calls_b hHeld.1 (I3.out _ (X3.xv.keep hHeld.1.bel))).mono ?_
         rintro e wr3 ⟨rfl, hV, hVl⟩
         dsimp only
         refine hK.out _ _ ?_ (fun hHeld2 => ?_)
         ·exact ⟨hV, hV.oldbox HBox.out hxl⟩
         clear hK K hV hVl hHeld
         have hHeld := hHeld2
         clear hHeld2
         try simp only [Act.put, zA, zB, zC, zD, zE, zF]
         refine wR 9 fun K hK => ?_
         go_simp
         refine (calls_b hHeld.1 (HBit5.out _)).mono ?_
         rintro e wr4 ⟨rfl, hV, hVl⟩
         dsimp only
         refine hK.out _ _ ?_ (fun hHeld2 => ?_)
         ·exact ⟨hV, hV.oldbox HBox.out hxl⟩
         clear hK K hV hVl hHeld
         have hHeld := hHeld2
         clear hHeld2
         try simp only [Act.put, zA, zB, zC, zD, zE, zF]
         refine wT 10 ?_
         refine wT 11 ?_
         refine wpAnyH_done (by kernel_rfl) (NoPanic.normal ?_) _
         refine world_gen ?_
         intro wz hwz
         rw [← hwz] at hHeld
         clear hwz
         have X5 := X3.keep hHeld.1.bel
         have hb9 := HBq.out.trans (hHeld.1.bel.mono HBq.out.size)
         have j0 := hHeld.1.old i0
         have j1 := hHeld.1.old i1
         have j2 := hHeld.1.old i2
         have HB9 := Lib.hid hb9
         clear hHeld hb9
         go_wp2_with fail
         refine (HSlt.out _).mono ?_
         rintro e wy ⟨rfl, hy⟩
         go_wp2
         go_ret
         exact ⟨rfl, (X5.keep hy).bel⟩
        ·have hyes : slotB vs t q b = true := by rw [hs2]; simp [badB, hk, hsl]
         generalize slotsF a3 = sl at *
         have HY := Lib.hid hyes
         clear hyes hs2 hk
         go_wp2_with fail
         refine wp_region_noPanic ?_
         refine wp_region_held_drew (S := fun w' => BS wr ([] : List Nat) w' ∧ (∀ o : Nat, w'.cell? ⟨w.heap.size, o, none⟩ = (#[.int .i64 t, .int .i64 p, .int .i64 s, .slice (some ad) n c] : Array Value)[o]?)) (by kernel_rfl) ?_ (fun hHeld => ?_)
         ·exact ⟨(BS.start wr).drew, HBox.out⟩
         refine wT 0 ?_
         refine wT 1 ?_
         refine wT 3 ?_
         refine wT 5 ?_
         refine wT 6 ?_
         refine wT 8 ?_
         refine wR 2 fun K hK => ?_
         go_simp
         refine (calls_b hHeld.1 (I2.out _ (X3.xv.keep hHeld.1.bel))).mono ?_
         rintro e wr1 ⟨rfl, hV, hVl⟩
         dsimp only
         refine hK.out _ _ ?_ (fun hHeld2 => ?_)
         ·exact ⟨hV, hV.oldbox HBox.out hxl⟩
         clear hK K hV hVl hHeld
         have hHeld := hHeld2
         clear hHeld2
         try simp only [Act.put, zA, zB, zC, zD, zE, zF]
         refine wR 4 fun K hK => ?_
         go_simp
         refine (calls_b hHeld.1 (HBit4.out _)).mono ?_
         rintro e wr2 ⟨rfl, hV, hVl⟩
         dsimp only
         refine hK.out _ _ ?_ (fun hHeld2 => ?_)
         ·exact ⟨hV, hV.oldbox HBox.out hxl⟩
         clear hK K hV hVl hHeld
         have hHeld := hHeld2
         clear hHeld2
         try simp only [Act.put, zA, zB, zC, zD, zE, zF]
         refine wR 7 fun K hK => ?_
         go_simp
         refine (calls_b hHeld.1 (I3.out _ (X3.xv.keep hHeld.1.bel))).mono ?_
         rintro e wr3 ⟨rfl, hV, hVl⟩
         dsimp only
         refine hK.out _ _ ?_ (fun hHeld2 => ?_)
         ·exact ⟨hV, hV.oldbox HBox.out hxl⟩
         clear hK K hV hVl hHeld
         have hHeld := hHeld2
         clear hHeld2
         try simp only [Act.put, zA, zB, zC, zD, zE, zF]
         refine wR 9 fun K hK => ?_
         go_simp
         refine (calls_b hHeld.1 (HBit5.out _)).mono ?_
         rintro e wr4 ⟨rfl, hV, hVl⟩
         dsimp only
         refine hK.out _ _ ?_ (fun hHeld2 => ?_)
         ·exact ⟨hV, hV.oldbox HBox.out hxl⟩
         clear hK K hV hVl hHeld
         have hHeld := hHeld2
         clear hHeld2
         try simp only [Act.put, zA, zB, zC, zD, zE, zF]
         refine wT 10 ?_
         refine wT 11 ?_
         refine wpAnyH_done (by kernel_rfl) (NoPanic.normal ?_) _
         refine world_gen ?_
         intro wz hwz
         rw [← hwz] at hHeld
         clear hwz
         have X5 := X3.keep hHeld.1.bel
         have hb9 := HBq.out.trans (hHeld.1.bel.mono HBq.out.size)
         have j0 := hHeld.1.old i0
         have j1 := hHeld.1.old i1
         have j2 := hHeld.1.old i2
         have HB9 := Lib.hid hb9
         clear hHeld hb9
         go_wp2_with fail
         refine (HSlt.out _).mono ?_
         rintro e wy ⟨rfl, hy⟩
         have bel9 := HB9.out.trans (hy.mono HB9.out.size)
         go_wp2_with fail
         go_roundw
         case rel => exact ⟨b + 1, by omega, by go_num, by simp [allN, HQ.out, HY.out], bel9⟩
         case measure => simp [intOf]; omega
       ·have hkb : (a1 != 3) = true := by simp [hk]
        clear hk
        have hno : slotB vs t q b = false := by rw [hs2]; simp [badB, hkb]
        have hno2 : slotsQ vs t q = false := by rw [HSQ.out, allN_no hbl hno]; rfl
        have hres : r = false := by rw [← HR.out]; exact allN_no (by omega) hno2
        subst hres
        clear hno hno2 hs2
        go_wp2_with fail
        refine wp_region_noPanic ?_
        refine wp_region_held_drew (S := fun w' => BS wr ([] : List Nat) w' ∧ (∀ o : Nat, w'.cell? ⟨w.heap.size, o, none⟩ = (#[.int .i64 t, .int .i64 p, .int .i64 s, .slice (some ad) n c] : Array Value)[o]?)) (by kernel_rfl) ?_ (fun hHeld => ?_)
        ·exact ⟨(BS.start wr).drew, HBox.out⟩
        refine wT 0 ?_
        refine wT 1 ?_
        refine wT 3 ?_
        refine wT 5 ?_
        refine wT 6 ?_
        refine wT 8 ?_
        refine wR 2 fun K hK => ?_
        go_simp
        refine (calls_b hHeld.1 (I2.out _ (X3.xv.keep hHeld.1.bel))).mono ?_
        rintro e wr1 ⟨rfl, hV, hVl⟩
        dsimp only
        refine hK.out _ _ ?_ (fun hHeld2 => ?_)
        ·exact ⟨hV, hV.oldbox HBox.out hxl⟩
        clear hK K hV hVl hHeld
        have hHeld := hHeld2
        clear hHeld2
        try simp only [Act.put, zA, zB, zC, zD, zE, zF]
        refine wR 4 fun K hK => ?_
        go_simp
        refine (calls_b hHeld.1 (HBit4.out _)).mono ?_
        rintro e wr2 ⟨rfl, hV, hVl⟩
        dsimp only
        refine hK.out _ _ ?_ (fun hHeld2 => ?_)
        ·exact ⟨hV, hV.oldbox HBox.out hxl⟩
        clear hK K hV hVl hHeld
        have hHeld := hHeld2
        clear hHeld2
        try simp only [Act.put, zA, zB, zC, zD, zE, zF]
        refine wR 7 fun K hK => ?_
        go_simp
        refine (calls_b hHeld.1 (I3.out _ (X3.xv.keep hHeld.1.bel))).mono ?_
        rintro e wr3 ⟨rfl, hV, hVl⟩
        dsimp only
        refine hK.out _ _ ?_ (fun hHeld2 => ?_)
        ·exact ⟨hV, hV.oldbox HBox.out hxl⟩
        clear hK K hV hVl hHeld
        have hHeld := hHeld2
        clear hHeld2
        try simp only [Act.put, zA, zB, zC, zD, zE, zF]
        refine wR 9 fun K hK => ?_
        go_simp
        refine (calls_b hHeld.1 (HBit5.out _)).mono ?_
        rintro e wr4 ⟨rfl, hV, hVl⟩
        dsimp only
        refine hK.out _ _ ?_ (fun hHeld2 => ?_)
        ·exact ⟨hV, hV.oldbox HBox.out hxl⟩
        clear hK K hV hVl hHeld
        have hHeld := hHeld2
        clear hHeld2
        try simp only [Act.put, zA, zB, zC, zD, zE, zF]
        refine wT 10 ?_
        refine wT 11 ?_
        refine wpAnyH_done (by kernel_rfl) (NoPanic.normal ?_) _
        refine world_gen ?_
        intro wz hwz
        rw [← hwz] at hHeld
        clear hwz
        have X5 := X3.keep hHeld.1.bel
        have hb9 := HBq.out.trans (hHeld.1.bel.mono HBq.out.size)
        have j0 := hHeld.1.old i0
        have j1 := hHeld.1.old i1
        have j2 := hHeld.1.old i2
        have HB9 := Lib.hid hb9
        clear hHeld hb9
        go_wp2
        go_ret
        exact ⟨rfl, X5.bel⟩
    ·obtain rfl : b = 32 := by omega
     have bel7 := HBw1.out.trans (HBq.out.mono HBw1.out.size)
     by_cases hk : a1 = 3
     ·have hkb : (a1 == 3) = true := by simp [hk]
      by_cases hu : u5 = 0
      ·have hub : (u5 == 0) = true := by simp [hu]
       have hno2 : slotsQ vs t q = false := by rw [HSQ.out, hkb, hub]; simp
       have hres : r = false := by rw [← HR.out]; exact allN_no (by omega) hno2
       subst hres
       clear hno2 hk hu
       go_wp2_with fail
       refine (I3.out _ X3.xv).mono ?_
       rintro e w5 ⟨rfl, hb5⟩
       have X5 := X3.keep hb5
       obtain ⟨X50, X51, X52, X53⟩ := X5.cells
       have X5z := X5.lt
       go_wp2
       go_ret
       exact ⟨rfl, X5.bel⟩
      ·have hub : (u5 == 0) = false := by simp [hu]
       have hyes : slotsQ vs t q = true := by rw [HSQ.out, HQ.out, hkb, hub]; rfl
       have HY := Lib.hid hyes
       clear hyes hk hu
       go_wp2_with fail
       refine (I3.out _ X3.xv).mono ?_
       rintro e w5 ⟨rfl, hb5⟩
       have X5 := X3.keep hb5
       obtain ⟨X50, X51, X52, X53⟩ := X5.cells
       have X5z := X5.lt
       have bel9 := bel7.trans (hb5.mono bel7.size)
       go_wp2_with fail
       go_roundw
       case rel => exact ⟨q + 1, by omega, by go_num, by simp [allN, HA.out, HY.out], bel9⟩
       case measure => simp [intOf]; omega
     ·have hkb : (a1 == 3) = false := by simp [hk]
      have hyes : slotsQ vs t q = true := by rw [HSQ.out, HQ.out, hkb]; rfl
      have HY := Lib.hid hyes
      clear hyes hk
      go_wp2_with fail
      go_roundw
      case rel => exact ⟨q + 1, by omega, by go_num, by simp [allN, HA.out, HY.out], bel7⟩
      case measure => simp [intOf]; omega
  ·obtain rfl : q = p.toNat := by omega
   have hres : r = true := by rw [← HR.out]; exact HA.out
   subst hres
   go_wp2
   go_ret
   exact ⟨rfl, X1.bel⟩
end
end Go.Proofs.YtcbikgafdclhaaaGreat
