/- parts of the proof, merged by a program. -/
import Derived.Test.YtcbikgafdclhaaaGreatMoc3
import Derived.Test.YtcbikgafdclhaaaGreatMoc4
import Derived.Test.YtcbikgafdclhaaaGreatMoc5
import Derived.Test.YtcbikgafdclhaaaGreatMoc6
import Derived.Deep.OwnRows
set_option linter.unusedSimpArgs false
set_option linter.unusedVariables false
/- the document's audit: loose. -/
set_option linter.unusedSimpArgs false
set_option linter.unusedVariables false
namespace Go.Proofs.YtcbikgafdclhaaaGreat
open Go.RowKit
section
variable {t p s : Int} {ad : Addr} {n c : Nat} {vs : List Int}

def hungB (vs : List Int) (t : Int) (q : Nat) : Bool := iK (gv vs t q 0) == 1 || (iK (gv vs t q 0) == 3 && !fullB (gv vs t q 5) (iC (gv vs t q 0)))
def looseQ (vs : List Int) (t : Int) (q : Nat) : Bool := hungB vs t q || (gv vs t q 2 == 0 && gv vs t q 3 == 0)
def looseF (vs : List Int) (t p : Int) : Bool := allN (looseQ vs t) p.toNat

set_option maxHeartbeats 4000000 in
set_option maxRecDepth 100000 in
theorem loose_any (c : Nat) (w : World) (h : XV w t p s ad n vs) :
 Calls Tryz.prog 172 #[.agg #[.int .i64 t, .int .i64 p, .int .i64 s, .slice (some ad) n c]] w fun e w' => e = .returned (.bool (looseF vs t p)) ∧ Below w.heap.size w w' := by
 have X0 := h.boxed c
 have bd : 4 ≤ p ∧ p ≤ 1024 := by have := h.bd; omega
 have HG := Lib.hid h.gu
 have HI := Lib.hid (fun (q : Int) (w : World) (h : XV w t p s ad n vs) (h0 : 0 ≤ q) (h1 : q < p) => xinfo_any q c w h h0 h1)
 have HTk := Lib.hid (fun (q : Int) (w : World) (h : XV w t p s ad n vs) (h0 : 0 ≤ q) (h1 : q < p) => xtaken_any q c w h h0 h1)
 have HX : ∀ q, 0 ≤ q → q < p → ∃ k k2 : Nat, k < n ∧ k2 < n ∧ (∀ w, Calls Tryz.prog 219 #[.agg #[.int .i64 t, .int .i64 p, .int .i64 s], .int .i64 q] w fun e w' => e = .returned (.int .i64 k) ∧ Below w.heap.size w w') ∧ w.cell? (ad.add k) = some (.int .u32 (gv vs t q 3)) ∧ (∀ w, Calls Tryz.prog 218 #[.agg #[.int .i64 t, .int .i64 p, .int .i64 s], .int .i64 q] w fun e w' => e = .returned (.int .i64 k2) ∧ Below w.heap.size w w') ∧ w.cell? (ad.add k2) = some (.int .u32 (gv vs t q 2)) := by
  intro q h0 h1
  obtain ⟨hx1, hx2⟩ := h.cx h0 h1 (part := 3) (by omega) (by omega)
  obtain ⟨hy1, hy2⟩ := h.cx h0 h1 (part := 2) (by omega) (by omega)
  refine ⟨cix t q 3, cix t q 2, hx1, hy1, fun w => ?_, h.cells _ hx1, fun w => ?_, h.cells _ hy1⟩
  ·have := rprev_any t p s q w
   rwa [hx2] at this
  ·have := rnext_any t p s q w
   rwa [hy2] at this
 have HXX := Lib.hid HX
 generalize hr : looseF vs t p = r
 have hr2 : allN (looseQ vs t) p.toNat = r := hr
 have HR := Lib.hid hr2
 clear h hr hr2 HX
 go_enter Tryz.func172, Tryz.ntmps172
 go_wp2_with fail
 go_loopw [3, 4] (fun v3 _ wr => AllRel (looseQ vs t) p.toNat (w.alloc (.cells #[.int .i64 t, .int .i64 p, .int .i64 s, .slice (some ad) n c] 169)) v3 wr) (fun v3 _ _ => p.toNat - (intOf v3).toNat)
 case atStart => exact ⟨0, by omega, rfl, rfl, Below.refl _ _⟩
 case round =>
  obtain ⟨q, hq, rfl, hall, hbel⟩ := hrel
  have X1 := X0.keep hbel
  have HA := Lib.hid hall
  have HBel := Lib.hid hbel
  clear hall hbel X0
  obtain ⟨x0, x1, x2, x3⟩ := X1.cells
  by_cases hqp : (q : Int) < p
  ·have hsq : looseQ vs t q = ((iK (gv vs t q 0) == 1 || (iK (gv vs t q 0) == 3 && !fullB (gv vs t q 5) (iC (gv vs t q 0)))) || (gv vs t q 2 == 0 && gv vs t q 3 == 0)) := rfl
   have HSQ := Lib.hid hsq
   have I1 := Lib.hid (fun (w : World) (h : XV w t p s ad n vs) => HI.out q w h (by omega) hqp)
   have I3 := Lib.hid (fun (w : World) (h : XV w t p s ad n vs) => HTk.out q w h (by omega) hqp)
   have g5 := (HG.out q 5).1
   have HFu := Lib.hid (fun w => rfull_any (gv vs t q 5) (iC (gv vs t q 0)) w g5)
   obtain ⟨k, k2, hkn, hkn2, hP, hc0, hN, hd0⟩ := HXX.out q (by omega) hqp
   have hc1 := (BS.mk X1.bel (by simp) : BS w [] wr).old hc0
   have hd1 := (BS.mk X1.bel (by simp) : BS w [] wr).old hd0
   have HP := Lib.hid hP
   have HNx := Lib.hid hN
   clear hsq HI HTk HG g5 hP hN hc0 hd0 HXX
   generalize fullB (gv vs t q 5) (iC (gv vs t q 0)) = fu at *
   generalize iK (gv vs t q 0) = a1 at *
   generalize iL (gv vs t q 0) = a2 at *
   generalize iC (gv vs t q 0) = a3 at *
   generalize gv vs t q 5 = u5 at *
   generalize gv vs t q 2 = u2 at *
   generalize gv vs t q 3 = u3 at *
   have HC1 := Lib.hid hc1
   have HD1 := Lib.hid hd1
   clear hc1 hd1
   by_cases hk1 : a1 = 1
   ·subst hk1
    have hyes : looseQ vs t q = true := by rw [HSQ.out]; simp
    have HY := Lib.hid hyes
    clear hyes
    go_wp2_with fail
    refine (I1.out _ X1.xv).mono ?_
    rintro e w1 ⟨rfl, hb1⟩
    have X2 := X1.keep hb1
    obtain ⟨X20, X21, X22, X23⟩ := X2.cells
    have X2z := X2.lt
    have XI := X2.alloc (.cells #[.int .i64 1, .int .i64 a2, .int .i64 a3] 174)
    have bI := loc_alloc w1 #[.int .i64 1, .int .i64 a2, .int .i64 a3] 174
    have lI : w1.heap.size < (w1.alloc (.cells #[.int .i64 1, .int .i64 a2, .int .i64 a3] 174)).heap.size := by simp
    have hbw := (HBel.out.trans (hb1.mono HBel.out.size)).alloc (Nat.le_trans HBel.out.size hb1.size) (.cells #[.int .i64 1, .int .i64 a2, .int .i64 a3] 174)
    have cc1 := (hb1.cell (World.block_lt_of_cell? _ _ HC1.out)).trans HC1.out
    have dd1 := (hb1.cell (World.block_lt_of_cell? _ _ HD1.out)).trans HD1.out
    go_wp2_with fail
    refine world_gen ?_
    intro wi hwi
    have hbi : Below w1.heap.size w1 wi := by rw [hwi]; exact (Below.refl _ _).alloc (Nat.le_refl _) _
    rw [← hwi] at XI bI lI hbw
    have cc2 := (hbi.cell (World.block_lt_of_cell? _ _ cc1)).trans cc1
    have dd2 := (hbi.cell (World.block_lt_of_cell? _ _ dd1)).trans dd1
    have HXI := Lib.hid XI.box
    have hxl := XI.lt
    have HbI := Lib.hid bI
    clear hwi x0 x1 x2 x3 X20 X21 X22 X23 X2z cc1 dd1 bI
    refine wp_region_noPanic ?_
    refine wp_region_held_drew (S := fun w' => BS wi ([] : List Nat) w' ∧ (∀ o : Nat, w'.cell? ⟨w.heap.size, o, none⟩ = (#[.int .i64 t, .int .i64 p, .int .i64 s, .slice (some ad) n c] : Array Value)[o]?) ∧ (∀ o : Nat, w'.cell? ⟨w1.heap.size, o, none⟩ = (#[.int .i64 1, .int .i64 a2, .int .i64 a3] : Array Value)[o]?)) (by kernel_rfl) ?_ (fun hHeld => ?_)
    ·exact ⟨(BS.start wi).drew, HXI.out, HbI.out⟩
    refine wT 0 ?_
    refine wT 1 ?_
    refine wT 2 ?_
    refine wT 3 ?_
    refine wU 4 ?_
    refine wU 5 ?_
    refine wU 6 ?_
    refine wU 7 ?_
    refine wU 8 ?_
    refine wU 9 ?_
    refine wU 10 ?_
    refine wU 11 ?_
    refine wU 12 ?_
    refine wU 13 ?_
    refine wU 14 ?_
    refine wU 15 ?_
    refine wT 16 ?_
    refine wpAnyH_done (by kernel_rfl) (NoPanic.normal ?_) _
    refine world_gen ?_
    intro wz hwz
    rw [← hwz] at hHeld
    clear hwz
    have X5 := XI.keep hHeld.1.bel
    have hbz := hbw.trans (hHeld.1.bel.mono hbw.size)
    have cc3 := hHeld.1.old cc2
    have dd3 := hHeld.1.old dd2
    have HBz := Lib.hid hbz
    have HX5 := Lib.hid X5.box
    have hl5 := X5.lt
    clear hHeld hbz
    go_wp2_with fail
    go_roundw
    case rel => exact ⟨q + 1, by omega, by go_num, by simp [allN, HA.out, HY.out], HBz.out⟩
    case measure => simp [intOf]; omega
   ·have hkb1 : (a1 == 1) = false := by simp [hk1]
    by_cases hk3 : a1 = 3
    ·subst hk3
     cases fu
     ·clear hk1
      have hyes : looseQ vs t q = true := by rw [HSQ.out]; simp
      have HY := Lib.hid hyes
      clear hyes
      go_wp2_with fail
      refine (I1.out _ X1.xv).mono ?_
      rintro e w1 ⟨rfl, hb1⟩
      have X2 := X1.keep hb1
      obtain ⟨X20, X21, X22, X23⟩ := X2.cells
      have X2z := X2.lt
      have XI := X2.alloc (.cells #[.int .i64 3, .int .i64 a2, .int .i64 a3] 174)
      have bI := loc_alloc w1 #[.int .i64 3, .int .i64 a2, .int .i64 a3] 174
      have lI : w1.heap.size < (w1.alloc (.cells #[.int .i64 3, .int .i64 a2, .int .i64 a3] 174)).heap.size := by simp
      have hbw := (HBel.out.trans (hb1.mono HBel.out.size)).alloc (Nat.le_trans HBel.out.size hb1.size) (.cells #[.int .i64 3, .int .i64 a2, .int .i64 a3] 174)
      have cc1 := (hb1.cell (World.block_lt_of_cell? _ _ HC1.out)).trans HC1.out
      have dd1 := (hb1.cell (World.block_lt_of_cell? _ _ HD1.out)).trans HD1.out
      go_wp2_with fail
      refine world_gen ?_
      intro wi hwi
      have hbi : Below w1.heap.size w1 wi := by rw [hwi]; exact (Below.refl _ _).alloc (Nat.le_refl _) _
      rw [← hwi] at XI bI lI hbw
      have cc2 := (hbi.cell (World.block_lt_of_cell? _ _ cc1)).trans cc1
      have dd2 := (hbi.cell (World.block_lt_of_cell? _ _ dd1)).trans dd1
      have HXI := Lib.hid XI.box
      have hxl := XI.lt
      have HbI := Lib.hid bI
      clear hwi x0 x1 x2 x3 X20 X21 X22 X23 X2z cc1 dd1 bI
      refine wp_region_noPanic ?_
      refine wp_region_held_drew (S := fun w' => BS wi ([] : List Nat) w' ∧ (∀ o : Nat, w'.cell? ⟨w.heap.size, o, none⟩ = (#[.int .i64 t, .int .i64 p, .int .i64 s, .slice (some ad) n c] : Array Value)[o]?) ∧ (∀ o : Nat, w'.cell? ⟨w1.heap.size, o, none⟩ = (#[.int .i64 3, .int .i64 a2, .int .i64 a3] : Array Value)[o]?)) (by kernel_rfl) ?_ (fun hHeld => ?_)
      ·exact ⟨(BS.start wi).drew, HXI.out, HbI.out⟩
      refine wT 0 ?_
      refine wT 1 ?_
      refine wT 2 ?_
      refine wT 3 ?_
      refine wT 4 ?_
      refine wT 5 ?_
      refine wT 6 ?_
      refine wT 7 ?_
      refine wT 8 ?_
      refine wT 9 ?_
      refine wT 11 ?_
      refine wT 12 ?_
      refine wR 10 fun K hK => ?_
      go_simp
      refine (calls_b hHeld.1 (I3.out _ (XI.xv.keep hHeld.1.bel))).mono ?_
      rintro e wr1 ⟨rfl, hV, hVl⟩
      dsimp only
      refine hK.out _ _ ?_ (fun hHeld2 => ?_)
      ·exact ⟨hV, hV.oldbox HXI.out hxl, hV.oldbox HbI.out lI⟩
      clear hK K hV hVl hHeld
      have hHeld := hHeld2
      clear hHeld2
      try simp only [Act.put, zA, zB, zC, zD, zE, zF]
      refine wR 13 fun K hK => ?_
      go_simp
      refine (calls_b hHeld.1 (HFu.out _)).mono ?_
      rintro e wr2 ⟨rfl, hV, hVl⟩
      dsimp only
      refine hK.out _ _ ?_ (fun hHeld2 => ?_)
      ·exact ⟨hV, hV.oldbox HXI.out hxl, hV.oldbox HbI.out lI⟩
      clear hK K hV hVl hHeld
      have hHeld := hHeld2
      clear hHeld2
      try simp only [Act.put, zA, zB, zC, zD, zE, zF]
      refine wT 14 ?_
      refine wT 15 ?_
      refine wT 16 ?_
      refine wpAnyH_done (by kernel_rfl) (NoPanic.normal ?_) _
      refine world_gen ?_
      intro wz hwz
      rw [← hwz] at hHeld
      clear hwz
      have X5 := XI.keep hHeld.1.bel
      have hbz := hbw.trans (hHeld.1.bel.mono hbw.size)
      have cc3 := hHeld.1.old cc2
      have dd3 := hHeld.1.old dd2
      have HBz := Lib.hid hbz
      have HX5 := Lib.hid X5.box
      have hl5 := X5.lt
      clear hHeld hbz
      go_wp2_with fail
      go_roundw
      case rel => exact ⟨q + 1, by omega, by go_num, by simp [allN, HA.out, HY.out], HBz.out⟩
      case measure => simp [intOf]; omega
     ·clear hk1
      by_cases hu2 : u2 = 0
      ·subst hu2
       by_cases hu3 : u3 = 0
       ·subst hu3
        have hyes : looseQ vs t q = true := by rw [HSQ.out]; simp
        have HY := Lib.hid hyes
        clear hyes
        go_wp2_with fail
        refine (I1.out _ X1.xv).mono ?_
        rintro e w1 ⟨rfl, hb1⟩
        have X2 := X1.keep hb1
        obtain ⟨X20, X21, X22, X23⟩ := X2.cells
        have X2z := X2.lt
        have XI := X2.alloc (.cells #[.int .i64 3, .int .i64 a2, .int .i64 a3] 174)
        have bI := loc_alloc w1 #[.int .i64 3, .int .i64 a2, .int .i64 a3] 174
        have lI : w1.heap.size < (w1.alloc (.cells #[.int .i64 3, .int .i64 a2, .int .i64 a3] 174)).heap.size := by simp
        have hbw := (HBel.out.trans (hb1.mono HBel.out.size)).alloc (Nat.le_trans HBel.out.size hb1.size) (.cells #[.int .i64 3, .int .i64 a2, .int .i64 a3] 174)
        have cc1 := (hb1.cell (World.block_lt_of_cell? _ _ HC1.out)).trans HC1.out
        have dd1 := (hb1.cell (World.block_lt_of_cell? _ _ HD1.out)).trans HD1.out
        go_wp2_with fail
        refine world_gen ?_
        intro wi hwi
        have hbi : Below w1.heap.size w1 wi := by rw [hwi]; exact (Below.refl _ _).alloc (Nat.le_refl _) _
        rw [← hwi] at XI bI lI hbw
        have cc2 := (hbi.cell (World.block_lt_of_cell? _ _ cc1)).trans cc1
        have dd2 := (hbi.cell (World.block_lt_of_cell? _ _ dd1)).trans dd1
        have HXI := Lib.hid XI.box
        have hxl := XI.lt
        have HbI := Lib.hid bI
        clear hwi x0 x1 x2 x3 X20 X21 X22 X23 X2z cc1 dd1 bI
        refine wp_region_noPanic ?_
        refine wp_region_held_drew (S := fun w' => BS wi ([] : List Nat) w' ∧ (∀ o : Nat, w'.cell? ⟨w.heap.size, o, none⟩ = (#[.int .i64 t, .int .i64 p, .int .i64 s, .slice (some ad) n c] : Array Value)[o]?) ∧ (∀ o : Nat, w'.cell? ⟨w1.heap.size, o, none⟩ = (#[.int .i64 3, .int .i64 a2, .int .i64 a3] : Array Value)[o]?)) (by kernel_rfl) ?_ (fun hHeld => ?_)
        ·exact ⟨(BS.start wi).drew, HXI.out, HbI.out⟩
        refine wT 0 ?_
        refine wT 1 ?_
        refine wT 2 ?_
        refine wT 3 ?_
        refine wT 4 ?_
        refine wT 5 ?_
        refine wT 6 ?_
        refine wT 7 ?_
        refine wT 8 ?_
        refine wT 9 ?_
        refine wT 11 ?_
        refine wT 12 ?_
        refine wR 10 fun K hK => ?_
        go_simp
        refine (calls_b hHeld.1 (I3.out _ (XI.xv.keep hHeld.1.bel))).mono ?_
        rintro e wr1 ⟨rfl, hV, hVl⟩
        dsimp only
        refine hK.out _ _ ?_ (fun hHeld2 => ?_)
        ·exact ⟨hV, hV.oldbox HXI.out hxl, hV.oldbox HbI.out lI⟩
        clear hK K hV hVl hHeld
        have hHeld := hHeld2
        clear hHeld2
        try simp only [Act.put, zA, zB, zC, zD, zE, zF]
        refine wR 13 fun K hK => ?_
        go_simp
        refine (calls_b hHeld.1 (HFu.out _)).mono ?_
        rintro e wr2 ⟨rfl, hV, hVl⟩
        dsimp only
        refine hK.out _ _ ?_ (fun hHeld2 => ?_)
        ·exact ⟨hV, hV.oldbox HXI.out hxl, hV.oldbox HbI.out lI⟩
        clear hK K hV hVl hHeld
        have hHeld := hHeld2
        clear hHeld2
        try simp only [Act.put, zA, zB, zC, zD, zE, zF]
        refine wT 14 ?_
        refine wT 15 ?_
        refine wT 16 ?_
        refine wpAnyH_done (by kernel_rfl) (NoPanic.normal ?_) _
        refine world_gen ?_
        intro wz hwz
        rw [← hwz] at hHeld
        clear hwz
        have X5 := XI.keep hHeld.1.bel
        have hbz := hbw.trans (hHeld.1.bel.mono hbw.size)
        have cc3 := hHeld.1.old cc2
        have dd3 := hHeld.1.old dd2
        have HBz := Lib.hid hbz
        have HX5 := Lib.hid X5.box
        have hl5 := X5.lt
        clear hHeld hbz
        obtain ⟨y0, y1, y2, y3⟩ := X5.cells
        go_wp2_with fail
        refine wp_region_noPanic ?_
        refine wp_region_held_drew (S := fun w' => BS wz ([] : List Nat) w' ∧ (∀ o : Nat, w'.cell? ⟨w.heap.size, o, none⟩ = (#[.int .i64 t, .int .i64 p, .int .i64 s, .slice (some ad) n c] : Array Value)[o]?) ∧ w'.cell? (ad.add k2) = some (.int .u32 0) ∧ w'.cell? (ad.add k) = some (.int .u32 0)) (by kernel_rfl) ?_ (fun hHeld => ?_)
        ·exact ⟨(BS.start wz).drew, HX5.out, dd3, cc3⟩
        refine wT 0 ?_
        refine wT 1 ?_
        refine wT 2 ?_
        refine wT 3 ?_
        refine wT 4 ?_
        refine wR 5 fun K hK => ?_
        go_simp
        refine (calls_b hHeld.1 (HNx.out _)).mono ?_
        rintro e wr1 ⟨rfl, hV, hVl⟩
        dsimp only
        refine hK.out _ _ ?_ (fun hHeld2 => ?_)
        ·exact ⟨hV, hV.oldbox HX5.out hl5, hV.old dd3, hV.old cc3⟩
        clear hK K hV hVl hHeld
        have hHeld := hHeld2
        clear hHeld2
        try simp only [Act.put, zA, zB, zC, zD, zE, zF]
        refine wT 6 ?_
        refine wT 7 ?_
        refine wT 8 ?_
        refine wT 9 ?_
        refine wT 10 ?_
        refine wT 11 ?_
        refine wT 12 ?_
        refine wT 13 ?_
        refine wT 14 ?_
        refine wR 15 fun K hK => ?_
        go_simp
        refine (calls_b hHeld.1 (HP.out _)).mono ?_
        rintro e wr2 ⟨rfl, hV, hVl⟩
        dsimp only
        refine hK.out _ _ ?_ (fun hHeld2 => ?_)
        ·exact ⟨hV, hV.oldbox HX5.out hl5, hV.old dd3, hV.old cc3⟩
        clear hK K hV hVl hHeld
        have hHeld := hHeld2
        clear hHeld2
        try simp only [Act.put, zA, zB, zC, zD, zE, zF]
        refine wT 16 ?_
        refine wT 17 ?_
        refine wT 18 ?_
        refine wT 19 ?_
        refine wpAnyH_done (by kernel_rfl) (NoPanic.normal ?_) _
        refine world_gen ?_
        intro wz hwz
        rw [← hwz] at hHeld
        clear hwz
        have hb6 := HBz.out.trans (hHeld.1.bel.mono HBz.out.size)
        clear hHeld
        go_wp2_with fail
        go_roundw
        case rel => exact ⟨q + 1, by omega, by go_num, by simp [allN, HA.out, HY.out], hb6⟩
        case measure => simp [intOf]; omega
       ·have hub : (u3 != 0) = true := by simp [hu3]
        have hno : looseQ vs t q = false := by rw [HSQ.out]; simp [hu3]
        have hres : r = false := by rw [← HR.out]; exact allN_no (by omega) hno
        subst hres
        clear hno hu3
        go_wp2_with fail
        refine (I1.out _ X1.xv).mono ?_
        rintro e w1 ⟨rfl, hb1⟩
        have X2 := X1.keep hb1
        obtain ⟨X20, X21, X22, X23⟩ := X2.cells
        have X2z := X2.lt
        have XI := X2.alloc (.cells #[.int .i64 3, .int .i64 a2, .int .i64 a3] 174)
        have bI := loc_alloc w1 #[.int .i64 3, .int .i64 a2, .int .i64 a3] 174
        have lI : w1.heap.size < (w1.alloc (.cells #[.int .i64 3, .int .i64 a2, .int .i64 a3] 174)).heap.size := by simp
        have hbw := (HBel.out.trans (hb1.mono HBel.out.size)).alloc (Nat.le_trans HBel.out.size hb1.size) (.cells #[.int .i64 3, .int .i64 a2, .int .i64 a3] 174)
        have cc1 := (hb1.cell (World.block_lt_of_cell? _ _ HC1.out)).trans HC1.out
        have dd1 := (hb1.cell (World.block_lt_of_cell? _ _ HD1.out)).trans HD1.out
        go_wp2_with fail
        refine world_gen ?_
        intro wi hwi
        have hbi : Below w1.heap.size w1 wi := by rw [hwi]; exact (Below.refl _ _).alloc (Nat.le_refl _) _
        rw [← hwi] at XI bI lI hbw
        have cc2 := (hbi.cell (World.block_lt_of_cell? _ _ cc1)).trans cc1
        have dd2 := (hbi.cell (World.block_lt_of_cell? _ _ dd1)).trans dd1
        have HXI := Lib.hid XI.box
        have hxl := XI.lt
        have HbI := Lib.hid bI
        clear hwi x0 x1 x2 x3 X20 X21 X22 X23 X2z cc1 dd1 bI
        refine wp_region_noPanic ?_
        refine wp_region_held_drew (S := fun w' => BS wi ([] : List Nat) w' ∧ (∀ o : Nat, w'.cell? ⟨w.heap.size, o, none⟩ = (#[.int .i64 t, .int .i64 p, .int .i64 s, .slice (some ad) n c] : Array Value)[o]?) ∧ (∀ o : Nat, w'.cell? ⟨w1.heap.size, o, none⟩ = (#[.int .i64 3, .int .i64 a2, .int .i64 a3] : Array Value)[o]?)) (by kernel_rfl) ?_ (fun hHeld => ?_)
        ·exact ⟨(BS.start wi).drew, HXI.out, HbI.out⟩
        refine wT 0 ?_
        refine wT 1 ?_
        refine wT 2 ?_
        refine wT 3 ?_
        refine wT 4 ?_
        refine wT 5 ?_
        refine wT 6 ?_
        refine wT 7 ?_
        refine wT 8 ?_
        refine wT 9 ?_
        refine wT 11 ?_
        refine wT 12 ?_
        refine wR 10 fun K hK => ?_
        go_simp
        refine (calls_b hHeld.1 (I3.out _ (XI.xv.keep hHeld.1.bel))).mono ?_
        rintro e wr1 ⟨rfl, hV, hVl⟩
        dsimp only
        refine hK.out _ _ ?_ (fun hHeld2 => ?_)
        ·exact ⟨hV, hV.oldbox HXI.out hxl, hV.oldbox HbI.out lI⟩
        clear hK K hV hVl hHeld
        have hHeld := hHeld2
        clear hHeld2
        try simp only [Act.put, zA, zB, zC, zD, zE, zF]
        refine wR 13 fun K hK => ?_
        go_simp
        refine (calls_b hHeld.1 (HFu.out _)).mono ?_
        rintro e wr2 ⟨rfl, hV, hVl⟩
        dsimp only
        refine hK.out _ _ ?_ (fun hHeld2 => ?_)
        ·exact ⟨hV, hV.oldbox HXI.out hxl, hV.oldbox HbI.out lI⟩
        clear hK K hV hVl hHeld
        have hHeld := hHeld2
        clear hHeld2
        try simp only [Act.put, zA, zB, zC, zD, zE, zF]
        refine wT 14 ?_
        refine wT 15 ?_
        refine wT 16 ?_
        refine wpAnyH_done (by kernel_rfl) (NoPanic.normal ?_) _
        refine world_gen ?_
        intro wz hwz
        rw [← hwz] at hHeld
        clear hwz
        have X5 := XI.keep hHeld.1.bel
        have hbz := hbw.trans (hHeld.1.bel.mono hbw.size)
        have cc3 := hHeld.1.old cc2
        have dd3 := hHeld.1.old dd2
        have HBz := Lib.hid hbz
        have HX5 := Lib.hid X5.box
        have hl5 := X5.lt
        clear hHeld hbz
        obtain ⟨y0, y1, y2, y3⟩ := X5.cells
        go_wp2_with fail
        refine wp_region_noPanic ?_
        refine wp_region_held_drew (S := fun w' => BS wz ([] : List Nat) w' ∧ (∀ o : Nat, w'.cell? ⟨w.heap.size, o, none⟩ = (#[.int .i64 t, .int .i64 p, .int .i64 s, .slice (some ad) n c] : Array Value)[o]?) ∧ w'.cell? (ad.add k2) = some (.int .u32 0) ∧ w'.cell? (ad.add k) = some (.int .u32 u3)) (by kernel_rfl) ?_ (fun hHeld => ?_)
        ·exact ⟨(BS.start wz).drew, HX5.out, dd3, cc3⟩
        refine wT 0 ?_
        refine wT 1 ?_
        refine wT 2 ?_
        refine wT 3 ?_
        refine wT 4 ?_
        refine wR 5 fun K hK => ?_
        go_simp
        refine (calls_b hHeld.1 (HNx.out _)).mono ?_
        rintro e wr1 ⟨rfl, hV, hVl⟩
        dsimp only
        refine hK.out _ _ ?_ (fun hHeld2 => ?_)
        ·exact ⟨hV, hV.oldbox HX5.out hl5, hV.old dd3, hV.old cc3⟩
        clear hK K hV hVl hHeld
        have hHeld := hHeld2
        clear hHeld2
        try simp only [Act.put, zA, zB, zC, zD, zE, zF]
        refine wT 6 ?_
        refine wT 7 ?_
        refine wT 8 ?_
        refine wT 9 ?_
        refine wT 10 ?_
        refine wT 11 ?_
        refine wT 12 ?_
        refine wT 13 ?_
        refine wT 14 ?_
        refine wR 15 fun K hK => ?_
        go_simp
        refine (calls_b hHeld.1 (HP.out _)).mono ?_
        rintro e wr2 ⟨rfl, hV, hVl⟩
        dsimp only
        refine hK.out _ _ ?_ (fun hHeld2 => ?_)
        ·exact ⟨hV, hV.oldbox HX5.out hl5, hV.old dd3, hV.old cc3⟩
        clear hK K hV hVl hHeld
        have hHeld := hHeld2
        clear hHeld2
        try simp only [Act.put, zA, zB, zC, zD, zE, zF]
        refine wT 16 ?_
        refine wT 17 ?_
        refine wT 18 ?_
        refine wT 19 ?_
        refine wpAnyH_done (by kernel_rfl) (NoPanic.normal ?_) _
        refine world_gen ?_
        intro wz hwz
        rw [← hwz] at hHeld
        clear hwz
        have X6 := X5.keep hHeld.1.bel
        clear hHeld
        go_wp2
        go_ret
        exact ⟨rfl, X6.bel⟩
      ·have hub : (u2 != 0) = true := by simp [hu2]
       have hno : looseQ vs t q = false := by rw [HSQ.out]; simp [hu2]
       have hres : r = false := by rw [← HR.out]; exact allN_no (by omega) hno
       subst hres
       clear hno hu2
       go_wp2_with fail
       refine (I1.out _ X1.xv).mono ?_
       rintro e w1 ⟨rfl, hb1⟩
       have X2 := X1.keep hb1
       obtain ⟨X20, X21, X22, X23⟩ := X2.cells
       have X2z := X2.lt
       have XI := X2.alloc (.cells #[.int .i64 3, .int .i64 a2, .int .i64 a3] 174)
       have bI := loc_alloc w1 #[.int .i64 3, .int .i64 a2, .int .i64 a3] 174
       have lI : w1.heap.size < (w1.alloc (.cells #[.int .i64 3, .int .i64 a2, .int .i64 a3] 174)).heap.size := by simp
       have hbw := (HBel.out.trans (hb1.mono HBel.out.size)).alloc (Nat.le_trans HBel.out.size hb1.size) (.cells #[.int .i64 3, .int .i64 a2, .int .i64 a3] 174)
       have cc1 := (hb1.cell (World.block_lt_of_cell? _ _ HC1.out)).trans HC1.out
       have dd1 := (hb1.cell (World.block_lt_of_cell? _ _ HD1.out)).trans HD1.out
       go_wp2_with fail
       refine world_gen ?_
       intro wi hwi
       have hbi : Below w1.heap.size w1 wi := by rw [hwi]; exact (Below.refl _ _).alloc (Nat.le_refl _) _
       rw [← hwi] at XI bI lI hbw
       have cc2 := (hbi.cell (World.block_lt_of_cell? _ _ cc1)).trans cc1
       have dd2 := (hbi.cell (World.block_lt_of_cell? _ _ dd1)).trans dd1
       have HXI := Lib.hid XI.box
       have hxl := XI.lt
       have HbI := Lib.hid bI
       clear hwi x0 x1 x2 x3 X20 X21 X22 X23 X2z cc1 dd1 bI
       refine wp_region_noPanic ?_
       refine wp_region_held_drew (S := fun w' => BS wi ([] : List Nat) w' ∧ (∀ o : Nat, w'.cell? ⟨w.heap.size, o, none⟩ = (#[.int .i64 t, .int .i64 p, .int .i64 s, .slice (some ad) n c] : Array Value)[o]?) ∧ (∀ o : Nat, w'.cell? ⟨w1.heap.size, o, none⟩ = (#[.int .i64 3, .int .i64 a2, .int .i64 a3] : Array Value)[o]?)) (by kernel_rfl) ?_ (fun hHeld => ?_)
       ·exact ⟨(BS.start wi).drew, HXI.out, HbI.out⟩
       refine wT 0 ?_
       refine wT 1 ?_
       refine wT 2 ?_
       refine wT 3 ?_
       refine wT 4 ?_
       refine wT 5 ?_
       refine wT 6 ?_
       refine wT 7 ?_
       refine wT 8 ?_
       refine wT 9 ?_
       refine wT 11 ?_
       refine wT 12 ?_
       refine wR 10 fun K hK => ?_
       go_simp
       refine (calls_b hHeld.1 (I3.out _ (XI.xv.keep hHeld.1.bel))).mono ?_
       rintro e wr1 ⟨rfl, hV, hVl⟩
       dsimp only
       refine hK.out _ _ ?_ (fun hHeld2 => ?_)
       ·exact ⟨hV, hV.oldbox HXI.out hxl, hV.oldbox HbI.out lI⟩
       clear hK K hV hVl hHeld
       have hHeld := hHeld2
       clear hHeld2
       try simp only [Act.put, zA, zB, zC, zD, zE, zF]
       refine wR 13 fun K hK => ?_
       go_simp
       refine (calls_b hHeld.1 (HFu.out _)).mono ?_
       rintro e wr2 ⟨rfl, hV, hVl⟩
       dsimp only
       refine hK.out _ _ ?_ (fun hHeld2 => ?_)
       ·exact ⟨hV, hV.oldbox HXI.out hxl, hV.oldbox HbI.out lI⟩
       clear hK K hV hVl hHeld
       have hHeld := hHeld2
       clear hHeld2
       try simp only [Act.put, zA, zB, zC, zD, zE, zF]
       refine wT 14 ?_
       refine wT 15 ?_
       refine wT 16 ?_
       refine wpAnyH_done (by kernel_rfl) (NoPanic.normal ?_) _
       refine world_gen ?_
       intro wz hwz
       rw [← hwz] at hHeld
       clear hwz
       have X5 := XI.keep hHeld.1.bel
       have hbz := hbw.trans (hHeld.1.bel.mono hbw.size)
       have cc3 := hHeld.1.old cc2
       have dd3 := hHeld.1.old dd2
       have HBz := Lib.hid hbz
       have HX5 := Lib.hid X5.box
       have hl5 := X5.lt
       clear hHeld hbz
       obtain ⟨y0, y1, y2, y3⟩ := X5.cells
       go_wp2_with fail
       refine wp_region_noPanic ?_
       refine wp_region_held_drew (S := fun w' => BS wz ([] : List Nat) w' ∧ (∀ o : Nat, w'.cell? ⟨w.heap.size, o, none⟩ = (#[.int .i64 t, .int .i64 p, .int .i64 s, .slice (some ad) n c] : Array Value)[o]?) ∧ w'.cell? (ad.add k2) = some (.int .u32 u2) ∧ w'.cell? (ad.add k) = some (.int .u32 u3)) (by kernel_rfl) ?_ (fun hHeld => ?_)
       ·exact ⟨(BS.start wz).drew, HX5.out, dd3, cc3⟩
       refine wT 0 ?_
       refine wT 1 ?_
       refine wT 2 ?_
       refine wT 3 ?_
       refine wT 4 ?_
       refine wR 5 fun K hK => ?_
       go_simp
       refine (calls_b hHeld.1 (HNx.out _)).mono ?_
       rintro e wr1 ⟨rfl, hV, hVl⟩
       dsimp only
       refine hK.out _ _ ?_ (fun hHeld2 => ?_)
       ·exact ⟨hV, hV.oldbox HX5.out hl5, hV.old dd3, hV.old cc3⟩
       clear hK K hV hVl hHeld
       have hHeld := hHeld2
       clear hHeld2
       try simp only [Act.put, zA, zB, zC, zD, zE, zF]
       refine wT 6 ?_
       refine wT 7 ?_
       refine wT 8 ?_
       refine wT 9 ?_
       refine wU 10 ?_
       refine wU 11 ?_
       refine wU 12 ?_
       refine wU 13 ?_
       refine wU 14 ?_
       refine wU 15 ?_
       refine wU 16 ?_
       refine wU 17 ?_
       refine wU 18 ?_
       refine wT 19 ?_
       refine wpAnyH_done (by kernel_rfl) (NoPanic.normal ?_) _
       refine world_gen ?_
       intro wz hwz
       rw [← hwz] at hHeld
       clear hwz
       have X6 := X5.keep hHeld.1.bel
       clear hHeld
       go_wp2
       go_ret
       exact ⟨rfl, X6.bel⟩
    ·have hkb3 : (a1 == 3) = false := by simp [hk3]
     by_cases hu2 : u2 = 0
     ·subst hu2
      by_cases hu3 : u3 = 0
      ·subst hu3
       have hyes : looseQ vs t q = true := by rw [HSQ.out]; simp
       have HY := Lib.hid hyes
       clear hyes
       go_wp2_with fail
       refine (I1.out _ X1.xv).mono ?_
       rintro e w1 ⟨rfl, hb1⟩
       have X2 := X1.keep hb1
       obtain ⟨X20, X21, X22, X23⟩ := X2.cells
       have X2z := X2.lt
       have XI := X2.alloc (.cells #[.int .i64 a1, .int .i64 a2, .int .i64 a3] 174)
       have bI := loc_alloc w1 #[.int .i64 a1, .int .i64 a2, .int .i64 a3] 174
       have lI : w1.heap.size < (w1.alloc (.cells #[.int .i64 a1, .int .i64 a2, .int .i64 a3] 174)).heap.size := by simp
       have hbw := (HBel.out.trans (hb1.mono HBel.out.size)).alloc (Nat.le_trans HBel.out.size hb1.size) (.cells #[.int .i64 a1, .int .i64 a2, .int .i64 a3] 174)
       have cc1 := (hb1.cell (World.block_lt_of_cell? _ _ HC1.out)).trans HC1.out
       have dd1 := (hb1.cell (World.block_lt_of_cell? _ _ HD1.out)).trans HD1.out
       go_wp2_with fail
       refine world_gen ?_
       intro wi hwi
       have hbi : Below w1.heap.size w1 wi := by rw [hwi]; exact (Below.refl _ _).alloc (Nat.le_refl _) _
       rw [← hwi] at XI bI lI hbw
       have cc2 := (hbi.cell (World.block_lt_of_cell? _ _ cc1)).trans cc1
       have dd2 := (hbi.cell (World.block_lt_of_cell? _ _ dd1)).trans dd1
       have HXI := Lib.hid XI.box
       have hxl := XI.lt
       have HbI := Lib.hid bI
       clear hwi x0 x1 x2 x3 X20 X21 X22 X23 X2z cc1 dd1 bI
       refine wp_region_noPanic ?_
       refine wp_region_held_drew (S := fun w' => BS wi ([] : List Nat) w' ∧ (∀ o : Nat, w'.cell? ⟨w.heap.size, o, none⟩ = (#[.int .i64 t, .int .i64 p, .int .i64 s, .slice (some ad) n c] : Array Value)[o]?) ∧ (∀ o : Nat, w'.cell? ⟨w1.heap.size, o, none⟩ = (#[.int .i64 a1, .int .i64 a2, .int .i64 a3] : Array Value)[o]?)) (by kernel_rfl) ?_ (fun hHeld => ?_)
       ·exact ⟨(BS.start wi).drew, HXI.out, HbI.out⟩
       refine wT 0 ?_
       refine wT 1 ?_
       refine wT 2 ?_
       refine wT 3 ?_
       refine wT 4 ?_
       refine wT 5 ?_
       refine wT 6 ?_
       refine wT 7 ?_
       refine wU 8 ?_
       refine wU 9 ?_
       refine wU 10 ?_
       refine wU 11 ?_
       refine wU 12 ?_
       refine wU 13 ?_
       refine wU 14 ?_
       refine wT 15 ?_
       refine wT 16 ?_
       refine wpAnyH_done (by kernel_rfl) (NoPanic.normal ?_) _
       refine world_gen ?_
       intro wz hwz
       rw [← hwz] at hHeld
       clear hwz
       have X5 := XI.keep hHeld.1.bel
       have hbz := hbw.trans (hHeld.1.bel.mono hbw.size)
       have cc3 := hHeld.1.old cc2
       have dd3 := hHeld.1.old dd2
       have HBz := Lib.hid hbz
       have HX5 := Lib.hid X5.box
       have hl5 := X5.lt
       clear hHeld hbz
       obtain ⟨y0, y1, y2, y3⟩ := X5.cells
       go_wp2_with fail
       refine wp_region_noPanic ?_
       refine wp_region_held_drew (S := fun w' => BS wz ([] : List Nat) w' ∧ (∀ o : Nat, w'.cell? ⟨w.heap.size, o, none⟩ = (#[.int .i64 t, .int .i64 p, .int .i64 s, .slice (some ad) n c] : Array Value)[o]?) ∧ w'.cell? (ad.add k2) = some (.int .u32 0) ∧ w'.cell? (ad.add k) = some (.int .u32 0)) (by kernel_rfl) ?_ (fun hHeld => ?_)
       ·exact ⟨(BS.start wz).drew, HX5.out, dd3, cc3⟩
       refine wT 0 ?_
       refine wT 1 ?_
       refine wT 2 ?_
       refine wT 3 ?_
       refine wT 4 ?_
       refine wR 5 fun K hK => ?_
       go_simp
       refine (calls_b hHeld.1 (HNx.out _)).mono ?_
       rintro e wr1 ⟨rfl, hV, hVl⟩
       dsimp only
       refine hK.out _ _ ?_ (fun hHeld2 => ?_)
       ·exact ⟨hV, hV.oldbox HX5.out hl5, hV.old dd3, hV.old cc3⟩
       clear hK K hV hVl hHeld
       have hHeld := hHeld2
       clear hHeld2
       try simp only [Act.put, zA, zB, zC, zD, zE, zF]
       refine wT 6 ?_
       refine wT 7 ?_
       refine wT 8 ?_
       refine wT 9 ?_
       refine wT 10 ?_
       refine wT 11 ?_
       refine wT 12 ?_
       refine wT 13 ?_
       refine wT 14 ?_
       refine wR 15 fun K hK => ?_
       go_simp
       refine (calls_b hHeld.1 (HP.out _)).mono ?_
       rintro e wr2 ⟨rfl, hV, hVl⟩
       dsimp only
       refine hK.out _ _ ?_ (fun hHeld2 => ?_)
       ·exact ⟨hV, hV.oldbox HX5.out hl5, hV.old dd3, hV.old cc3⟩
       clear hK K hV hVl hHeld
       have hHeld := hHeld2
       clear hHeld2
       try simp only [Act.put, zA, zB, zC, zD, zE, zF]
       refine wT 16 ?_
       refine wT 17 ?_
       refine wT 18 ?_
       refine wT 19 ?_
       refine wpAnyH_done (by kernel_rfl) (NoPanic.normal ?_) _
       refine world_gen ?_
       intro wz hwz
       rw [← hwz] at hHeld
       clear hwz
       have hb6 := HBz.out.trans (hHeld.1.bel.mono HBz.out.size)
       clear hHeld
       go_wp2_with fail
       go_roundw
       case rel => exact ⟨q + 1, by omega, by go_num, by simp [allN, HA.out, HY.out], hb6⟩
       case measure => simp [intOf]; omega
      ·have hub : (u3 != 0) = true := by simp [hu3]
       have hno : looseQ vs t q = false := by rw [HSQ.out]; simp [hu3, hk1, hk3]
       have hres : r = false := by rw [← HR.out]; exact allN_no (by omega) hno
       subst hres
       clear hno hu3
       go_wp2_with fail
       refine (I1.out _ X1.xv).mono ?_
       rintro e w1 ⟨rfl, hb1⟩
       have X2 := X1.keep hb1
       obtain ⟨X20, X21, X22, X23⟩ := X2.cells
       have X2z := X2.lt
       have XI := X2.alloc (.cells #[.int .i64 a1, .int .i64 a2, .int .i64 a3] 174)
       have bI := loc_alloc w1 #[.int .i64 a1, .int .i64 a2, .int .i64 a3] 174
       have lI : w1.heap.size < (w1.alloc (.cells #[.int .i64 a1, .int .i64 a2, .int .i64 a3] 174)).heap.size := by simp
       have hbw := (HBel.out.trans (hb1.mono HBel.out.size)).alloc (Nat.le_trans HBel.out.size hb1.size) (.cells #[.int .i64 a1, .int .i64 a2, .int .i64 a3] 174)
       have cc1 := (hb1.cell (World.block_lt_of_cell? _ _ HC1.out)).trans HC1.out
       have dd1 := (hb1.cell (World.block_lt_of_cell? _ _ HD1.out)).trans HD1.out
       go_wp2_with fail
       refine world_gen ?_
       intro wi hwi
       have hbi : Below w1.heap.size w1 wi := by rw [hwi]; exact (Below.refl _ _).alloc (Nat.le_refl _) _
       rw [← hwi] at XI bI lI hbw
       have cc2 := (hbi.cell (World.block_lt_of_cell? _ _ cc1)).trans cc1
       have dd2 := (hbi.cell (World.block_lt_of_cell? _ _ dd1)).trans dd1
       have HXI := Lib.hid XI.box
       have hxl := XI.lt
       have HbI := Lib.hid bI
       clear hwi x0 x1 x2 x3 X20 X21 X22 X23 X2z cc1 dd1 bI
       refine wp_region_noPanic ?_
       refine wp_region_held_drew (S := fun w' => BS wi ([] : List Nat) w' ∧ (∀ o : Nat, w'.cell? ⟨w.heap.size, o, none⟩ = (#[.int .i64 t, .int .i64 p, .int .i64 s, .slice (some ad) n c] : Array Value)[o]?) ∧ (∀ o : Nat, w'.cell? ⟨w1.heap.size, o, none⟩ = (#[.int .i64 a1, .int .i64 a2, .int .i64 a3] : Array Value)[o]?)) (by kernel_rfl) ?_ (fun hHeld => ?_)
       ·exact ⟨(BS.start wi).drew, HXI.out, HbI.out⟩
       refine wT 0 ?_
       refine wT 1 ?_
       refine wT 2 ?_
       refine wT 3 ?_
       refine wT 4 ?_
       refine wT 5 ?_
       refine wT 6 ?_
       refine wT 7 ?_
       refine wU 8 ?_
       refine wU 9 ?_
       refine wU 10 ?_
       refine wU 11 ?_
       refine wU 12 ?_
       refine wU 13 ?_
       refine wU 14 ?_
       refine wT 15 ?_
       refine wT 16 ?_
       refine wpAnyH_done (by kernel_rfl) (NoPanic.normal ?_) _
       refine world_gen ?_
       intro wz hwz
       rw [← hwz] at hHeld
       clear hwz
       have X5 := XI.keep hHeld.1.bel
       have hbz := hbw.trans (hHeld.1.bel.mono hbw.size)
       have cc3 := hHeld.1.old cc2
       have dd3 := hHeld.1.old dd2
       have HBz := Lib.hid hbz
       have HX5 := Lib.hid X5.box
       have hl5 := X5.lt
       clear hHeld hbz
       obtain ⟨y0, y1, y2, y3⟩ := X5.cells
       go_wp2_with fail
       refine wp_region_noPanic ?_
       refine wp_region_held_drew (S := fun w' => BS wz ([] : List Nat) w' ∧ (∀ o : Nat, w'.cell? ⟨w.heap.size, o, none⟩ = (#[.int .i64 t, .int .i64 p, .int .i64 s, .slice (some ad) n c] : Array Value)[o]?) ∧ w'.cell? (ad.add k2) = some (.int .u32 0) ∧ w'.cell? (ad.add k) = some (.int .u32 u3)) (by kernel_rfl) ?_ (fun hHeld => ?_)
       ·exact ⟨(BS.start wz).drew, HX5.out, dd3, cc3⟩
       refine wT 0 ?_
       refine wT 1 ?_
       refine wT 2 ?_
       refine wT 3 ?_
       refine wT 4 ?_
       refine wR 5 fun K hK => ?_
       go_simp
       refine (calls_b hHeld.1 (HNx.out _)).mono ?_
       rintro e wr1 ⟨rfl, hV, hVl⟩
       dsimp only
       refine hK.out _ _ ?_ (fun hHeld2 => ?_)
       ·exact ⟨hV, hV.oldbox HX5.out hl5, hV.old dd3, hV.old cc3⟩
       clear hK K hV hVl hHeld
       have hHeld := hHeld2
       clear hHeld2
       try simp only [Act.put, zA, zB, zC, zD, zE, zF]
       refine wT 6 ?_
       refine wT 7 ?_
       refine wT 8 ?_
       refine wT 9 ?_
       refine wT 10 ?_
       refine wT 11 ?_
       refine wT 12 ?_
       refine wT 13 ?_
       refine wT 14 ?_
       refine wR 15 fun K hK => ?_
       go_simp
       refine (calls_b hHeld.1 (HP.out _)).mono ?_
       rintro e wr2 ⟨rfl, hV, hVl⟩
       dsimp only
       refine hK.out _ _ ?_ (fun hHeld2 => ?_)
       ·exact ⟨hV, hV.oldbox HX5.out hl5, hV.old dd3, hV.old cc3⟩
       clear hK K hV hVl hHeld
       have hHeld := hHeld2
       clear hHeld2
       try simp only [Act.put, zA, zB, zC, zD, zE, zF]
       refine wT 16 ?_
       refine wT 17 ?_
       refine wT 18 ?_
       refine wT 19 ?_
       refine wpAnyH_done (by kernel_rfl) (NoPanic.normal ?_) _
       refine world_gen ?_
       intro wz hwz
       rw [← hwz] at hHeld
       clear hwz
       have X6 := X5.keep hHeld.1.bel
       clear hHeld
       go_wp2
       go_ret
       exact ⟨rfl, X6.bel⟩
     ·have hub : (u2 != 0) = true := by simp [hu2]
      have hno : looseQ vs t q = false := by rw [HSQ.out]; simp [hu2, hk1, hk3]
      have hres : r = false := by rw [← HR.out]; exact allN_no (by omega) hno
      subst hres
      clear hno hu2
      go_wp2_with fail
      refine (I1.out _ X1.xv).mono ?_
      rintro e w1 ⟨rfl, hb1⟩
      have X2 := X1.keep hb1
      obtain ⟨X20, X21, X22, X23⟩ := X2.cells
      have X2z := X2.lt
      have XI := X2.alloc (.cells #[.int .i64 a1, .int .i64 a2, .int .i64 a3] 174)
      have bI := loc_alloc w1 #[.int .i64 a1, .int .i64 a2, .int .i64 a3] 174
      have lI : w1.heap.size < (w1.alloc (.cells #[.int .i64 a1, .int .i64 a2, .int .i64 a3] 174)).heap.size := by simp
      have hbw := (HBel.out.trans (hb1.mono HBel.out.size)).alloc (Nat.le_trans HBel.out.size hb1.size) (.cells #[.int .i64 a1, .int .i64 a2, .int .i64 a3] 174)
      have cc1 := (hb1.cell (World.block_lt_of_cell? _ _ HC1.out)).trans HC1.out
      have dd1 := (hb1.cell (World.block_lt_of_cell? _ _ HD1.out)).trans HD1.out
      go_wp2_with fail
      refine world_gen ?_
      intro wi hwi
      have hbi : Below w1.heap.size w1 wi := by rw [hwi]; exact (Below.refl _ _).alloc (Nat.le_refl _) _
      rw [← hwi] at XI bI lI hbw
      have cc2 := (hbi.cell (World.block_lt_of_cell? _ _ cc1)).trans cc1
      have dd2 := (hbi.cell (World.block_lt_of_cell? _ _ dd1)).trans dd1
      have HXI := Lib.hid XI.box
      have hxl := XI.lt
      have HbI := Lib.hid bI
      clear hwi x0 x1 x2 x3 X20 X21 X22 X23 X2z cc1 dd1 bI
      refine wp_region_noPanic ?_
      refine wp_region_held_drew (S := fun w' => BS wi ([] : List Nat) w' ∧ (∀ o : Nat, w'.cell? ⟨w.heap.size, o, none⟩ = (#[.int .i64 t, .int .i64 p, .int .i64 s, .slice (some ad) n c] : Array Value)[o]?) ∧ (∀ o : Nat, w'.cell? ⟨w1.heap.size, o, none⟩ = (#[.int .i64 a1, .int .i64 a2, .int .i64 a3] : Array Value)[o]?)) (by kernel_rfl) ?_ (fun hHeld => ?_)
      ·exact ⟨(BS.start wi).drew, HXI.out, HbI.out⟩
      refine wT 0 ?_
      refine wT 1 ?_
      refine wT 2 ?_
      refine wT 3 ?_
      refine wT 4 ?_
      refine wT 5 ?_
      refine wT 6 ?_
      refine wT 7 ?_
      refine wU 8 ?_
      refine wU 9 ?_
      refine wU 10 ?_
      refine wU 11 ?_
      refine wU 12 ?_
      refine wU 13 ?_
      refine wU 14 ?_
      refine wT 15 ?_
      refine wT 16 ?_
      refine wpAnyH_done (by kernel_rfl) (NoPanic.normal ?_) _
      refine world_gen ?_
      intro wz hwz
      rw [← hwz] at hHeld
      clear hwz
      have X5 := XI.keep hHeld.1.bel
      have hbz := hbw.trans (hHeld.1.bel.mono hbw.size)
      have cc3 := hHeld.1.old cc2
      have dd3 := hHeld.1.old dd2
      have HBz := Lib.hid hbz
      have HX5 := Lib.hid X5.box
      have hl5 := X5.lt
      clear hHeld hbz
      obtain ⟨y0, y1, y2, y3⟩ := X5.cells
      go_wp2_with fail
      refine wp_region_noPanic ?_
      refine wp_region_held_drew (S := fun w' => BS wz ([] : List Nat) w' ∧ (∀ o : Nat, w'.cell? ⟨w.heap.size, o, none⟩ = (#[.int .i64 t, .int .i64 p, .int .i64 s, .slice (some ad) n c] : Array Value)[o]?) ∧ w'.cell? (ad.add k2) = some (.int .u32 u2) ∧ w'.cell? (ad.add k) = some (.int .u32 u3)) (by kernel_rfl) ?_ (fun hHeld => ?_)
      ·exact ⟨(BS.start wz).drew, HX5.out, dd3, cc3⟩
      refine wT 0 ?_
      refine wT 1 ?_
      refine wT 2 ?_
      refine wT 3 ?_
      refine wT 4 ?_
      refine wR 5 fun K hK => ?_
      go_simp
      refine (calls_b hHeld.1 (HNx.out _)).mono ?_
      rintro e wr1 ⟨rfl, hV, hVl⟩
      dsimp only
      refine hK.out _ _ ?_ (fun hHeld2 => ?_)
      ·exact ⟨hV, hV.oldbox HX5.out hl5, hV.old dd3, hV.old cc3⟩
      clear hK K hV hVl hHeld
      have hHeld := hHeld2
      clear hHeld2
      try simp only [Act.put, zA, zB, zC, zD, zE, zF]
      refine wT 6 ?_
      refine wT 7 ?_
      refine wT 8 ?_
      refine wT 9 ?_
      refine wU 10 ?_
      refine wU 11 ?_
      refine wU 12 ?_
      refine wU 13 ?_
      refine wU 14 ?_
      refine wU 15 ?_
      refine wU 16 ?_
      refine wU 17 ?_
      refine wU 18 ?_
      refine wT 19 ?_
      refine wpAnyH_done (by kernel_rfl) (NoPanic.normal ?_) _
      refine world_gen ?_
      intro wz hwz
      rw [← hwz] at hHeld
      clear hwz
      have X6 := X5.keep hHeld.1.bel
      clear hHeld
      go_wp2
      go_ret
      exact ⟨rfl, X6.bel⟩
  ·obtain rfl : q = p.toNat := by omega
   have hres : r = true := by rw [← HR.out]; exact HA.out
   subst hres
   go_wp2
   go_ret
   exact ⟨rfl, X1.bel⟩

end
end Go.Proofs.YtcbikgafdclhaaaGreat
/- the document's audit: counts. -/
set_option linter.unusedSimpArgs false
set_option linter.unusedVariables false
namespace Go.Proofs.YtcbikgafdclhaaaGreat
open Go.RowKit
section
variable {t p s : Int} {ad : Addr} {n c : Nat} {vs : List Int}

def freeN (vs : List Int) (t : Int) : Nat → Int
 | 0 => 0
 | q + 1 => freeN vs t q + if iK (gv vs t q 0) = 1 then iL (gv vs t q 0) else 0
def liveN (vs : List Int) (t : Int) : Nat → Int
 | 0 => 0
 | q + 1 => liveN vs t q + (if iK (gv vs t q 0) = 2 then 1 else 0) + (onesN (gv vs t q 4) 32 : Nat)
theorem freeN_bd (vs : List Int) (t : Int) (q : Nat) : 0 ≤ freeN vs t q ∧ freeN vs t q ≤ 1024 * q := by
 induction q with
 | zero => simp [freeN]
 | succ q ih =>
  have := inf_bd (gv vs t q 0)
  unfold freeN
  split <;> omega
theorem liveN_bd (vs : List Int) (t : Int) (q : Nat) : 0 ≤ liveN vs t q ∧ liveN vs t q ≤ 33 * q := by
 induction q with
 | zero => simp [liveN]
 | succ q ih =>
  have := onesN_le (gv vs t q 4) 32
  unfold liveN
  split <;> omega
def countsF (vs : List Int) (t p : Int) : Bool := vs.getD 0 0 == freeN vs t p.toNat && vs.getD 1 0 == liveN vs t p.toNat
def CoRel (vs : List Int) (t p : Int) (W0 : World) (v3 v4 v5 : Value) (wr : World) : Prop := ∃ q : Nat, (q : Int) ≤ p ∧ v5 = .int .i64 q ∧ v3 = .int .i64 (freeN vs t q) ∧ v4 = .int .i64 (liveN vs t q) ∧ Below W0.heap.size W0 wr

set_option maxHeartbeats 4000000 in
set_option maxRecDepth 100000 in
theorem counts_any (c : Nat) (w : World) (h : XV w t p s ad n vs) :
 Calls Tryz.prog 173 #[.agg #[.int .i64 t, .int .i64 p, .int .i64 s, .slice (some ad) n c]] w fun e w' => e = .returned (.bool (countsF vs t p)) ∧ Below w.heap.size w w' := by
 have X0 := h.boxed c
 have bd : 4 ≤ p ∧ p ≤ 1024 := by have := h.bd; omega
 have hnn : 2 ≤ n := by have := h.bd; omega
 have HG := Lib.hid h.gu
 have HI := Lib.hid (fun (q : Int) (w : World) (h : XV w t p s ad n vs) (h0 : 0 ≤ q) (h1 : q < p) => xinfo_any q c w h h0 h1)
 have HSl := Lib.hid (fun (q : Int) (w : World) (h : XV w t p s ad n vs) (h0 : 0 ≤ q) (h1 : q < p) => xslots_any q c w h h0 h1)
 generalize hr : countsF vs t p = r
 have hr2 : (vs.getD 0 0 == freeN vs t p.toNat && vs.getD 1 0 == liveN vs t p.toNat) = r := hr
 have HR := Lib.hid hr2
 clear h hr hr2
 go_enter Tryz.func173, Tryz.ntmps173
 go_wp2_with fail
 go_loopw [3, 4, 5, 6] (fun v3 v4 v5 _ wr => CoRel vs t p (w.alloc (.cells #[.int .i64 t, .int .i64 p, .int .i64 s, .slice (some ad) n c] 169)) v3 v4 v5 wr) (fun _ _ v5 _ _ => p.toNat - (intOf v5).toNat)
 case atStart => exact ⟨0, by omega, rfl, rfl, rfl, Below.refl _ _⟩
 case round =>
  obtain ⟨q, hq, rfl, rfl, rfl, hbel⟩ := hrel
  have X1 := X0.keep hbel
  have HBel := Lib.hid hbel
  clear hbel X0
  obtain ⟨x0, x1, x2, x3⟩ := X1.cells
  have hf1 := freeN_bd vs t q
  have hl1 := liveN_bd vs t q
  by_cases hqp : (q : Int) < p
  ·have I1 := Lib.hid (fun (w : World) (h : XV w t p s ad n vs) => HI.out q w h (by omega) hqp)
   have I2 := Lib.hid (fun (w : World) (h : XV w t p s ad n vs) => HSl.out q w h (by omega) hqp)
   have g4 := (HG.out q 4).1
   have HO := Lib.hid (fun w => rones_any (gv vs t q 4) w g4)
   have hsf : freeN vs t (q + 1) = freeN vs t q + if iK (gv vs t q 0) = 1 then iL (gv vs t q 0) else 0 := rfl
   have hsl : liveN vs t (q + 1) = liveN vs t q + (if iK (gv vs t q 0) = 2 then 1 else 0) + (onesN (gv vs t q 4) 32 : Nat) := rfl
   have ho := onesN_le (gv vs t q 4) 32
   have bd9 := inf_bd (gv vs t q 0)
   obtain ⟨b1, b2, b3, b4, -⟩ := bd9
   clear HI HSl HG g4
   generalize onesN (gv vs t q 4) 32 = on at *
   generalize iK (gv vs t q 0) = a1 at *
   generalize iL (gv vs t q 0) = a2 at *
   generalize iC (gv vs t q 0) = a3 at *
   generalize gv vs t q 4 = u4 at *
   generalize freeN vs t q = fr at *
   generalize liveN vs t q = li at *
   have hon : (on : Int) ≤ 32 := by omega
   by_cases hk1 : a1 = 1
   ·subst hk1
    have HSF := Lib.hid hsf
    have HSL := Lib.hid hsl
    clear hsf hsl
    go_wp2_with fail
    refine (I1.out _ X1.xv).mono ?_
    rintro e w1 ⟨rfl, hb1⟩
    have X2 := X1.keep hb1
    obtain ⟨X20, X21, X22, X23⟩ := X2.cells
    have X2z := X2.lt
    have XI := X2.alloc (.cells #[.int .i64 1, .int .i64 a2, .int .i64 a3] 174)
    have hbw := (HBel.out.trans (hb1.mono HBel.out.size)).alloc (Nat.le_trans HBel.out.size hb1.size) (.cells #[.int .i64 1, .int .i64 a2, .int .i64 a3] 174)
    go_wp2_with fail
    refine (I2.out _ XI.xv).mono ?_
    rintro e w2 ⟨rfl, hb2⟩
    have X3 := XI.keep hb2
    obtain ⟨X30, X31, X32, X33⟩ := X3.cells
    have X3z := X3.lt
    have hbw2 := hbw.trans (hb2.mono hbw.size)
    go_wp2_with fail
    refine (HO.out _).mono ?_
    rintro e w3 ⟨rfl, hb3⟩
    have hbw3 := hbw2.trans (hb3.mono hbw2.size)
    go_wp2_with fail
    go_roundw
    case rel => exact ⟨q + 1, by omega, by go_num, by rw [HSF.out]; simp, by rw [HSL.out]; simp, hbw3⟩
    case measure => simp [intOf]; omega
   ·have hkb1 : (a1 == 1) = false := by simp [hk1]
    by_cases hk2 : a1 = 2
    ·subst hk2
     have HSF := Lib.hid hsf
     have HSL := Lib.hid hsl
     clear hsf hsl hk1
     go_wp2_with fail
     refine (I1.out _ X1.xv).mono ?_
     rintro e w1 ⟨rfl, hb1⟩
     have X2 := X1.keep hb1
     obtain ⟨X20, X21, X22, X23⟩ := X2.cells
     have X2z := X2.lt
     have XI := X2.alloc (.cells #[.int .i64 2, .int .i64 a2, .int .i64 a3] 174)
     have hbw := (HBel.out.trans (hb1.mono HBel.out.size)).alloc (Nat.le_trans HBel.out.size hb1.size) (.cells #[.int .i64 2, .int .i64 a2, .int .i64 a3] 174)
     go_wp2_with fail
     refine (I2.out _ XI.xv).mono ?_
     rintro e w2 ⟨rfl, hb2⟩
     have X3 := XI.keep hb2
     obtain ⟨X30, X31, X32, X33⟩ := X3.cells
     have X3z := X3.lt
     have hbw2 := hbw.trans (hb2.mono hbw.size)
     go_wp2_with fail
     refine (HO.out _).mono ?_
     rintro e w3 ⟨rfl, hb3⟩
     have hbw3 := hbw2.trans (hb3.mono hbw2.size)
     go_wp2_with fail
     go_roundw
     case rel => exact ⟨q + 1, by omega, by go_num, by rw [HSF.out]; simp, by rw [HSL.out]; simp, hbw3⟩
     case measure => simp [intOf]; omega
    ·have hkb2 : (a1 == 2) = false := by simp [hk2]
     rw [if_neg hk1] at hsf
     rw [if_neg hk2] at hsl
     have HSF := Lib.hid hsf
     have HSL := Lib.hid hsl
     clear hsf hsl hk1 hk2
     go_wp2_with fail
     refine (I1.out _ X1.xv).mono ?_
     rintro e w1 ⟨rfl, hb1⟩
     have X2 := X1.keep hb1
     obtain ⟨X20, X21, X22, X23⟩ := X2.cells
     have X2z := X2.lt
     have XI := X2.alloc (.cells #[.int .i64 a1, .int .i64 a2, .int .i64 a3] 174)
     have hbw := (HBel.out.trans (hb1.mono HBel.out.size)).alloc (Nat.le_trans HBel.out.size hb1.size) (.cells #[.int .i64 a1, .int .i64 a2, .int .i64 a3] 174)
     go_wp2_with fail
     refine (I2.out _ XI.xv).mono ?_
     rintro e w2 ⟨rfl, hb2⟩
     have X3 := XI.keep hb2
     obtain ⟨X30, X31, X32, X33⟩ := X3.cells
     have X3z := X3.lt
     have hbw2 := hbw.trans (hb2.mono hbw.size)
     go_wp2_with fail
     refine (HO.out _).mono ?_
     rintro e w3 ⟨rfl, hb3⟩
     have hbw3 := hbw2.trans (hb3.mono hbw2.size)
     go_wp2_with fail
     go_roundw
     case rel => exact ⟨q + 1, by omega, by go_num, by rw [HSF.out]; simp, by rw [HSL.out]; simp, hbw3⟩
     case measure => simp [intOf]; omega
  ·obtain rfl : q = p.toNat := by omega
   have hc0 := X1.xv.cells 0 (by omega)
   have hc1 := X1.xv.cells 1 (by omega)
   have e0 : ad.add 0 = ad := by simp [Addr.add]
   have e1 : ad.add 1 = ⟨ad.block, ad.off + 1, none⟩ := by simp [Addr.add]
   rw [e0] at hc0
   rw [e1] at hc1
   clear HI HSl HG
   generalize freeN vs t p.toNat = fr at *
   generalize liveN vs t p.toNat = li at *
   generalize vs.getD 0 0 = v0 at *
   generalize vs.getD 1 0 = v1 at *
   have hw1 : IntKind.u32.wrap fr = fr := IntWalk.u32_in _ (by omega)
   have hw2 : IntKind.u32.wrap li = li := IntWalk.u32_in _ (by omega)
   by_cases h1 : v0 = fr
   ·subst h1
    have HR2 := HR.out
    simp only [beq_self_eq_true, Bool.true_and] at HR2
    have HR3 := Lib.hid HR2
    clear HR2 HR
    go_wp2
    go_ret
    exact ⟨ret_bool HR3.out, X1.bel⟩
   ·have hb : (v0 == fr) = false := by simp [h1]
    have HR2 := HR.out
    rw [hb] at HR2
    have HR3 := Lib.hid HR2
    clear HR2 HR
    go_wp2
    go_ret
    exact ⟨ret_bool HR3.out, X1.bel⟩
end
end Go.Proofs.YtcbikgafdclhaaaGreat
/- the document's audit: Check, Sound. -/
set_option linter.unusedSimpArgs false
set_option linter.unusedVariables false
namespace Go.Proofs.YtcbikgafdclhaaaGreat
open Go.RowKit
section
variable {t p s : Int} {ad : Addr} {n c : Nat} {vs : List Int}

/-- which rule does not hold first. -/
def chkF (vs : List Int) (t p s : Int) : Int × Bool :=
 if tilesF vs t p = false then (2, false) else
 if feetF vs t p = false then (3, false) else
 if apartF vs t p = false then (4, false) else
 if slotsAll vs t p = false then (5, false) else
 if binsF vs t p = false then (6, false) else
 if racksF vs t p = false then (7, false) else
 if looseF vs t p = false then (8, false) else
 if countsF vs t p = false then (9, false) else
 if rootsF vs t p s = false then (10, false) else
 (0, true)

set_option maxHeartbeats 4000000 in
set_option maxRecDepth 100000 in
theorem rcheck_any (c : Nat) (w : World) (h : XV w t p s ad n vs) :
 Calls Tryz.prog 119 #[.agg #[.int .i64 t, .int .i64 p, .int .i64 s], .slice (some ad) n c] w fun e w' => e = .returned (.tuple #[.int .i64 (chkF vs t p s).1, .bool (chkF vs t p s).2]) ∧ Below w.heap.size w w' := by
 have H1 := rright_any t p s
 have H2 := rcells_any t p s
 rw [h.right] at H1
 have hcf : cellsF t p s = (n : Int) := by unfold cellsF; rw [h.right, h.num]; rfl
 rw [hcf] at H2
 have HH1 := Lib.hid H1
 have HH2 := Lib.hid H2
 have HV := Lib.hid h
 have hst := (startsF_mem (g := fun q => gv vs t q 0) (p := p) (by have := h.bd; omega)).2.1
 have HSt := Lib.hid hst
 have C_tiles := fun (w : World) (h : XV w t p s ad n vs) => tiles_any c w h
 have C_feet := fun (w : World) (h : XV w t p s ad n vs) (hne : (startsF (fun q => gv vs t q 0) p).1 ≠ []) => feet_any c w h hne
 have C_apart := fun (w : World) (h : XV w t p s ad n vs) => apart_any c w h
 have C_slots := fun (w : World) (h : XV w t p s ad n vs) => slots_any c w h
 have C_bins := fun (w : World) (h : XV w t p s ad n vs) => bins_any c w h
 have C_racks := fun (w : World) (h : XV w t p s ad n vs) => racks_any c w h
 have C_loose := fun (w : World) (h : XV w t p s ad n vs) => loose_any c w h
 have C_counts := fun (w : World) (h : XV w t p s ad n vs) => counts_any c w h
 have C_roots := fun (w : World) (h : XV w t p s ad n vs) => roots_any c w h
 generalize hr : chkF vs t p s = r
 have HR := Lib.hid hr
 clear H1 H2 hcf h hst hr
 cases h_tiles : tilesF vs t p
 ·have hR : r = (2, false) := by rw [← HR.out]; simp [chkF, h_tiles]
  subst hR
  rw [h_tiles] at C_tiles
  have K_tiles := Lib.hid C_tiles
  clear HR h_tiles C_tiles C_feet C_apart C_slots C_bins C_racks C_loose C_counts C_roots
  go_enter Tryz.func119, Tryz.ntmps119
  go_wp2_with fail
  refine (HH1.out _).mono ?_
  rintro e w1 ⟨rfl, ha⟩
  obtain ⟨hac, haf⟩ := bcell ha
  have haz0 : w.heap.size < w1.heap.size := by have := ha.size; first | omega | (simp at this; omega)
  go_wp2_with fail
  refine (HH2.out _).mono ?_
  rintro e w2 ⟨rfl, hb⟩
  obtain ⟨hbc, hbf⟩ := bcell hb
  have hbz0 : w1.heap.size ≤ w2.heap.size := by have := hb.size; first | omega | (simp at this; omega)
  have hbz1 : w.heap.size < w2.heap.size := by have := hb.size; first | omega | (simp at this; omega)
  have bel2 : Below w.heap.size w w2 := by (repeat (first | exact Below.refl _ _ | assumption | refine Below.setCell ?_ (by first | omega | (simp; done) | (simp; omega)) _ | refine Below.alloc ?_ (by first | omega | (simp; done) | (simp; omega)) _ | refine Below.drew ?_ | refine Below.trans ?_ (Below.mono ‹Below _ _ _› (by first | omega | (simp; done) | (simp; omega)))))
  have X0 := (HV.out.keep bel2).boxed c
  have X0z := X0.lt
  obtain ⟨X00, X01, X02, X03⟩ := X0.cells
  go_wp2_with fail
  refine (K_tiles.out _ X0.xv).mono ?_
  rintro e v0 ⟨rfl, hv0⟩
  have Y0 := X0.keep hv0
  obtain ⟨Y00, Y01, Y02, Y03⟩ := Y0.cells
  have Y0z := Y0.lt
  clear hv0 X00 X01 X02 X03 X0z
  go_wp2
  exact bodyPost_ret (v := .tuple #[.int .i64 2, .bool false]) (by simp [results, Tryz.results119, go_sem]) rfl ⟨rfl, bel2.trans (Y0.bel.mono bel2.size)⟩
 ·have hne := HSt.out (by simp [tilesF] at h_tiles; exact h_tiles.1)
  rw [h_tiles] at C_tiles
  have K_tiles := Lib.hid C_tiles
  clear C_tiles
  cases h_feet : feetF vs t p
  ·have hR : r = (3, false) := by rw [← HR.out]; simp [chkF, h_tiles, h_feet]
   have hne := HSt.out (by simp [tilesF] at h_tiles; exact h_tiles.1)
   subst hR
   rw [h_feet] at C_feet
   have K_feet := Lib.hid C_feet
   clear HR h_tiles h_feet C_feet C_apart C_slots C_bins C_racks C_loose C_counts C_roots
   go_enter Tryz.func119, Tryz.ntmps119
   go_wp2_with fail
   refine (HH1.out _).mono ?_
   rintro e w1 ⟨rfl, ha⟩
   obtain ⟨hac, haf⟩ := bcell ha
   have haz0 : w.heap.size < w1.heap.size := by have := ha.size; first | omega | (simp at this; omega)
   go_wp2_with fail
   refine (HH2.out _).mono ?_
   rintro e w2 ⟨rfl, hb⟩
   obtain ⟨hbc, hbf⟩ := bcell hb
   have hbz0 : w1.heap.size ≤ w2.heap.size := by have := hb.size; first | omega | (simp at this; omega)
   have hbz1 : w.heap.size < w2.heap.size := by have := hb.size; first | omega | (simp at this; omega)
   have bel2 : Below w.heap.size w w2 := by (repeat (first | exact Below.refl _ _ | assumption | refine Below.setCell ?_ (by first | omega | (simp; done) | (simp; omega)) _ | refine Below.alloc ?_ (by first | omega | (simp; done) | (simp; omega)) _ | refine Below.drew ?_ | refine Below.trans ?_ (Below.mono ‹Below _ _ _› (by first | omega | (simp; done) | (simp; omega)))))
   have X0 := (HV.out.keep bel2).boxed c
   have X0z := X0.lt
   obtain ⟨X00, X01, X02, X03⟩ := X0.cells
   go_wp2_with fail
   refine (K_tiles.out _ X0.xv).mono ?_
   rintro e v0 ⟨rfl, hv0⟩
   have Y0 := X0.keep hv0
   obtain ⟨Y00, Y01, Y02, Y03⟩ := Y0.cells
   have Y0z := Y0.lt
   clear hv0 X00 X01 X02 X03 X0z
   go_wp2_with fail
   refine (K_feet.out _ Y0.xv hne).mono ?_
   rintro e v1 ⟨rfl, hv1⟩
   have Y1 := Y0.keep hv1
   obtain ⟨Y10, Y11, Y12, Y13⟩ := Y1.cells
   have Y1z := Y1.lt
   clear hv1 Y00 Y01 Y02 Y03 Y0z
   go_wp2
   exact bodyPost_ret (v := .tuple #[.int .i64 3, .bool false]) (by simp [results, Tryz.results119, go_sem]) rfl ⟨rfl, bel2.trans (Y1.bel.mono bel2.size)⟩
  ·rw [h_feet] at C_feet
   have K_feet := Lib.hid C_feet
   clear C_feet
   cases h_apart : apartF vs t p
   ·have hR : r = (4, false) := by rw [← HR.out]; simp [chkF, h_tiles, h_feet, h_apart]
    subst hR
    rw [h_apart] at C_apart
    have K_apart := Lib.hid C_apart
    clear HR h_tiles h_feet h_apart C_apart C_slots C_bins C_racks C_loose C_counts C_roots
    go_enter Tryz.func119, Tryz.ntmps119
    go_wp2_with fail
    refine (HH1.out _).mono ?_
    rintro e w1 ⟨rfl, ha⟩
    obtain ⟨hac, haf⟩ := bcell ha
    have haz0 : w.heap.size < w1.heap.size := by have := ha.size; first | omega | (simp at this; omega)
    go_wp2_with fail
    refine (HH2.out _).mono ?_
    rintro e w2 ⟨rfl, hb⟩
    obtain ⟨hbc, hbf⟩ := bcell hb
    have hbz0 : w1.heap.size ≤ w2.heap.size := by have := hb.size; first | omega | (simp at this; omega)
    have hbz1 : w.heap.size < w2.heap.size := by have := hb.size; first | omega | (simp at this; omega)
    have bel2 : Below w.heap.size w w2 := by (repeat (first | exact Below.refl _ _ | assumption | refine Below.setCell ?_ (by first | omega | (simp; done) | (simp; omega)) _ | refine Below.alloc ?_ (by first | omega | (simp; done) | (simp; omega)) _ | refine Below.drew ?_ | refine Below.trans ?_ (Below.mono ‹Below _ _ _› (by first | omega | (simp; done) | (simp; omega)))))
    have X0 := (HV.out.keep bel2).boxed c
    have X0z := X0.lt
    obtain ⟨X00, X01, X02, X03⟩ := X0.cells
    go_wp2_with fail
    refine (K_tiles.out _ X0.xv).mono ?_
    rintro e v0 ⟨rfl, hv0⟩
    have Y0 := X0.keep hv0
    obtain ⟨Y00, Y01, Y02, Y03⟩ := Y0.cells
    have Y0z := Y0.lt
    clear hv0 X00 X01 X02 X03 X0z
    go_wp2_with fail
    refine (K_feet.out _ Y0.xv hne).mono ?_
    rintro e v1 ⟨rfl, hv1⟩
    have Y1 := Y0.keep hv1
    obtain ⟨Y10, Y11, Y12, Y13⟩ := Y1.cells
    have Y1z := Y1.lt
    clear hv1 Y00 Y01 Y02 Y03 Y0z
    go_wp2_with fail
    refine (K_apart.out _ Y1.xv).mono ?_
    rintro e v2 ⟨rfl, hv2⟩
    have Y2 := Y1.keep hv2
    obtain ⟨Y20, Y21, Y22, Y23⟩ := Y2.cells
    have Y2z := Y2.lt
    clear hv2 Y10 Y11 Y12 Y13 Y1z
    go_wp2
    exact bodyPost_ret (v := .tuple #[.int .i64 4, .bool false]) (by simp [results, Tryz.results119, go_sem]) rfl ⟨rfl, bel2.trans (Y2.bel.mono bel2.size)⟩
   ·rw [h_apart] at C_apart
    have K_apart := Lib.hid C_apart
    clear C_apart
    cases h_slots : slotsAll vs t p
    ·have hR : r = (5, false) := by rw [← HR.out]; simp [chkF, h_tiles, h_feet, h_apart, h_slots]
     subst hR
     rw [h_slots] at C_slots
     have K_slots := Lib.hid C_slots
     clear HR h_tiles h_feet h_apart h_slots C_slots C_bins C_racks C_loose C_counts C_roots
     go_enter Tryz.func119, Tryz.ntmps119
     go_wp2_with fail
     refine (HH1.out _).mono ?_
     rintro e w1 ⟨rfl, ha⟩
     obtain ⟨hac, haf⟩ := bcell ha
     have haz0 : w.heap.size < w1.heap.size := by have := ha.size; first | omega | (simp at this; omega)
     go_wp2_with fail
     refine (HH2.out _).mono ?_
     rintro e w2 ⟨rfl, hb⟩
     obtain ⟨hbc, hbf⟩ := bcell hb
     have hbz0 : w1.heap.size ≤ w2.heap.size := by have := hb.size; first | omega | (simp at this; omega)
     have hbz1 : w.heap.size < w2.heap.size := by have := hb.size; first | omega | (simp at this; omega)
     have bel2 : Below w.heap.size w w2 := by (repeat (first | exact Below.refl _ _ | assumption | refine Below.setCell ?_ (by first | omega | (simp; done) | (simp; omega)) _ | refine Below.alloc ?_ (by first | omega | (simp; done) | (simp; omega)) _ | refine Below.drew ?_ | refine Below.trans ?_ (Below.mono ‹Below _ _ _› (by first | omega | (simp; done) | (simp; omega)))))
     have X0 := (HV.out.keep bel2).boxed c
     have X0z := X0.lt
     obtain ⟨X00, X01, X02, X03⟩ := X0.cells
     go_wp2_with fail
     refine (K_tiles.out _ X0.xv).mono ?_
     rintro e v0 ⟨rfl, hv0⟩
     have Y0 := X0.keep hv0
     obtain ⟨Y00, Y01, Y02, Y03⟩ := Y0.cells
     have Y0z := Y0.lt
     clear hv0 X00 X01 X02 X03 X0z
     go_wp2_with fail
     refine (K_feet.out _ Y0.xv hne).mono ?_
     rintro e v1 ⟨rfl, hv1⟩
     have Y1 := Y0.keep hv1
     obtain ⟨Y10, Y11, Y12, Y13⟩ := Y1.cells
     have Y1z := Y1.lt
     clear hv1 Y00 Y01 Y02 Y03 Y0z
     go_wp2_with fail
     refine (K_apart.out _ Y1.xv).mono ?_
     rintro e v2 ⟨rfl, hv2⟩
     have Y2 := Y1.keep hv2
     obtain ⟨Y20, Y21, Y22, Y23⟩ := Y2.cells
     have Y2z := Y2.lt
     clear hv2 Y10 Y11 Y12 Y13 Y1z
     go_wp2_with fail
     refine (K_slots.out _ Y2.xv).mono ?_
     rintro e v3 ⟨rfl, hv3⟩
     have Y3 := Y2.keep hv3
     obtain ⟨Y30, Y31, Y32, Y33⟩ := Y3.cells
     have Y3z := Y3.lt
     clear hv3 Y20 Y21 Y22 Y23 Y2z
     go_wp2
     exact bodyPost_ret (v := .tuple #[.int .i64 5, .bool false]) (by simp [results, Tryz.results119, go_sem]) rfl ⟨rfl, bel2.trans (Y3.bel.mono bel2.size)⟩
    ·rw [h_slots] at C_slots
     have K_slots := Lib.hid C_slots
     clear C_slots
     cases h_bins : binsF vs t p
     ·have hR : r = (6, false) := by rw [← HR.out]; simp [chkF, h_tiles, h_feet, h_apart, h_slots, h_bins]
      subst hR
      rw [h_bins] at C_bins
      have K_bins := Lib.hid C_bins
      clear HR h_tiles h_feet h_apart h_slots h_bins C_bins C_racks C_loose C_counts C_roots
      go_enter Tryz.func119, Tryz.ntmps119
      go_wp2_with fail
      refine (HH1.out _).mono ?_
      rintro e w1 ⟨rfl, ha⟩
      obtain ⟨hac, haf⟩ := bcell ha
      have haz0 : w.heap.size < w1.heap.size := by have := ha.size; first | omega | (simp at this; omega)
      go_wp2_with fail
      refine (HH2.out _).mono ?_
      rintro e w2 ⟨rfl, hb⟩
      obtain ⟨hbc, hbf⟩ := bcell hb
      have hbz0 : w1.heap.size ≤ w2.heap.size := by have := hb.size; first | omega | (simp at this; omega)
      have hbz1 : w.heap.size < w2.heap.size := by have := hb.size; first | omega | (simp at this; omega)
      have bel2 : Below w.heap.size w w2 := by (repeat (first | exact Below.refl _ _ | assumption | refine Below.setCell ?_ (by first | omega | (simp; done) | (simp; omega)) _ | refine Below.alloc ?_ (by first | omega | (simp; done) | (simp; omega)) _ | refine Below.drew ?_ | refine Below.trans ?_ (Below.mono ‹Below _ _ _› (by first | omega | (simp; done) | (simp; omega)))))
      have X0 := (HV.out.keep bel2).boxed c
      have X0z := X0.lt
      obtain ⟨X00, X01, X02, X03⟩ := X0.cells
      go_wp2_with fail
      refine (K_tiles.out _ X0.xv).mono ?_
      rintro e v0 ⟨rfl, hv0⟩
      have Y0 := X0.keep hv0
      obtain ⟨Y00, Y01, Y02, Y03⟩ := Y0.cells
      have Y0z := Y0.lt
      clear hv0 X00 X01 X02 X03 X0z
      go_wp2_with fail
      refine (K_feet.out _ Y0.xv hne).mono ?_
      rintro e v1 ⟨rfl, hv1⟩
      have Y1 := Y0.keep hv1
      obtain ⟨Y10, Y11, Y12, Y13⟩ := Y1.cells
      have Y1z := Y1.lt
      clear hv1 Y00 Y01 Y02 Y03 Y0z
      go_wp2_with fail
      refine (K_apart.out _ Y1.xv).mono ?_
      rintro e v2 ⟨rfl, hv2⟩
      have Y2 := Y1.keep hv2
      obtain ⟨Y20, Y21, Y22, Y23⟩ := Y2.cells
      have Y2z := Y2.lt
      clear hv2 Y10 Y11 Y12 Y13 Y1z
      go_wp2_with fail
      refine (K_slots.out _ Y2.xv).mono ?_
      rintro e v3 ⟨rfl, hv3⟩
      have Y3 := Y2.keep hv3
      obtain ⟨Y30, Y31, Y32, Y33⟩ := Y3.cells
      have Y3z := Y3.lt
      clear hv3 Y20 Y21 Y22 Y23 Y2z
      go_wp2_with fail
      refine (K_bins.out _ Y3.xv).mono ?_
      rintro e v4 ⟨rfl, hv4⟩
      have Y4 := Y3.keep hv4
      obtain ⟨Y40, Y41, Y42, Y43⟩ := Y4.cells
      have Y4z := Y4.lt
      clear hv4 Y30 Y31 Y32 Y33 Y3z
      go_wp2
      exact bodyPost_ret (v := .tuple #[.int .i64 6, .bool false]) (by simp [results, Tryz.results119, go_sem]) rfl ⟨rfl, bel2.trans (Y4.bel.mono bel2.size)⟩
     ·rw [h_bins] at C_bins
      have K_bins := Lib.hid C_bins
      clear C_bins
      cases h_racks : racksF vs t p
      ·have hR : r = (7, false) := by rw [← HR.out]; simp [chkF, h_tiles, h_feet, h_apart, h_slots, h_bins, h_racks]
       subst hR
       rw [h_racks] at C_racks
       have K_racks := Lib.hid C_racks
       clear HR h_tiles h_feet h_apart h_slots h_bins h_racks C_racks C_loose C_counts C_roots
       go_enter Tryz.func119, Tryz.ntmps119
       go_wp2_with fail
       refine (HH1.out _).mono ?_
       rintro e w1 ⟨rfl, ha⟩
       obtain ⟨hac, haf⟩ := bcell ha
       have haz0 : w.heap.size < w1.heap.size := by have := ha.size; first | omega | (simp at this; omega)
       go_wp2_with fail
       refine (HH2.out _).mono ?_
       rintro e w2 ⟨rfl, hb⟩
       obtain ⟨hbc, hbf⟩ := bcell hb
       have hbz0 : w1.heap.size ≤ w2.heap.size := by have := hb.size; first | omega | (simp at this; omega)
       have hbz1 : w.heap.size < w2.heap.size := by have := hb.size; first | omega | (simp at this; omega)
       have bel2 : Below w.heap.size w w2 := by (repeat (first | exact Below.refl _ _ | assumption | refine Below.setCell ?_ (by first | omega | (simp; done) | (simp; omega)) _ | refine Below.alloc ?_ (by first | omega | (simp; done) | (simp; omega)) _ | refine Below.drew ?_ | refine Below.trans ?_ (Below.mono ‹Below _ _ _› (by first | omega | (simp; done) | (simp; omega)))))
       have X0 := (HV.out.keep bel2).boxed c
       have X0z := X0.lt
       obtain ⟨X00, X01, X02, X03⟩ := X0.cells
       go_wp2_with fail
       refine (K_tiles.out _ X0.xv).mono ?_
       rintro e v0 ⟨rfl, hv0⟩
       have Y0 := X0.keep hv0
       obtain ⟨Y00, Y01, Y02, Y03⟩ := Y0.cells
       have Y0z := Y0.lt
       clear hv0 X00 X01 X02 X03 X0z
       go_wp2_with fail
       refine (K_feet.out _ Y0.xv hne).mono ?_
       rintro e v1 ⟨rfl, hv1⟩
       have Y1 := Y0.keep hv1
       obtain ⟨Y10, Y11, Y12, Y13⟩ := Y1.cells
       have Y1z := Y1.lt
       clear hv1 Y00 Y01 Y02 Y03 Y0z
       go_wp2_with fail
       refine (K_apart.out _ Y1.xv).mono ?_
       rintro e v2 ⟨rfl, hv2⟩
       have Y2 := Y1.keep hv2
       obtain ⟨Y20, Y21, Y22, Y23⟩ := Y2.cells
       have Y2z := Y2.lt
       clear hv2 Y10 Y11 Y12 Y13 Y1z
       go_wp2_with fail
       refine (K_slots.out _ Y2.xv).mono ?_
       rintro e v3 ⟨rfl, hv3⟩
       have Y3 := Y2.keep hv3
       obtain ⟨Y30, Y31, Y32, Y33⟩ := Y3.cells
       have Y3z := Y3.lt
       clear hv3 Y20 Y21 Y22 Y23 Y2z
       go_wp2_with fail
       refine (K_bins.out _ Y3.xv).mono ?_
       rintro e v4 ⟨rfl, hv4⟩
       have Y4 := Y3.keep hv4
       obtain ⟨Y40, Y41, Y42, Y43⟩ := Y4.cells
       have Y4z := Y4.lt
       clear hv4 Y30 Y31 Y32 Y33 Y3z
       go_wp2_with fail
       refine (K_racks.out _ Y4.xv).mono ?_
       rintro e v5 ⟨rfl, hv5⟩
       have Y5 := Y4.keep hv5
       obtain ⟨Y50, Y51, Y52, Y53⟩ := Y5.cells
       have Y5z := Y5.lt
       clear hv5 Y40 Y41 Y42 Y43 Y4z
       go_wp2
       exact bodyPost_ret (v := .tuple #[.int .i64 7, .bool false]) (by simp [results, Tryz.results119, go_sem]) rfl ⟨rfl, bel2.trans (Y5.bel.mono bel2.size)⟩
      ·rw [h_racks] at C_racks
       have K_racks := Lib.hid C_racks
       clear C_racks
       cases h_loose : looseF vs t p
       ·have hR : r = (8, false) := by rw [← HR.out]; simp [chkF, h_tiles, h_feet, h_apart, h_slots, h_bins, h_racks, h_loose]
        subst hR
        rw [h_loose] at C_loose
        have K_loose := Lib.hid C_loose
        clear HR h_tiles h_feet h_apart h_slots h_bins h_racks h_loose C_loose C_counts C_roots
        go_enter Tryz.func119, Tryz.ntmps119
        go_wp2_with fail
        refine (HH1.out _).mono ?_
        rintro e w1 ⟨rfl, ha⟩
        obtain ⟨hac, haf⟩ := bcell ha
        have haz0 : w.heap.size < w1.heap.size := by have := ha.size; first | omega | (simp at this; omega)
        go_wp2_with fail
        refine (HH2.out _).mono ?_
        rintro e w2 ⟨rfl, hb⟩
        obtain ⟨hbc, hbf⟩ := bcell hb
        have hbz0 : w1.heap.size ≤ w2.heap.size := by have := hb.size; first | omega | (simp at this; omega)
        have hbz1 : w.heap.size < w2.heap.size := by have := hb.size; first | omega | (simp at this; omega)
        have bel2 : Below w.heap.size w w2 := by (repeat (first | exact Below.refl _ _ | assumption | refine Below.setCell ?_ (by first | omega | (simp; done) | (simp; omega)) _ | refine Below.alloc ?_ (by first | omega | (simp; done) | (simp; omega)) _ | refine Below.drew ?_ | refine Below.trans ?_ (Below.mono ‹Below _ _ _› (by first | omega | (simp; done) | (simp; omega)))))
        have X0 := (HV.out.keep bel2).boxed c
        have X0z := X0.lt
        obtain ⟨X00, X01, X02, X03⟩ := X0.cells
        go_wp2_with fail
        refine (K_tiles.out _ X0.xv).mono ?_
        rintro e v0 ⟨rfl, hv0⟩
        have Y0 := X0.keep hv0
        obtain ⟨Y00, Y01, Y02, Y03⟩ := Y0.cells
        have Y0z := Y0.lt
        clear hv0 X00 X01 X02 X03 X0z
        go_wp2_with fail
        refine (K_feet.out _ Y0.xv hne).mono ?_
        rintro e v1 ⟨rfl, hv1⟩
        have Y1 := Y0.keep hv1
        obtain ⟨Y10, Y11, Y12, Y13⟩ := Y1.cells
        have Y1z := Y1.lt
        clear hv1 Y00 Y01 Y02 Y03 Y0z
        go_wp2_with fail
        refine (K_apart.out _ Y1.xv).mono ?_
        rintro e v2 ⟨rfl, hv2⟩
        have Y2 := Y1.keep hv2
        obtain ⟨Y20, Y21, Y22, Y23⟩ := Y2.cells
        have Y2z := Y2.lt
        clear hv2 Y10 Y11 Y12 Y13 Y1z
        go_wp2_with fail
        refine (K_slots.out _ Y2.xv).mono ?_
        rintro e v3 ⟨rfl, hv3⟩
        have Y3 := Y2.keep hv3
        obtain ⟨Y30, Y31, Y32, Y33⟩ := Y3.cells
        have Y3z := Y3.lt
        clear hv3 Y20 Y21 Y22 Y23 Y2z
        go_wp2_with fail
        refine (K_bins.out _ Y3.xv).mono ?_
        rintro e v4 ⟨rfl, hv4⟩
        have Y4 := Y3.keep hv4
        obtain ⟨Y40, Y41, Y42, Y43⟩ := Y4.cells
        have Y4z := Y4.lt
        clear hv4 Y30 Y31 Y32 Y33 Y3z
        go_wp2_with fail
        refine (K_racks.out _ Y4.xv).mono ?_
        rintro e v5 ⟨rfl, hv5⟩
        have Y5 := Y4.keep hv5
        obtain ⟨Y50, Y51, Y52, Y53⟩ := Y5.cells
        have Y5z := Y5.lt
        clear hv5 Y40 Y41 Y42 Y43 Y4z
        go_wp2_with fail
        refine (K_loose.out _ Y5.xv).mono ?_
        rintro e v6 ⟨rfl, hv6⟩
        have Y6 := Y5.keep hv6
        obtain ⟨Y60, Y61, Y62, Y63⟩ := Y6.cells
        have Y6z := Y6.lt
        clear hv6 Y50 Y51 Y52 Y53 Y5z
        go_wp2
        exact bodyPost_ret (v := .tuple #[.int .i64 8, .bool false]) (by simp [results, Tryz.results119, go_sem]) rfl ⟨rfl, bel2.trans (Y6.bel.mono bel2.size)⟩
       ·rw [h_loose] at C_loose
        have K_loose := Lib.hid C_loose
        clear C_loose
        cases h_counts : countsF vs t p
        ·have hR : r = (9, false) := by rw [← HR.out]; simp [chkF, h_tiles, h_feet, h_apart, h_slots, h_bins, h_racks, h_loose, h_counts]
         subst hR
         rw [h_counts] at C_counts
         have K_counts := Lib.hid C_counts
         clear HR h_tiles h_feet h_apart h_slots h_bins h_racks h_loose h_counts C_counts C_roots
         go_enter Tryz.func119, Tryz.ntmps119
         go_wp2_with fail
         refine (HH1.out _).mono ?_
         rintro e w1 ⟨rfl, ha⟩
         obtain ⟨hac, haf⟩ := bcell ha
         have haz0 : w.heap.size < w1.heap.size := by have := ha.size; first | omega | (simp at this; omega)
         go_wp2_with fail
         refine (HH2.out _).mono ?_
         rintro e w2 ⟨rfl, hb⟩
         obtain ⟨hbc, hbf⟩ := bcell hb
         have hbz0 : w1.heap.size ≤ w2.heap.size := by have := hb.size; first | omega | (simp at this; omega)
         have hbz1 : w.heap.size < w2.heap.size := by have := hb.size; first | omega | (simp at this; omega)
         have bel2 : Below w.heap.size w w2 := by (repeat (first | exact Below.refl _ _ | assumption | refine Below.setCell ?_ (by first | omega | (simp; done) | (simp; omega)) _ | refine Below.alloc ?_ (by first | omega | (simp; done) | (simp; omega)) _ | refine Below.drew ?_ | refine Below.trans ?_ (Below.mono ‹Below _ _ _› (by first | omega | (simp; done) | (simp; omega)))))
         have X0 := (HV.out.keep bel2).boxed c
         have X0z := X0.lt
         obtain ⟨X00, X01, X02, X03⟩ := X0.cells
         go_wp2_with fail
         refine (K_tiles.out _ X0.xv).mono ?_
         rintro e v0 ⟨rfl, hv0⟩
         have Y0 := X0.keep hv0
         obtain ⟨Y00, Y01, Y02, Y03⟩ := Y0.cells
         have Y0z := Y0.lt
         clear hv0 X00 X01 X02 X03 X0z
         go_wp2_with fail
         refine (K_feet.out _ Y0.xv hne).mono ?_
         rintro e v1 ⟨rfl, hv1⟩
         have Y1 := Y0.keep hv1
         obtain ⟨Y10, Y11, Y12, Y13⟩ := Y1.cells
         have Y1z := Y1.lt
         clear hv1 Y00 Y01 Y02 Y03 Y0z
         go_wp2_with fail
         refine (K_apart.out _ Y1.xv).mono ?_
         rintro e v2 ⟨rfl, hv2⟩
         have Y2 := Y1.keep hv2
         obtain ⟨Y20, Y21, Y22, Y23⟩ := Y2.cells
         have Y2z := Y2.lt
         clear hv2 Y10 Y11 Y12 Y13 Y1z
         go_wp2_with fail
         refine (K_slots.out _ Y2.xv).mono ?_
         rintro e v3 ⟨rfl, hv3⟩
         have Y3 := Y2.keep hv3
         obtain ⟨Y30, Y31, Y32, Y33⟩ := Y3.cells
         have Y3z := Y3.lt
         clear hv3 Y20 Y21 Y22 Y23 Y2z
         go_wp2_with fail
         refine (K_bins.out _ Y3.xv).mono ?_
         rintro e v4 ⟨rfl, hv4⟩
         have Y4 := Y3.keep hv4
         obtain ⟨Y40, Y41, Y42, Y43⟩ := Y4.cells
         have Y4z := Y4.lt
         clear hv4 Y30 Y31 Y32 Y33 Y3z
         go_wp2_with fail
         refine (K_racks.out _ Y4.xv).mono ?_
         rintro e v5 ⟨rfl, hv5⟩
         have Y5 := Y4.keep hv5
         obtain ⟨Y50, Y51, Y52, Y53⟩ := Y5.cells
         have Y5z := Y5.lt
         clear hv5 Y40 Y41 Y42 Y43 Y4z
         go_wp2_with fail
         refine (K_loose.out _ Y5.xv).mono ?_
         rintro e v6 ⟨rfl, hv6⟩
         have Y6 := Y5.keep hv6
         obtain ⟨Y60, Y61, Y62, Y63⟩ := Y6.cells
         have Y6z := Y6.lt
         clear hv6 Y50 Y51 Y52 Y53 Y5z
         go_wp2_with fail
         refine (K_counts.out _ Y6.xv).mono ?_
         rintro e v7 ⟨rfl, hv7⟩
         have Y7 := Y6.keep hv7
         obtain ⟨Y70, Y71, Y72, Y73⟩ := Y7.cells
         have Y7z := Y7.lt
         clear hv7 Y60 Y61 Y62 Y63 Y6z
         go_wp2
         exact bodyPost_ret (v := .tuple #[.int .i64 9, .bool false]) (by simp [results, Tryz.results119, go_sem]) rfl ⟨rfl, bel2.trans (Y7.bel.mono bel2.size)⟩
        ·rw [h_counts] at C_counts
         have K_counts := Lib.hid C_counts
         clear C_counts
         cases h_roots : rootsF vs t p s
         ·have hR : r = (10, false) := by rw [← HR.out]; simp [chkF, h_tiles, h_feet, h_apart, h_slots, h_bins, h_racks, h_loose, h_counts, h_roots]
          subst hR
          rw [h_roots] at C_roots
          have K_roots := Lib.hid C_roots
          clear HR h_tiles h_feet h_apart h_slots h_bins h_racks h_loose h_counts h_roots C_roots 
          go_enter Tryz.func119, Tryz.ntmps119
          go_wp2_with fail
          refine (HH1.out _).mono ?_
          rintro e w1 ⟨rfl, ha⟩
          obtain ⟨hac, haf⟩ := bcell ha
          have haz0 : w.heap.size < w1.heap.size := by have := ha.size; first | omega | (simp at this; omega)
          go_wp2_with fail
          refine (HH2.out _).mono ?_
          rintro e w2 ⟨rfl, hb⟩
          obtain ⟨hbc, hbf⟩ := bcell hb
          have hbz0 : w1.heap.size ≤ w2.heap.size := by have := hb.size; first | omega | (simp at this; omega)
          have hbz1 : w.heap.size < w2.heap.size := by have := hb.size; first | omega | (simp at this; omega)
          have bel2 : Below w.heap.size w w2 := by (repeat (first | exact Below.refl _ _ | assumption | refine Below.setCell ?_ (by first | omega | (simp; done) | (simp; omega)) _ | refine Below.alloc ?_ (by first | omega | (simp; done) | (simp; omega)) _ | refine Below.drew ?_ | refine Below.trans ?_ (Below.mono ‹Below _ _ _› (by first | omega | (simp; done) | (simp; omega)))))
          have X0 := (HV.out.keep bel2).boxed c
          have X0z := X0.lt
          obtain ⟨X00, X01, X02, X03⟩ := X0.cells
          go_wp2_with fail
          refine (K_tiles.out _ X0.xv).mono ?_
          rintro e v0 ⟨rfl, hv0⟩
          have Y0 := X0.keep hv0
          obtain ⟨Y00, Y01, Y02, Y03⟩ := Y0.cells
          have Y0z := Y0.lt
          clear hv0 X00 X01 X02 X03 X0z
          go_wp2_with fail
          refine (K_feet.out _ Y0.xv hne).mono ?_
          rintro e v1 ⟨rfl, hv1⟩
          have Y1 := Y0.keep hv1
          obtain ⟨Y10, Y11, Y12, Y13⟩ := Y1.cells
          have Y1z := Y1.lt
          clear hv1 Y00 Y01 Y02 Y03 Y0z
          go_wp2_with fail
          refine (K_apart.out _ Y1.xv).mono ?_
          rintro e v2 ⟨rfl, hv2⟩
          have Y2 := Y1.keep hv2
          obtain ⟨Y20, Y21, Y22, Y23⟩ := Y2.cells
          have Y2z := Y2.lt
          clear hv2 Y10 Y11 Y12 Y13 Y1z
          go_wp2_with fail
          refine (K_slots.out _ Y2.xv).mono ?_
          rintro e v3 ⟨rfl, hv3⟩
          have Y3 := Y2.keep hv3
          obtain ⟨Y30, Y31, Y32, Y33⟩ := Y3.cells
          have Y3z := Y3.lt
          clear hv3 Y20 Y21 Y22 Y23 Y2z
          go_wp2_with fail
          refine (K_bins.out _ Y3.xv).mono ?_
          rintro e v4 ⟨rfl, hv4⟩
          have Y4 := Y3.keep hv4
          obtain ⟨Y40, Y41, Y42, Y43⟩ := Y4.cells
          have Y4z := Y4.lt
          clear hv4 Y30 Y31 Y32 Y33 Y3z
          go_wp2_with fail
          refine (K_racks.out _ Y4.xv).mono ?_
          rintro e v5 ⟨rfl, hv5⟩
          have Y5 := Y4.keep hv5
          obtain ⟨Y50, Y51, Y52, Y53⟩ := Y5.cells
          have Y5z := Y5.lt
          clear hv5 Y40 Y41 Y42 Y43 Y4z
          go_wp2_with fail
          refine (K_loose.out _ Y5.xv).mono ?_
          rintro e v6 ⟨rfl, hv6⟩
          have Y6 := Y5.keep hv6
          obtain ⟨Y60, Y61, Y62, Y63⟩ := Y6.cells
          have Y6z := Y6.lt
          clear hv6 Y50 Y51 Y52 Y53 Y5z
          go_wp2_with fail
          refine (K_counts.out _ Y6.xv).mono ?_
          rintro e v7 ⟨rfl, hv7⟩
          have Y7 := Y6.keep hv7
          obtain ⟨Y70, Y71, Y72, Y73⟩ := Y7.cells
          have Y7z := Y7.lt
          clear hv7 Y60 Y61 Y62 Y63 Y6z
          go_wp2_with fail
          refine (K_roots.out _ Y7.xv).mono ?_
          rintro e v8 ⟨rfl, hv8⟩
          have Y8 := Y7.keep hv8
          obtain ⟨Y80, Y81, Y82, Y83⟩ := Y8.cells
          have Y8z := Y8.lt
          clear hv8 Y70 Y71 Y72 Y73 Y7z
          go_wp2
          exact bodyPost_ret (v := .tuple #[.int .i64 10, .bool false]) (by simp [results, Tryz.results119, go_sem]) rfl ⟨rfl, bel2.trans (Y8.bel.mono bel2.size)⟩
         ·rw [h_roots] at C_roots
          have K_roots := Lib.hid C_roots
          clear C_roots
          have hR : r = (0, true) := by rw [← HR.out]; simp [chkF, h_tiles, h_feet, h_apart, h_slots, h_bins, h_racks, h_loose, h_counts, h_roots]
          subst hR
          clear HR h_tiles h_feet h_apart h_slots h_bins h_racks h_loose h_counts h_roots 
          go_enter Tryz.func119, Tryz.ntmps119
          go_wp2_with fail
          refine (HH1.out _).mono ?_
          rintro e w1 ⟨rfl, ha⟩
          obtain ⟨hac, haf⟩ := bcell ha
          have haz0 : w.heap.size < w1.heap.size := by have := ha.size; first | omega | (simp at this; omega)
          go_wp2_with fail
          refine (HH2.out _).mono ?_
          rintro e w2 ⟨rfl, hb⟩
          obtain ⟨hbc, hbf⟩ := bcell hb
          have hbz0 : w1.heap.size ≤ w2.heap.size := by have := hb.size; first | omega | (simp at this; omega)
          have hbz1 : w.heap.size < w2.heap.size := by have := hb.size; first | omega | (simp at this; omega)
          have bel2 : Below w.heap.size w w2 := by (repeat (first | exact Below.refl _ _ | assumption | refine Below.setCell ?_ (by first | omega | (simp; done) | (simp; omega)) _ | refine Below.alloc ?_ (by first | omega | (simp; done) | (simp; omega)) _ | refine Below.drew ?_ | refine Below.trans ?_ (Below.mono ‹Below _ _ _› (by first | omega | (simp; done) | (simp; omega)))))
          have X0 := (HV.out.keep bel2).boxed c
          have X0z := X0.lt
          obtain ⟨X00, X01, X02, X03⟩ := X0.cells
          go_wp2_with fail
          refine (K_tiles.out _ X0.xv).mono ?_
          rintro e v0 ⟨rfl, hv0⟩
          have Y0 := X0.keep hv0
          obtain ⟨Y00, Y01, Y02, Y03⟩ := Y0.cells
          have Y0z := Y0.lt
          clear hv0 X00 X01 X02 X03 X0z
          go_wp2_with fail
          refine (K_feet.out _ Y0.xv hne).mono ?_
          rintro e v1 ⟨rfl, hv1⟩
          have Y1 := Y0.keep hv1
          obtain ⟨Y10, Y11, Y12, Y13⟩ := Y1.cells
          have Y1z := Y1.lt
          clear hv1 Y00 Y01 Y02 Y03 Y0z
          go_wp2_with fail
          refine (K_apart.out _ Y1.xv).mono ?_
          rintro e v2 ⟨rfl, hv2⟩
          have Y2 := Y1.keep hv2
          obtain ⟨Y20, Y21, Y22, Y23⟩ := Y2.cells
          have Y2z := Y2.lt
          clear hv2 Y10 Y11 Y12 Y13 Y1z
          go_wp2_with fail
          refine (K_slots.out _ Y2.xv).mono ?_
          rintro e v3 ⟨rfl, hv3⟩
          have Y3 := Y2.keep hv3
          obtain ⟨Y30, Y31, Y32, Y33⟩ := Y3.cells
          have Y3z := Y3.lt
          clear hv3 Y20 Y21 Y22 Y23 Y2z
          go_wp2_with fail
          refine (K_bins.out _ Y3.xv).mono ?_
          rintro e v4 ⟨rfl, hv4⟩
          have Y4 := Y3.keep hv4
          obtain ⟨Y40, Y41, Y42, Y43⟩ := Y4.cells
          have Y4z := Y4.lt
          clear hv4 Y30 Y31 Y32 Y33 Y3z
          go_wp2_with fail
          refine (K_racks.out _ Y4.xv).mono ?_
          rintro e v5 ⟨rfl, hv5⟩
          have Y5 := Y4.keep hv5
          obtain ⟨Y50, Y51, Y52, Y53⟩ := Y5.cells
          have Y5z := Y5.lt
          clear hv5 Y40 Y41 Y42 Y43 Y4z
          go_wp2_with fail
          refine (K_loose.out _ Y5.xv).mono ?_
          rintro e v6 ⟨rfl, hv6⟩
          have Y6 := Y5.keep hv6
          obtain ⟨Y60, Y61, Y62, Y63⟩ := Y6.cells
          have Y6z := Y6.lt
          clear hv6 Y50 Y51 Y52 Y53 Y5z
          go_wp2_with fail
          refine (K_counts.out _ Y6.xv).mono ?_
          rintro e v7 ⟨rfl, hv7⟩
          have Y7 := Y6.keep hv7
          obtain ⟨Y70, Y71, Y72, Y73⟩ := Y7.cells
          have Y7z := Y7.lt
          clear hv7 Y60 Y61 Y62 Y63 Y6z
          go_wp2_with fail
          refine (K_roots.out _ Y7.xv).mono ?_
          rintro e v8 ⟨rfl, hv8⟩
          have Y8 := Y7.keep hv8
          obtain ⟨Y80, Y81, Y82, Y83⟩ := Y8.cells
          have Y8z := Y8.lt
          clear hv8 Y70 Y71 Y72 Y73 Y7z
          go_wp2
          exact bodyPost_ret (v := .tuple #[.int .i64 0, .bool true]) (by simp [results, Tryz.results119, go_sem]) rfl ⟨rfl, bel2.trans (Y8.bel.mono bel2.size)⟩

end
end Go.Proofs.YtcbikgafdclhaaaGreat
/- the plain law of tiles: the program's answer is the document's, and what it keeps is the infos of all pages. -/
set_option linter.unusedSimpArgs false
set_option linter.unusedVariables false
namespace Go.Proofs.YtcbikgafdclhaaaGreat
open Go.RowKit
section
variable {vs : List Int} {t : Int} {P : Nat}
/-- where the next span begins, when k pages are looked at. -/
def nxN (vs : List Int) (t : Int) : Nat → Int
 | 0 => 0
 | k + 1 => if (k : Int) < nxN vs t k then nxN vs t k else k + iL (gv vs t k 0)
/-- does a span begin at a page? -/
def stB (vs : List Int) (t : Int) (k : Nat) : Bool := !decide ((k : Int) < nxN vs t k)
/-- may a page be so? -/
def pgB (vs : List Int) (t : Int) (P k : Nat) : Bool := if stB vs t k then okI (gv vs t k 0) && !(iK (gv vs t k 0) == 0) && decide (iL (gv vs t k 0) ≤ (P : Int) - k) else gv vs t k 0 == 0
def infoQ (vs : List Int) (t : Int) (q : Nat) : Int × Int × Int := (iK (gv vs t q 0), iL (gv vs t q 0), iC (gv vs t q 0))
def infoL (vs : List Int) (t : Int) (P : Nat) : List (Int × Int × Int) := (List.range P).map (infoQ vs t)
theorem infoQ_zero {q : Nat} (h : gv vs t q 0 = 0) : infoQ vs t q = (0, 0, 0) := by
 unfold infoQ
 rw [h]
 decide
/-- the program's way. -/
theorem tlN_eq : ∀ k, k ≤ P → (allN (pgB vs t P) k = true → ∃ al, tlN vs t P k = some (nxN vs t k, al) ∧ al.length = P ∧ (∀ q, q < k → al[q]? = some (infoQ vs t q)) ∧ ∀ q, k ≤ q → q < P → al[q]? = some (0, 0, 0)) ∧ (allN (pgB vs t P) k = false → tlN vs t P k = none)
 | 0, _ => ⟨fun _ => ⟨List.replicate P (0, 0, 0), by simp [tlN, nxN], by simp, by omega, fun q _ hq => by simp [hq]⟩, by simp [allN]⟩
 | k + 1, hk => by
  have ih := tlN_eq k (by omega)
  have e : tlN vs t P (k + 1) = match tlN vs t P k with | none => none | some st => tlStep vs t P k st := rfl
  have ea : allN (pgB vs t P) (k + 1) = (allN (pgB vs t P) k && pgB vs t P k) := rfl
  rw [e, ea]
  cases ha : allN (pgB vs t P) k
  ·rw [ih.2 ha]
   simp
  ·obtain ⟨al, h1, h2, h3, h4⟩ := ih.1 ha
   rw [h1]
   simp only [Bool.true_and]
   unfold tlStep pgB stB
   by_cases hn : (k : Int) < nxN vs t k
   ·have en : nxN vs t (k + 1) = nxN vs t k := by rw [nxN, if_pos hn]
    rw [if_pos hn, en]
    simp only [hn, decide_true, Bool.not_true, Bool.false_eq_true, if_false]
    by_cases hv : gv vs t k 0 = 0
    ·rw [if_pos hv]
     refine ⟨fun _ => ⟨al, rfl, h2, fun q hq => ?_, fun q hq => h4 q (by omega)⟩, fun h => by simp [hv] at h⟩
     by_cases eq : q = k
     ·subst eq
      rw [h4 q (Nat.le_refl _) (by omega), infoQ_zero hv]
     ·exact h3 q (by omega)
    ·rw [if_neg hv]
     exact ⟨by simp [hv], fun _ => rfl⟩
   ·have en : nxN vs t (k + 1) = k + iL (gv vs t k 0) := by rw [nxN, if_neg hn]
    rw [if_neg hn, en]
    simp only [hn, decide_false, Bool.not_false, if_true]
    by_cases hb : okI (gv vs t k 0) = false ∨ iK (gv vs t k 0) = 0 ∨ (P : Int) - k < iL (gv vs t k 0)
    ·rw [if_pos hb]
     refine ⟨fun h => ?_, fun _ => rfl⟩
     simp at h
     rcases hb with hb | hb | hb
     ·rw [hb] at h; simp at h
     ·exact absurd hb h.1.2
     ·omega
    ·rw [if_neg hb]
     refine ⟨fun _ => ⟨al.set k (iK (gv vs t k 0), iL (gv vs t k 0), iC (gv vs t k 0)), rfl, by simpa using h2, fun q hq => ?_, fun q hq hq2 => ?_⟩, fun h => ?_⟩
     ·by_cases eq : q = k
      ·subst eq
       rw [List.getElem?_set_self (by omega)]
       rfl
      ·rw [List.getElem?_set_ne (Ne.symm eq)]
       exact h3 q (by omega)
     ·rw [List.getElem?_set_ne (by omega)]
      exact h4 q (by omega) hq2
     ·exfalso
      apply hb
      simp at h
      cases ho : okI (gv vs t k 0)
      ·exact Or.inl rfl
      ·by_cases hK : iK (gv vs t k 0) = 0
       ·exact Or.inr (Or.inl hK)
       ·exact Or.inr (Or.inr (by have := h ho hK; omega))

/-- starts among the first pages. -/
def stL (vs : List Int) (t : Int) : Nat → List Int
 | 0 => []
 | k + 1 => if stB vs t k then stL vs t k ++ [(k : Int)] else stL vs t k
/-- is each start so far a span's begin? -/
def okSt (vs : List Int) (t : Int) (k : Nat) : Bool := !stB vs t k || (okI (gv vs t k 0) && !(iK (gv vs t k 0) == 0))
theorem nx_ge : ∀ k, allN (okSt vs t) k = true → (k : Int) ≤ nxN vs t k
 | 0, _ => by simp [nxN]
 | k + 1, h => by
  simp only [allN, Bool.and_eq_true] at h
  have ih := nx_ge k h.1
  unfold nxN
  by_cases hn : (k : Int) < nxN vs t k
  ·rw [if_pos hn]; omega
  ·rw [if_neg hn]
   have h2 := h.2
   unfold okSt stB at h2
   simp [hn] at h2
   have := (inf_bd (gv vs t k 0)).2.2.2.2.2.2.1 h2.2
   omega
theorem nx_skip {k : Nat} : ∀ j, k + 1 ≤ j → (j : Int) ≤ nxN vs t (k + 1) → nxN vs t j = nxN vs t (k + 1) ∧ stL vs t j = stL vs t (k + 1)
 | 0, h, _ => by omega
 | j + 1, h, hj => by
  by_cases e : j = k
  ·subst e; exact ⟨rfl, rfl⟩
  ·have ih := nx_skip (k := k) j (by omega) (by omega)
   have hn : (j : Int) < nxN vs t j := by rw [ih.1]; omega
   have e1 : nxN vs t (j + 1) = nxN vs t j := by rw [nxN, if_pos hn]
   have e2 : stL vs t (j + 1) = stL vs t j := by rw [stL, if_neg (by simp [stB, hn])]
   exact ⟨e1.trans ih.1, e2.trans ih.2⟩
theorem at_start {k : Nat} (hk : nxN vs t k = k) : stB vs t k = true ∧ nxN vs t (k + 1) = k + iL (gv vs t k 0) ∧ stL vs t (k + 1) = stL vs t k ++ [(k : Int)] := by
 have hs : stB vs t k = true := by simp [stB, hk]
 refine ⟨hs, ?_, ?_⟩
 ·rw [nxN, if_neg (by omega)]
 ·rw [stL, if_pos hs]
theorem okSt_at {k : Nat} (hs : stB vs t k = true) (h : okSt vs t k = true) : okI (gv vs t k 0) = true ∧ iK (gv vs t k 0) ≠ 0 ∧ 1 ≤ iL (gv vs t k 0) := by
 unfold okSt at h
 rw [hs] at h
 simp at h
 exact ⟨h.1, h.2, ((inf_bd (gv vs t k 0)).2.2.2.2.2.2.1 h.2).2⟩
theorem allN_at {f : Nat → Bool} {N k : Nat} (h : allN f N = true) (hk : k < N) : f k = true := (allN_iff.1 h) k hk
/-- the document's starts, from a start on. -/
theorem startsL_eq (hall : allN (okSt vs t) P = true) : ∀ (f k : Nat), k ≤ P → nxN vs t k = k → P - k < f → startsL (fun q => gv vs t q 0) P f k (stL vs t k) = (stL vs t P, nxN vs t P == P)
 | 0, k, _, _, h => by omega
 | f + 1, k, hk, hn, hf => by
  unfold startsL
  by_cases hlt : k < P
  ·obtain ⟨s1, s2, s3⟩ := at_start hn
   obtain ⟨o1, o2, o3⟩ := okSt_at s1 (allN_at hall hlt)
   rw [if_pos (by omega), if_neg (by simp [o1, o2]), ← s3]
   by_cases hp : (k : Int) + iL (gv vs t k 0) ≤ P
   ·obtain ⟨k', hk'⟩ : ∃ k' : Nat, (k : Int) + iL (gv vs t k 0) = k' := ⟨((k : Int) + iL (gv vs t k 0)).toNat, by omega⟩
    have hsk := nx_skip (vs := vs) (t := t) (k := k) k' (by omega) (by rw [s2]; omega)
    rw [hk', ← hsk.2]
    exact startsL_eq hall f k' (by omega) (by rw [hsk.1, s2, hk']) (by omega)
   ·have hsk := nx_skip (vs := vs) (t := t) (k := k) P (by omega) (by rw [s2]; omega)
    obtain ⟨f', rfl⟩ : ∃ f', f = f' + 1 := ⟨f - 1, by omega⟩
    unfold startsL
    rw [if_neg (by omega), hsk.2, hsk.1, s2]
  ·have : k = P := by omega
   subst this
   rw [if_neg (by omega), hn]
theorem startsL_bad {k0 : Nat} (hk0 : k0 < P) (hall : allN (okSt vs t) k0 = true) (hbad : okSt vs t k0 = false) : ∀ (f k : Nat) (out : List Int), k ≤ k0 → nxN vs t k = k → P - k < f → (startsL (fun q => gv vs t q 0) P f k out).2 = false
 | 0, k, _, _, _, h => by omega
 | f + 1, k, out, hk, hn, hf => by
  have hs0 : stB vs t k0 = true := by
   unfold okSt at hbad
   simp at hbad
   exact hbad.1
  unfold startsL
  rw [if_pos (by omega)]
  by_cases he : k = k0
  ·subst he
   unfold okSt at hbad
   rw [hs0] at hbad
   simp at hbad
   rw [if_pos]
   cases ho : okI (gv vs t k 0)
   ·exact Or.inl rfl
   ·exact Or.inr (hbad ho)
  ·obtain ⟨s1, s2, s3⟩ := at_start hn
   obtain ⟨o1, o2, o3⟩ := okSt_at s1 (allN_at hall (by omega))
   rw [if_neg (by simp [o1, o2])]
   have hle : (k : Int) + iL (gv vs t k 0) ≤ k0 := by
    apply Classical.byContradiction
    intro hgt
    have hsk := nx_skip (vs := vs) (t := t) (k := k) k0 (by omega) (by rw [s2]; omega)
    unfold stB at hs0
    rw [hsk.1, s2] at hs0
    simp at hs0
    omega
   obtain ⟨k', hk'⟩ : ∃ k' : Nat, (k : Int) + iL (gv vs t k 0) = k' := ⟨((k : Int) + iL (gv vs t k 0)).toNat, by omega⟩
   have hsk := nx_skip (vs := vs) (t := t) (k := k) k' (by omega) (by rw [s2]; omega)
   rw [hk']
   exact startsL_bad hk0 hall hbad f k' _ (by omega) (by rw [hsk.1, s2, hk']) (by omega)

theorem stL_pre : ∀ (m q : Nat), q + m = P → ∃ rest, stL vs t P = stL vs t q ++ rest ∧ ∀ y ∈ rest, (q : Int) ≤ y
 | 0, q, h => ⟨[], by rw [show P = q by omega]; simp, by simp⟩
 | m + 1, q, h => by
  obtain ⟨rest, h1, h2⟩ := stL_pre m (q + 1) (by omega)
  by_cases hs : stB vs t q = true
  ·have e : stL vs t (q + 1) = stL vs t q ++ [(q : Int)] := by rw [stL, if_pos hs]
   refine ⟨(q : Int) :: rest, by rw [h1, e]; simp, fun y hy => ?_⟩
   simp at hy
   rcases hy with rfl | hy
   ·omega
   ·have := h2 y hy; omega
  ·have e : stL vs t (q + 1) = stL vs t q := by rw [stL, if_neg hs]
   exact ⟨rest, by rw [h1, e], fun y hy => by have := h2 y hy; omega⟩
def nzB (vs : List Int) (t : Int) (q : Nat) : Bool := stB vs t q || gv vs t q 0 == 0
theorem tilesN_eq : ∀ q, q ≤ P → tilesN vs t (stL vs t P) q = if allN (nzB vs t) q = true then some (stL vs t q).length else none
 | 0, _ => rfl
 | q + 1, hq => by
  have ih := tilesN_eq q (by omega)
  obtain ⟨rest, h1, h2⟩ := stL_pre (vs := vs) (t := t) (P := P) (P - (q + 1)) (q + 1) (by omega)
  have ea : allN (nzB vs t) (q + 1) = (allN (nzB vs t) q && nzB vs t q) := rfl
  unfold tilesN
  rw [ih, ea]
  cases ha : allN (nzB vs t) q
  ·simp
  ·simp only [if_true, Bool.true_and]
   by_cases hs : stB vs t q = true
   ·have e : stL vs t (q + 1) = stL vs t q ++ [(q : Int)] := by rw [stL, if_pos hs]
    rw [if_pos (by rw [h1, e]; simp), e, if_pos (by simp [nzB, hs])]
    simp
   ·have e : stL vs t (q + 1) = stL vs t q := by rw [stL, if_neg hs]
    have hno : ¬ (stL vs t P)[(stL vs t q).length]? = some (q : Int) := by
     rw [h1, e, List.getElem?_append_right (Nat.le_refl _), Nat.sub_self]
     intro hx
     have := h2 _ (List.mem_of_getElem? hx)
     omega
    rw [if_neg hno, e]
    by_cases hv : gv vs t q 0 = 0
    ·rw [if_pos hv, if_pos (by simp [nzB, hv])]
    ·rw [if_neg hv, if_neg (by simp [nzB, hv, hs])]
theorem first_bad {f : Nat → Bool} : ∀ N, allN f N = false → ∃ k, k < N ∧ allN f k = true ∧ f k = false
 | 0, h => by simp [allN] at h
 | N + 1, h => by
  cases ha : allN f N
  ·obtain ⟨k, h1, h2, h3⟩ := first_bad N ha
   exact ⟨k, by omega, h2, h3⟩
  ·simp only [allN, ha, Bool.true_and] at h
   exact ⟨N, by omega, ha, h⟩
theorem nx_le (h : ∀ k, k < P → stB vs t k = true → (k : Int) + iL (gv vs t k 0) ≤ P) : ∀ j, j ≤ P → nxN vs t j ≤ P
 | 0, _ => by simp [nxN]
 | j + 1, hj => by
  have ih := nx_le h j (by omega)
  by_cases hn : (j : Int) < nxN vs t j
  ·rw [nxN, if_pos hn]; exact ih
  ·rw [nxN, if_neg hn]
   exact h j (by omega) (by simp [stB, hn])
/-- the program's tiles answers as the document's. -/
theorem tiles_law : (tlN vs t P P).isSome = tilesF vs t P := by
 have hz : startsF (fun q => gv vs t q 0) P = startsL (fun q => gv vs t q 0) P (P + 1) ((0 : Nat) : Int) (stL vs t 0) := by
  unfold startsF
  rw [show (P : Int).toNat = P by omega]
  rfl
 have hsome : (tlN vs t P P).isSome = allN (pgB vs t P) P := by
  obtain ⟨a, b⟩ := tlN_eq (vs := vs) (t := t) P (Nat.le_refl P)
  cases h : allN (pgB vs t P) P
  ·rw [b h]; rfl
  ·obtain ⟨al, h1, -⟩ := a h
   rw [h1]; rfl
 rw [hsome]
 unfold tilesF
 rw [hz, show (P : Int).toNat = P by omega]
 cases hall : allN (okSt vs t) P
 ·obtain ⟨k0, h1, h2, h3⟩ := first_bad P hall
  rw [startsL_bad h1 h2 h3 (P + 1) 0 (stL vs t 0) (Nat.zero_le _) rfl (by omega)]
  simp only [Bool.false_and]
  refine allN_no h1 ?_
  unfold okSt at h3
  unfold pgB
  cases hs : stB vs t k0
  ·rw [hs] at h3; simp at h3
  ·rw [hs] at h3
   simp at h3 ⊢
   intro ho hk
   exact absurd (h3 ho) hk
 ·rw [startsL_eq hall (P + 1) 0 (Nat.zero_le _) rfl (by omega)]
  simp only
  rw [tilesN_eq P (Nat.le_refl _)]
  have hge := nx_ge P hall
  rw [Bool.eq_iff_iff]
  rw [allN_iff]
  constructor
  ·intro h
   have h1 : ∀ k, k < P → stB vs t k = true → (k : Int) + iL (gv vs t k 0) ≤ P := by
    intro k hk hs
    have := h k hk
    unfold pgB at this
    rw [if_pos hs] at this
    simp at this
    omega
   have h2 := nx_le h1 P (Nat.le_refl _)
   have h3 : allN (nzB vs t) P = true := by
    rw [allN_iff]
    intro k hk
    have := h k hk
    unfold pgB at this
    unfold nzB
    cases hs : stB vs t k
    ·rw [hs] at this; simpa using this
    ·rfl
   rw [h3]
   simp
   omega
  ·intro h k hk
   simp only [Bool.and_eq_true, beq_iff_eq] at h
   obtain ⟨h1, h2⟩ := h
   have h3 : allN (nzB vs t) P = true := by
    cases hc : allN (nzB vs t) P
    ·rw [hc] at h2; simp at h2
    ·rfl
   have h4 := allN_at h3 hk
   unfold pgB
   unfold nzB at h4
   cases hs : stB vs t k
   ·rw [hs] at h4; simpa using h4
   ·obtain ⟨o1, o2, o3⟩ := okSt_at hs (allN_at hall hk)
    have hkx : nxN vs t k = k := by
     have := nx_ge k (allN_iff.2 fun j hj => allN_at hall (by omega))
     unfold stB at hs
     simp at hs
     omega
    obtain ⟨s1, s2, s3⟩ := at_start hkx
    have hle : (k : Int) + iL (gv vs t k 0) ≤ P := by
     apply Classical.byContradiction
     intro hgt
     have hsk := nx_skip (vs := vs) (t := t) (k := k) P (by omega) (by rw [s2]; omega)
     rw [hsk.1, s2] at h1
     omega
    simp [o1, o2]
    omega
end
end Go.Proofs.YtcbikgafdclhaaaGreat
/- the plain law of slots. -/
set_option linter.unusedSimpArgs false
set_option linter.unusedVariables false
namespace Go.Proofs.YtcbikgafdclhaaaGreat
open Go.RowKit

theorem infoL_at {vs : List Int} {t : Int} {P q : Nat} (h : q < P) : (infoL vs t P).getD q (0, 0, 0) = infoQ vs t q := by
 rw [List.getD_eq_getElem?_getD]
 unfold infoL
 rw [List.getElem?_map, List.getElem?_range h]
 rfl
theorem tlN_info {vs : List Int} {t : Int} {P : Nat} {st : Int × List (Int × Int × Int)} (h : tlN vs t P P = some st) : st.2 = infoL vs t P := by
 obtain ⟨a, b⟩ := tlN_eq (vs := vs) (t := t) P (Nat.le_refl P)
 cases ha : allN (pgB vs t P) P
 ·rw [b ha] at h; simp at h
 ·obtain ⟨al, h1, h2, h3, -⟩ := a ha
  rw [h1] at h
  simp at h
  subst h
  apply List.ext_getElem?
  intro q
  by_cases hq : q < P
  ·rw [h3 q hq]
   unfold infoL
   rw [List.getElem?_map, List.getElem?_range hq]
   rfl
  ·rw [List.getElem?_eq_none (by simpa [h2] using hq), List.getElem?_eq_none (by simpa [infoL] using hq)]
theorem bitB_nat (v i : Nat) (h : i < 32) : bitB (v : Int) i = v.testBit i := by
 unfold bitB
 rw [Nat.testBit_eq_decide_div_mod_eq]
 have e : (v : Int) / 2 ^ i % 2 = ((v / 2 ^ i % 2 : Nat) : Int) := by simp
 rw [e, Bool.eq_iff_iff]
 simp [h]
 omega
theorem andN_zero (a u : Nat) (ha : a < 2 ^ 32) (hu : u < 2 ^ 32) : andN (a : Int) (u : Int) = 0 ↔ ∀ i, i < 32 → a.testBit i = true → u.testBit i = true := by
 have e1 : BitVec.ofInt 32 (a : Int) = BitVec.ofNat 32 a := BitVec.ofInt_natCast ..
 have e2 : BitVec.ofInt 32 (u : Int) = BitVec.ofNat 32 u := BitVec.ofInt_natCast ..
 have e3 : andN (a : Int) (u : Int) = ((BitVec.ofNat 32 a &&& ~~~ BitVec.ofNat 32 u).toNat : Int) := by
  show IntKind.u32.wrap ((BitVec.ofInt 32 (a : Int) &&& ~~~ BitVec.ofInt 32 (u : Int)).toNat : Int) = _
  rw [e1, e2]
  have := (BitVec.ofNat 32 a &&& ~~~ BitVec.ofNat 32 u).isLt
  exact wrapsA_u32 _ (by omega) (by exact_mod_cast this)
 rw [e3]
 constructor
 ·intro h i hi hai
  have h0 : BitVec.ofNat 32 a &&& ~~~ BitVec.ofNat 32 u = 0#32 := by
   apply BitVec.eq_of_toNat_eq
   simp only [BitVec.toNat_ofNat, Nat.zero_mod]
   omega
  have hb := congrArg (fun z => BitVec.getLsbD z i) h0
  simp only [BitVec.getLsbD_and, BitVec.getLsbD_not, BitVec.getLsbD_ofNat, hi, decide_true, Bool.true_and, hai] at hb
  cases hui : u.testBit i
  ·rw [hui] at hb; simp at hb
  ·rfl
 ·intro h
  have h0 : BitVec.ofNat 32 a &&& ~~~ BitVec.ofNat 32 u = 0#32 := by
   apply BitVec.eq_of_getLsbD_eq
   intro i hi
   simp only [BitVec.getLsbD_and, BitVec.getLsbD_not, BitVec.getLsbD_ofNat, hi, decide_true, Bool.true_and]
   cases hai : a.testBit i
   ·simp
   ·rw [h i hi hai]; simp
  rw [h0]
  rfl
theorem zero_bits (a : Nat) (ha : a < 2 ^ 32) : a = 0 ↔ ∀ i, i < 32 → a.testBit i = false := by
 constructor
 ·rintro rfl i _
  simp
 ·intro h
  apply Nat.eq_of_testBit_eq
  intro i
  rw [Nat.zero_testBit]
  by_cases hi : i < 32
  ·exact h i hi
  ·exact Nat.testBit_lt_two_pow (Nat.lt_of_lt_of_le ha (Nat.pow_le_pow_right (by omega) (by omega)))
theorem slots_law {vs : List Int} {t : Int} {P : Nat} (hu : ∀ v ∈ vs, VS.U32 v) : allN (psB vs t (infoL vs t P)) P = slotsAll vs t P := by
 unfold slotsAll
 rw [show (P : Int).toNat = P by omega, Bool.eq_iff_iff, allN_iff, allN_iff]
 refine forall_congr' fun q => ?_
 by_cases hq : q < P
 ·simp only [hq, true_implies]
  unfold psB slotsQ
  rw [infoL_at hq]
  have h4 := getD_u32 hu (cix t q 4)
  have h5 := getD_u32 hu (cix t q 5)
  have hC := inf_bd (gv vs t q 0)
  obtain ⟨a, ha⟩ : ∃ a : Nat, gv vs t q 4 = a := ⟨(gv vs t q 4).toNat, by unfold gv; unfold VS.U32 at h4; omega⟩
  obtain ⟨u, hu2⟩ : ∃ u : Nat, gv vs t q 5 = u := ⟨(gv vs t q 5).toNat, by unfold gv; unfold VS.U32 at h5; omega⟩
  have ha2 : a < 2 ^ 32 := by unfold VS.U32 at h4; unfold gv at ha; omega
  have hu3 : u < 2 ^ 32 := by unfold VS.U32 at h5; unfold gv at hu2; omega
  have hsb : ∀ b, slotB vs t q b = !badB (iK (gv vs t q 0)) (iC (gv vs t q 0)) (bitB a b) (bitB u b) b := by
   intro b; unfold slotB; rw [ha, hu2]
  rw [ha, hu2]
  have hsl := slots_bd (iC (gv vs t q 0))
  show (if iK (gv vs t q 0) = 3 then (!((u : Int) == 0) && (andN (u : Int) (2 ^ (slotsF (iC (gv vs t q 0))).toNat - 1) == 0) && (andN (a : Int) (u : Int) == 0)) else ((a : Int) == 0 && (u : Int) == 0)) = true ↔ _
  by_cases hK : iK (gv vs t q 0) = 3
  ·rw [if_pos hK]
   have hw : (2 : Int) ^ (slotsF (iC (gv vs t q 0))).toNat - 1 = ((2 ^ (slotsF (iC (gv vs t q 0))).toNat - 1 : Nat) : Int) := by
    rw [Int.natCast_sub (Nat.two_pow_pos _)]
    simp
   have hwl : 2 ^ (slotsF (iC (gv vs t q 0))).toNat - 1 < 2 ^ 32 := by
    have := Nat.pow_le_pow_right (n := 2) (by omega) (show (slotsF (iC (gv vs t q 0))).toNat ≤ 32 by omega)
    have := Nat.two_pow_pos (slotsF (iC (gv vs t q 0))).toNat
    omega
   rw [hw]
   simp only [Bool.and_eq_true, Bool.not_eq_true', beq_eq_false_iff_ne, beq_iff_eq, ne_eq, hK, true_and]
   rw [andN_zero _ _ hu3 hwl, andN_zero _ _ ha2 hu3, allN_iff]
   constructor
   ·rintro ⟨⟨h1, h2⟩, h3⟩
    refine ⟨fun b hb => ?_, by simpa using h1⟩
    rw [hsb, bitB_nat _ _ hb, bitB_nat _ _ hb, hK]
    unfold badB
    have i2 := h2 b hb
    have i3 := h3 b hb
    rw [Nat.testBit_two_pow_sub_one] at i2
    cases hab : a.testBit b <;> cases hub : u.testBit b <;> simp_all
    all_goals omega
   ·rintro ⟨h1, h2⟩
    refine ⟨⟨by simpa using h2, fun b hb hub => ?_⟩, fun b hb hab => ?_⟩
    ·have := h1 b hb
     rw [hsb, bitB_nat _ _ hb, bitB_nat _ _ hb, hK, hub] at this
     unfold badB at this
     rw [Nat.testBit_two_pow_sub_one]
     simp at this ⊢
     omega
    ·have := h1 b hb
     rw [hsb, bitB_nat _ _ hb, bitB_nat _ _ hb, hab] at this
     unfold badB at this
     cases hub : u.testBit b
     ·rw [hub] at this; simp at this
     ·rfl
  ·rw [if_neg hK]
   have hKb : (iK (gv vs t q 0) == 3) = false := by simpa using hK
   rw [hKb]
   simp only [Bool.and_eq_true, beq_iff_eq, Bool.false_and, Bool.not_false, and_true]
   rw [allN_iff]
   constructor
   ·rintro ⟨h1, h2⟩ b hb
    have z1 : a = 0 := by omega
    have z2 : u = 0 := by omega
    rw [hsb, z1, z2, bitB_nat _ _ hb]
    simp [badB]
   ·intro h
    have hub : ∀ b, b < 32 → u.testBit b = false := by
     intro b hb
     have := h b hb
     rw [hsb, bitB_nat _ _ hb, bitB_nat _ _ hb] at this
     unfold badB at this
     cases hx : u.testBit b
     ·rfl
     ·rw [hx] at this; simp [hK] at this
    have hab : ∀ b, b < 32 → a.testBit b = false := by
     intro b hb
     have := h b hb
     rw [hsb, bitB_nat _ _ hb, bitB_nat _ _ hb, hub b hb] at this
     unfold badB at this
     cases hx : a.testBit b
     ·rfl
     ·rw [hx] at this; simp at this
    have z1 := (zero_bits a ha2).2 hab
    have z2 := (zero_bits u hu3).2 hub
    omega
 ·simp [hq]
end Go.Proofs.YtcbikgafdclhaaaGreat
/- the plain law of lists. -/
set_option linter.unusedSimpArgs false
set_option linter.unusedVariables false
namespace Go.Proofs.YtcbikgafdclhaaaGreat
open Go.RowKit

def ofNs (l : List Nat) : List Int := l.map fun (q : Nat) => (q : Int)
theorem infoL_len {vs : List Int} {t : Int} {P : Nat} : ∀ x ∈ infoL vs t P, x.1 = 1 → 1 ≤ x.2.1 ∧ x.2.1 ≤ 1024 := by
 intro x hx h
 unfold infoL at hx
 obtain ⟨q, -, rfl⟩ := List.mem_map.1 hx
 have := inf_bd (gv vs t q 0)
 simp only [infoQ] at h ⊢
 have := this.2.2.2.2.2.2.1 (by omega)
 omega
section
variable {vs : List Int} {t : Int} {P : Nat} {f : Nat → Bool} {vis0 : List Nat}
/-- where the program's way is well, the document's list is the same pages. -/
theorem way_list (hg : ∀ q part, 0 ≤ gv vs t q part) : ∀ (fu fl : Nat) (q ah : Int) (m : Nat) (L : List Nat), 0 ≤ q → L.Nodup → (∀ y ∈ L, y < P ∧ f y = true) → P + 1 ≤ fl + L.length →
 (plL f vs t P fu q ah m (vis0 ++ L)).2.1 = true → ∃ L', plL f vs t P fu q ah m (vis0 ++ L) = (m + (L'.length - L.length), true, vis0 ++ L') ∧ listL vs t P fl q ah (ofNs L) = (ofNs L', true) ∧ L'.Nodup ∧ (∀ y ∈ L', y < P ∧ f y = true) ∧ L.length ≤ L'.length
 | 0, fl, q, ah, m, L, _, _, _, _, h => by simp [plL] at h
 | fu + 1, fl, q, ah, m, L, hq, hn, hf, hfl, h => by
  have hlen := VS.length_le_of_nodup P L hn (fun y hy => (hf y hy).1)
  obtain ⟨fl', rfl⟩ : ∃ fl', fl = fl' + 1 := ⟨fl - 1, by omega⟩
  unfold plL at h ⊢
  unfold listL
  by_cases e : q = 0
  ·rw [if_pos e, if_pos e]
   exact ⟨L, by simp, rfl, hn, hf, Nat.le_refl _⟩
  ·rw [if_neg e] at h ⊢
   rw [if_neg e]
   by_cases e2 : (P : Int) ≤ q - 1 ∨ (q - 1).toNat ∈ vis0 ++ L ∨ f (q - 1).toNat = false ∨ gv vs t (q - 1) 3 ≠ ah
   ·rw [if_pos e2] at h; simp at h
   ·rw [if_neg e2] at h ⊢
    have a1 : ¬ (P : Int) ≤ q - 1 := fun h => e2 (Or.inl h)
    have a2 : (q - 1).toNat ∉ L := fun h => e2 (Or.inr (Or.inl (List.mem_append_right _ h)))
    have a3 : f (q - 1).toNat = true := by
     cases hx : f (q - 1).toNat
     ·exact absurd (Or.inr (Or.inr (Or.inl hx))) e2
     ·rfl
    have a4 : ¬ gv vs t (q - 1) 3 ≠ ah := fun h => e2 (Or.inr (Or.inr (Or.inr h)))
    have hn2 : (L ++ [(q - 1).toNat]).Nodup := by
     rw [List.nodup_append]
     exact ⟨hn, by simp, fun a ha c hc e => by simp only [List.mem_singleton] at hc; subst hc; subst e; exact a2 ha⟩
    have hf2 : ∀ y ∈ L ++ [(q - 1).toNat], y < P ∧ f y = true := by
     intro y hy
     simp only [List.mem_append, List.mem_singleton] at hy
     rcases hy with hy | rfl
     ·exact hf y hy
     ·exact ⟨by omega, a3⟩
    have hlen2 := VS.length_le_of_nodup P _ hn2 (fun y hy => (hf2 y hy).1)
    simp only [List.length_append, List.length_singleton] at hlen2
    have hol : (ofNs L).length = L.length := by simp [ofNs]
    rw [if_neg (by rw [hol]; omega), if_neg a4]
    have hap : ofNs L ++ [q - 1] = ofNs (L ++ [(q - 1).toNat]) := by
     simp only [ofNs, List.map_append, List.map_cons, List.map_nil]
     congr 2
     omega
    rw [hap]
    rw [List.append_assoc] at h ⊢
    obtain ⟨L', h1, h2, h3, h4, h5⟩ := way_list hg fu fl' (gv vs t (q - 1) 2) q (m + 1) (L ++ [(q - 1).toNat]) (hg _ _) hn2 hf2 (by simp; omega) h
    simp only [List.length_append, List.length_singleton] at h1 h5
    refine ⟨L', ?_, h2, h3, h4, by omega⟩
    rw [h1]
    congr 1
    omega
theorem listL_pre : ∀ (fl : Nat) (q ah : Int) (out l : List Int), listL vs t P fl q ah out = (l, true) → ∃ r, l = out ++ r
 | 0, q, ah, out, l, h => by simp [listL] at h
 | fl + 1, q, ah, out, l, h => by
  unfold listL at h
  split at h
  ·simp at h; exact ⟨[], by simp [h]⟩
  ·split at h
   ·simp at h
   ·split at h
    ·simp at h
    ·obtain ⟨r, hr⟩ := listL_pre fl _ _ _ _ h
     exact ⟨(q - 1) :: r, by rw [hr]; simp⟩
/-- where the document's list is well, and has each page once, of those that must be in it alone, the program's way is well. -/
theorem list_way (hg : ∀ q part, 0 ≤ gv vs t q part) (h0 : vis0.Nodup) (h1 : ∀ y ∈ vis0, y < P ∧ f y = false) : ∀ (fl fu : Nat) (q ah : Int) (m : Nat) (L : List Nat) (l : List Int), 0 ≤ q → L.Nodup → (∀ y ∈ L, y < P ∧ f y = true) → P + 1 ≤ fu + (vis0.length + L.length) →
 listL vs t P fl q ah (ofNs L) = (l, true) → l.Nodup → (∀ y ∈ l, f y.toNat = true) → ∃ L', l = ofNs L' ∧ plL f vs t P fu q ah m (vis0 ++ L) = (m + (L'.length - L.length), true, vis0 ++ L') ∧ L.length ≤ L'.length ∧ ∃ r, L' = L ++ r
 | 0, fu, q, ah, m, L, l, _, _, _, _, h, _, _ => by simp [listL] at h
 | fl + 1, fu, q, ah, m, L, l, hq, hn, hf, hfu, h, hln, hlf => by
  have hall : (vis0 ++ L).Nodup := by
   rw [List.nodup_append]
   exact ⟨h0, hn, fun a ha c hc e => by subst e; have := (h1 a ha).2; rw [(hf a hc).2] at this; simp at this⟩
  have hlen := VS.length_le_of_nodup P (vis0 ++ L) hall (fun y hy => by
   rcases List.mem_append.1 hy with hy | hy
   ·exact (h1 y hy).1
   ·exact (hf y hy).1)
  simp only [List.length_append] at hlen
  obtain ⟨fu', rfl⟩ : ∃ fu', fu = fu' + 1 := ⟨fu - 1, by omega⟩
  unfold listL at h
  unfold plL
  by_cases e : q = 0
  ·rw [if_pos e] at h ⊢
   simp at h
   subst h
   exact ⟨L, rfl, by simp, Nat.le_refl _, [], by simp⟩
  ·rw [if_neg e] at h ⊢
   by_cases e2 : (P : Int) < q ∨ (P : Int) ≤ (ofNs L).length
   ·rw [if_pos e2] at h; simp at h
   ·rw [if_neg e2] at h
    by_cases e3 : gv vs t (q - 1) 3 ≠ ah
    ·rw [if_pos e3] at h; simp at h
    ·rw [if_neg e3] at h
     have hap : ofNs L ++ [q - 1] = ofNs (L ++ [(q - 1).toNat]) := by
      simp only [ofNs, List.map_append, List.map_cons, List.map_nil]
      congr 2
      omega
     rw [hap] at h
     obtain ⟨r0, hr0⟩ := listL_pre _ _ _ _ _ h
     have hxl : (((q - 1).toNat : Nat) : Int) ∈ l := by rw [hr0]; simp [ofNs]
     have hfx : f (q - 1).toNat = true := by simpa using hlf _ hxl
     have hxL : (q - 1).toNat ∉ L := by
      intro hx
      rw [hr0] at hln
      have hn3 := (List.nodup_append.1 hln).1
      rw [ofNs, List.map_append, List.nodup_append] at hn3
      exact hn3.2.2 (((q - 1).toNat : Nat) : Int) (List.mem_map.2 ⟨_, hx, rfl⟩) (((q - 1).toNat : Nat) : Int) (by simp) rfl
     have hxv : (q - 1).toNat ∉ vis0 := by
      intro hx
      have := (h1 _ hx).2
      rw [hfx] at this
      simp at this
     have hn2 : (L ++ [(q - 1).toNat]).Nodup := by
      rw [List.nodup_append]
      exact ⟨hn, by simp, fun a ha c hc e => by simp only [List.mem_singleton] at hc; subst hc; subst e; exact hxL ha⟩
     have hf2 : ∀ y ∈ L ++ [(q - 1).toNat], y < P ∧ f y = true := by
      intro y hy
      simp only [List.mem_append, List.mem_singleton] at hy
      rcases hy with hy | rfl
      ·exact hf y hy
      ·exact ⟨by omega, hfx⟩
     have hno : ¬ ((P : Int) ≤ q - 1 ∨ (q - 1).toNat ∈ vis0 ++ L ∨ f (q - 1).toNat = false ∨ gv vs t (q - 1) 3 ≠ ah) := by
      rintro (h2 | h2 | h2 | h2)
      ·omega
      ·rcases List.mem_append.1 h2 with h2 | h2
       ·exact hxv h2
       ·exact hxL h2
      ·rw [hfx] at h2; simp at h2
      ·exact e3 h2
     rw [if_neg hno, List.append_assoc]
     obtain ⟨L', g1, g2, g3, r, g4⟩ := list_way hg h0 h1 fl fu' (gv vs t (q - 1) 2) q (m + 1) (L ++ [(q - 1).toNat]) l (hg _ _) hn2 hf2 (by simp; omega) h hln hlf
     simp only [List.length_append, List.length_singleton] at g2 g3
     refine ⟨L', g1, ?_, by omega, (q - 1).toNat :: r, by rw [g4]; simp⟩
     rw [g2]
     congr 1
     omega
theorem cntN_filter : ∀ k, cntN f k = ((List.range k).filter f).length
 | 0 => rfl
 | k + 1 => by
  rw [List.range_succ, List.filter_append, List.length_append, ← cntN_filter k]
  rw [show cntN f (k + 1) = cntN f k + (if f k then 1 else 0) from rfl]
  cases h : f k <;> simp [h]
theorem cnt_all {L : List Nat} (hn : L.Nodup) (hf : ∀ y ∈ L, y < P ∧ f y = true) : L.length = cntN f P ↔ ∀ q, q < P → f q = true → q ∈ L := by
 rw [cntN_filter]
 have hs : ∀ y, y ∈ (List.range P).filter f ↔ y < P ∧ f y = true := by intro y; simp
 have hsub : L ⊆ (List.range P).filter f := fun y hy => (hs y).2 (hf y hy)
 have hle := List.Nodup.length_le_of_subset hn hsub
 constructor
 ·intro h q hq hfq
  apply Classical.byContradiction
  intro hno
  have hn2 : (q :: L).Nodup := List.nodup_cons.2 ⟨hno, hn⟩
  have := List.Nodup.length_le_of_subset hn2 (l₂ := (List.range P).filter f) (fun y hy => by
   rcases List.mem_cons.1 hy with rfl | hy
   ·exact (hs _).2 ⟨hq, hfq⟩
   ·exact hsub hy)
  simp only [List.length_cons] at this
  omega
 ·intro h
  have hns : ((List.range P).filter f).Nodup := List.Pairwise.filter _ List.nodup_range
  have := List.Nodup.length_le_of_subset hns (l₂ := L) (fun y hy => h y ((hs y).1 hy).1 ((hs y).1 hy).2)
  omega
theorem listL_rng (hg : ∀ q part, 0 ≤ gv vs t q part) : ∀ (fl : Nat) (q ah : Int) (out : List Int), 0 ≤ q → (∀ y ∈ out, 0 ≤ y ∧ y < P) → ∀ y ∈ (listL vs t P fl q ah out).1, 0 ≤ y ∧ y < P
 | 0, q, ah, out, _, h => h
 | fl + 1, q, ah, out, hq, h => by
  unfold listL
  split
  ·exact h
  ·split
   ·exact h
   ·split
    ·exact h
    ·refine listL_rng hg fl _ _ _ (hg _ _) ?_
     intro y hy
     simp only [List.mem_append, List.mem_singleton] at hy
     rcases hy with hy | rfl
     ·exact h y hy
     ·omega
theorem count_nd {L : List Nat} (hn : L.Nodup) (q : Nat) : (ofNs L).count (q : Int) = if q ∈ L then 1 else 0 := by
 have hinj : (ofNs L).Nodup := by
  unfold ofNs
  rw [List.Nodup, List.pairwise_map]
  exact hn.imp fun h e => h (by omega)
 by_cases h : q ∈ L
 ·rw [if_pos h]
  have : (q : Int) ∈ ofNs L := List.mem_map.2 ⟨q, h, rfl⟩
  exact List.Nodup.count hinj ▸ (by simp [this])
 ·rw [if_neg h, List.count_eq_zero]
  intro hx
  obtain ⟨y, hy, e⟩ := List.mem_map.1 hx
  have : y = q := by omega
  exact h (this ▸ hy)
end
end Go.Proofs.YtcbikgafdclhaaaGreat
/- the plain law of bins, racks and loose. -/
set_option linter.unusedSimpArgs false
set_option linter.unusedVariables false
namespace Go.Proofs.YtcbikgafdclhaaaGreat
open Go.RowKit

theorem allN_congr {f g : Nat → Bool} : ∀ {N : Nat}, (∀ k, k < N → f k = g k) → allN f N = allN g N
 | 0, _ => rfl
 | N + 1, h => by
  show (allN f N && f N) = (allN g N && g N)
  rw [allN_congr fun k hk => h k (by omega), h N (by omega)]
section
variable {vs : List Int} {t : Int} {P hd : Nat} {F : Nat → Nat → Bool} {vis0 : List Nat}
def docB (hd : Nat) (F : Nat → Nat → Bool) (vs : List Int) (t : Int) (P k : Nat) : Bool :=
 (listF vs t P (hd + k)).2 && allN (fun q => (((listF vs t P (hd + k)).1.count (q : Int) : Nat) : Int) == wantI (F k q)) P
theorem fit_doc (hg : ∀ k, 0 ≤ vs.getD k 0) {k : Nat} {vis : List Nat} (hn : vis.Nodup) (hv : ∀ y ∈ vis, y < P ∧ F k y = false) :
 ((wayN hd F vs t P vis k).2.1 && (wayN hd F vs t P vis k).1 == cntN (F k) P) = docB hd F vs t P k ∧
  (docB hd F vs t P k = true → ∃ L, (wayN hd F vs t P vis k).2.2 = vis ++ L ∧ L.Nodup ∧ ∀ y, y ∈ L ↔ y < P ∧ F k y = true) := by
 have hgv : ∀ q part, 0 ≤ gv vs t q part := fun q part => hg _
 have hlf : listF vs t P (hd + k) = listL vs t P (P + 1) (vs.getD (hd + k) 0) 0 (ofNs []) := by
  unfold listF
  rw [Int.toNat_natCast]
  rfl
 have hle := VS.length_le_of_nodup P vis hn (fun y hy => (hv y hy).1)
 have A : ((wayN hd F vs t P vis k).2.1 && (wayN hd F vs t P vis k).1 == cntN (F k) P) = true → docB hd F vs t P k = true := by
  intro h
  rw [Bool.and_eq_true] at h
  obtain ⟨h1, h2⟩ := h
  unfold wayN at h1 h2
  rw [← List.append_nil vis] at h1 h2
  obtain ⟨L, e1, e2, e3, e4, -⟩ := way_list (vis0 := vis) hgv (P + 1 - (vis ++ []).length) (P + 1) (vs.getD (hd + k) 0) 0 0 [] (hg _) List.nodup_nil (by simp) (by simp) h1
  rw [e1] at h2
  simp only [List.length_nil, Nat.sub_zero, Nat.zero_add, beq_iff_eq] at h2
  have hm := (cnt_all e3 e4).1 h2
  unfold docB
  rw [hlf, e2]
  simp only [Bool.true_and]
  rw [allN_iff]
  intro q hq
  rw [count_nd e3 q]
  by_cases hqL : q ∈ L
  ·rw [if_pos hqL, (e4 q hqL).2]; rfl
  ·rw [if_neg hqL]
   cases hf : F k q
   ·rfl
   ·exact absurd (hm q hq hf) hqL
 have B : docB hd F vs t P k = true → ∃ L, wayN hd F vs t P vis k = (L.length, true, vis ++ L) ∧ L.Nodup ∧ (∀ y, y ∈ L ↔ y < P ∧ F k y = true) ∧ L.length = cntN (F k) P := by
  intro h
  unfold docB at h
  rw [Bool.and_eq_true, allN_iff] at h
  obtain ⟨h1, h2⟩ := h
  obtain ⟨l, hl⟩ : ∃ l, listF vs t P (hd + k) = (l, true) := ⟨(listF vs t P (hd + k)).1, by rw [← h1]⟩
  rw [hl] at h2
  simp only at h2
  have hrng : ∀ y ∈ l, 0 ≤ y ∧ y < P := by
   have := listL_rng (P := P) hgv (P + 1) (vs.getD (hd + k) 0) 0 [] (hg _) (by simp)
   rw [hlf] at hl
   rw [show ofNs [] = ([] : List Int) from rfl] at hl
   rw [hl] at this
   exact this
  have hcnt : ∀ y ∈ l, l.count y = 1 ∧ F k y.toNat = true := by
   intro y hy
   have hr := hrng y hy
   have := h2 y.toNat (by omega)
   rw [show ((y.toNat : Nat) : Int) = y by omega] at this
   have hpos := List.count_pos_iff.2 hy
   simp only [beq_iff_eq] at this
   cases hf : F k y.toNat
   ·rw [hf] at this; simp [wantI] at this; omega
   ·rw [hf] at this; simp [wantI] at this; exact ⟨by omega, rfl⟩
  have hln : l.Nodup := by
   rw [List.nodup_iff_count]
   intro y
   by_cases hy : y ∈ l
   ·have := (hcnt y hy).1; omega
   ·have := List.count_eq_zero.2 hy; omega
  rw [hlf] at hl
  obtain ⟨L, g1, g2, -, -⟩ := list_way (vis0 := vis) hgv hn hv (P + 1) (P + 1 - vis.length) (vs.getD (hd + k) 0) 0 0 [] l (hg _) List.nodup_nil (by simp) (by simp; omega) hl hln (fun y hy => (hcnt y hy).2)
  simp only [List.append_nil, List.length_nil, Nat.sub_zero, Nat.zero_add] at g2
  subst g1
  have hmem : ∀ y, y ∈ L ↔ ((y : Nat) : Int) ∈ ofNs L := by
   intro y
   unfold ofNs
   constructor
   ·exact fun hy => List.mem_map.2 ⟨y, hy, rfl⟩
   ·intro hy
    obtain ⟨z, hz, e⟩ := List.mem_map.1 hy
    have : z = y := by omega
    exact this ▸ hz
  have hLn : L.Nodup := by
   unfold ofNs at hln
   rw [List.Nodup, List.pairwise_map] at hln
   exact hln.imp fun h e => h (by omega)
  have hiff : ∀ y, y ∈ L ↔ y < P ∧ F k y = true := by
   intro y
   rw [hmem]
   constructor
   ·intro hy
    have a1 := hrng _ hy
    have a2 := (hcnt _ hy).2
    rw [Int.toNat_natCast] at a2
    exact ⟨by omega, a2⟩
   ·rintro ⟨hy, hf⟩
    have := h2 y hy
    rw [hf] at this
    simp [wantI] at this
    exact List.count_pos_iff.1 (by omega)
  refine ⟨L, g2, hLn, hiff, (cnt_all hLn fun y hy => (hiff y).1 hy).2 fun q hq hf => (hiff q).2 ⟨hq, hf⟩⟩
 refine ⟨?_, fun h => ?_⟩
 ·rw [Bool.eq_iff_iff]
  refine ⟨A, fun h => ?_⟩
  obtain ⟨L, e1, -, -, e4⟩ := B h
  rw [e1, ← e4]
  simp
 ·obtain ⟨L, e1, e2, e3, -⟩ := B h
  exact ⟨L, by rw [e1], e2, e3⟩
theorem fits_law (hg : ∀ k, 0 ≤ vs.getD k 0) (hF : ∀ k k' q, F k q = true → F k' q = true → k = k') (hn : vis0.Nodup) (hv : ∀ y ∈ vis0, y < P ∧ ∀ k, F k y = false) :
 ∀ N, allN (fitN hd F vs t P vis0) N = allN (docB hd F vs t P) N ∧
  (allN (docB hd F vs t P) N = true → (visN hd F vs t P vis0 N).Nodup ∧ ∀ y, y ∈ visN hd F vs t P vis0 N ↔ y ∈ vis0 ∨ (y < P ∧ ∃ k, k < N ∧ F k y = true))
 | 0 => ⟨rfl, fun _ => ⟨hn, fun y => by simp [visN]⟩⟩
 | N + 1 => by
  obtain ⟨i1, i2⟩ := fits_law hg hF hn hv N
  show (allN (fitN hd F vs t P vis0) N && fitN hd F vs t P vis0 N) = (allN (docB hd F vs t P) N && docB hd F vs t P N) ∧ ((allN (docB hd F vs t P) N && docB hd F vs t P N) = true → _)
  rw [i1]
  cases ha : allN (docB hd F vs t P) N
  ·simp
  ·obtain ⟨j1, j2⟩ := i2 ha
   have hvis : ∀ y ∈ visN hd F vs t P vis0 N, y < P ∧ F N y = false := by
    intro y hy
    rcases (j2 y).1 hy with h | ⟨h, k, hk, hf⟩
    ·exact ⟨(hv y h).1, (hv y h).2 N⟩
    ·refine ⟨h, ?_⟩
     cases hx : F N y
     ·rfl
     ·have := hF _ _ _ hf hx; omega
   obtain ⟨q1, q2⟩ := fit_doc (hd := hd) (t := t) hg j1 hvis
   simp only [Bool.true_and]
   refine ⟨q1, fun h => ?_⟩
   obtain ⟨L, e1, e2, e3⟩ := q2 h
   show ((wayN hd F vs t P (visN hd F vs t P vis0 N) N).2.2).Nodup ∧ ∀ y, y ∈ (wayN hd F vs t P (visN hd F vs t P vis0 N) N).2.2 ↔ _
   rw [e1]
   refine ⟨List.nodup_append.2 ⟨j1, e2, fun a ha c hc e => ?_⟩, fun y => ?_⟩
   ·subst e
    have := (hvis a ha).2
    rw [((e3 a).1 hc).2] at this
    simp at this
   ·rw [List.mem_append, j2, e3]
    constructor
    ·rintro ((h | ⟨h, k, hk, hf⟩) | ⟨h, hf⟩)
     ·exact Or.inl h
     ·exact Or.inr ⟨h, k, by omega, hf⟩
     ·exact Or.inr ⟨h, N, by omega, hf⟩
    ·rintro (h0 | ⟨h0, k, hk, hf⟩)
     ·exact Or.inl (Or.inl h0)
     ·by_cases e : k = N
      ·rw [e] at hf; exact Or.inr ⟨h0, hf⟩
      ·exact Or.inl (Or.inr ⟨h0, k, by omega, hf⟩)
end
section
variable {vs : List Int} {t : Int} {P : Nat}
abbrev bnF (vs : List Int) (t : Int) (P : Nat) : Nat → Nat → Bool := fun k => bnB (infoL vs t P) (k : Int)
abbrev rkF (vs : List Int) (t : Int) (P : Nat) : Nat → Nat → Bool := fun k => rkB vs t (infoL vs t P) (k : Int)
theorem bnF_in {k q : Nat} (h : q < P) : bnF vs t P k q = binnedB (gv vs t q 0) k := by
 show bnB _ _ _ = _
 unfold bnB binnedB
 rw [infoL_at h]
 rfl
theorem bins_law (hg : ∀ k, 0 ≤ vs.getD k 0) : allN (fitN 2 (bnF vs t P) vs t P []) 11 = binsF vs t P ∧
 (binsF vs t P = true → (visN 2 (bnF vs t P) vs t P [] 11).Nodup ∧ ∀ y, y ∈ visN 2 (bnF vs t P) vs t P [] 11 ↔ y < P ∧ iK (gv vs t y 0) = 1) := by
 have hF : ∀ k k' q, bnF vs t P k q = true → bnF vs t P k' q = true → k = k' := by
  intro k k' q h h'
  simp only [bnF, bnB, Bool.and_eq_true, beq_iff_eq] at h h'
  omega
 obtain ⟨a, b⟩ := fits_law (hd := 2) (t := t) (P := P) (vs := vs) (F := bnF vs t P) (vis0 := []) hg hF List.nodup_nil (by simp) 11
 have hd : allN (docB 2 (bnF vs t P) vs t P) 11 = binsF vs t P := by
  unfold binsF
  refine allN_congr fun k hk => ?_
  unfold docB binsB binsInB
  rw [Int.toNat_natCast]
  refine congrArg (and _) ?_
  refine allN_congr fun q hq => ?_
  rw [bnF_in hq]
 rw [hd] at a b
 refine ⟨a, fun h => ⟨(b h).1, fun y => ?_⟩⟩
 rw [(b h).2]
 simp only [List.not_mem_nil, false_or]
 constructor
 ·rintro ⟨h1, k, hk, hf⟩
  rw [bnF_in h1] at hf
  simp only [binnedB, Bool.and_eq_true, beq_iff_eq] at hf
  exact ⟨h1, hf.1⟩
 ·rintro ⟨h1, h2⟩
  refine ⟨h1, ?_⟩
  have hb := inf_bd (gv vs t y 0)
  have hl := hb.2.2.2.2.2.2.1 (by omega)
  have hlog : 0 ≤ logF (iL (gv vs t y 0)) ∧ logF (iL (gv vs t y 0)) < 11 := by
   obtain ⟨m, hm⟩ : ∃ m : Nat, iL (gv vs t y 0) = m := ⟨(iL (gv vs t y 0)).toNat, by omega⟩
   rw [hm]
   unfold logF bitsN
   rw [Int.toNat_natCast, if_neg (by omega)]
   have : m.log2 < 11 := by
    have : m < 2 ^ 11 := by omega
    exact (Nat.log2_lt (by omega)).2 this
   omega
  refine ⟨(logF (iL (gv vs t y 0))).toNat, by omega, ?_⟩
  rw [bnF_in h1]
  simp only [binnedB, h2, Bool.and_eq_true, beq_iff_eq]
  refine ⟨trivial, ?_⟩
  omega
/-- how many bits are 1, where none is beyond s: s just if all are. -/
theorem ones_full (v s : Nat) (h : ∀ i, s ≤ i → i < 32 → v.testBit i = false) : ∀ k, k ≤ 32 → onesN (v : Int) k ≤ min k s ∧ (onesN (v : Int) k = min k s ↔ ∀ i, i < min k s → v.testBit i = true)
 | 0, _ => by simp [onesN]
 | k + 1, hk => by
  obtain ⟨i1, i2⟩ := ones_full v s h k (by omega)
  have e : onesN (v : Int) (k + 1) = onesN (v : Int) k + if v.testBit k then 1 else 0 := by
   rw [← bitB_nat v k (by omega)]
   rfl
  rw [e]
  by_cases hs : s ≤ k
  ·rw [h k hs (by omega)]
   rw [Nat.min_eq_right hs] at i1 i2
   rw [Nat.min_eq_right (by omega)]
   simpa using ⟨i1, i2⟩
  ·rw [Nat.min_eq_left (by omega)] at i1 i2
   rw [Nat.min_eq_left (by omega)]
   cases hb : v.testBit k
   ·simp only [Bool.false_eq_true, if_false, Nat.add_zero]
    refine ⟨by omega, ⟨fun h => by omega, fun h => ?_⟩⟩
    have := h k (by omega)
    rw [hb] at this
    simp at this
   ·simp only [if_true]
    refine ⟨by omega, ⟨fun h i hi => ?_, fun h => ?_⟩⟩
    ·by_cases e : i = k
     ·subst e; exact hb
     ·exact i2.1 (by omega) i (by omega)
    ·have := i2.2 fun i hi => h i (by omega)
     omega
theorem full_whole (v s : Nat) (hv : v < 2 ^ 32) (hs : s ≤ 32) (h : ∀ i, s ≤ i → i < 32 → v.testBit i = false) : onesN (v : Int) 32 = s ↔ v = 2 ^ s - 1 := by
 have := (ones_full v s h 32 (Nat.le_refl _)).2
 rw [Nat.min_eq_right hs] at this
 rw [this]
 constructor
 ·intro hx
  apply Nat.eq_of_testBit_eq
  intro i
  rw [Nat.testBit_two_pow_sub_one]
  by_cases hi : i < s
  ·rw [hx i hi]; simp [hi]
  ·rw [show decide (i < s) = false by simp [hi]]
   by_cases h2 : i < 32
   ·exact h i (by omega) h2
   ·exact Nat.testBit_lt_two_pow (Nat.lt_of_lt_of_le hv (Nat.pow_le_pow_right (by omega) (by omega)))
 ·rintro rfl i hi
  rw [Nat.testBit_two_pow_sub_one]
  simp [hi]
/-- of a slab whose slots may be, the program and the document tell alike whether it is full. -/
theorem slots_full (hu : ∀ v ∈ vs, VS.U32 v) (hs : slotsAll vs t P = true) {q : Nat} (hq : q < P) (hK : iK (gv vs t q 0) = 3) : (gv vs t q 5 == 2 ^ (slotsF (iC (gv vs t q 0))).toNat - 1) = fullB (gv vs t q 5) (iC (gv vs t q 0)) := by
 unfold slotsAll at hs
 rw [Int.toNat_natCast, allN_iff] at hs
 have h1 := hs q hq
 unfold slotsQ at h1
 rw [Bool.and_eq_true, allN_iff] at h1
 have h2 := h1.1
 have h5 := getD_u32 hu (cix t q 5)
 obtain ⟨u, hu2⟩ : ∃ u : Nat, gv vs t q 5 = u := ⟨(gv vs t q 5).toNat, by unfold gv; unfold VS.U32 at h5; omega⟩
 have hu3 : u < 2 ^ 32 := by unfold VS.U32 at h5; unfold gv at hu2; omega
 have hsl := slots_bd (iC (gv vs t q 0))
 have hbit : ∀ i, (slotsF (iC (gv vs t q 0))).toNat ≤ i → i < 32 → u.testBit i = false := by
  intro i hi hi2
  have := h2 i hi2
  unfold slotB at this
  rw [hu2, bitB_nat _ _ hi2, hK] at this
  cases hx : u.testBit i
  ·rfl
  ·rw [hx] at this
   unfold badB at this
   simp at this
   omega
 have hf := full_whole u _ hu3 (by omega) hbit
 unfold fullB
 rw [hu2, Bool.eq_iff_iff]
 simp only [beq_iff_eq]
 have hw : (2 : Int) ^ (slotsF (iC (gv vs t q 0))).toNat - 1 = ((2 ^ (slotsF (iC (gv vs t q 0))).toNat - 1 : Nat) : Int) := by
  rw [Int.natCast_sub (Nat.two_pow_pos _)]
  simp
 rw [hw]
 constructor
 ·intro h
  have := hf.2 (by omega)
  omega
 ·intro h
  have := hf.1 (by omega)
  omega
theorem rkF_in (hu : ∀ v ∈ vs, VS.U32 v) (hs : slotsAll vs t P = true) {k q : Nat} (h : q < P) : rkF vs t P k q = rackedB (gv vs t q 0) (gv vs t q 5) k := by
 show rkB _ _ _ _ _ = _
 unfold rkB rackedB
 rw [infoL_at h]
 show (iK (gv vs t q 0) == 3 && iC (gv vs t q 0) == k && !(gv vs t q 5 == 2 ^ (slotsF (iC (gv vs t q 0))).toNat - 1)) = _
 by_cases hK : iK (gv vs t q 0) = 3
 ·rw [slots_full hu hs h hK]
  by_cases hC : iC (gv vs t q 0) = k
  ·rw [hC]
  ·have : (iC (gv vs t q 0) == (k : Int)) = false := by simpa using hC
   rw [this]; simp
 ·have : (iK (gv vs t q 0) == 3) = false := by simpa using hK
  rw [this]; simp
theorem racks_law (hg : ∀ k, 0 ≤ vs.getD k 0) (hu : ∀ v ∈ vs, VS.U32 v) (hs : slotsAll vs t P = true) (hb : binsF vs t P = true) :
 allN (fitN 13 (rkF vs t P) vs t P (visN 2 (bnF vs t P) vs t P [] 11)) 9 = racksF vs t P ∧
 (racksF vs t P = true → ∀ y, y < P → decide (y ∈ visN 13 (rkF vs t P) vs t P (visN 2 (bnF vs t P) vs t P [] 11) 9) = hungB vs t y) := by
 have hF : ∀ k k' q, rkF vs t P k q = true → rkF vs t P k' q = true → k = k' := by
  intro k k' q h h'
  simp only [rkF, rkB, Bool.and_eq_true, beq_iff_eq] at h h'
  omega
 obtain ⟨v1, v2⟩ := (bins_law hg).2 hb
 obtain ⟨a, b⟩ := fits_law (hd := 13) (t := t) (P := P) (vs := vs) (F := rkF vs t P) (vis0 := visN 2 (bnF vs t P) vs t P [] 11) hg hF v1 (by
  intro y hy
  obtain ⟨h1, h2⟩ := (v2 y).1 hy
  refine ⟨h1, fun k => ?_⟩
  rw [rkF_in hu hs h1]
  simp [rackedB, h2]) 9
 have hd : allN (docB 13 (rkF vs t P) vs t P) 9 = racksF vs t P := by
  unfold racksF
  refine allN_congr fun k hk => ?_
  unfold docB racksB racksInB
  rw [Int.toNat_natCast]
  refine congrArg (and _) ?_
  refine allN_congr fun q hq => ?_
  rw [rkF_in hu hs hq]
 rw [hd] at a b
 refine ⟨a, fun h y hy => ?_⟩
 have hm := (b h).2 y
 rw [v2] at hm
 rw [Bool.eq_iff_iff, decide_eq_true_iff, hm]
 unfold hungB
 simp only [Bool.or_eq_true, Bool.and_eq_true, beq_iff_eq, Bool.not_eq_true', hy, true_and]
 refine or_congr Iff.rfl ?_
 constructor
 ·rintro ⟨k, hk, hf⟩
  rw [rkF_in hu hs hy] at hf
  simp only [rackedB, Bool.and_eq_true, beq_iff_eq, Bool.not_eq_true'] at hf
  obtain ⟨⟨f1, f2⟩, f3⟩ := hf
  rw [f2]
  exact ⟨f1, f3⟩
 ·rintro ⟨h1, h2⟩
  have hbd := inf_bd (gv vs t y 0)
  refine ⟨(iC (gv vs t y 0)).toNat, by omega, ?_⟩
  rw [rkF_in hu hs hy]
  simp only [rackedB, Bool.and_eq_true, beq_iff_eq, Bool.not_eq_true']
  have e : (((iC (gv vs t y 0)).toNat : Nat) : Int) = iC (gv vs t y 0) := by omega
  rw [e]
  exact ⟨⟨h1, rfl⟩, h2⟩
theorem loose_law {vis : List Nat} (h : ∀ y, y < P → decide (y ∈ vis) = hungB vs t y) : allN (lsB vs t vis) P = looseF vs t P := by
 unfold looseF
 rw [Int.toNat_natCast]
 refine allN_congr fun q hq => ?_
 unfold lsB looseQ
 rw [h q hq]
end
end Go.Proofs.YtcbikgafdclhaaaGreat
/- the program's audit: feet. -/
set_option linter.unusedSimpArgs false
set_option linter.unusedVariables false
namespace Go.Proofs.YtcbikgafdclhaaaGreat
open Go.RowKit
attribute [local go_sem] Oper.semAt_some

theorem made_u32 (N : Nat) : madeCells #[.int .u32 0] N = (uints (List.replicate N 0)).toArray := by
 apply Array.ext'
 simp [madeCells, uints, Nat.mod_one]
 exact List.eq_replicate_iff.2 ⟨by simp, by simp⟩
/-- what the feet of pages must be, by the spans so far. -/
def wtS (ws : List Int) (x : Nat × Int × Int × Int) : List Int := ws.set (x.1 + x.2.2.1 - 1).toNat (x.1 + 1)
def wtL (P : Nat) (pre : List (Nat × Int × Int × Int)) : List Int := pre.foldl wtS (List.replicate P 0)
theorem wtL_snoc (P : Nat) (pre : List (Nat × Int × Int × Int)) (x : Nat × Int × Int × Int) : wtL P (pre ++ [x]) = wtS (wtL P pre) x := by simp [wtL]
theorem wtL_len (P : Nat) (pre : List (Nat × Int × Int × Int)) : (wtL P pre).length = P := by
 unfold wtL
 have : ∀ (l : List (Nat × Int × Int × Int)) (ws : List Int), (l.foldl wtS ws).length = ws.length := by
  intro l
  induction l with
  | nil => intro ws; rfl
  | cons x l ih => intro ws; rw [List.foldl_cons, ih]; simp [wtS]
 rw [this]
 simp
def WtAt (W : World) (g : Nat) (ws : List Int) : Prop := W.heap[g]? = some (.cells (uints ws).toArray 90)
theorem WtAt.own {β : Type} {n : Nat} {g : Nat} {f : β → List Int} : OwnFrom n (fun (x : β) W => WtAt W g (f x)) := fun x X Y row hs hg hr => by
 refine (hg.block g (Array.getElem?_eq_some_iff.1 hs).1 (fun e => ?_)).trans hs
 obtain ⟨_, o, ho, hc⟩ := hr g e.symm
 rw [show X.heap[g]? = _ from hs] at ho
 cases ho
 cases hc
theorem WtAt.lt {W : World} {g : Nat} {ws : List Int} (h : WtAt W g ws) : g < W.heap.size := (Array.getElem?_eq_some_iff.1 h).1
theorem WtAt.alloc {W : World} {g : Nat} {ws : List Int} (h : WtAt W g ws) (o : Obj) : WtAt (W.alloc o) g ws := (Below.heap_alloc _ _ _ h.lt).trans h
theorem WtAt.cell {W : World} {g : Nat} {ws : List Int} (h : WtAt W g ws) {k : Nat} (hk : k < ws.length) : W.cell? ⟨g, k, none⟩ = some (.int .u32 (ws.getD k 0)) := by
 refine (cell?_of_heap h).trans ?_
 rw [List.getElem?_toArray]
 unfold uints
 rw [List.getElem?_map, List.getElem?_eq_getElem hk, List.getD_eq_getElem?_getD, List.getElem?_eq_getElem hk]
 rfl
theorem WtAt.frozen {W : World} {g : Nat} {ws : List Int} (h : WtAt W g ws) (k : Nat) : W.frozen? ⟨g, k, none⟩ = false := frozen?_of_heap h
theorem WtAt.set {W : World} {g : Nat} {ws : List Int} (h : WtAt W g ws) (k : Nat) (x : Int) : WtAt (W.setCell ⟨g, k, none⟩ (.int .u32 x)) g (ws.set k x) := by
 refine (heap_setCell_same h).trans ?_
 unfold uints
 simp [List.map_set]
theorem WtAt.keep {W W' : World} {g : Nat} {ws : List Int} (h : WtAt W g ws) (hb : Below W.heap.size W W') : WtAt W' g ws := (hb.block g h.lt).trans h
theorem Boxed.otherB {W : World} {B B' o : Nat} {t : TypeId} {v : Value} (h : Boxed W B t v) (hne : B ≠ B') (u : Value) : Boxed (W.setCell ⟨B', o, none⟩ u) B t v := (heap_setCell_other hne).trans h
section
variable {b : Nat} {t s : Int} {ad : Addr} {n c : Nat} {vs : List Int} {mb : Nat}
def FtRel (vs : List Int) (t : Int) (ws : List Int) (g P D : Nat) (w0 : World) (W : World) (i : Value) (wr : World) : Prop :=
 ∃ k : Nat, k ≤ P ∧ i = .int .i64 k ∧ allN (fun q => gv vs t q 1 == ws.getD q 0) k = true ∧ WtAt wr g ws ∧ wr.heap[D]? = some (.deferred (some [])) ∧ Below W.heap.size W wr ∧ Below w0.heap.size w0 wr
set_option maxHeartbeats 4000000 in
set_option maxRecDepth 100000 in
theorem pfeet_any (w0 w : World) (ml : List (Int × Int)) (g P : Nat) (al : List (Int × Int × Int)) (h : LS w0 b t P s ad n c vs (.slice (some ⟨g, 0, none⟩) P P) mb ml w) (hA : AtR w0 b mb g P al ad w) (hsp : ∀ k x, al[k]? = some x → x.1 ≠ 0 → SpIn P (k, x)) :
 Calls Tryz.prog 104 #[.pointer (some ⟨b, 0, none⟩)] w fun e W' => e = .returned (.bool (allN (fun q => gv vs t q 1 == (wtL P (spN al P)).getD q 0) P)) ∧ Below w.heap.size w W' := by
 obtain ⟨b1, b2, b3, b4, b5, b6, b7⟩ := h.lk.xv.bd
 have hblt := h.lk.lt
 have hglt : g < w.heap.size := ownsRow_lt hA.row rfl
 obtain ⟨⟨e0, e1, e2⟩, -, hc4, -⟩ := h.lk.cells
 have hcs := hA.cells
 have hal := hA.len
 have HL := Lib.hid h
 clear h hA
 have hmk : ∀ w : World, (Instr.makeSlice 73 (.int .i64 (P : Int)) (.int .i64 (P : Int))).run Tryz.prog w = .ok (.slice (some ⟨w.heap.size, 0, none⟩) P P) (w.alloc (.cells (madeCells #[.int .u32 0] P) 90)) := run_make_row' (P := Tryz.prog) 73 90 (.int .u32 0) 4 Tryz.underlying73 infoU32 rfl .i64 .i64 P (by omega) (by omega)
 simp only [made_u32] at hmk
 refine (callsIn_wide (n := 10)).1 ?_
 refine callsIn_of_wp_marks Tryz.func104 rfl trivial ?_ rfl
 simp only [Tryz.ntmps104, List.size_toArray, List.length_cons, List.length_nil, Nat.reduceAdd, Nat.reduceSub, Array.replicate_succ, Array.replicate_zero, List.push_toArray, List.append_toArray, List.nil_append, List.cons_append]
 gi_wp2_with (refine ⟨trivial, ?_⟩; gi_at_call 146; refine (callsIn_wide.2 (pspans_any _ b)).mono ?_; rintro e w' ⟨rfl, rfl⟩)
 have bG : WtAt (((w.alloc (.cells (uints (List.replicate P 0)).toArray 90)).alloc (.cells #[.slice (some ⟨w.heap.size, 0, none⟩) P P] 73)).alloc (.cells #[.pointer (some ⟨b, 0, none⟩)] 106)) w.heap.size (List.replicate P 0) := WtAt.alloc (WtAt.alloc (World.alloc_heap_new w _) _) _
 have bV := (Boxed.new (w.alloc (.cells (uints (List.replicate P 0)).toArray 90)) 73 (.slice (some ⟨w.heap.size, 0, none⟩) P P)).alloc (.cells #[.pointer (some ⟨b, 0, none⟩)] 106)
 have bL := Boxed.new ((w.alloc (.cells (uints (List.replicate P 0)).toArray 90)).alloc (.cells #[.slice (some ⟨w.heap.size, 0, none⟩) P P] 73)) 106 (.pointer (some ⟨b, 0, none⟩))
 simp only [World.size_alloc] at bV bL
 have hB0 : Below w.heap.size w (((w.alloc (.cells (uints (List.replicate P 0)).toArray 90)).alloc (.cells #[.slice (some ⟨w.heap.size, 0, none⟩) P P] 73)).alloc (.cells #[.pointer (some ⟨b, 0, none⟩)] 106)) := (((Below.refl _ w).alloc (Nat.le_refl _) _).alloc (by simp) _).alloc (by simp; omega) _
 have hsz : (((w.alloc (.cells (uints (List.replicate P 0)).toArray 90)).alloc (.cells #[.slice (some ⟨w.heap.size, 0, none⟩) P P] 73)).alloc (.cells #[.pointer (some ⟨b, 0, none⟩)] 106)).heap.size = w.heap.size + 3 := by simp
 obtain ⟨W0, hW0⟩ : ∃ W0, ((w.alloc (.cells (uints (List.replicate P 0)).toArray 90)).alloc (.cells #[.slice (some ⟨w.heap.size, 0, none⟩) P P] 73)).alloc (.cells #[.pointer (some ⟨b, 0, none⟩)] 106) = W0 := ⟨_, rfl⟩
 rw [hW0] at bG bV bL hB0 hsz ⊢
 clear hW0
 refine wpIn_rangeFunc_ownH rfl (by omega) (gf := 191) (lb := #[.pointer (some ⟨w.heap.size + 1 + 1, 0, none⟩)]) rfl trivial (enters_of Tryz.func191 (by kernel_rfl) rfl)
  (spans_stops _ (by omega) (w.heap.size + 1 + 1) w.heap.size b g al (P := P) (by omega) hal hsp W0 (by omega) (by omega) hglt hblt bL.cell ((hB0.cell (p := ⟨b, 4, none⟩) hblt).trans hc4)
   (fun k x hx => ⟨(hB0.cell (p := ⟨g, k * 3, none⟩) hglt).trans (hcs k x hx).1, (hB0.cell (p := ⟨g, k * 3 + 1, none⟩) hglt).trans (hcs k x hx).2.1, (hB0.cell (p := ⟨g, k * 3 + 2, none⟩) hglt).trans (hcs k x hx).2.2⟩))
  belowK_t (belowK_b (by omega)) (Below.refl _ _) (fun _ => rfl)
  (fun pre W => (WtAt W w.heap.size (wtL P (raw pre)) ∧ Boxed W (w.heap.size + 1) 73 (.slice (some ⟨w.heap.size, 0, none⟩) P P)) ∧ Below w.heap.size w W)
  (fun _ _ _ => False)
  (OwnFrom.and (OwnFrom.and WtAt.own (Own.from (boxed_own _ _ _) _)) (ownFrom_below (Nat.le_refl _) (by omega)))
  (fun _ _ _ _ _ hs _ _ => hs)
  ⟨⟨bG, bV⟩, hB0⟩
  (fun x a' W => ∃ Bx, w.heap.size + 1 < Bx ∧ InfoAt W Bx x.1 ∧ a' = { tmps := #[.pointer (some ⟨b, 0, none⟩), undef, .bool false, .pointer (some ⟨w.heap.size + 1, 0, none⟩), .int .i64 (x.1.1 : Int), .pointer (some ⟨Bx, 0, none⟩), undef, undef, .pointer (some ⟨b, 0, none⟩), .pointer (some ⟨b, 0, none⟩), .pointer (some ⟨b, 0, none⟩), .pointer (some ⟨b, 1, none⟩), .int .i64 P, .slice (some ⟨w.heap.size, 0, none⟩) P P, .pointer (some ⟨b, 0, none⟩), .func (.func 191) #[] #[.pointer (some ⟨w.heap.size + 1 + 1, 0, none⟩)], .int .i64 (x.1.1 : Int), .agg #[.int .i64 x.1.2.1, .int .i64 x.1.2.2.1, .int .i64 x.1.2.2.2], undef, undef, undef, undef, undef, undef, undef, undef, undef, undef, undef, undef, undef, undef, undef, undef, undef, undef, undef, undef, undef, undef, undef, undef, undef, undef, undef, undef], defers := [] })
  (fun x a' _ X Y row hs hg hr => by obtain ⟨Bx, h1, h2, h3⟩ := hs; exact ⟨Bx, h1, InfoAt.own () X Y row h2 hg hr, h3⟩)
  ?assign ?body ?done ?stop
 case assign =>
  rintro l pre x W K ⟨⟨i1, i2⟩, iB⟩ hK
  have hszW := iB.size
  have hw2 := i2.lt
  dsimp only [spV]
  gi_wp2
  refine hK _ _ ((KeepsOthers.alloc _ _).from _) ((Below.refl _ W).alloc hszW _) ⟨⟨i1.alloc _, i2.alloc _⟩, iB.alloc hszW _⟩ ⟨W.heap.size, by omega, World.alloc_heap_new W _, rfl⟩
 case body =>
  rintro l pre x a' W hl _ ⟨⟨i1, i2⟩, iB⟩ ⟨Bx, hBx, hI, rfl⟩ hlt
  obtain ⟨q0, q1, q2⟩ := hI.cell
  have c2 := i2.cell
  have hsn := wtL_snoc P (raw pre) x.1
  rw [← raw_snoc] at hsn
  have hlen := wtL_len P (raw pre)
  generalize pre ++ [x] = pn at *
  obtain ⟨⟨p, K, L, C⟩, hx⟩ := x
  have hxx := hx
  obtain ⟨⟨x1, x2⟩, -, -⟩ := hxx
  dsimp only at hsn q0 q1 q2 x1 x2 ⊢
  unfold wtS at hsn
  clear hI
  obtain ⟨q, hq⟩ : ∃ q : Nat, (p : Int) + L - 1 = q := ⟨((p : Int) + L - 1).toNat, by omega⟩
  dsimp only at hsn
  rw [hq, Int.toNat_natCast] at hsn
  have hqP : (q : Int) < P := by omega
  have w1 : IntKind.i64.wrap ((p : Int) + L) = (p : Int) + L := wrap_in _ (by omega)
  have w2 : IntKind.i64.wrap ((p : Int) + L - 1) = q := by rw [hq]; exact wrap_in _ (by omega)
  have w3 : IntKind.i64.wrap ((p : Int) + 1) = (p : Int) + 1 := wrap_in _ (by omega)
  have w4 : IntKind.u32.wrap ((p : Int) + 1) = (p : Int) + 1 := wrapsA_u32 _ (by omega) (by omega)
  have cq := i1.cell (k := q) (by omega)
  have fq := i1.frozen q
  gi_wp2
  exact ⟨(KeepsOthers.setCell _ _ _).from _, (Below.refl _ W).setCell (p := ⟨w.heap.size, q, none⟩) (Nat.le_refl _) _, ⟨by rw [hsn]; exact i1.set q _, Boxed.otherB i2 (by omega) _⟩, iB.setCell (p := ⟨w.heap.size, q, none⟩) (Nat.le_refl _) _⟩
 case done =>
  rintro D ys W hD hys ⟨⟨i1, i2⟩, iB⟩ hK
  rw [hys] at i1
  have hwl := wtL_len P (spN al P)
  have c2 := i2.cell
  obtain ⟨ws, hws⟩ : ∃ ws, wtL P (spN al P) = ws := ⟨_, rfl⟩
  rw [hws] at i1 hwl
  have HWS := Lib.hid hws
  clear hws
  gi_wp2
  gi_loopw [30] (fun i wr => FtRel vs t ws w.heap.size P D w W i wr) (fun i _ => P - (intOf i).toNat)
  case atStart => exact ⟨0, by omega, rfl, rfl, i1, hK, Below.refl _ _, iB⟩
  case round =>
   obtain ⟨k, hk, rfl, hall, hw, hD2, hbW, hbw⟩ := hrel
   have HAl := Lib.hid hall
   by_cases hlt : k < P
   ·have hkP : (k : Int) < P := by omega
    have ck := hw.cell (k := k) (by omega)
    have hL := HL.out.keep hbw
    obtain ⟨⟨d0, d1, d2⟩, -, -, -⟩ := hL.lk.cells
    have hx1 := hL.lk.xv.cx (q := k) (part := 1) (by omega) (by omega) (by omega) (by omega)
    have H1 := Lib.hid (fun w => pfoot_any t P s k w)
    rw [hx1.2] at H1
    have G1 := Lib.hid (fun (w : World) (h : LK b t P s ad n c vs (.slice (some ⟨g, 0, none⟩) P P) mb w) => pget_any (cix t k 1) w h hx1.1)
    have hd1 : vs.getD (cix t k 1) 0 = gv vs t k 1 := rfl
    rw [hd1] at G1
    have HLh := Lib.hid hL
    clear hL hx1 hd1
    generalize ha : gv vs t k 1 = a at *
    generalize cix t k 1 = x1 at *
    generalize hz : ws.getD k 0 = z at *
    gi_wp2_with (refine ⟨trivial, ?_⟩; gi_at_call 147; refine (callsIn_wide.2 (H1.out _)).mono ?_; rintro e w1 ⟨rfl, r1⟩)
    have HL1 := Lib.hid (HLh.out.keep r1)
    refine ⟨trivial, (callsIn_wide.2 (G1.out _ HL1.out.lk)).mono ?_⟩
    rintro e w2 ⟨rfl, r2⟩
    have r12 := r1.trans (r2.mono r1.size)
    have hD3 : w2.heap[D]? = some (.deferred (some [])) := (r12.block D (Array.getElem?_eq_some_iff.1 hD2).1).trans hD2
    have hw3 := hw.keep r12
    have hbW3 := hbW.trans (r12.mono hbW.size)
    have hbw3 := hbw.trans (r12.mono hbw.size)
    clear H1 G1 HLh HL1
    by_cases haz : a = z
    ·subst haz
     gi_wp2
     go_roundw
     case rel =>
      refine ⟨k + 1, by omega, by go_num, ?_, hw3, hD3, hbW3, hbw3⟩
      simp only [allN, HAl.out, Bool.true_and]
      rw [hz, ha]
      simp
     case measure => simp [intOf]; omega
    ·have hzb : (a != z) = true := by simpa using haz
     gi_wp2
     refine ⟨by simp, .inl ⟨_, _, rfl, run_takeDeferred hD3, ?_⟩⟩
     refine ⟨_, results_tmp rfl _ _ _, ?_, hbw3.trans (belowK_b (w := w) (Nat.le_refl _) _ D _ _ (by omega) hD3 rfl rfl)⟩
     refine ret_bool ?_
     symm
     refine allN_no hlt ?_
     show (gv vs t k 1 == (wtL P (spN al P)).getD k 0) = false
     rw [HWS.out, hz, ha]
     simpa using haz
   ·have h1 : k = P := by omega
    subst h1
    gi_wp2
    refine ⟨by simp, .inl ⟨_, _, rfl, run_takeDeferred hD2, ?_⟩⟩
    refine ⟨_, results_tmp rfl _ _ _, ?_, hbw.trans (belowK_b (w := w) (Nat.le_refl _) _ D _ _ (by omega) hD2 rfl rfl)⟩
    exact ret_bool (by rw [HWS.out]; exact HAl.out.symm)
 case stop =>
  rintro D cd pre W hD _ h _
  exact h.elim
end
end Go.Proofs.YtcbikgafdclhaaaGreat
/- the program's audit: counts. -/
set_option linter.unusedSimpArgs false
set_option linter.unusedVariables false
namespace Go.Proofs.YtcbikgafdclhaaaGreat
open Go.RowKit
attribute [local go_sem] Oper.semAt_some

def coS (vs : List Int) (t : Int) (s : Int × Int) (x : Nat × Int × Int × Int) : Int × Int :=
 if x.2.1 = 1 then (s.1 + x.2.2.1, s.2) else if x.2.1 = 2 then (s.1, s.2 + 1) else if x.2.1 = 3 then (s.1, s.2 + (onesN (gv vs t x.1 4) 32 : Nat)) else s
def coL (vs : List Int) (t : Int) (pre : List (Nat × Int × Int × Int)) : Int × Int := pre.foldl (coS vs t) (0, 0)
theorem coL_snoc (vs : List Int) (t : Int) (pre : List (Nat × Int × Int × Int)) (x : Nat × Int × Int × Int) : coL vs t (pre ++ [x]) = coS vs t (coL vs t pre) x := by simp [coL]
theorem coL_bd {P : Nat} (vs : List Int) (t : Int) (hP : P ≤ 1024) (pre : List (SpT P)) : (0 ≤ (coL vs t (raw pre)).1 ∧ (coL vs t (raw pre)).1 ≤ 1024 * pre.length) ∧ 0 ≤ (coL vs t (raw pre)).2 ∧ (coL vs t (raw pre)).2 ≤ 33 * pre.length := by
 have : ∀ (l : List (SpT P)) (s : Int × Int), 0 ≤ s.1 → 0 ≤ s.2 → ((0 ≤ ((raw l).foldl (coS vs t) s).1 ∧ ((raw l).foldl (coS vs t) s).1 ≤ s.1 + 1024 * l.length) ∧ 0 ≤ ((raw l).foldl (coS vs t) s).2 ∧ ((raw l).foldl (coS vs t) s).2 ≤ s.2 + 33 * l.length) := by
  intro l
  induction l with
  | nil => intro s h1 h2; simp [raw]; omega
  | cons x l ih =>
   intro s h1 h2
   obtain ⟨⟨a1, a2⟩, -, -⟩ := x.2
   have hle := onesN_le (gv vs t x.1.1 4) 32
   have hb : (0 ≤ (coS vs t s x.1).1 ∧ (coS vs t s x.1).1 ≤ s.1 + 1024) ∧ 0 ≤ (coS vs t s x.1).2 ∧ (coS vs t s x.1).2 ≤ s.2 + 33 := by
    unfold coS
    split
    ·simp only; omega
    ·split
     ·simp only; omega
     ·split
      ·simp only; omega
      ·omega
   have := ih (coS vs t s x.1) hb.1.1 hb.2.1
   have e : (raw (x :: l)).foldl (coS vs t) s = (raw l).foldl (coS vs t) (coS vs t s x.1) := rfl
   rw [e]
   simp only [List.length_cons]
   refine ⟨⟨this.1.1, by omega⟩, this.2.1, by omega⟩
 have := this pre (0, 0) (Int.le_refl 0) (Int.le_refl 0)
 unfold coL
 simp only at this
 omega
theorem Boxed.keepB {W W' : World} {B : Nat} {t : TypeId} {v : Value} (h : Boxed W B t v) (hb : Below W.heap.size W W') : Boxed W' B t v := (hb.block B h.lt).trans h
theorem held4d {w w' : World} {B b : Nat} {u v0 v1 v2 : Value} (hb : Below w.heap.size w w') (h0 : B < w.heap.size) (h1 : b < w.heap.size)
 (h : w.cell? ⟨B, 0, none⟩ = some u ∧ w.cell? ⟨b, 0, none⟩ = some v0 ∧ w.cell? ⟨b, 1, none⟩ = some v1 ∧ w.cell? ⟨b, 2, none⟩ = some v2) :
 w'.cell? ⟨B, 0, none⟩ = some u ∧ w'.cell? ⟨b, 0, none⟩ = some v0 ∧ w'.cell? ⟨b, 1, none⟩ = some v1 ∧ w'.cell? ⟨b, 2, none⟩ = some v2 :=
 ⟨(hb.cell (p := ⟨B, 0, none⟩) h0).trans h.1, (hb.cell (p := ⟨b, 0, none⟩) h1).trans h.2.1, (hb.cell (p := ⟨b, 1, none⟩) h1).trans h.2.2.1, (hb.cell (p := ⟨b, 2, none⟩) h1).trans h.2.2.2⟩
theorem held4s {w : World} {B b C : Nat} {u v0 v1 v2 x : Value} (h0 : B ≠ C) (h1 : b ≠ C)
 (h : w.cell? ⟨B, 0, none⟩ = some u ∧ w.cell? ⟨b, 0, none⟩ = some v0 ∧ w.cell? ⟨b, 1, none⟩ = some v1 ∧ w.cell? ⟨b, 2, none⟩ = some v2) :
 (w.setCell ⟨C, 0, none⟩ x).cell? ⟨B, 0, none⟩ = some u ∧ (w.setCell ⟨C, 0, none⟩ x).cell? ⟨b, 0, none⟩ = some v0 ∧ (w.setCell ⟨C, 0, none⟩ x).cell? ⟨b, 1, none⟩ = some v1 ∧ (w.setCell ⟨C, 0, none⟩ x).cell? ⟨b, 2, none⟩ = some v2 := by
 have hc : ∀ {a o : Nat}, a ≠ C → (w.setCell ⟨C, 0, none⟩ x).cell? ⟨a, o, none⟩ = w.cell? ⟨a, o, none⟩ := fun ha => World.cell?_of_block (heap_setCell_other ha)
 rw [hc h0, hc h1, hc h1, hc h1]
 exact h
theorem heldC {w w' : World} {A B C : Nat} {u v x : Value} (hb : Below w.heap.size w w') (h0 : A < w.heap.size) (h1 : B < w.heap.size) (h2 : C < w.heap.size)
 (h : w.cell? ⟨A, 0, none⟩ = some u ∧ w.cell? ⟨B, 0, none⟩ = some v ∧ w.cell? ⟨C, 0, none⟩ = some x) :
 w'.cell? ⟨A, 0, none⟩ = some u ∧ w'.cell? ⟨B, 0, none⟩ = some v ∧ w'.cell? ⟨C, 0, none⟩ = some x :=
 ⟨(hb.cell (p := ⟨A, 0, none⟩) h0).trans h.1, (hb.cell (p := ⟨B, 0, none⟩) h1).trans h.2.1, (hb.cell (p := ⟨C, 0, none⟩) h2).trans h.2.2⟩
section
variable {b : Nat} {t s : Int} {ad : Addr} {n c : Nat} {vs : List Int} {mb : Nat}
set_option maxHeartbeats 4000000 in
set_option maxRecDepth 100000 in
theorem pcounts_any (w0 w : World) (ml : List (Int × Int)) (g P : Nat) (al : List (Int × Int × Int)) (h : LS w0 b t P s ad n c vs (.slice (some ⟨g, 0, none⟩) P P) mb ml w) (hA : AtR w0 b mb g P al ad w) (hsp : ∀ k x, al[k]? = some x → x.1 ≠ 0 → SpIn P (k, x)) :
 Calls Tryz.prog 110 #[.pointer (some ⟨b, 0, none⟩)] w fun e W' => e = .returned (.bool (vs.getD 0 0 == (coL vs t (spN al P)).1 && vs.getD 1 0 == (coL vs t (spN al P)).2)) ∧ Below w.heap.size w W' := by
 obtain ⟨b1, b2, b3, b4, b5, b6, b7⟩ := h.lk.xv.bd
 have hblt := h.lk.lt
 have hglt : g < w.heap.size := ownsRow_lt hA.row rfl
 obtain ⟨⟨e0, e1, e2⟩, -, hc4, -⟩ := h.lk.cells
 have hcs := hA.cells
 have hal := hA.len
 have hP64 : P ≤ 1024 := by omega
 have HL := Lib.hid h.lk
 clear h hA
 refine (callsIn_wide (n := 10)).1 ?_
 refine callsIn_of_wp_marks Tryz.func110 rfl trivial ?_ rfl
 simp only [Tryz.ntmps110, List.size_toArray, List.length_cons, List.length_nil, Nat.reduceAdd, Nat.reduceSub, Array.replicate_succ, Array.replicate_zero, List.push_toArray, List.append_toArray, List.nil_append, List.cons_append]
 gi_wp2_with (refine ⟨trivial, ?_⟩; gi_at_call 146; refine (callsIn_wide.2 (pspans_any _ b)).mono ?_; rintro e w' ⟨rfl, rfl⟩)
 have bB := (((Boxed.new w 106 (.pointer (some ⟨b, 0, none⟩))).alloc (.cells #[.int .i64 0] 3)).alloc (.cells #[.int .i64 0] 3)).alloc (.cells #[.pointer (some ⟨b, 0, none⟩)] 106)
 have bF := ((Boxed.new (w.alloc (.cells #[.pointer (some ⟨b, 0, none⟩)] 106)) 3 (.int .i64 0)).alloc (.cells #[.int .i64 0] 3)).alloc (.cells #[.pointer (some ⟨b, 0, none⟩)] 106)
 have bV := (Boxed.new ((w.alloc (.cells #[.pointer (some ⟨b, 0, none⟩)] 106)).alloc (.cells #[.int .i64 0] 3)) 3 (.int .i64 0)).alloc (.cells #[.pointer (some ⟨b, 0, none⟩)] 106)
 have bL := Boxed.new (((w.alloc (.cells #[.pointer (some ⟨b, 0, none⟩)] 106)).alloc (.cells #[.int .i64 0] 3)).alloc (.cells #[.int .i64 0] 3)) 106 (.pointer (some ⟨b, 0, none⟩))
 simp only [World.size_alloc] at bF bV bL
 have hB0 : Below w.heap.size w ((((w.alloc (.cells #[.pointer (some ⟨b, 0, none⟩)] 106)).alloc (.cells #[.int .i64 0] 3)).alloc (.cells #[.int .i64 0] 3)).alloc (.cells #[.pointer (some ⟨b, 0, none⟩)] 106)) := ((((Below.refl _ w).alloc (Nat.le_refl _) _).alloc (by simp) _).alloc (by simp; omega) _).alloc (by simp; omega) _
 have hsz : ((((w.alloc (.cells #[.pointer (some ⟨b, 0, none⟩)] 106)).alloc (.cells #[.int .i64 0] 3)).alloc (.cells #[.int .i64 0] 3)).alloc (.cells #[.pointer (some ⟨b, 0, none⟩)] 106)).heap.size = w.heap.size + 4 := by simp
 obtain ⟨W0, hW0⟩ : ∃ W0, (((w.alloc (.cells #[.pointer (some ⟨b, 0, none⟩)] 106)).alloc (.cells #[.int .i64 0] 3)).alloc (.cells #[.int .i64 0] 3)).alloc (.cells #[.pointer (some ⟨b, 0, none⟩)] 106) = W0 := ⟨_, rfl⟩
 rw [hW0] at bB bF bV bL hB0 hsz ⊢
 clear hW0
 refine wpIn_rangeFunc_ownH rfl (by omega) (gf := 191) (lb := #[.pointer (some ⟨w.heap.size + 1 + 1 + 1, 0, none⟩)]) rfl trivial (enters_of Tryz.func191 (by kernel_rfl) rfl)
  (spans_stops _ (by omega) (w.heap.size + 1 + 1 + 1) w.heap.size b g al (P := P) (by omega) hal hsp W0 (by omega) (by omega) hglt hblt bL.cell ((hB0.cell (p := ⟨b, 4, none⟩) hblt).trans hc4)
   (fun k x hx => ⟨(hB0.cell (p := ⟨g, k * 3, none⟩) hglt).trans (hcs k x hx).1, (hB0.cell (p := ⟨g, k * 3 + 1, none⟩) hglt).trans (hcs k x hx).2.1, (hB0.cell (p := ⟨g, k * 3 + 2, none⟩) hglt).trans (hcs k x hx).2.2⟩))
  belowK_t (belowK_b (by omega)) (Below.refl _ _) (fun _ => rfl)
  (fun pre W => (Boxed W w.heap.size 106 (.pointer (some ⟨b, 0, none⟩)) ∧ (Boxed W (w.heap.size + 1) 3 (.int .i64 (coL vs t (raw pre)).1) ∧ Boxed W (w.heap.size + 1 + 1) 3 (.int .i64 (coL vs t (raw pre)).2))) ∧ Below w.heap.size w W)
  (fun _ _ _ => False)
  (OwnFrom.and (OwnFrom.and (Own.from (boxed_own _ _ _) _) (OwnFrom.and (Own.from (boxed_own _ _ _) _) (Own.from (boxed_own _ _ _) _))) (ownFrom_below (Nat.le_refl _) (by omega)))
  (fun _ _ _ _ _ hs _ _ => hs)
  ⟨⟨bB, bF, bV⟩, hB0⟩
  (fun x a' W => ∃ Bx, w.heap.size + 1 + 1 < Bx ∧ InfoAt W Bx x.1 ∧ a' = { tmps := #[.pointer (some ⟨b, 0, none⟩), .pointer (some ⟨w.heap.size, 0, none⟩), .bool false, .pointer (some ⟨w.heap.size + 1, 0, none⟩), .pointer (some ⟨w.heap.size + 1 + 1, 0, none⟩), .int .i64 (x.1.1 : Int), .pointer (some ⟨Bx, 0, none⟩), .pointer (some ⟨b, 0, none⟩), .func (.func 191) #[] #[.pointer (some ⟨w.heap.size + 1 + 1 + 1, 0, none⟩)], .int .i64 (x.1.1 : Int), .agg #[.int .i64 x.1.2.1, .int .i64 x.1.2.2.1, .int .i64 x.1.2.2.2], undef, undef, undef, undef, undef, undef, undef, undef, undef, undef, undef, undef, undef, undef, undef, undef, undef, undef, undef, undef, undef, undef, undef, undef, undef, undef, undef, undef, undef, undef, undef, undef, undef, undef, undef, undef, undef], defers := [] })
  (fun x a' _ X Y row hs hg hr => by obtain ⟨Bx, h1, h2, h3⟩ := hs; exact ⟨Bx, h1, InfoAt.own () X Y row h2 hg hr, h3⟩)
  ?assign ?body ?done ?stop
 case assign =>
  rintro l pre x W K ⟨⟨i1, i2, i3⟩, iB⟩ hK
  have hszW := iB.size
  have hw3 := i3.lt
  dsimp only [spV]
  gi_wp2
  refine hK _ _ ((KeepsOthers.alloc _ _).from _) ((Below.refl _ W).alloc hszW _) ⟨⟨i1.alloc _, i2.alloc _, i3.alloc _⟩, iB.alloc hszW _⟩ ⟨W.heap.size, by omega, World.alloc_heap_new W _, rfl⟩
 case body =>
  rintro l pre x a' W hl _ ⟨⟨i1, i2, i3⟩, iB⟩ ⟨Bx, hBx, hI, rfl⟩ hlt
  obtain ⟨q0, q1, q2⟩ := hI.cell
  have c1 := i1.cell
  have c2 := i2.cell
  have f2 := i2.frozen
  have c3 := i3.cell
  have f3 := i3.frozen
  have hsn := coL_snoc vs t (raw pre) x.1
  have hbd := coL_bd vs t hP64 pre
  rw [← raw_snoc] at hsn
  have hLK := HL.out.keep iB
  generalize pre ++ [x] = pn at *
  obtain ⟨⟨p, K, L, C⟩, hx⟩ := x
  have hxx := hx
  obtain ⟨⟨x1, x2⟩, ⟨x3, x4⟩, -⟩ := hxx
  dsimp only at hsn q0 q1 q2 x1 x2 x3 x4 ⊢
  clear hI hx
  unfold coS at hsn
  dsimp only at hsn
  generalize hfr : (coL vs t (raw pre)).1 = fr at *
  generalize hlv : (coL vs t (raw pre)).2 = lv at *
  by_cases hK : K = 1
  ·subst hK
   simp only [if_true] at hsn
   have hwr : IntKind.i64.wrap (fr + L) = fr + L := wrap_in _ (by omega)
   gi_wp2
   exact ⟨(KeepsOthers.setCell _ _ _).from _, (Below.refl _ W).setCell (p := ⟨w.heap.size + 1, 0, none⟩) (by show w.heap.size ≤ w.heap.size + 1; omega) _, ⟨i1.other (by omega) _, by rw [hsn]; exact i2.set _, by rw [hsn]; exact i3.other (by omega) _⟩, iB.setCell (p := ⟨w.heap.size + 1, 0, none⟩) (by show w.heap.size ≤ w.heap.size + 1; omega) _⟩
  ·by_cases hK2 : K = 2
   ·subst hK2
    simp at hsn
    have hwr : IntKind.i64.wrap (lv + 1) = lv + 1 := wrap_in _ (by omega)
    gi_wp2
    exact ⟨(KeepsOthers.setCell _ _ _).from _, (Below.refl _ W).setCell (p := ⟨w.heap.size + 1 + 1, 0, none⟩) (by show w.heap.size ≤ w.heap.size + 1 + 1; omega) _, ⟨i1.other (by omega) _, by rw [hsn]; exact i2.other (by omega) _, by rw [hsn]; exact i3.set _⟩, iB.setCell (p := ⟨w.heap.size + 1 + 1, 0, none⟩) (by show w.heap.size ≤ w.heap.size + 1 + 1; omega) _⟩
   ·obtain rfl : K = 3 := by omega
    simp at hsn
    have hx4 := hLK.xv.cx (q := p) (part := 4) (by omega) (by omega) (by omega) (by omega)
    have H1 := Lib.hid (fun w => ppslots_any t P s p w)
    rw [hx4.2] at H1
    have G1 := Lib.hid (fun (w : World) (h : LK b t P s ad n c vs (.slice (some ⟨g, 0, none⟩) P P) mb w) => pget_any (cix t p 4) w h hx4.1)
    have hd1 : vs.getD (cix t p 4) 0 = gv vs t p 4 := rfl
    rw [hd1] at G1
    have hgu := hLK.xv.gu p 4
    have O1 := Lib.hid (fun w => pones_any (gv vs t p 4) w hgu.1 hgu.2)
    have hle := onesN_le (gv vs t p 4) 32
    have hcl := hLK.cells
    obtain ⟨⟨d0, d1, d2⟩, -, -, -⟩ := hcl
    have HLK := Lib.hid (hLK.keep (Below.refl _ _).drew)
    have hltb : b < W.heap.size := hLK.lt
    clear hLK hx4 hd1 hgu
    generalize gv vs t p 4 = a at *
    generalize cix t p 4 = x4 at *
    generalize onesN a 32 = z at *
    have hwr : IntKind.i64.wrap (lv + z) = lv + z := wrap_in _ (by omega)
    have hl1 := i1.lt
    have hl3 := i3.lt
    gi_wp2_with fail
    refine wpIn_region_held_drew (S := fun w' => w'.cell? ⟨w.heap.size, 0, none⟩ = some (.pointer (some ⟨b, 0, none⟩)) ∧ w'.cell? ⟨b, 0, none⟩ = some (.int .i64 t) ∧ w'.cell? ⟨b, 1, none⟩ = some (.int .i64 P) ∧ w'.cell? ⟨b, 2, none⟩ = some (.int .i64 s)) (by kernel_rfl) (by kernel_rfl) ?_ (fun hHeld => ?_)
    ·exact ⟨c1, d0, d1, d2⟩
    refine wT 1 ?_
    refine wT 2 ?_
    refine wT 3 ?_
    refine wT 4 ?_
    refine wT 5 ?_
    refine wT 6 ?_
    refine wpAnyH_ready (rs := [0, 7]) (by kernel_rfl) (by simp) ?_
    refine AllReadyH.cons (o := _) rfl (fun K hK => ?_) (AllReadyH.cons (o := _) rfl (fun K hK => ?_) AllReadyH.nil)
    ·go_simp
     refine hK.out _ _ ?_ (fun hHeld => ?_)
     ·exact hHeld
     clear hK K
     try simp only [Act.put, zA, zB, zD, zE, zF]
     refine wR 7 fun K hK => ?_
     go_simp
     refine (H1.out _).mono ?_
     rintro e w1 ⟨rfl, r1⟩
     have L1 := Lib.hid (HLK.out.keep r1)
     have cl1 := (r1.cell (p := ⟨w.heap.size + 1 + 1, 0, none⟩) hl3).trans c3
     have k1 := held4d r1 hl1 hltb hHeld
     refine hK.out _ _ ?_ (fun hHeld => ?_)
     ·exact k1
     clear hK K
     try simp only [Act.put, zA, zB, zC, zD, zE, zF]
     refine wR 8 fun K hK => ?_
     go_simp
     refine (G1.out _ L1.out).mono ?_
     rintro e w2 ⟨rfl, r2⟩
     have cl2 := (r2.cell (p := ⟨w.heap.size + 1 + 1, 0, none⟩) (Nat.lt_of_lt_of_le hl3 r1.size)).trans cl1
     have k2 := held4d r2 (Nat.lt_of_lt_of_le hl1 r1.size) (Nat.lt_of_lt_of_le hltb r1.size) hHeld
     refine hK.out _ _ ?_ (fun hHeld => ?_)
     ·exact k2
     clear hK K
     try simp only [Act.put, zA, zB, zC, zD, zE, zF]
     refine wR 9 fun K hK => ?_
     go_simp
     refine (O1.out _).mono ?_
     rintro e w3 ⟨rfl, r3⟩
     have r13 := r1.trans ((r2.trans (r3.mono r2.size)).mono r1.size)
     have cl3 := (r13.cell (p := ⟨w.heap.size + 1 + 1, 0, none⟩) hl3).trans c3
     have cf3 := (r13.frozen (p := ⟨w.heap.size + 1 + 1, 0, none⟩) hl3).trans f3
     have k3 := held4d r3 (Nat.lt_of_lt_of_le hl1 (Nat.le_trans r1.size r2.size)) (Nat.lt_of_lt_of_le hltb (Nat.le_trans r1.size r2.size)) hHeld
     refine hK.out _ _ ?_ (fun hHeld => ?_)
     ·exact k3
     clear hK K
     try simp only [Act.put, zA, zB, zC, zD, zE, zF]
     refine wT 10 ?_
     refine wR 11 fun K hK => ?_
     go_simp
     refine hK.out _ _ ?_ (fun hHeld => ?_)
     ·exact held4s (by omega) (by omega) hHeld
     clear hK K
     try simp only [Act.put, zA, zB, zC, zD, zE, zF]
     refine wpAnyH_done (by kernel_rfl) (NoPanic.normal ?_) _
     refine Only.normal ?_
     have r13d := (Below.refl W.heap.size W).drew.trans r13
     have hj := r13d.mono iB.size
     refine ⟨(Below.from r13d _).trans ((KeepsOthers.setCell _ _ _).from _), hj.setCell (p := ⟨w.heap.size + 1 + 1, 0, none⟩) (by show w.heap.size ≤ w.heap.size + 1 + 1; omega) _, ⟨(Boxed.keepB i1 r13d).other (by omega) _, ?_, ?_⟩, (iB.trans hj).setCell (p := ⟨w.heap.size + 1 + 1, 0, none⟩) (by show w.heap.size ≤ w.heap.size + 1 + 1; omega) _⟩
     ·rw [hsn]; exact (Boxed.keepB i2 r13d).other (by omega) _
     ·rw [hsn]; exact (Boxed.keepB i3 r13d).set _
    ·go_simp
     refine (H1.out _).mono ?_
     rintro e w1 ⟨rfl, r1⟩
     have L1 := Lib.hid (HLK.out.keep r1)
     have cl1 := (r1.cell (p := ⟨w.heap.size + 1 + 1, 0, none⟩) hl3).trans c3
     have k1 := held4d r1 hl1 hltb hHeld
     refine hK.out _ _ ?_ (fun hHeld => ?_)
     ·exact k1
     clear hK K
     try simp only [Act.put, zA, zB, zC, zD, zE, zF]
     refine wpAnyH_ready (rs := [0, 8]) (by kernel_rfl) (by simp) ?_
     refine AllReadyH.cons (o := _) rfl (fun K hK => ?_) (AllReadyH.cons (o := _) rfl (fun K hK => ?_) AllReadyH.nil)
     ·go_simp
      refine hK.out _ _ ?_ (fun hHeld => ?_)
      ·exact hHeld
      clear hK K
      try simp only [Act.put, zA, zB, zD, zE, zF]
      refine wR 8 fun K hK => ?_
      go_simp
      refine (G1.out _ L1.out).mono ?_
      rintro e w2 ⟨rfl, r2⟩
      have cl2 := (r2.cell (p := ⟨w.heap.size + 1 + 1, 0, none⟩) (Nat.lt_of_lt_of_le hl3 r1.size)).trans cl1
      have k2 := held4d r2 (Nat.lt_of_lt_of_le hl1 r1.size) (Nat.lt_of_lt_of_le hltb r1.size) hHeld
      refine hK.out _ _ ?_ (fun hHeld => ?_)
      ·exact k2
      clear hK K
      try simp only [Act.put, zA, zB, zC, zD, zE, zF]
      refine wR 9 fun K hK => ?_
      go_simp
      refine (O1.out _).mono ?_
      rintro e w3 ⟨rfl, r3⟩
      have r13 := r1.trans ((r2.trans (r3.mono r2.size)).mono r1.size)
      have cl3 := (r13.cell (p := ⟨w.heap.size + 1 + 1, 0, none⟩) hl3).trans c3
      have cf3 := (r13.frozen (p := ⟨w.heap.size + 1 + 1, 0, none⟩) hl3).trans f3
      have k3 := held4d r3 (Nat.lt_of_lt_of_le hl1 (Nat.le_trans r1.size r2.size)) (Nat.lt_of_lt_of_le hltb (Nat.le_trans r1.size r2.size)) hHeld
      refine hK.out _ _ ?_ (fun hHeld => ?_)
      ·exact k3
      clear hK K
      try simp only [Act.put, zA, zB, zC, zD, zE, zF]
      refine wT 10 ?_
      refine wR 11 fun K hK => ?_
      go_simp
      refine hK.out _ _ ?_ (fun hHeld => ?_)
      ·exact held4s (by omega) (by omega) hHeld
      clear hK K
      try simp only [Act.put, zA, zB, zC, zD, zE, zF]
      refine wpAnyH_done (by kernel_rfl) (NoPanic.normal ?_) _
      refine Only.normal ?_
      have r13d := (Below.refl W.heap.size W).drew.trans r13
      have hj := r13d.mono iB.size
      refine ⟨(Below.from r13d _).trans ((KeepsOthers.setCell _ _ _).from _), hj.setCell (p := ⟨w.heap.size + 1 + 1, 0, none⟩) (by show w.heap.size ≤ w.heap.size + 1 + 1; omega) _, ⟨(Boxed.keepB i1 r13d).other (by omega) _, ?_, ?_⟩, (iB.trans hj).setCell (p := ⟨w.heap.size + 1 + 1, 0, none⟩) (by show w.heap.size ≤ w.heap.size + 1 + 1; omega) _⟩
      ·rw [hsn]; exact (Boxed.keepB i2 r13d).other (by omega) _
      ·rw [hsn]; exact (Boxed.keepB i3 r13d).set _
     ·go_simp
      refine (G1.out _ L1.out).mono ?_
      rintro e w2 ⟨rfl, r2⟩
      have cl2 := (r2.cell (p := ⟨w.heap.size + 1 + 1, 0, none⟩) (Nat.lt_of_lt_of_le hl3 r1.size)).trans cl1
      have k2 := held4d r2 (Nat.lt_of_lt_of_le hl1 r1.size) (Nat.lt_of_lt_of_le hltb r1.size) hHeld
      refine hK.out _ _ ?_ (fun hHeld => ?_)
      ·exact k2
      clear hK K
      try simp only [Act.put, zA, zB, zC, zD, zE, zF]
      refine wpAnyH_ready (rs := [0, 9]) (by kernel_rfl) (by simp) ?_
      refine AllReadyH.cons (o := _) rfl (fun K hK => ?_) (AllReadyH.cons (o := _) rfl (fun K hK => ?_) AllReadyH.nil)
      ·go_simp
       refine hK.out _ _ ?_ (fun hHeld => ?_)
       ·exact hHeld
       clear hK K
       try simp only [Act.put, zA, zB, zD, zE, zF]
       refine wR 9 fun K hK => ?_
       go_simp
       refine (O1.out _).mono ?_
       rintro e w3 ⟨rfl, r3⟩
       have r13 := r1.trans ((r2.trans (r3.mono r2.size)).mono r1.size)
       have cl3 := (r13.cell (p := ⟨w.heap.size + 1 + 1, 0, none⟩) hl3).trans c3
       have cf3 := (r13.frozen (p := ⟨w.heap.size + 1 + 1, 0, none⟩) hl3).trans f3
       have k3 := held4d r3 (Nat.lt_of_lt_of_le hl1 (Nat.le_trans r1.size r2.size)) (Nat.lt_of_lt_of_le hltb (Nat.le_trans r1.size r2.size)) hHeld
       refine hK.out _ _ ?_ (fun hHeld => ?_)
       ·exact k3
       clear hK K
       try simp only [Act.put, zA, zB, zC, zD, zE, zF]
       refine wT 10 ?_
       refine wR 11 fun K hK => ?_
       go_simp
       refine hK.out _ _ ?_ (fun hHeld => ?_)
       ·exact held4s (by omega) (by omega) hHeld
       clear hK K
       try simp only [Act.put, zA, zB, zC, zD, zE, zF]
       refine wpAnyH_done (by kernel_rfl) (NoPanic.normal ?_) _
       refine Only.normal ?_
       have r13d := (Below.refl W.heap.size W).drew.trans r13
       have hj := r13d.mono iB.size
       refine ⟨(Below.from r13d _).trans ((KeepsOthers.setCell _ _ _).from _), hj.setCell (p := ⟨w.heap.size + 1 + 1, 0, none⟩) (by show w.heap.size ≤ w.heap.size + 1 + 1; omega) _, ⟨(Boxed.keepB i1 r13d).other (by omega) _, ?_, ?_⟩, (iB.trans hj).setCell (p := ⟨w.heap.size + 1 + 1, 0, none⟩) (by show w.heap.size ≤ w.heap.size + 1 + 1; omega) _⟩
       ·rw [hsn]; exact (Boxed.keepB i2 r13d).other (by omega) _
       ·rw [hsn]; exact (Boxed.keepB i3 r13d).set _
      ·go_simp
       refine (O1.out _).mono ?_
       rintro e w3 ⟨rfl, r3⟩
       have r13 := r1.trans ((r2.trans (r3.mono r2.size)).mono r1.size)
       have cl3 := (r13.cell (p := ⟨w.heap.size + 1 + 1, 0, none⟩) hl3).trans c3
       have cf3 := (r13.frozen (p := ⟨w.heap.size + 1 + 1, 0, none⟩) hl3).trans f3
       have k3 := held4d r3 (Nat.lt_of_lt_of_le hl1 (Nat.le_trans r1.size r2.size)) (Nat.lt_of_lt_of_le hltb (Nat.le_trans r1.size r2.size)) hHeld
       refine hK.out _ _ ?_ (fun hHeld => ?_)
       ·exact k3
       clear hK K
       try simp only [Act.put, zA, zB, zC, zD, zE, zF]
       refine wR 0 fun K hK => ?_
       go_simp
       refine hK.out _ _ ?_ (fun hHeld => ?_)
       ·exact hHeld
       clear hK K
       try simp only [Act.put, zA, zB, zD, zE, zF]
       refine wT 10 ?_
       refine wR 11 fun K hK => ?_
       go_simp
       refine hK.out _ _ ?_ (fun hHeld => ?_)
       ·exact held4s (by omega) (by omega) hHeld
       clear hK K
       try simp only [Act.put, zA, zB, zC, zD, zE, zF]
       refine wpAnyH_done (by kernel_rfl) (NoPanic.normal ?_) _
       refine Only.normal ?_
       have r13d := (Below.refl W.heap.size W).drew.trans r13
       have hj := r13d.mono iB.size
       refine ⟨(Below.from r13d _).trans ((KeepsOthers.setCell _ _ _).from _), hj.setCell (p := ⟨w.heap.size + 1 + 1, 0, none⟩) (by show w.heap.size ≤ w.heap.size + 1 + 1; omega) _, ⟨(Boxed.keepB i1 r13d).other (by omega) _, ?_, ?_⟩, (iB.trans hj).setCell (p := ⟨w.heap.size + 1 + 1, 0, none⟩) (by show w.heap.size ≤ w.heap.size + 1 + 1; omega) _⟩
       ·rw [hsn]; exact (Boxed.keepB i2 r13d).other (by omega) _
       ·rw [hsn]; exact (Boxed.keepB i3 r13d).set _
 case done =>
  rintro D ys W hD hys ⟨⟨i1, i2, i3⟩, iB⟩ hK
  have hbd := coL_bd vs t hP64 ys
  have hyl : ys.length ≤ P := by
   have h1 := congrArg List.length hys
   have h2 := spN_len al P
   simp only [raw, List.length_map] at h1
   omega
  rw [hys] at i2 i3 hbd
  have c1 := i1.cell
  have c2 := i2.cell
  have c3 := i3.cell
  have hl1 := i1.lt
  have hl2 := i2.lt
  have hl3 := i3.lt
  have hD3 : D < W.heap.size := (Array.getElem?_eq_some_iff.1 hK).1
  generalize hfr : (coL vs t (spN al P)).1 = fr at *
  generalize hlv : (coL vs t (spN al P)).2 = lv at *
  have hw1 : IntKind.u32.wrap fr = fr := wrapsA_u32 _ (by omega) (by omega)
  have hw2 : IntKind.u32.wrap lv = lv := wrapsA_u32 _ (by omega) (by omega)
  have HLK := Lib.hid ((HL.out.keep iB).keep (Below.refl _ _).drew)
  have G0 := Lib.hid (fun (w : World) (h : LK b t P s ad n c vs (.slice (some ⟨g, 0, none⟩) P P) mb w) => (pget_any 0 w h (by omega) : Calls Tryz.prog 56 #[.pointer (some ⟨b, 0, none⟩), .int .i64 0] w _))
  have G1 := Lib.hid (fun (w : World) (h : LK b t P s ad n c vs (.slice (some ⟨g, 0, none⟩) P P) mb w) => (pget_any 1 w h (by omega) : Calls Tryz.prog 56 #[.pointer (some ⟨b, 0, none⟩), .int .i64 1] w _))
  generalize hv0 : vs.getD 0 0 = v0 at *
  generalize hv1 : vs.getD 1 0 = v1 at *
  have HEq : RowKit.Hid ((vs.getD 0 0 == (coL vs t (spN al P)).1 && vs.getD 1 0 == (coL vs t (spN al P)).2) = (v0 == fr && v1 == lv)) := Lib.hid (by rw [hfr, hlv, hv0, hv1])
  clear hfr hlv hv0 hv1
  by_cases hz : v0 = fr
  ·subst hz
   have hzz : (v0 == v0) = true := by simp
   gi_wp2_with fail
   refine wpIn_region_held_drew0 (S := fun w' => w'.cell? ⟨w.heap.size, 0, none⟩ = some (.pointer (some ⟨b, 0, none⟩)) ∧ w'.cell? ⟨w.heap.size + 1, 0, none⟩ = some (.int .i64 v0) ∧ w'.cell? ⟨w.heap.size + 1 + 1, 0, none⟩ = some (.int .i64 lv)) (by kernel_rfl) (by kernel_rfl) ?_ (fun hHeld => ?_)
   ·exact ⟨c1, c2, c3⟩
   refine wT 0 ?_
   refine wT 2 ?_
   refine wT 3 ?_
   refine wR 1 fun K hK => ?_
   go_simp
   refine (G0.out _ HLK.out).mono ?_
   rintro e w1 ⟨rfl, r1⟩
   have L1 := Lib.hid (HLK.out.keep r1)
   have k1 := heldC r1 hl1 hl2 hl3 hHeld
   refine hK.out _ _ ?_ (fun hHeld => ?_)
   ·exact k1
   clear hK K
   try simp only [Act.put, zA, zB, zC, zD, zE, zF]
   refine wT 4 ?_
   refine wT 5 ?_
   refine wT 6 ?_
   refine wT 8 ?_
   refine wT 9 ?_
   refine wR 7 fun K hK => ?_
   go_simp
   refine (G1.out _ L1.out).mono ?_
   rintro e w2 ⟨rfl, r2⟩
   have k2 := heldC r2 (Nat.lt_of_lt_of_le hl1 r1.size) (Nat.lt_of_lt_of_le hl2 r1.size) (Nat.lt_of_lt_of_le hl3 r1.size) hHeld
   refine hK.out _ _ ?_ (fun hHeld => ?_)
   ·exact k2
   clear hK K
   try simp only [Act.put, zA, zB, zC, zD, zE, zF]
   refine wT 10 ?_
   refine wT 11 ?_
   refine wT 12 ?_
   refine wpAnyH_done (by kernel_rfl) (NoPanic.normal ?_) _
   refine Only.normal ?_
   have r12 := (Below.refl W.heap.size W).drew.trans (r1.trans (r2.mono r1.size))
   have hD2 : w2.heap[D]? = some (.deferred (some [])) := (r12.block D hD3).trans hK
   gi_wp2
   refine ⟨by simp, .inl ⟨_, _, rfl, run_takeDeferred hD2, ?_⟩⟩
   refine ⟨_, results_tmp rfl _ _ _, ?_, (iB.trans (r12.mono iB.size)).trans (belowK_b (w := w) (Nat.le_refl _) _ D _ _ (by omega) hD2 rfl rfl)⟩
   exact ret_bool (by rw [HEq.out]; simp)
  ·have hzz : (v0 == fr) = false := by simpa using hz
   gi_wp2_with fail
   refine wpIn_region_held_drew0 (S := fun w' => w'.cell? ⟨w.heap.size, 0, none⟩ = some (.pointer (some ⟨b, 0, none⟩)) ∧ w'.cell? ⟨w.heap.size + 1, 0, none⟩ = some (.int .i64 fr) ∧ w'.cell? ⟨w.heap.size + 1 + 1, 0, none⟩ = some (.int .i64 lv)) (by kernel_rfl) (by kernel_rfl) ?_ (fun hHeld => ?_)
   ·exact ⟨c1, c2, c3⟩
   refine wT 0 ?_
   refine wT 2 ?_
   refine wT 3 ?_
   refine wR 1 fun K hK => ?_
   go_simp
   refine (G0.out _ HLK.out).mono ?_
   rintro e w1 ⟨rfl, r1⟩
   have k1 := heldC r1 hl1 hl2 hl3 hHeld
   refine hK.out _ _ ?_ (fun hHeld => ?_)
   ·exact k1
   clear hK K
   try simp only [Act.put, zA, zB, zC, zD, zE, zF]
   refine wT 4 ?_
   refine wT 5 ?_
   refine wU 6 ?_
   refine wU 7 ?_
   refine wU 8 ?_
   refine wU 9 ?_
   refine wU 10 ?_
   refine wT 11 ?_
   refine wT 12 ?_
   refine wpAnyH_done (by kernel_rfl) (NoPanic.normal ?_) _
   refine Only.normal ?_
   have r12 := (Below.refl W.heap.size W).drew.trans r1
   have hD2 : w1.heap[D]? = some (.deferred (some [])) := (r12.block D hD3).trans hK
   gi_wp2
   refine ⟨by simp, .inl ⟨_, _, rfl, run_takeDeferred hD2, ?_⟩⟩
   refine ⟨_, results_tmp rfl _ _ _, ?_, (iB.trans (r12.mono iB.size)).trans (belowK_b (w := w) (Nat.le_refl _) _ D _ _ (by omega) hD2 rfl rfl)⟩
   exact ret_bool (by rw [HEq.out]; simp [hz])
 case stop =>
  rintro D cd pre W hD _ h _
  exact h.elim
end
end Go.Proofs.YtcbikgafdclhaaaGreat
/- the plain law of feet, apart and counts. -/
set_option linter.unusedSimpArgs false
set_option linter.unusedVariables false
namespace Go.Proofs.YtcbikgafdclhaaaGreat
open Go.RowKit
section
variable {vs : List Int} {t : Int} {P : Nat}
theorem tiles_pg (h : tilesF vs t P = true) : allN (pgB vs t P) P = true := by
 rw [← tiles_law] at h
 obtain ⟨a, b⟩ := tlN_eq (vs := vs) (t := t) P (Nat.le_refl P)
 cases hc : allN (pgB vs t P) P
 ·rw [b hc] at h; simp at h
 ·rfl
theorem pg_ok (h : allN (pgB vs t P) P = true) : allN (okSt vs t) P = true := by
 rw [allN_iff] at h ⊢
 intro k hk
 have := h k hk
 unfold pgB at this
 unfold okSt
 cases hs : stB vs t k
 ·rfl
 ·rw [hs] at this
  simp at this ⊢
  exact this.1
theorem tiles_starts (h : tilesF vs t P = true) : startsF (fun q => gv vs t q 0) P = (stL vs t P, nxN vs t P == P) := by
 unfold startsF
 rw [Int.toNat_natCast]
 exact startsL_eq (pg_ok (tiles_pg h)) (P + 1) 0 (Nat.zero_le _) rfl (by omega)
theorem st_kind (h : allN (pgB vs t P) P = true) {k : Nat} (hk : k < P) : stB vs t k = true ↔ iK (gv vs t k 0) ≠ 0 := by
 have := allN_at h hk
 unfold pgB at this
 cases hs : stB vs t k
 ·rw [hs] at this
  simp only [Bool.false_eq_true, if_false, beq_iff_eq] at this
  rw [this]
  simp
  decide
 ·rw [hs] at this
  simp only [if_true, Bool.and_eq_true, Bool.not_eq_true', beq_eq_false_iff_ne] at this
  simp [this.1.2]
theorem st_at (h : allN (pgB vs t P) P = true) {k : Nat} (hk : k < P) (hs : stB vs t k = true) : nxN vs t k = k ∧ 1 ≤ iL (gv vs t k 0) ∧ (k : Int) + iL (gv vs t k 0) ≤ P ∧ nxN vs t (k + 1) = k + iL (gv vs t k 0) := by
 have hall := pg_ok h
 obtain ⟨o1, o2, o3⟩ := okSt_at hs (allN_at hall hk)
 have hkx : nxN vs t k = k := by
  have := nx_ge k (allN_iff.2 fun j hj => allN_at hall (by omega))
  unfold stB at hs
  simp at hs
  omega
 have hp := allN_at h hk
 unfold pgB at hp
 rw [hs] at hp
 simp only [if_true, Bool.and_eq_true, decide_eq_true_eq] at hp
 exact ⟨hkx, o3, by omega, (at_start hkx).2.1⟩
theorem spN_step (h : allN (pgB vs t P) P = true) {k : Nat} (hk : k < P) : spN (infoL vs t P) (k + 1) = if stB vs t k then spN (infoL vs t P) k ++ [(k, infoQ vs t k)] else spN (infoL vs t P) k := by
 rw [spN, infoL_at hk]
 have := st_kind h hk
 show (if iK (gv vs t k 0) = 0 then _ else _) = _
 by_cases hs : stB vs t k = true
 ·rw [if_pos hs, if_neg (this.1 hs)]
 ·rw [if_neg hs, if_pos (Classical.byContradiction fun hn => hs (this.2 hn))]
/-- the spans that the program goes through lie in the pages. -/
theorem sp_in (h : tilesF vs t P = true) (k : Nat) (x : Int × Int × Int) (hx : (infoL vs t P)[k]? = some x) (hK : x.1 ≠ 0) : SpIn P (k, x) := by
 have hk : k < P := by
  have := (List.getElem?_eq_some_iff.1 hx).1
  simpa [infoL] using this
 have hxe : x = infoQ vs t k := by
  have := infoL_at (vs := vs) (t := t) hk
  rw [List.getD_eq_getElem?_getD, hx] at this
  exact this
 subst hxe
 have hpg := tiles_pg h
 have hs := (st_kind hpg hk).2 hK
 obtain ⟨-, a1, a2, -⟩ := st_at hpg hk hs
 have hb := inf_bd (gv vs t k 0)
 have hK' : iK (gv vs t k 0) ≠ 0 := hK
 unfold SpIn infoQ
 dsimp only
 omega

/-- the last start among the first pages. -/
def lsN (vs : List Int) (t : Int) : Nat → Int
 | 0 => 0
 | k + 1 => if stB vs t k then k else lsN vs t k
theorem st0 : stB vs t 0 = true := by simp [stB, nxN]
theorem stL_last : ∀ k, ∃ r, stL vs t (k + 1) = r ++ [lsN vs t (k + 1)]
 | 0 => ⟨[], by rw [stL, lsN, if_pos st0, if_pos st0]; rfl⟩
 | k + 1 => by
  by_cases hs : stB vs t (k + 1) = true
  ·exact ⟨stL vs t (k + 1), by rw [stL, lsN, if_pos hs, if_pos hs]⟩
  ·obtain ⟨r, h⟩ := stL_last k
   exact ⟨r, by rw [stL, lsN, if_neg hs, if_neg hs, h]⟩
theorem apart_at (h : allN (pgB vs t P) P = true) : ∀ k, k ≤ P → (k = 0 ∨ (apL (spN (infoL vs t P) k)).1 = iK (gv vs t (lsN vs t k) 0)) ∧ (apL (spN (infoL vs t P) k)).2 = allN (apB vs t (stL vs t k)) ((stL vs t k).length - 1)
 | 0, _ => ⟨Or.inl rfl, rfl⟩
 | k + 1, hk => by
  obtain ⟨i1, i2⟩ := apart_at h k (by omega)
  rw [spN_step h (by omega)]
  by_cases hs : stB vs t k = true
  ·rw [if_pos hs, apL_snoc, stL, lsN, if_pos hs, if_pos hs]
   refine ⟨Or.inr rfl, ?_⟩
   unfold apS
   dsimp only
   rw [i2]
   rcases Nat.eq_zero_or_pos k with rfl | hpos
   ·show (true && !(_ && ((0 : Int) == 1))) = true
    simp
   ·obtain ⟨j, rfl⟩ : ∃ j, k = j + 1 := ⟨k - 1, by omega⟩
    obtain ⟨r, hr⟩ := stL_last (vs := vs) (t := t) j
    have i3 := i1.resolve_left (by omega)
    rw [i3, hr]
    generalize lsN vs t (j + 1) = x
    simp only [List.length_append, List.length_singleton, Nat.add_sub_cancel]
    show _ = (allN (apB vs t (r ++ [x] ++ [((j + 1 : Nat) : Int)])) r.length && apB vs t (r ++ [x] ++ [((j + 1 : Nat) : Int)]) r.length)
    congr 1
    ·refine allN_congr fun i hi => ?_
     unfold apB
     have e1 : (r ++ [x] ++ [((j + 1 : Nat) : Int)]).getD (i + 1) 0 = (r ++ [x]).getD (i + 1) 0 := by
      rw [List.getD_eq_getElem?_getD, List.getD_eq_getElem?_getD, List.getElem?_append_left (by simp; omega)]
     have e2 : (r ++ [x] ++ [((j + 1 : Nat) : Int)]).getD i 0 = (r ++ [x]).getD i 0 := by
      rw [List.getD_eq_getElem?_getD, List.getD_eq_getElem?_getD, List.getElem?_append_left (by simp; omega)]
     rw [e1, e2]
    ·unfold apB
     have e1 : (r ++ [x] ++ [((j + 1 : Nat) : Int)]).getD (r.length + 1) 0 = ((j + 1 : Nat) : Int) := by simp
     have e2 : (r ++ [x] ++ [((j + 1 : Nat) : Int)]).getD r.length 0 = x := by simp
     rw [e1, e2]
     rfl
  ·rw [if_neg hs, stL, lsN, if_neg hs, if_neg hs]
   refine ⟨?_, i2⟩
   rcases i1 with rfl | i1
   ·exact absurd st0 hs
   ·exact Or.inr i1
theorem apart_law (h : tilesF vs t P = true) : (apL (spN (infoL vs t P) P)).2 = apartF vs t P := by
 unfold apartF
 rw [tiles_starts h]
 exact (apart_at (tiles_pg h) P (Nat.le_refl _)).2

/-- what the foot of a page must be. -/
def footN (vs : List Int) (t : Int) (q : Nat) : Int := if nxN vs t (q + 1) = q + 1 then lsN vs t (q + 1) + 1 else 0
theorem ls_skip {k : Nat} (hs : stB vs t k = true) : ∀ j, k + 1 ≤ j → (j : Int) ≤ nxN vs t (k + 1) → lsN vs t j = k
 | 0, h, _ => by omega
 | j + 1, h, hj => by
  by_cases e : j = k
  ·subst e; rw [lsN, if_pos hs]
  ·have ih := ls_skip hs j (by omega) (by omega)
   have hn := (nx_skip (vs := vs) (t := t) (k := k) j (by omega) (by omega)).1
   rw [lsN, if_neg (by simp [stB, hn]; omega), ih]
theorem ls_nx : ∀ k, nxN vs t (k + 1) = lsN vs t (k + 1) + iL (gv vs t (lsN vs t (k + 1)) 0)
 | 0 => by rw [nxN, lsN, if_pos st0, if_neg (by simp [nxN])]
 | k + 1 => by
  by_cases hs : stB vs t (k + 1) = true
  ·rw [lsN, if_pos hs, nxN, if_neg (by simpa [stB] using hs)]
  ·rw [lsN, if_neg hs, nxN, if_pos (by simpa [stB] using hs)]
   exact ls_nx k
theorem wt_at (h : allN (pgB vs t P) P = true) : ∀ k, k ≤ P → ∀ q, q < P → (wtL P (spN (infoL vs t P) k)).getD q 0 = if (q : Int) < nxN vs t k then footN vs t q else 0
 | 0, _, q, hq => by
  rw [if_neg (by simp [nxN])]
  show (List.replicate P (0 : Int)).getD q 0 = 0
  simp [List.getD_eq_getElem?_getD, hq]
 | k + 1, hk, q, hq => by
  have ih := wt_at h k (by omega) q hq
  have hge := nx_ge k (allN_iff.2 fun j hj => allN_at (pg_ok h) (by omega))
  rw [spN_step h (by omega)]
  by_cases hs : stB vs t k = true
  ·obtain ⟨s1, s2, s3, s4⟩ := st_at h (by omega) hs
   rw [if_pos hs, wtL_snoc]
   unfold wtS infoQ
   dsimp only
   have hlen := wtL_len P (spN (infoL vs t P) k)
   obtain ⟨m, hm⟩ : ∃ m : Nat, (k : Int) + iL (gv vs t k 0) - 1 = m := ⟨((k : Int) + iL (gv vs t k 0) - 1).toNat, by omega⟩
   rw [hm, Int.toNat_natCast, s4]
   rw [s1] at ih
   rw [List.getD_eq_getElem?_getD, List.getElem?_set]
   by_cases hqm : m = q
   ·subst hqm
    rw [if_pos rfl, if_pos (by omega), if_pos (by omega)]
    unfold footN
    have n1 := (nx_skip (vs := vs) (t := t) (k := k) (m + 1) (by omega) (by omega)).1
    rw [if_pos (by omega), ls_skip hs (m + 1) (by omega) (by omega)]
    rfl
   ·rw [if_neg hqm, ← List.getD_eq_getElem?_getD, ih]
    by_cases hqk : q < k
    ·rw [if_pos (by omega), if_pos (by omega)]
    ·rw [if_neg (by omega)]
     by_cases hq2 : (q : Int) < k + iL (gv vs t k 0)
     ·rw [if_pos hq2]
      unfold footN
      have n1 := (nx_skip (vs := vs) (t := t) (k := k) (q + 1) (by omega) (by omega)).1
      rw [if_neg (by omega)]
     ·rw [if_neg hq2]
  ·have en : nxN vs t (k + 1) = nxN vs t k := by rw [nxN, if_pos (by simpa [stB] using hs)]
   rw [if_neg hs, ih, en]
theorem feetN_eq (h : allN (pgB vs t P) P = true) : ∀ q, q ≤ P → feetN vs t (stL vs t P) q = if allN (fun q => gv vs t q 1 == footN vs t q) q = true then some ((stL vs t q).length - 1) else none
 | 0, _ => rfl
 | q + 1, hq => by
  have ih := feetN_eq h q (by omega)
  have ea : allN (fun q => gv vs t q 1 == footN vs t q) (q + 1) = (allN (fun q => gv vs t q 1 == footN vs t q) q && (gv vs t q 1 == footN vs t q)) := rfl
  unfold feetN
  rw [ih, ea]
  cases ha : allN (fun q => gv vs t q 1 == footN vs t q) q
  ·simp
  ·simp only [if_true, Bool.true_and]
   obtain ⟨rest, h1, h2⟩ := stL_pre (vs := vs) (t := t) (P := P) (P - (q + 1)) (q + 1) (by omega)
   obtain ⟨r, hr⟩ := stL_last (vs := vs) (t := t) q
   have hadv : advN (stL vs t P) ((stL vs t q).length - 1) q = r.length := by
    unfold advN
    by_cases hs : stB vs t q = true
    ·have e : stL vs t (q + 1) = stL vs t q ++ [(q : Int)] := by rw [stL, if_pos hs]
     rcases Nat.eq_zero_or_pos q with rfl | hpos
     ·have hr0 : r = [] := by
       rw [e] at hr
       have := congrArg List.length hr
       simp [stL] at this
       exact this
      subst hr0
      rw [if_neg]
      ·rfl
      ·show ¬ (stL vs t P)[1]? = _
       rw [h1, hr]
       intro hx
       simp at hx
       have := h2 _ (List.mem_of_getElem? hx)
       omega
     ·obtain ⟨j, rfl⟩ : ∃ j, q = j + 1 := ⟨q - 1, by omega⟩
      obtain ⟨r', hr'⟩ := stL_last (vs := vs) (t := t) j
      have hl : (stL vs t (j + 1)).length = r'.length + 1 := by rw [hr']; simp
      have hrl : r.length = r'.length + 1 := by
       have := congrArg List.length hr
       rw [e] at this
       simp at this
       omega
      rw [hl, Nat.add_sub_cancel, if_pos, hrl]
      rw [h1, e, List.append_assoc, List.getElem?_append_right (by omega), hl]
      simp
    ·have e : stL vs t (q + 1) = stL vs t q := by rw [stL, if_neg hs]
     have hl : (stL vs t q).length = r.length + 1 := by rw [← e, hr]; simp
     rw [hl, Nat.add_sub_cancel, if_neg]
     rw [h1, hr, List.getElem?_append_right (by simp)]
     intro hx
     have := h2 _ (List.mem_of_getElem? hx)
     omega
   rw [hadv]
   have hwant : wantF vs t (stL vs t P) r.length q = footN vs t q := by
    have hg : (stL vs t P).getD r.length 0 = lsN vs t (q + 1) := by
     rw [List.getD_eq_getElem?_getD, h1, hr]
     simp
    unfold wantF footN
    rw [hg, ls_nx q]
    by_cases e : (q : Int) = lsN vs t (q + 1) + iL (gv vs t (lsN vs t (q + 1)) 0) - 1
    ·rw [if_pos e, if_pos (by omega)]
    ·rw [if_neg e, if_neg (by omega)]
   rw [hwant, hr]
   by_cases e : gv vs t q 1 = footN vs t q
   ·rw [if_pos e, if_pos (by simpa using e)]
    simp
   ·rw [if_neg e, if_neg (by simpa using e)]
theorem feet_law (h : tilesF vs t P = true) : allN (fun q => gv vs t q 1 == (wtL P (spN (infoL vs t P) P)).getD q 0) P = feetF vs t P := by
 have hpg := tiles_pg h
 unfold feetF
 rw [tiles_starts h, Int.toNat_natCast]
 simp only
 rw [feetN_eq hpg P (Nat.le_refl _)]
 have hge := nx_ge P (pg_ok hpg)
 have e : allN (fun q => gv vs t q 1 == (wtL P (spN (infoL vs t P) P)).getD q 0) P = allN (fun q => gv vs t q 1 == footN vs t q) P := by
  refine allN_congr fun q hq => ?_
  rw [wt_at hpg P (Nat.le_refl _) q hq, if_pos (by omega)]
 rw [e]
 cases allN (fun q => gv vs t q 1 == footN vs t q) P <;> rfl

theorem ones_zero : onesN 0 32 = 0 := by decide
theorem co_at (h : allN (pgB vs t P) P = true) (hz : ∀ q, q < P → iK (gv vs t q 0) ≠ 3 → gv vs t q 4 = 0) : ∀ k, k ≤ P → coL vs t (spN (infoL vs t P) k) = (freeN vs t k, liveN vs t k)
 | 0, _ => rfl
 | k + 1, hk => by
  have ih := co_at h hz k (by omega)
  have hb := inf_bd (gv vs t k 0)
  have hK := st_kind h (show k < P by omega)
  rw [spN_step h (by omega), freeN, liveN]
  by_cases hs : stB vs t k = true
  ·have hK0 := hK.1 hs
   rw [if_pos hs, coL_snoc, ih]
   unfold coS infoQ
   dsimp only
   by_cases h1 : iK (gv vs t k 0) = 1
   ·rw [hz k (by omega) (by omega), ones_zero]
    simp [h1]
   ·by_cases h2 : iK (gv vs t k 0) = 2
    ·rw [hz k (by omega) (by omega), ones_zero]
     simp [h2]
    ·have h3 : iK (gv vs t k 0) = 3 := by omega
     simp [h3]
  ·have hK0 : iK (gv vs t k 0) = 0 := Classical.byContradiction fun hn => hs (hK.2 hn)
   rw [if_neg hs, ih, hz k (by omega) (by omega), ones_zero, hK0]
   simp
theorem counts_law (h : tilesF vs t P = true) (hu : ∀ v ∈ vs, VS.U32 v) (hs : slotsAll vs t P = true) : (vs.getD 0 0 == (coL vs t (spN (infoL vs t P) P)).1 && vs.getD 1 0 == (coL vs t (spN (infoL vs t P) P)).2) = countsF vs t P := by
 have hps := slots_law (t := t) (P := P) hu
 rw [hs] at hps
 have hz : ∀ q, q < P → iK (gv vs t q 0) ≠ 3 → gv vs t q 4 = 0 := by
  intro q hq hK
  have := allN_at hps hq
  unfold psB at this
  rw [infoL_at hq] at this
  have hK' : ¬ (infoQ vs t q).1 = 3 := hK
  rw [if_neg hK'] at this
  simp only [Bool.and_eq_true, beq_iff_eq] at this
  exact this.1
 rw [co_at (tiles_pg h) hz P (Nat.le_refl _)]
 unfold countsF
 rw [Int.toNat_natCast]
end
end Go.Proofs.YtcbikgafdclhaaaGreat
