/- parts of the proof, merged by a program. -/
import Derived.Test.YtpmoajhpgekhcaaGreatMsa3
set_option linter.unusedSimpArgs false
set_option linter.unusedVariables false
/- the document's audit: loose. -/
set_option linter.unusedSimpArgs false
set_option linter.unusedVariables false
namespace Go.Proofs.YtpmoajhpgekhcaaGreat
open Go.RowKit
section
variable {t p s : Int} {ad : Addr} {n c : Nat} {vs : List Int}

def hungB (vs : List Int) (t : Int) (q : Nat) : Bool := iK (gv vs t q 0) == 1 || (iK (gv vs t q 0) == 3 && !fullB (gv vs t q 5) (iC (gv vs t q 0)))
def looseQ (vs : List Int) (t : Int) (q : Nat) : Bool := hungB vs t q || (gv vs t q 2 == 0 && gv vs t q 3 == 0)
def looseF (vs : List Int) (t p : Int) : Bool := allN (looseQ vs t) p.toNat

set_option maxHeartbeats 4000000 in
set_option maxRecDepth 100000 in
theorem loose_any (c : Nat) (w : World) (h : XV w t p s ad n vs) :
    Calls Tryz.prog 42 #[.agg #[.int .i64 t, .int .i64 p, .int .i64 s, .slice (some ad) n c]] w fun e w' => e = .returned (.bool (looseF vs t p)) ∧ Below w.heap.size w w' := by
  have X0 := h.boxed c
  have bd : 4 ≤ p ∧ p ≤ 1024 := by have := h.bd; omega
  have HG := Lib.hid h.gu
  have HI := Lib.hid (fun (q : Int) (w : World) (h : XV w t p s ad n vs) (h0 : 0 ≤ q) (h1 : q < p) => xinfo_any q c w h h0 h1)
  have HTk := Lib.hid (fun (q : Int) (w : World) (h : XV w t p s ad n vs) (h0 : 0 ≤ q) (h1 : q < p) => xtaken_any q c w h h0 h1)
  have HX : ∀ q, 0 ≤ q → q < p → ∃ k k2 : Nat, k < n ∧ k2 < n ∧ (∀ w, Calls Tryz.prog 73 #[.agg #[.int .i64 t, .int .i64 p, .int .i64 s], .int .i64 q] w fun e w' => e = .returned (.int .i64 k) ∧ Below w.heap.size w w') ∧ w.cell? (ad.add k) = some (.int .u32 (gv vs t q 3)) ∧ (∀ w, Calls Tryz.prog 72 #[.agg #[.int .i64 t, .int .i64 p, .int .i64 s], .int .i64 q] w fun e w' => e = .returned (.int .i64 k2) ∧ Below w.heap.size w w') ∧ w.cell? (ad.add k2) = some (.int .u32 (gv vs t q 2)) := by
    intro q h0 h1
    obtain ⟨hx1, hx2⟩ := h.cx h0 h1 (part := 3) (by omega) (by omega)
    obtain ⟨hy1, hy2⟩ := h.cx h0 h1 (part := 2) (by omega) (by omega)
    refine ⟨cix t q 3, cix t q 2, hx1, hy1, fun w => ?_, h.cells _ hx1, fun w => ?_, h.cells _ hy1⟩
    · have := rprev_any t p s q w
      rwa [hx2] at this
    · have := rnext_any t p s q w
      rwa [hy2] at this
  have HXX := Lib.hid HX
  generalize hr : looseF vs t p = r
  have hr2 : allN (looseQ vs t) p.toNat = r := hr
  have HR := Lib.hid hr2
  clear h hr hr2 HX
  go_enter Tryz.func42, Tryz.ntmps42
  go_wp2_with fail
  go_loopw [3, 4] (fun v3 _ wr => AllRel (looseQ vs t) p.toNat (w.alloc (.cells #[.int .i64 t, .int .i64 p, .int .i64 s, .slice (some ad) n c] 88)) v3 wr) (fun v3 _ _ => p.toNat - (intOf v3).toNat)
  case atStart => exact ⟨0, by omega, rfl, rfl, Below.refl _ _⟩
  case round =>
    obtain ⟨q, hq, rfl, hall, hbel⟩ := hrel
    have X1 := X0.keep hbel
    have HA := Lib.hid hall
    have HBel := Lib.hid hbel
    clear hall hbel X0
    obtain ⟨x0, x1, x2, x3⟩ := X1.cells
    by_cases hqp : (q : Int) < p
    · have hsq : looseQ vs t q = ((iK (gv vs t q 0) == 1 || (iK (gv vs t q 0) == 3 && !fullB (gv vs t q 5) (iC (gv vs t q 0)))) || (gv vs t q 2 == 0 && gv vs t q 3 == 0)) := rfl
      have HSQ := Lib.hid hsq
      have I1 := Lib.hid (fun (w : World) (h : XV w t p s ad n vs) => HI.out q w h (by omega) hqp)
      have I3 := Lib.hid (fun (w : World) (h : XV w t p s ad n vs) => HTk.out q w h (by omega) hqp)
      have g5 := (HG.out q 5).1
      have HFu := Lib.hid (fun w => rfull_any (gv vs t q 5) (iC (gv vs t q 0)) w g5)
      obtain ⟨k, k2, hkn, hkn2, hP, hc0, hN, hd0⟩ := HXX.out q (by omega) hqp
      have hc1 := (BS.mk X1.bel (by simp) : BS w [] wr).old hc0
      have hd1 := (BS.mk X1.bel (by simp) : BS w [] wr).old hd0
      have HP := Lib.hid hP
      have HNx := Lib.hid hN
      clear hsq HI HTk HG g5 hP hN hc0 hd0 HXX
      generalize fullB (gv vs t q 5) (iC (gv vs t q 0)) = fu at *
      generalize iK (gv vs t q 0) = a1 at *
      generalize iL (gv vs t q 0) = a2 at *
      generalize iC (gv vs t q 0) = a3 at *
      generalize gv vs t q 5 = u5 at *
      generalize gv vs t q 2 = u2 at *
      generalize gv vs t q 3 = u3 at *
      have HC1 := Lib.hid hc1
      have HD1 := Lib.hid hd1
      clear hc1 hd1
      by_cases hk1 : a1 = 1
      · subst hk1
        have hyes : looseQ vs t q = true := by rw [HSQ.out]; simp
        have HY := Lib.hid hyes
        clear hyes
        go_wp2_with fail
        refine (I1.out _ X1.xv).mono ?_
        rintro e w1 ⟨rfl, hb1⟩
        have X2 := X1.keep hb1
        obtain ⟨X20, X21, X22, X23⟩ := X2.cells
        have X2z := X2.lt
        have XI := X2.alloc (.cells #[.int .i64 1, .int .i64 a2, .int .i64 a3] 61)
        have bI := loc_alloc w1 #[.int .i64 1, .int .i64 a2, .int .i64 a3] 61
        have lI : w1.heap.size < (w1.alloc (.cells #[.int .i64 1, .int .i64 a2, .int .i64 a3] 61)).heap.size := by simp
        have hbw := (HBel.out.trans (hb1.mono HBel.out.size)).alloc (Nat.le_trans HBel.out.size hb1.size) (.cells #[.int .i64 1, .int .i64 a2, .int .i64 a3] 61)
        have cc1 := (hb1.cell (World.block_lt_of_cell? _ _ HC1.out)).trans HC1.out
        have dd1 := (hb1.cell (World.block_lt_of_cell? _ _ HD1.out)).trans HD1.out
        go_wp2_with fail
        refine world_gen ?_
        intro wi hwi
        have hbi : Below w1.heap.size w1 wi := by rw [hwi]; exact (Below.refl _ _).alloc (Nat.le_refl _) _
        rw [← hwi] at XI bI lI hbw
        have cc2 := (hbi.cell (World.block_lt_of_cell? _ _ cc1)).trans cc1
        have dd2 := (hbi.cell (World.block_lt_of_cell? _ _ dd1)).trans dd1
        have HXI := Lib.hid XI.box
        have hxl := XI.lt
        have HbI := Lib.hid bI
        clear hwi x0 x1 x2 x3 X20 X21 X22 X23 X2z cc1 dd1 bI
        refine wp_region_noPanic ?_
        refine wp_region_held_drew (S := fun w' => BS wi ([] : List Nat) w' ∧ (∀ o : Nat, w'.cell? ⟨w.heap.size, o, none⟩ = (#[.int .i64 t, .int .i64 p, .int .i64 s, .slice (some ad) n c] : Array Value)[o]?) ∧ (∀ o : Nat, w'.cell? ⟨w1.heap.size, o, none⟩ = (#[.int .i64 1, .int .i64 a2, .int .i64 a3] : Array Value)[o]?)) (by kernel_rfl) ?_ (fun hHeld => ?_)
        · exact ⟨(BS.start wi).drew, HXI.out, HbI.out⟩
        refine wT 0 ?_
        refine wT 1 ?_
        refine wT 2 ?_
        refine wT 3 ?_
        refine wU 4 ?_
        refine wU 5 ?_
        refine wU 6 ?_
        refine wU 7 ?_
        refine wU 8 ?_
        refine wU 9 ?_
        refine wU 10 ?_
        refine wU 11 ?_
        refine wU 12 ?_
        refine wU 13 ?_
        refine wU 14 ?_
        refine wU 15 ?_
        refine wT 16 ?_
        refine wpAnyH_done (by kernel_rfl) (NoPanic.normal ?_) _
        refine world_gen ?_
        intro wz hwz
        rw [← hwz] at hHeld
        clear hwz
        have X5 := XI.keep hHeld.1.bel
        have hbz := hbw.trans (hHeld.1.bel.mono hbw.size)
        have cc3 := hHeld.1.old cc2
        have dd3 := hHeld.1.old dd2
        have HBz := Lib.hid hbz
        have HX5 := Lib.hid X5.box
        have hl5 := X5.lt
        clear hHeld hbz
        go_wp2_with fail
        go_roundw
        case rel => exact ⟨q + 1, by omega, by go_num, by simp [allN, HA.out, HY.out], HBz.out⟩
        case measure => simp [intOf]; omega
      · have hkb1 : (a1 == 1) = false := by simp [hk1]
        by_cases hk3 : a1 = 3
        · subst hk3
          cases fu
          · clear hk1
            have hyes : looseQ vs t q = true := by rw [HSQ.out]; simp
            have HY := Lib.hid hyes
            clear hyes
            go_wp2_with fail
            refine (I1.out _ X1.xv).mono ?_
            rintro e w1 ⟨rfl, hb1⟩
            have X2 := X1.keep hb1
            obtain ⟨X20, X21, X22, X23⟩ := X2.cells
            have X2z := X2.lt
            have XI := X2.alloc (.cells #[.int .i64 3, .int .i64 a2, .int .i64 a3] 61)
            have bI := loc_alloc w1 #[.int .i64 3, .int .i64 a2, .int .i64 a3] 61
            have lI : w1.heap.size < (w1.alloc (.cells #[.int .i64 3, .int .i64 a2, .int .i64 a3] 61)).heap.size := by simp
            have hbw := (HBel.out.trans (hb1.mono HBel.out.size)).alloc (Nat.le_trans HBel.out.size hb1.size) (.cells #[.int .i64 3, .int .i64 a2, .int .i64 a3] 61)
            have cc1 := (hb1.cell (World.block_lt_of_cell? _ _ HC1.out)).trans HC1.out
            have dd1 := (hb1.cell (World.block_lt_of_cell? _ _ HD1.out)).trans HD1.out
            go_wp2_with fail
            refine world_gen ?_
            intro wi hwi
            have hbi : Below w1.heap.size w1 wi := by rw [hwi]; exact (Below.refl _ _).alloc (Nat.le_refl _) _
            rw [← hwi] at XI bI lI hbw
            have cc2 := (hbi.cell (World.block_lt_of_cell? _ _ cc1)).trans cc1
            have dd2 := (hbi.cell (World.block_lt_of_cell? _ _ dd1)).trans dd1
            have HXI := Lib.hid XI.box
            have hxl := XI.lt
            have HbI := Lib.hid bI
            clear hwi x0 x1 x2 x3 X20 X21 X22 X23 X2z cc1 dd1 bI
            refine wp_region_noPanic ?_
            refine wp_region_held_drew (S := fun w' => BS wi ([] : List Nat) w' ∧ (∀ o : Nat, w'.cell? ⟨w.heap.size, o, none⟩ = (#[.int .i64 t, .int .i64 p, .int .i64 s, .slice (some ad) n c] : Array Value)[o]?) ∧ (∀ o : Nat, w'.cell? ⟨w1.heap.size, o, none⟩ = (#[.int .i64 3, .int .i64 a2, .int .i64 a3] : Array Value)[o]?)) (by kernel_rfl) ?_ (fun hHeld => ?_)
            · exact ⟨(BS.start wi).drew, HXI.out, HbI.out⟩
            refine wT 0 ?_
            refine wT 1 ?_
            refine wT 2 ?_
            refine wT 3 ?_
            refine wT 4 ?_
            refine wT 5 ?_
            refine wT 6 ?_
            refine wT 7 ?_
            refine wT 8 ?_
            refine wT 9 ?_
            refine wT 11 ?_
            refine wT 12 ?_
            refine wR 10 fun K hK => ?_
            go_simp
            refine (calls_b hHeld.1 (I3.out _ (XI.xv.keep hHeld.1.bel))).mono ?_
            rintro e wr1 ⟨rfl, hV, hVl⟩
            dsimp only
            refine hK.out _ _ ?_ (fun hHeld2 => ?_)
            · exact ⟨hV, hV.oldbox HXI.out hxl, hV.oldbox HbI.out lI⟩
            clear hK K hV hVl hHeld
            have hHeld := hHeld2
            clear hHeld2
            try simp only [Act.put, zA, zB, zC, zD, zE, zF]
            refine wR 13 fun K hK => ?_
            go_simp
            refine (calls_b hHeld.1 (HFu.out _)).mono ?_
            rintro e wr2 ⟨rfl, hV, hVl⟩
            dsimp only
            refine hK.out _ _ ?_ (fun hHeld2 => ?_)
            · exact ⟨hV, hV.oldbox HXI.out hxl, hV.oldbox HbI.out lI⟩
            clear hK K hV hVl hHeld
            have hHeld := hHeld2
            clear hHeld2
            try simp only [Act.put, zA, zB, zC, zD, zE, zF]
            refine wT 14 ?_
            refine wT 15 ?_
            refine wT 16 ?_
            refine wpAnyH_done (by kernel_rfl) (NoPanic.normal ?_) _
            refine world_gen ?_
            intro wz hwz
            rw [← hwz] at hHeld
            clear hwz
            have X5 := XI.keep hHeld.1.bel
            have hbz := hbw.trans (hHeld.1.bel.mono hbw.size)
            have cc3 := hHeld.1.old cc2
            have dd3 := hHeld.1.old dd2
            have HBz := Lib.hid hbz
            have HX5 := Lib.hid X5.box
            have hl5 := X5.lt
            clear hHeld hbz
            go_wp2_with fail
            go_roundw
            case rel => exact ⟨q + 1, by omega, by go_num, by simp [allN, HA.out, HY.out], HBz.out⟩
            case measure => simp [intOf]; omega
          · clear hk1
            by_cases hu2 : u2 = 0
            · subst hu2
              by_cases hu3 : u3 = 0
              · subst hu3
                have hyes : looseQ vs t q = true := by rw [HSQ.out]; simp
                have HY := Lib.hid hyes
                clear hyes
                go_wp2_with fail
                refine (I1.out _ X1.xv).mono ?_
                rintro e w1 ⟨rfl, hb1⟩
                have X2 := X1.keep hb1
                obtain ⟨X20, X21, X22, X23⟩ := X2.cells
                have X2z := X2.lt
                have XI := X2.alloc (.cells #[.int .i64 3, .int .i64 a2, .int .i64 a3] 61)
                have bI := loc_alloc w1 #[.int .i64 3, .int .i64 a2, .int .i64 a3] 61
                have lI : w1.heap.size < (w1.alloc (.cells #[.int .i64 3, .int .i64 a2, .int .i64 a3] 61)).heap.size := by simp
                have hbw := (HBel.out.trans (hb1.mono HBel.out.size)).alloc (Nat.le_trans HBel.out.size hb1.size) (.cells #[.int .i64 3, .int .i64 a2, .int .i64 a3] 61)
                have cc1 := (hb1.cell (World.block_lt_of_cell? _ _ HC1.out)).trans HC1.out
                have dd1 := (hb1.cell (World.block_lt_of_cell? _ _ HD1.out)).trans HD1.out
                go_wp2_with fail
                refine world_gen ?_
                intro wi hwi
                have hbi : Below w1.heap.size w1 wi := by rw [hwi]; exact (Below.refl _ _).alloc (Nat.le_refl _) _
                rw [← hwi] at XI bI lI hbw
                have cc2 := (hbi.cell (World.block_lt_of_cell? _ _ cc1)).trans cc1
                have dd2 := (hbi.cell (World.block_lt_of_cell? _ _ dd1)).trans dd1
                have HXI := Lib.hid XI.box
                have hxl := XI.lt
                have HbI := Lib.hid bI
                clear hwi x0 x1 x2 x3 X20 X21 X22 X23 X2z cc1 dd1 bI
                refine wp_region_noPanic ?_
                refine wp_region_held_drew (S := fun w' => BS wi ([] : List Nat) w' ∧ (∀ o : Nat, w'.cell? ⟨w.heap.size, o, none⟩ = (#[.int .i64 t, .int .i64 p, .int .i64 s, .slice (some ad) n c] : Array Value)[o]?) ∧ (∀ o : Nat, w'.cell? ⟨w1.heap.size, o, none⟩ = (#[.int .i64 3, .int .i64 a2, .int .i64 a3] : Array Value)[o]?)) (by kernel_rfl) ?_ (fun hHeld => ?_)
                · exact ⟨(BS.start wi).drew, HXI.out, HbI.out⟩
                refine wT 0 ?_
                refine wT 1 ?_
                refine wT 2 ?_
                refine wT 3 ?_
                refine wT 4 ?_
                refine wT 5 ?_
                refine wT 6 ?_
                refine wT 7 ?_
                refine wT 8 ?_
                refine wT 9 ?_
                refine wT 11 ?_
                refine wT 12 ?_
                refine wR 10 fun K hK => ?_
                go_simp
                refine (calls_b hHeld.1 (I3.out _ (XI.xv.keep hHeld.1.bel))).mono ?_
                rintro e wr1 ⟨rfl, hV, hVl⟩
                dsimp only
                refine hK.out _ _ ?_ (fun hHeld2 => ?_)
                · exact ⟨hV, hV.oldbox HXI.out hxl, hV.oldbox HbI.out lI⟩
                clear hK K hV hVl hHeld
                have hHeld := hHeld2
                clear hHeld2
                try simp only [Act.put, zA, zB, zC, zD, zE, zF]
                refine wR 13 fun K hK => ?_
                go_simp
                refine (calls_b hHeld.1 (HFu.out _)).mono ?_
                rintro e wr2 ⟨rfl, hV, hVl⟩
                dsimp only
                refine hK.out _ _ ?_ (fun hHeld2 => ?_)
                · exact ⟨hV, hV.oldbox HXI.out hxl, hV.oldbox HbI.out lI⟩
                clear hK K hV hVl hHeld
                have hHeld := hHeld2
                clear hHeld2
                try simp only [Act.put, zA, zB, zC, zD, zE, zF]
                refine wT 14 ?_
                refine wT 15 ?_
                refine wT 16 ?_
                refine wpAnyH_done (by kernel_rfl) (NoPanic.normal ?_) _
                refine world_gen ?_
                intro wz hwz
                rw [← hwz] at hHeld
                clear hwz
                have X5 := XI.keep hHeld.1.bel
                have hbz := hbw.trans (hHeld.1.bel.mono hbw.size)
                have cc3 := hHeld.1.old cc2
                have dd3 := hHeld.1.old dd2
                have HBz := Lib.hid hbz
                have HX5 := Lib.hid X5.box
                have hl5 := X5.lt
                clear hHeld hbz
                obtain ⟨y0, y1, y2, y3⟩ := X5.cells
                go_wp2_with fail
                refine wp_region_noPanic ?_
                refine wp_region_held_drew (S := fun w' => BS wz ([] : List Nat) w' ∧ (∀ o : Nat, w'.cell? ⟨w.heap.size, o, none⟩ = (#[.int .i64 t, .int .i64 p, .int .i64 s, .slice (some ad) n c] : Array Value)[o]?) ∧ w'.cell? (ad.add k2) = some (.int .u32 0) ∧ w'.cell? (ad.add k) = some (.int .u32 0)) (by kernel_rfl) ?_ (fun hHeld => ?_)
                · exact ⟨(BS.start wz).drew, HX5.out, dd3, cc3⟩
                refine wT 0 ?_
                refine wT 1 ?_
                refine wT 2 ?_
                refine wT 3 ?_
                refine wT 4 ?_
                refine wR 5 fun K hK => ?_
                go_simp
                refine (calls_b hHeld.1 (HNx.out _)).mono ?_
                rintro e wr1 ⟨rfl, hV, hVl⟩
                dsimp only
                refine hK.out _ _ ?_ (fun hHeld2 => ?_)
                · exact ⟨hV, hV.oldbox HX5.out hl5, hV.old dd3, hV.old cc3⟩
                clear hK K hV hVl hHeld
                have hHeld := hHeld2
                clear hHeld2
                try simp only [Act.put, zA, zB, zC, zD, zE, zF]
                refine wT 6 ?_
                refine wT 7 ?_
                refine wT 8 ?_
                refine wT 9 ?_
                refine wT 10 ?_
                refine wT 11 ?_
                refine wT 12 ?_
                refine wT 13 ?_
                refine wT 14 ?_
                refine wR 15 fun K hK => ?_
                go_simp
                refine (calls_b hHeld.1 (HP.out _)).mono ?_
                rintro e wr2 ⟨rfl, hV, hVl⟩
                dsimp only
                refine hK.out _ _ ?_ (fun hHeld2 => ?_)
                · exact ⟨hV, hV.oldbox HX5.out hl5, hV.old dd3, hV.old cc3⟩
                clear hK K hV hVl hHeld
                have hHeld := hHeld2
                clear hHeld2
                try simp only [Act.put, zA, zB, zC, zD, zE, zF]
                refine wT 16 ?_
                refine wT 17 ?_
                refine wT 18 ?_
                refine wT 19 ?_
                refine wpAnyH_done (by kernel_rfl) (NoPanic.normal ?_) _
                refine world_gen ?_
                intro wz hwz
                rw [← hwz] at hHeld
                clear hwz
                have hb6 := HBz.out.trans (hHeld.1.bel.mono HBz.out.size)
                clear hHeld
                go_wp2_with fail
                go_roundw
                case rel => exact ⟨q + 1, by omega, by go_num, by simp [allN, HA.out, HY.out], hb6⟩
                case measure => simp [intOf]; omega
              · have hub : (u3 != 0) = true := by simp [hu3]
                have hno : looseQ vs t q = false := by rw [HSQ.out]; simp [hu3]
                have hres : r = false := by rw [← HR.out]; exact allN_no (by omega) hno
                subst hres
                clear hno hu3
                go_wp2_with fail
                refine (I1.out _ X1.xv).mono ?_
                rintro e w1 ⟨rfl, hb1⟩
                have X2 := X1.keep hb1
                obtain ⟨X20, X21, X22, X23⟩ := X2.cells
                have X2z := X2.lt
                have XI := X2.alloc (.cells #[.int .i64 3, .int .i64 a2, .int .i64 a3] 61)
                have bI := loc_alloc w1 #[.int .i64 3, .int .i64 a2, .int .i64 a3] 61
                have lI : w1.heap.size < (w1.alloc (.cells #[.int .i64 3, .int .i64 a2, .int .i64 a3] 61)).heap.size := by simp
                have hbw := (HBel.out.trans (hb1.mono HBel.out.size)).alloc (Nat.le_trans HBel.out.size hb1.size) (.cells #[.int .i64 3, .int .i64 a2, .int .i64 a3] 61)
                have cc1 := (hb1.cell (World.block_lt_of_cell? _ _ HC1.out)).trans HC1.out
                have dd1 := (hb1.cell (World.block_lt_of_cell? _ _ HD1.out)).trans HD1.out
                go_wp2_with fail
                refine world_gen ?_
                intro wi hwi
                have hbi : Below w1.heap.size w1 wi := by rw [hwi]; exact (Below.refl _ _).alloc (Nat.le_refl _) _
                rw [← hwi] at XI bI lI hbw
                have cc2 := (hbi.cell (World.block_lt_of_cell? _ _ cc1)).trans cc1
                have dd2 := (hbi.cell (World.block_lt_of_cell? _ _ dd1)).trans dd1
                have HXI := Lib.hid XI.box
                have hxl := XI.lt
                have HbI := Lib.hid bI
                clear hwi x0 x1 x2 x3 X20 X21 X22 X23 X2z cc1 dd1 bI
                refine wp_region_noPanic ?_
                refine wp_region_held_drew (S := fun w' => BS wi ([] : List Nat) w' ∧ (∀ o : Nat, w'.cell? ⟨w.heap.size, o, none⟩ = (#[.int .i64 t, .int .i64 p, .int .i64 s, .slice (some ad) n c] : Array Value)[o]?) ∧ (∀ o : Nat, w'.cell? ⟨w1.heap.size, o, none⟩ = (#[.int .i64 3, .int .i64 a2, .int .i64 a3] : Array Value)[o]?)) (by kernel_rfl) ?_ (fun hHeld => ?_)
                · exact ⟨(BS.start wi).drew, HXI.out, HbI.out⟩
                refine wT 0 ?_
                refine wT 1 ?_
                refine wT 2 ?_
                refine wT 3 ?_
                refine wT 4 ?_
                refine wT 5 ?_
                refine wT 6 ?_
                refine wT 7 ?_
                refine wT 8 ?_
                refine wT 9 ?_
                refine wT 11 ?_
                refine wT 12 ?_
                refine wR 10 fun K hK => ?_
                go_simp
                refine (calls_b hHeld.1 (I3.out _ (XI.xv.keep hHeld.1.bel))).mono ?_
                rintro e wr1 ⟨rfl, hV, hVl⟩
                dsimp only
                refine hK.out _ _ ?_ (fun hHeld2 => ?_)
                · exact ⟨hV, hV.oldbox HXI.out hxl, hV.oldbox HbI.out lI⟩
                clear hK K hV hVl hHeld
                have hHeld := hHeld2
                clear hHeld2
                try simp only [Act.put, zA, zB, zC, zD, zE, zF]
                refine wR 13 fun K hK => ?_
                go_simp
                refine (calls_b hHeld.1 (HFu.out _)).mono ?_
                rintro e wr2 ⟨rfl, hV, hVl⟩
                dsimp only
                refine hK.out _ _ ?_ (fun hHeld2 => ?_)
                · exact ⟨hV, hV.oldbox HXI.out hxl, hV.oldbox HbI.out lI⟩
                clear hK K hV hVl hHeld
                have hHeld := hHeld2
                clear hHeld2
                try simp only [Act.put, zA, zB, zC, zD, zE, zF]
                refine wT 14 ?_
                refine wT 15 ?_
                refine wT 16 ?_
                refine wpAnyH_done (by kernel_rfl) (NoPanic.normal ?_) _
                refine world_gen ?_
                intro wz hwz
                rw [← hwz] at hHeld
                clear hwz
                have X5 := XI.keep hHeld.1.bel
                have hbz := hbw.trans (hHeld.1.bel.mono hbw.size)
                have cc3 := hHeld.1.old cc2
                have dd3 := hHeld.1.old dd2
                have HBz := Lib.hid hbz
                have HX5 := Lib.hid X5.box
                have hl5 := X5.lt
                clear hHeld hbz
                obtain ⟨y0, y1, y2, y3⟩ := X5.cells
                go_wp2_with fail
                refine wp_region_noPanic ?_
                refine wp_region_held_drew (S := fun w' => BS wz ([] : List Nat) w' ∧ (∀ o : Nat, w'.cell? ⟨w.heap.size, o, none⟩ = (#[.int .i64 t, .int .i64 p, .int .i64 s, .slice (some ad) n c] : Array Value)[o]?) ∧ w'.cell? (ad.add k2) = some (.int .u32 0) ∧ w'.cell? (ad.add k) = some (.int .u32 u3)) (by kernel_rfl) ?_ (fun hHeld => ?_)
                · exact ⟨(BS.start wz).drew, HX5.out, dd3, cc3⟩
                refine wT 0 ?_
                refine wT 1 ?_
                refine wT 2 ?_
                refine wT 3 ?_
                refine wT 4 ?_
                refine wR 5 fun K hK => ?_
                go_simp
                refine (calls_b hHeld.1 (HNx.out _)).mono ?_
                rintro e wr1 ⟨rfl, hV, hVl⟩
                dsimp only
                refine hK.out _ _ ?_ (fun hHeld2 => ?_)
                · exact ⟨hV, hV.oldbox HX5.out hl5, hV.old dd3, hV.old cc3⟩
                clear hK K hV hVl hHeld
                have hHeld := hHeld2
                clear hHeld2
                try simp only [Act.put, zA, zB, zC, zD, zE, zF]
                refine wT 6 ?_
                refine wT 7 ?_
                refine wT 8 ?_
                refine wT 9 ?_
                refine wT 10 ?_
                refine wT 11 ?_
                refine wT 12 ?_
                refine wT 13 ?_
                refine wT 14 ?_
                refine wR 15 fun K hK => ?_
                go_simp
                refine (calls_b hHeld.1 (HP.out _)).mono ?_
                rintro e wr2 ⟨rfl, hV, hVl⟩
                dsimp only
                refine hK.out _ _ ?_ (fun hHeld2 => ?_)
                · exact ⟨hV, hV.oldbox HX5.out hl5, hV.old dd3, hV.old cc3⟩
                clear hK K hV hVl hHeld
                have hHeld := hHeld2
                clear hHeld2
                try simp only [Act.put, zA, zB, zC, zD, zE, zF]
                refine wT 16 ?_
                refine wT 17 ?_
                refine wT 18 ?_
                refine wT 19 ?_
                refine wpAnyH_done (by kernel_rfl) (NoPanic.normal ?_) _
                refine world_gen ?_
                intro wz hwz
                rw [← hwz] at hHeld
                clear hwz
                have X6 := X5.keep hHeld.1.bel
                clear hHeld
                go_wp2
                go_ret
                exact ⟨rfl, X6.bel⟩
            · have hub : (u2 != 0) = true := by simp [hu2]
              have hno : looseQ vs t q = false := by rw [HSQ.out]; simp [hu2]
              have hres : r = false := by rw [← HR.out]; exact allN_no (by omega) hno
              subst hres
              clear hno hu2
              go_wp2_with fail
              refine (I1.out _ X1.xv).mono ?_
              rintro e w1 ⟨rfl, hb1⟩
              have X2 := X1.keep hb1
              obtain ⟨X20, X21, X22, X23⟩ := X2.cells
              have X2z := X2.lt
              have XI := X2.alloc (.cells #[.int .i64 3, .int .i64 a2, .int .i64 a3] 61)
              have bI := loc_alloc w1 #[.int .i64 3, .int .i64 a2, .int .i64 a3] 61
              have lI : w1.heap.size < (w1.alloc (.cells #[.int .i64 3, .int .i64 a2, .int .i64 a3] 61)).heap.size := by simp
              have hbw := (HBel.out.trans (hb1.mono HBel.out.size)).alloc (Nat.le_trans HBel.out.size hb1.size) (.cells #[.int .i64 3, .int .i64 a2, .int .i64 a3] 61)
              have cc1 := (hb1.cell (World.block_lt_of_cell? _ _ HC1.out)).trans HC1.out
              have dd1 := (hb1.cell (World.block_lt_of_cell? _ _ HD1.out)).trans HD1.out
              go_wp2_with fail
              refine world_gen ?_
              intro wi hwi
              have hbi : Below w1.heap.size w1 wi := by rw [hwi]; exact (Below.refl _ _).alloc (Nat.le_refl _) _
              rw [← hwi] at XI bI lI hbw
              have cc2 := (hbi.cell (World.block_lt_of_cell? _ _ cc1)).trans cc1
              have dd2 := (hbi.cell (World.block_lt_of_cell? _ _ dd1)).trans dd1
              have HXI := Lib.hid XI.box
              have hxl := XI.lt
              have HbI := Lib.hid bI
              clear hwi x0 x1 x2 x3 X20 X21 X22 X23 X2z cc1 dd1 bI
              refine wp_region_noPanic ?_
              refine wp_region_held_drew (S := fun w' => BS wi ([] : List Nat) w' ∧ (∀ o : Nat, w'.cell? ⟨w.heap.size, o, none⟩ = (#[.int .i64 t, .int .i64 p, .int .i64 s, .slice (some ad) n c] : Array Value)[o]?) ∧ (∀ o : Nat, w'.cell? ⟨w1.heap.size, o, none⟩ = (#[.int .i64 3, .int .i64 a2, .int .i64 a3] : Array Value)[o]?)) (by kernel_rfl) ?_ (fun hHeld => ?_)
              · exact ⟨(BS.start wi).drew, HXI.out, HbI.out⟩
              refine wT 0 ?_
              refine wT 1 ?_
              refine wT 2 ?_
              refine wT 3 ?_
              refine wT 4 ?_
              refine wT 5 ?_
              refine wT 6 ?_
              refine wT 7 ?_
              refine wT 8 ?_
              refine wT 9 ?_
              refine wT 11 ?_
              refine wT 12 ?_
              refine wR 10 fun K hK => ?_
              go_simp
              refine (calls_b hHeld.1 (I3.out _ (XI.xv.keep hHeld.1.bel))).mono ?_
              rintro e wr1 ⟨rfl, hV, hVl⟩
              dsimp only
              refine hK.out _ _ ?_ (fun hHeld2 => ?_)
              · exact ⟨hV, hV.oldbox HXI.out hxl, hV.oldbox HbI.out lI⟩
              clear hK K hV hVl hHeld
              have hHeld := hHeld2
              clear hHeld2
              try simp only [Act.put, zA, zB, zC, zD, zE, zF]
              refine wR 13 fun K hK => ?_
              go_simp
              refine (calls_b hHeld.1 (HFu.out _)).mono ?_
              rintro e wr2 ⟨rfl, hV, hVl⟩
              dsimp only
              refine hK.out _ _ ?_ (fun hHeld2 => ?_)
              · exact ⟨hV, hV.oldbox HXI.out hxl, hV.oldbox HbI.out lI⟩
              clear hK K hV hVl hHeld
              have hHeld := hHeld2
              clear hHeld2
              try simp only [Act.put, zA, zB, zC, zD, zE, zF]
              refine wT 14 ?_
              refine wT 15 ?_
              refine wT 16 ?_
              refine wpAnyH_done (by kernel_rfl) (NoPanic.normal ?_) _
              refine world_gen ?_
              intro wz hwz
              rw [← hwz] at hHeld
              clear hwz
              have X5 := XI.keep hHeld.1.bel
              have hbz := hbw.trans (hHeld.1.bel.mono hbw.size)
              have cc3 := hHeld.1.old cc2
              have dd3 := hHeld.1.old dd2
              have HBz := Lib.hid hbz
              have HX5 := Lib.hid X5.box
              have hl5 := X5.lt
              clear hHeld hbz
              obtain ⟨y0, y1, y2, y3⟩ := X5.cells
              go_wp2_with fail
              refine wp_region_noPanic ?_
              refine wp_region_held_drew (S := fun w' => BS wz ([] : List Nat) w' ∧ (∀ o : Nat, w'.cell? ⟨w.heap.size, o, none⟩ = (#[.int .i64 t, .int .i64 p, .int .i64 s, .slice (some ad) n c] : Array Value)[o]?) ∧ w'.cell? (ad.add k2) = some (.int .u32 u2) ∧ w'.cell? (ad.add k) = some (.int .u32 u3)) (by kernel_rfl) ?_ (fun hHeld => ?_)
              · exact ⟨(BS.start wz).drew, HX5.out, dd3, cc3⟩
              refine wT 0 ?_
              refine wT 1 ?_
              refine wT 2 ?_
              refine wT 3 ?_
              refine wT 4 ?_
              refine wR 5 fun K hK => ?_
              go_simp
              refine (calls_b hHeld.1 (HNx.out _)).mono ?_
              rintro e wr1 ⟨rfl, hV, hVl⟩
              dsimp only
              refine hK.out _ _ ?_ (fun hHeld2 => ?_)
              · exact ⟨hV, hV.oldbox HX5.out hl5, hV.old dd3, hV.old cc3⟩
              clear hK K hV hVl hHeld
              have hHeld := hHeld2
              clear hHeld2
              try simp only [Act.put, zA, zB, zC, zD, zE, zF]
              refine wT 6 ?_
              refine wT 7 ?_
              refine wT 8 ?_
              refine wT 9 ?_
              refine wU 10 ?_
              refine wU 11 ?_
              refine wU 12 ?_
              refine wU 13 ?_
              refine wU 14 ?_
              refine wU 15 ?_
              refine wU 16 ?_
              refine wU 17 ?_
              refine wU 18 ?_
              refine wT 19 ?_
              refine wpAnyH_done (by kernel_rfl) (NoPanic.normal ?_) _
              refine world_gen ?_
              intro wz hwz
              rw [← hwz] at hHeld
              clear hwz
              have X6 := X5.keep hHeld.1.bel
              clear hHeld
              go_wp2
              go_ret
              exact ⟨rfl, X6.bel⟩
        · have hkb3 : (a1 == 3) = false := by simp [hk3]
          by_cases hu2 : u2 = 0
          · subst hu2
            by_cases hu3 : u3 = 0
            · subst hu3
              have hyes : looseQ vs t q = true := by rw [HSQ.out]; simp
              have HY := Lib.hid hyes
              clear hyes
              go_wp2_with fail
              refine (I1.out _ X1.xv).mono ?_
              rintro e w1 ⟨rfl, hb1⟩
              have X2 := X1.keep hb1
              obtain ⟨X20, X21, X22, X23⟩ := X2.cells
              have X2z := X2.lt
              have XI := X2.alloc (.cells #[.int .i64 a1, .int .i64 a2, .int .i64 a3] 61)
              have bI := loc_alloc w1 #[.int .i64 a1, .int .i64 a2, .int .i64 a3] 61
              have lI : w1.heap.size < (w1.alloc (.cells #[.int .i64 a1, .int .i64 a2, .int .i64 a3] 61)).heap.size := by simp
              have hbw := (HBel.out.trans (hb1.mono HBel.out.size)).alloc (Nat.le_trans HBel.out.size hb1.size) (.cells #[.int .i64 a1, .int .i64 a2, .int .i64 a3] 61)
              have cc1 := (hb1.cell (World.block_lt_of_cell? _ _ HC1.out)).trans HC1.out
              have dd1 := (hb1.cell (World.block_lt_of_cell? _ _ HD1.out)).trans HD1.out
              go_wp2_with fail
              refine world_gen ?_
              intro wi hwi
              have hbi : Below w1.heap.size w1 wi := by rw [hwi]; exact (Below.refl _ _).alloc (Nat.le_refl _) _
              rw [← hwi] at XI bI lI hbw
              have cc2 := (hbi.cell (World.block_lt_of_cell? _ _ cc1)).trans cc1
              have dd2 := (hbi.cell (World.block_lt_of_cell? _ _ dd1)).trans dd1
              have HXI := Lib.hid XI.box
              have hxl := XI.lt
              have HbI := Lib.hid bI
              clear hwi x0 x1 x2 x3 X20 X21 X22 X23 X2z cc1 dd1 bI
              refine wp_region_noPanic ?_
              refine wp_region_held_drew (S := fun w' => BS wi ([] : List Nat) w' ∧ (∀ o : Nat, w'.cell? ⟨w.heap.size, o, none⟩ = (#[.int .i64 t, .int .i64 p, .int .i64 s, .slice (some ad) n c] : Array Value)[o]?) ∧ (∀ o : Nat, w'.cell? ⟨w1.heap.size, o, none⟩ = (#[.int .i64 a1, .int .i64 a2, .int .i64 a3] : Array Value)[o]?)) (by kernel_rfl) ?_ (fun hHeld => ?_)
              · exact ⟨(BS.start wi).drew, HXI.out, HbI.out⟩
              refine wT 0 ?_
              refine wT 1 ?_
              refine wT 2 ?_
              refine wT 3 ?_
              refine wT 4 ?_
              refine wT 5 ?_
              refine wT 6 ?_
              refine wT 7 ?_
              refine wU 8 ?_
              refine wU 9 ?_
              refine wU 10 ?_
              refine wU 11 ?_
              refine wU 12 ?_
              refine wU 13 ?_
              refine wU 14 ?_
              refine wT 15 ?_
              refine wT 16 ?_
              refine wpAnyH_done (by kernel_rfl) (NoPanic.normal ?_) _
              refine world_gen ?_
              intro wz hwz
              rw [← hwz] at hHeld
              clear hwz
              have X5 := XI.keep hHeld.1.bel
              have hbz := hbw.trans (hHeld.1.bel.mono hbw.size)
              have cc3 := hHeld.1.old cc2
              have dd3 := hHeld.1.old dd2
              have HBz := Lib.hid hbz
              have HX5 := Lib.hid X5.box
              have hl5 := X5.lt
              clear hHeld hbz
              obtain ⟨y0, y1, y2, y3⟩ := X5.cells
              go_wp2_with fail
              refine wp_region_noPanic ?_
              refine wp_region_held_drew (S := fun w' => BS wz ([] : List Nat) w' ∧ (∀ o : Nat, w'.cell? ⟨w.heap.size, o, none⟩ = (#[.int .i64 t, .int .i64 p, .int .i64 s, .slice (some ad) n c] : Array Value)[o]?) ∧ w'.cell? (ad.add k2) = some (.int .u32 0) ∧ w'.cell? (ad.add k) = some (.int .u32 0)) (by kernel_rfl) ?_ (fun hHeld => ?_)
              · exact ⟨(BS.start wz).drew, HX5.out, dd3, cc3⟩
              refine wT 0 ?_
              refine wT 1 ?_
              refine wT 2 ?_
              refine wT 3 ?_
              refine wT 4 ?_
              refine wR 5 fun K hK => ?_
              go_simp
              refine (calls_b hHeld.1 (HNx.out _)).mono ?_
              rintro e wr1 ⟨rfl, hV, hVl⟩
              dsimp only
              refine hK.out _ _ ?_ (fun hHeld2 => ?_)
              · exact ⟨hV, hV.oldbox HX5.out hl5, hV.old dd3, hV.old cc3⟩
              clear hK K hV hVl hHeld
              have hHeld := hHeld2
              clear hHeld2
              try simp only [Act.put, zA, zB, zC, zD, zE, zF]
              refine wT 6 ?_
              refine wT 7 ?_
              refine wT 8 ?_
              refine wT 9 ?_
              refine wT 10 ?_
              refine wT 11 ?_
              refine wT 12 ?_
              refine wT 13 ?_
              refine wT 14 ?_
              refine wR 15 fun K hK => ?_
              go_simp
              refine (calls_b hHeld.1 (HP.out _)).mono ?_
              rintro e wr2 ⟨rfl, hV, hVl⟩
              dsimp only
              refine hK.out _ _ ?_ (fun hHeld2 => ?_)
              · exact ⟨hV, hV.oldbox HX5.out hl5, hV.old dd3, hV.old cc3⟩
              clear hK K hV hVl hHeld
              have hHeld := hHeld2
              clear hHeld2
              try simp only [Act.put, zA, zB, zC, zD, zE, zF]
              refine wT 16 ?_
              refine wT 17 ?_
              refine wT 18 ?_
              refine wT 19 ?_
              refine wpAnyH_done (by kernel_rfl) (NoPanic.normal ?_) _
              refine world_gen ?_
              intro wz hwz
              rw [← hwz] at hHeld
              clear hwz
              have hb6 := HBz.out.trans (hHeld.1.bel.mono HBz.out.size)
              clear hHeld
              go_wp2_with fail
              go_roundw
              case rel => exact ⟨q + 1, by omega, by go_num, by simp [allN, HA.out, HY.out], hb6⟩
              case measure => simp [intOf]; omega
            · have hub : (u3 != 0) = true := by simp [hu3]
              have hno : looseQ vs t q = false := by rw [HSQ.out]; simp [hu3, hk1, hk3]
              have hres : r = false := by rw [← HR.out]; exact allN_no (by omega) hno
              subst hres
              clear hno hu3
              go_wp2_with fail
              refine (I1.out _ X1.xv).mono ?_
              rintro e w1 ⟨rfl, hb1⟩
              have X2 := X1.keep hb1
              obtain ⟨X20, X21, X22, X23⟩ := X2.cells
              have X2z := X2.lt
              have XI := X2.alloc (.cells #[.int .i64 a1, .int .i64 a2, .int .i64 a3] 61)
              have bI := loc_alloc w1 #[.int .i64 a1, .int .i64 a2, .int .i64 a3] 61
              have lI : w1.heap.size < (w1.alloc (.cells #[.int .i64 a1, .int .i64 a2, .int .i64 a3] 61)).heap.size := by simp
              have hbw := (HBel.out.trans (hb1.mono HBel.out.size)).alloc (Nat.le_trans HBel.out.size hb1.size) (.cells #[.int .i64 a1, .int .i64 a2, .int .i64 a3] 61)
              have cc1 := (hb1.cell (World.block_lt_of_cell? _ _ HC1.out)).trans HC1.out
              have dd1 := (hb1.cell (World.block_lt_of_cell? _ _ HD1.out)).trans HD1.out
              go_wp2_with fail
              refine world_gen ?_
              intro wi hwi
              have hbi : Below w1.heap.size w1 wi := by rw [hwi]; exact (Below.refl _ _).alloc (Nat.le_refl _) _
              rw [← hwi] at XI bI lI hbw
              have cc2 := (hbi.cell (World.block_lt_of_cell? _ _ cc1)).trans cc1
              have dd2 := (hbi.cell (World.block_lt_of_cell? _ _ dd1)).trans dd1
              have HXI := Lib.hid XI.box
              have hxl := XI.lt
              have HbI := Lib.hid bI
              clear hwi x0 x1 x2 x3 X20 X21 X22 X23 X2z cc1 dd1 bI
              refine wp_region_noPanic ?_
              refine wp_region_held_drew (S := fun w' => BS wi ([] : List Nat) w' ∧ (∀ o : Nat, w'.cell? ⟨w.heap.size, o, none⟩ = (#[.int .i64 t, .int .i64 p, .int .i64 s, .slice (some ad) n c] : Array Value)[o]?) ∧ (∀ o : Nat, w'.cell? ⟨w1.heap.size, o, none⟩ = (#[.int .i64 a1, .int .i64 a2, .int .i64 a3] : Array Value)[o]?)) (by kernel_rfl) ?_ (fun hHeld => ?_)
              · exact ⟨(BS.start wi).drew, HXI.out, HbI.out⟩
              refine wT 0 ?_
              refine wT 1 ?_
              refine wT 2 ?_
              refine wT 3 ?_
              refine wT 4 ?_
              refine wT 5 ?_
              refine wT 6 ?_
              refine wT 7 ?_
              refine wU 8 ?_
              refine wU 9 ?_
              refine wU 10 ?_
              refine wU 11 ?_
              refine wU 12 ?_
              refine wU 13 ?_
              refine wU 14 ?_
              refine wT 15 ?_
              refine wT 16 ?_
              refine wpAnyH_done (by kernel_rfl) (NoPanic.normal ?_) _
              refine world_gen ?_
              intro wz hwz
              rw [← hwz] at hHeld
              clear hwz
              have X5 := XI.keep hHeld.1.bel
              have hbz := hbw.trans (hHeld.1.bel.mono hbw.size)
              have cc3 := hHeld.1.old cc2
              have dd3 := hHeld.1.old dd2
              have HBz := Lib.hid hbz
              have HX5 := Lib.hid X5.box
              have hl5 := X5.lt
              clear hHeld hbz
              obtain ⟨y0, y1, y2, y3⟩ := X5.cells
              go_wp2_with fail
              refine wp_region_noPanic ?_
              refine wp_region_held_drew (S := fun w' => BS wz ([] : List Nat) w' ∧ (∀ o : Nat, w'.cell? ⟨w.heap.size, o, none⟩ = (#[.int .i64 t, .int .i64 p, .int .i64 s, .slice (some ad) n c] : Array Value)[o]?) ∧ w'.cell? (ad.add k2) = some (.int .u32 0) ∧ w'.cell? (ad.add k) = some (.int .u32 u3)) (by kernel_rfl) ?_ (fun hHeld => ?_)
              · exact ⟨(BS.start wz).drew, HX5.out, dd3, cc3⟩
              refine wT 0 ?_
              refine wT 1 ?_
              refine wT 2 ?_
              refine wT 3 ?_
              refine wT 4 ?_
              refine wR 5 fun K hK => ?_
              go_simp
              refine (calls_b hHeld.1 (HNx.out _)).mono ?_
              rintro e wr1 ⟨rfl, hV, hVl⟩
              dsimp only
              refine hK.out _ _ ?_ (fun hHeld2 => ?_)
              · exact ⟨hV, hV.oldbox HX5.out hl5, hV.old dd3, hV.old cc3⟩
              clear hK K hV hVl hHeld
              have hHeld := hHeld2
              clear hHeld2
              try simp only [Act.put, zA, zB, zC, zD, zE, zF]
              refine wT 6 ?_
              refine wT 7 ?_
              refine wT 8 ?_
              refine wT 9 ?_
              refine wT 10 ?_
              refine wT 11 ?_
              refine wT 12 ?_
              refine wT 13 ?_
              refine wT 14 ?_
              refine wR 15 fun K hK => ?_
              go_simp
              refine (calls_b hHeld.1 (HP.out _)).mono ?_
              rintro e wr2 ⟨rfl, hV, hVl⟩
              dsimp only
              refine hK.out _ _ ?_ (fun hHeld2 => ?_)
              · exact ⟨hV, hV.oldbox HX5.out hl5, hV.old dd3, hV.old cc3⟩
              clear hK K hV hVl hHeld
              have hHeld := hHeld2
              clear hHeld2
              try simp only [Act.put, zA, zB, zC, zD, zE, zF]
              refine wT 16 ?_
              refine wT 17 ?_
              refine wT 18 ?_
              refine wT 19 ?_
              refine wpAnyH_done (by kernel_rfl) (NoPanic.normal ?_) _
              refine world_gen ?_
              intro wz hwz
              rw [← hwz] at hHeld
              clear hwz
              have X6 := X5.keep hHeld.1.bel
              clear hHeld
              go_wp2
              go_ret
              exact ⟨rfl, X6.bel⟩
          · have hub : (u2 != 0) = true := by simp [hu2]
            have hno : looseQ vs t q = false := by rw [HSQ.out]; simp [hu2, hk1, hk3]
            have hres : r = false := by rw [← HR.out]; exact allN_no (by omega) hno
            subst hres
            clear hno hu2
            go_wp2_with fail
            refine (I1.out _ X1.xv).mono ?_
            rintro e w1 ⟨rfl, hb1⟩
            have X2 := X1.keep hb1
            obtain ⟨X20, X21, X22, X23⟩ := X2.cells
            have X2z := X2.lt
            have XI := X2.alloc (.cells #[.int .i64 a1, .int .i64 a2, .int .i64 a3] 61)
            have bI := loc_alloc w1 #[.int .i64 a1, .int .i64 a2, .int .i64 a3] 61
            have lI : w1.heap.size < (w1.alloc (.cells #[.int .i64 a1, .int .i64 a2, .int .i64 a3] 61)).heap.size := by simp
            have hbw := (HBel.out.trans (hb1.mono HBel.out.size)).alloc (Nat.le_trans HBel.out.size hb1.size) (.cells #[.int .i64 a1, .int .i64 a2, .int .i64 a3] 61)
            have cc1 := (hb1.cell (World.block_lt_of_cell? _ _ HC1.out)).trans HC1.out
            have dd1 := (hb1.cell (World.block_lt_of_cell? _ _ HD1.out)).trans HD1.out
            go_wp2_with fail
            refine world_gen ?_
            intro wi hwi
            have hbi : Below w1.heap.size w1 wi := by rw [hwi]; exact (Below.refl _ _).alloc (Nat.le_refl _) _
            rw [← hwi] at XI bI lI hbw
            have cc2 := (hbi.cell (World.block_lt_of_cell? _ _ cc1)).trans cc1
            have dd2 := (hbi.cell (World.block_lt_of_cell? _ _ dd1)).trans dd1
            have HXI := Lib.hid XI.box
            have hxl := XI.lt
            have HbI := Lib.hid bI
            clear hwi x0 x1 x2 x3 X20 X21 X22 X23 X2z cc1 dd1 bI
            refine wp_region_noPanic ?_
            refine wp_region_held_drew (S := fun w' => BS wi ([] : List Nat) w' ∧ (∀ o : Nat, w'.cell? ⟨w.heap.size, o, none⟩ = (#[.int .i64 t, .int .i64 p, .int .i64 s, .slice (some ad) n c] : Array Value)[o]?) ∧ (∀ o : Nat, w'.cell? ⟨w1.heap.size, o, none⟩ = (#[.int .i64 a1, .int .i64 a2, .int .i64 a3] : Array Value)[o]?)) (by kernel_rfl) ?_ (fun hHeld => ?_)
            · exact ⟨(BS.start wi).drew, HXI.out, HbI.out⟩
            refine wT 0 ?_
            refine wT 1 ?_
            refine wT 2 ?_
            refine wT 3 ?_
            refine wT 4 ?_
            refine wT 5 ?_
            refine wT 6 ?_
            refine wT 7 ?_
            refine wU 8 ?_
            refine wU 9 ?_
            refine wU 10 ?_
            refine wU 11 ?_
            refine wU 12 ?_
            refine wU 13 ?_
            refine wU 14 ?_
            refine wT 15 ?_
            refine wT 16 ?_
            refine wpAnyH_done (by kernel_rfl) (NoPanic.normal ?_) _
            refine world_gen ?_
            intro wz hwz
            rw [← hwz] at hHeld
            clear hwz
            have X5 := XI.keep hHeld.1.bel
            have hbz := hbw.trans (hHeld.1.bel.mono hbw.size)
            have cc3 := hHeld.1.old cc2
            have dd3 := hHeld.1.old dd2
            have HBz := Lib.hid hbz
            have HX5 := Lib.hid X5.box
            have hl5 := X5.lt
            clear hHeld hbz
            obtain ⟨y0, y1, y2, y3⟩ := X5.cells
            go_wp2_with fail
            refine wp_region_noPanic ?_
            refine wp_region_held_drew (S := fun w' => BS wz ([] : List Nat) w' ∧ (∀ o : Nat, w'.cell? ⟨w.heap.size, o, none⟩ = (#[.int .i64 t, .int .i64 p, .int .i64 s, .slice (some ad) n c] : Array Value)[o]?) ∧ w'.cell? (ad.add k2) = some (.int .u32 u2) ∧ w'.cell? (ad.add k) = some (.int .u32 u3)) (by kernel_rfl) ?_ (fun hHeld => ?_)
            · exact ⟨(BS.start wz).drew, HX5.out, dd3, cc3⟩
            refine wT 0 ?_
            refine wT 1 ?_
            refine wT 2 ?_
            refine wT 3 ?_
            refine wT 4 ?_
            refine wR 5 fun K hK => ?_
            go_simp
            refine (calls_b hHeld.1 (HNx.out _)).mono ?_
            rintro e wr1 ⟨rfl, hV, hVl⟩
            dsimp only
            refine hK.out _ _ ?_ (fun hHeld2 => ?_)
            · exact ⟨hV, hV.oldbox HX5.out hl5, hV.old dd3, hV.old cc3⟩
            clear hK K hV hVl hHeld
            have hHeld := hHeld2
            clear hHeld2
            try simp only [Act.put, zA, zB, zC, zD, zE, zF]
            refine wT 6 ?_
            refine wT 7 ?_
            refine wT 8 ?_
            refine wT 9 ?_
            refine wU 10 ?_
            refine wU 11 ?_
            refine wU 12 ?_
            refine wU 13 ?_
            refine wU 14 ?_
            refine wU 15 ?_
            refine wU 16 ?_
            refine wU 17 ?_
            refine wU 18 ?_
            refine wT 19 ?_
            refine wpAnyH_done (by kernel_rfl) (NoPanic.normal ?_) _
            refine world_gen ?_
            intro wz hwz
            rw [← hwz] at hHeld
            clear hwz
            have X6 := X5.keep hHeld.1.bel
            clear hHeld
            go_wp2
            go_ret
            exact ⟨rfl, X6.bel⟩
    · obtain rfl : q = p.toNat := by omega
      have hres : r = true := by rw [← HR.out]; exact HA.out
      subst hres
      go_wp2
      go_ret
      exact ⟨rfl, X1.bel⟩

end
end Go.Proofs.YtpmoajhpgekhcaaGreat
