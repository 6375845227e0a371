/- parts of the proof, merged by a program. -/
import Derived.Test.YtpmoajhpgekhcaaGreatMsa3
set_option linter.unusedSimpArgs false
set_option linter.unusedVariables false
/- the document's audit: apart. -/
set_option linter.unusedSimpArgs false
set_option linter.unusedVariables false
namespace Go.Proofs.YtpmoajhpgekhcaaGreat
open Go.RowKit
section
variable {t p s : Int} {ad : Addr} {n c : Nat} {vs : List Int}

def apB (vs : List Int) (t : Int) (l : List Int) (k : Nat) : Bool := !(iK (gv vs t (l.getD (k + 1) 0) 0) == 1 && iK (gv vs t (l.getD k 0) 0) == 1)
def apartF (vs : List Int) (t p : Int) : Bool := allN (apB vs t (startsF (fun q => gv vs t q 0) p).1) ((startsF (fun q => gv vs t q 0) p).1.length - 1)
def ApRel (f : Nat → Bool) (N : Nat) (W0 : World) (v : Value) (wr : World) : Prop := ∃ k : Nat, (k ≤ N) ∧ v = .int .i64 ((k + 1 : Nat) : Int) ∧ allN f k = true ∧ Below W0.heap.size W0 wr

set_option maxHeartbeats 1000000 in
set_option maxRecDepth 100000 in
theorem apart_any (c : Nat) (w : World) (h : XV w t p s ad n vs) :
    Calls Tryz.prog 38 #[.agg #[.int .i64 t, .int .i64 p, .int .i64 s, .slice (some ad) n c]] w fun e w' => e = .returned (.bool (apartF vs t p)) ∧ Below w.heap.size w w' := by
  have X0 := h.boxed c
  have bd : 4 ≤ p ∧ p ≤ 1024 := by have := h.bd; omega
  have HS := Lib.hid (fun (w : World) (h : XV w t p s ad n vs) => starts_any c w h)
  obtain ⟨hm1, -, hlen⟩ := startsF_mem (g := fun q => gv vs t q 0) (p := p) (by omega)
  have HM := Lib.hid hm1
  have HI := Lib.hid (fun (q : Int) (w : World) (h : XV w t p s ad n vs) (h0 : 0 ≤ q) (h1 : q < p) => xinfo_any q c w h h0 h1)
  generalize hr : apartF vs t p = r
  have hr2 : allN (apB vs t (startsF (fun q => gv vs t q 0) p).1) ((startsF (fun q => gv vs t q 0) p).1.length - 1) = r := hr
  have HR := Lib.hid hr2
  have HLen := Lib.hid hlen
  clear h hr hr2 hm1 hlen
  generalize startsF (fun q => gv vs t q 0) p = st at *
  obtain ⟨l, lb⟩ := st
  go_enter Tryz.func38, Tryz.ntmps38
  go_wp2_with fail
  refine (HS.out _ X0.xv).mono ?_
  rintro e w1 ⟨lv, rfl, hlv⟩
  have X1 := X0.keep hlv.2.2
  obtain ⟨la, lc, rfl⟩ := hlv.row
  have HL := Lib.hid hlv
  clear hlv X0
  obtain ⟨x0, x1, x2, x3⟩ := X1.cells
  go_wp2_with fail
  go_loopw [5] (fun v5 wr => ApRel (apB vs t l) (l.length - 1) w1 v5 wr) (fun v5 _ => l.length - (intOf v5).toNat)
  case atStart => exact ⟨0, by omega, rfl, rfl, Below.refl _ _⟩
  case round =>
    obtain ⟨k, hk, rfl, hall, hbq⟩ := hrel
    have X3 := X1.keep hbq
    have HT := Lib.hid hall
    have HB := Lib.hid hbq
    clear hall hbq x0 x1 x2 x3
    have HLen2 := HLen.out
    by_cases hl : k + 1 < l.length
    · obtain ⟨g, rfl, hc0⟩ := HL.out.cell hl
      obtain ⟨g', hg', hd0⟩ := HL.out.cell (k := k) (by omega)
      simp only [Option.some.injEq, Addr.mk.injEq, and_true] at hg'
      subst hg'
      have hc1 := (HB.out.cell (World.block_lt_of_cell? _ _ hc0)).trans hc0
      have hd1 := (HB.out.cell (World.block_lt_of_cell? _ _ hd0)).trans hd0
      have m1 := HM.out (l.getD (k + 1) 0) (by simp [hl])
      have m2 := HM.out (l.getD k 0) (by simp [show k < l.length by omega])
      have hap : apB vs t l k = !(iK (gv vs t (l.getD (k + 1) 0) 0) == 1 && iK (gv vs t (l.getD k 0) 0) == 1) := rfl
      have HAP := Lib.hid hap
      have HBox := Lib.hid X3.box
      have hxl := X3.lt
      clear hap hc0 hd0
      generalize l.getD (k + 1) 0 = y at *
      generalize l.getD k 0 = z at *
      have I1 := Lib.hid (fun (w : World) (h : XV w t p s ad n vs) => HI.out y w h m1.1 m1.2)
      have I2 := Lib.hid (fun (w : World) (h : XV w t p s ad n vs) => HI.out z w h m2.1 m2.2)
      clear m1 m2
      generalize iK (gv vs t y 0) = a1 at *
      generalize iL (gv vs t y 0) = a2 at *
      generalize iC (gv vs t y 0) = a3 at *
      generalize iK (gv vs t z 0) = b1 at *
      generalize iL (gv vs t z 0) = b2 at *
      generalize iC (gv vs t z 0) = b3 at *
      have hk1 : 0 ≤ (k : Int) + 1 := by omega
      have hkl : k < l.length := by omega
      have hwk : IntKind.i64.wrap (k : Int) = k := wrap_in _ (by omega)
      have hfa := fieldInfo0 (.int .i64 a1) (.int .i64 a2) (.int .i64 a3)
      have hfb := fieldInfo0 (.int .i64 b1) (.int .i64 b2) (.int .i64 b3)
      by_cases h1 : a1 = 1
      · have hb1 : (a1 == 1) = true := by simp [h1]
        by_cases h2 : b1 = 1
        · have hb2 : (b1 == 1) = true := by simp [h2]
          have hno : apB vs t l k = false := by rw [HAP.out, hb1, hb2]; rfl
          have hres : r = false := by rw [← HR.out]; exact allN_no (by omega) hno
          subst hres
          clear hno h1 h2
          go_wp2_with fail
          refine wp_region_noPanic ?_
          refine wp_region_held_drew (S := fun w' => BS wr ([] : List Nat) w' ∧ (∀ o : Nat, w'.cell? ⟨w.heap.size, o, none⟩ = (#[.int .i64 t, .int .i64 p, .int .i64 s, .slice (some ad) n c] : Array Value)[o]?) ∧ w'.cell? ⟨g, k + 1, none⟩ = some (.int .i64 y) ∧ w'.cell? ⟨g, k, none⟩ = some (.int .i64 z)) (by kernel_rfl) ?_ (fun hHeld => ?_)
          · exact ⟨(BS.start wr).drew, HBox.out, hc1, hd1⟩
          refine wT 0 ?_
          refine wT 1 ?_
          refine wT 2 ?_
          refine wT 3 ?_
          refine wT 4 ?_
          refine wR 5 fun K hK => ?_
          go_simp
          refine (calls_b hHeld.1 (I1.out _ (X3.xv.keep hHeld.1.bel))).mono ?_
          rintro e wr1 ⟨rfl, hV, hVl⟩
          dsimp only
          refine hK.out _ _ ?_ (fun hHeld2 => ?_)
          · exact ⟨hV, hV.oldbox HBox.out hxl, hV.old hc1, hV.old hd1⟩
          clear hK K hV hVl hHeld
          have hHeld := hHeld2
          clear hHeld2
          try simp only [Act.put, zA, zB, zC, zD, zE, zF]
          refine wT 6 ?_
          refine wT 7 ?_
          refine wT 8 ?_
          refine wT 9 ?_
          refine wT 10 ?_
          refine wT 11 ?_
          refine wT 12 ?_
          refine wT 13 ?_
          refine wT 14 ?_
          refine wR 15 fun K hK => ?_
          go_simp
          refine (calls_b hHeld.1 (I2.out _ (X3.xv.keep hHeld.1.bel))).mono ?_
          rintro e wr2 ⟨rfl, hV, hVl⟩
          dsimp only
          refine hK.out _ _ ?_ (fun hHeld2 => ?_)
          · exact ⟨hV, hV.oldbox HBox.out hxl, hV.old hc1, hV.old hd1⟩
          clear hK K hV hVl hHeld
          have hHeld := hHeld2
          clear hHeld2
          try simp only [Act.put, zA, zB, zC, zD, zE, zF]
          refine wT 16 ?_
          refine wT 17 ?_
          refine wT 18 ?_
          refine wpAnyH_done (by kernel_rfl) (NoPanic.normal ?_) _
          refine world_gen ?_
          intro wz hwz
          rw [← hwz] at hHeld
          clear hwz
          have hbz := X3.keep hHeld.1.bel
          clear hHeld
          go_wp2
          go_ret
          exact ⟨rfl, hbz.bel⟩
        · have hb2 : (b1 == 1) = false := by simp [h2]
          have hyes : apB vs t l k = true := by rw [HAP.out, hb1, hb2]; rfl
          have HY := Lib.hid hyes
          clear hyes h1 h2
          go_wp2_with fail
          refine wp_region_noPanic ?_
          refine wp_region_held_drew (S := fun w' => BS wr ([] : List Nat) w' ∧ (∀ o : Nat, w'.cell? ⟨w.heap.size, o, none⟩ = (#[.int .i64 t, .int .i64 p, .int .i64 s, .slice (some ad) n c] : Array Value)[o]?) ∧ w'.cell? ⟨g, k + 1, none⟩ = some (.int .i64 y) ∧ w'.cell? ⟨g, k, none⟩ = some (.int .i64 z)) (by kernel_rfl) ?_ (fun hHeld => ?_)
          · exact ⟨(BS.start wr).drew, HBox.out, hc1, hd1⟩
          refine wT 0 ?_
          refine wT 1 ?_
          refine wT 2 ?_
          refine wT 3 ?_
          refine wT 4 ?_
          refine wR 5 fun K hK => ?_
          go_simp
          refine (calls_b hHeld.1 (I1.out _ (X3.xv.keep hHeld.1.bel))).mono ?_
          rintro e wr1 ⟨rfl, hV, hVl⟩
          dsimp only
          refine hK.out _ _ ?_ (fun hHeld2 => ?_)
          · exact ⟨hV, hV.oldbox HBox.out hxl, hV.old hc1, hV.old hd1⟩
          clear hK K hV hVl hHeld
          have hHeld := hHeld2
          clear hHeld2
          try simp only [Act.put, zA, zB, zC, zD, zE, zF]
          refine wT 6 ?_
          refine wT 7 ?_
          refine wT 8 ?_
          refine wT 9 ?_
          refine wT 10 ?_
          refine wT 11 ?_
          refine wT 12 ?_
          refine wT 13 ?_
          refine wT 14 ?_
          refine wR 15 fun K hK => ?_
          go_simp
          refine (calls_b hHeld.1 (I2.out _ (X3.xv.keep hHeld.1.bel))).mono ?_
          rintro e wr2 ⟨rfl, hV, hVl⟩
          dsimp only
          refine hK.out _ _ ?_ (fun hHeld2 => ?_)
          · exact ⟨hV, hV.oldbox HBox.out hxl, hV.old hc1, hV.old hd1⟩
          clear hK K hV hVl hHeld
          have hHeld := hHeld2
          clear hHeld2
          try simp only [Act.put, zA, zB, zC, zD, zE, zF]
          refine wT 16 ?_
          refine wT 17 ?_
          refine wT 18 ?_
          refine wpAnyH_done (by kernel_rfl) (NoPanic.normal ?_) _
          refine world_gen ?_
          intro wz hwz
          rw [← hwz] at hHeld
          clear hwz
          have hbz := HB.out.trans (hHeld.1.bel.mono HB.out.size)
          clear hHeld
          go_wp2_with fail
          go_roundw
          case rel => exact ⟨k + 1, by omega, by go_num, by simp [allN, HT.out, HY.out], hbz⟩
          case measure => simp [intOf]; omega
      · have hb1 : (a1 == 1) = false := by simp [h1]
        have hyes : apB vs t l k = true := by rw [HAP.out, hb1]; rfl
        have HY := Lib.hid hyes
        clear hyes h1
        go_wp2_with fail
        refine wp_region_noPanic ?_
        refine wp_region_held_drew (S := fun w' => BS wr ([] : List Nat) w' ∧ (∀ o : Nat, w'.cell? ⟨w.heap.size, o, none⟩ = (#[.int .i64 t, .int .i64 p, .int .i64 s, .slice (some ad) n c] : Array Value)[o]?) ∧ w'.cell? ⟨g, k + 1, none⟩ = some (.int .i64 y) ∧ w'.cell? ⟨g, k, none⟩ = some (.int .i64 z)) (by kernel_rfl) ?_ (fun hHeld => ?_)
        · exact ⟨(BS.start wr).drew, HBox.out, hc1, hd1⟩
        refine wT 0 ?_
        refine wT 1 ?_
        refine wT 2 ?_
        refine wT 3 ?_
        refine wT 4 ?_
        refine wR 5 fun K hK => ?_
        go_simp
        refine (calls_b hHeld.1 (I1.out _ (X3.xv.keep hHeld.1.bel))).mono ?_
        rintro e wr1 ⟨rfl, hV, hVl⟩
        dsimp only
        refine hK.out _ _ ?_ (fun hHeld2 => ?_)
        · exact ⟨hV, hV.oldbox HBox.out hxl, hV.old hc1, hV.old hd1⟩
        clear hK K hV hVl hHeld
        have hHeld := hHeld2
        clear hHeld2
        try simp only [Act.put, zA, zB, zC, zD, zE, zF]
        refine wT 6 ?_
        refine wT 7 ?_
        refine wT 8 ?_
        refine wU 9 ?_
        refine wU 10 ?_
        refine wU 11 ?_
        refine wU 12 ?_
        refine wU 13 ?_
        refine wU 14 ?_
        refine wU 15 ?_
        refine wU 16 ?_
        refine wU 17 ?_
        refine wT 18 ?_
        refine wpAnyH_done (by kernel_rfl) (NoPanic.normal ?_) _
        refine world_gen ?_
        intro wz hwz
        rw [← hwz] at hHeld
        clear hwz
        have hbz := HB.out.trans (hHeld.1.bel.mono HB.out.size)
        clear hHeld
        go_wp2_with fail
        go_roundw
        case rel => exact ⟨k + 1, by omega, by go_num, by simp [allN, HT.out, HY.out], hbz⟩
        case measure => simp [intOf]; omega
    · obtain rfl : k = l.length - 1 := by omega
      have hres : r = true := by rw [← HR.out]; exact HT.out
      subst hres
      go_wp2
      go_ret
      exact ⟨rfl, X3.bel⟩
end
end Go.Proofs.YtpmoajhpgekhcaaGreat
/- the document's audit: counts. -/
set_option linter.unusedSimpArgs false
set_option linter.unusedVariables false
namespace Go.Proofs.YtpmoajhpgekhcaaGreat
open Go.RowKit
section
variable {t p s : Int} {ad : Addr} {n c : Nat} {vs : List Int}

def freeN (vs : List Int) (t : Int) : Nat → Int
  | 0 => 0
  | q + 1 => freeN vs t q + if iK (gv vs t q 0) = 1 then iL (gv vs t q 0) else 0
def liveN (vs : List Int) (t : Int) : Nat → Int
  | 0 => 0
  | q + 1 => liveN vs t q + (if iK (gv vs t q 0) = 2 then 1 else 0) + (onesN (gv vs t q 4) 32 : Nat)
theorem freeN_bd (vs : List Int) (t : Int) (q : Nat) : 0 ≤ freeN vs t q ∧ freeN vs t q ≤ 1024 * q := by
  induction q with
  | zero => simp [freeN]
  | succ q ih =>
    have := inf_bd (gv vs t q 0)
    unfold freeN
    split <;> omega
theorem liveN_bd (vs : List Int) (t : Int) (q : Nat) : 0 ≤ liveN vs t q ∧ liveN vs t q ≤ 33 * q := by
  induction q with
  | zero => simp [liveN]
  | succ q ih =>
    have := onesN_le (gv vs t q 4) 32
    unfold liveN
    split <;> omega
def countsF (vs : List Int) (t p : Int) : Bool := vs.getD 0 0 == freeN vs t p.toNat && vs.getD 1 0 == liveN vs t p.toNat
def CoRel (vs : List Int) (t p : Int) (W0 : World) (v3 v4 v5 : Value) (wr : World) : Prop := ∃ q : Nat, (q : Int) ≤ p ∧ v5 = .int .i64 q ∧ v3 = .int .i64 (freeN vs t q) ∧ v4 = .int .i64 (liveN vs t q) ∧ Below W0.heap.size W0 wr

set_option maxHeartbeats 4000000 in
set_option maxRecDepth 100000 in
theorem counts_any (c : Nat) (w : World) (h : XV w t p s ad n vs) :
    Calls Tryz.prog 43 #[.agg #[.int .i64 t, .int .i64 p, .int .i64 s, .slice (some ad) n c]] w fun e w' => e = .returned (.bool (countsF vs t p)) ∧ Below w.heap.size w w' := by
  have X0 := h.boxed c
  have bd : 4 ≤ p ∧ p ≤ 1024 := by have := h.bd; omega
  have hnn : 2 ≤ n := by have := h.bd; omega
  have HG := Lib.hid h.gu
  have HI := Lib.hid (fun (q : Int) (w : World) (h : XV w t p s ad n vs) (h0 : 0 ≤ q) (h1 : q < p) => xinfo_any q c w h h0 h1)
  have HSl := Lib.hid (fun (q : Int) (w : World) (h : XV w t p s ad n vs) (h0 : 0 ≤ q) (h1 : q < p) => xslots_any q c w h h0 h1)
  generalize hr : countsF vs t p = r
  have hr2 : (vs.getD 0 0 == freeN vs t p.toNat && vs.getD 1 0 == liveN vs t p.toNat) = r := hr
  have HR := Lib.hid hr2
  clear h hr hr2
  go_enter Tryz.func43, Tryz.ntmps43
  go_wp2_with fail
  go_loopw [3, 4, 5, 6] (fun v3 v4 v5 _ wr => CoRel vs t p (w.alloc (.cells #[.int .i64 t, .int .i64 p, .int .i64 s, .slice (some ad) n c] 88)) v3 v4 v5 wr) (fun _ _ v5 _ _ => p.toNat - (intOf v5).toNat)
  case atStart => exact ⟨0, by omega, rfl, rfl, rfl, Below.refl _ _⟩
  case round =>
    obtain ⟨q, hq, rfl, rfl, rfl, hbel⟩ := hrel
    have X1 := X0.keep hbel
    have HBel := Lib.hid hbel
    clear hbel X0
    obtain ⟨x0, x1, x2, x3⟩ := X1.cells
    have hf1 := freeN_bd vs t q
    have hl1 := liveN_bd vs t q
    by_cases hqp : (q : Int) < p
    · have I1 := Lib.hid (fun (w : World) (h : XV w t p s ad n vs) => HI.out q w h (by omega) hqp)
      have I2 := Lib.hid (fun (w : World) (h : XV w t p s ad n vs) => HSl.out q w h (by omega) hqp)
      have g4 := (HG.out q 4).1
      have HO := Lib.hid (fun w => rones_any (gv vs t q 4) w g4)
      have hsf : freeN vs t (q + 1) = freeN vs t q + if iK (gv vs t q 0) = 1 then iL (gv vs t q 0) else 0 := rfl
      have hsl : liveN vs t (q + 1) = liveN vs t q + (if iK (gv vs t q 0) = 2 then 1 else 0) + (onesN (gv vs t q 4) 32 : Nat) := rfl
      have ho := onesN_le (gv vs t q 4) 32
      have bd9 := inf_bd (gv vs t q 0)
      obtain ⟨b1, b2, b3, b4, -⟩ := bd9
      clear HI HSl HG g4
      generalize onesN (gv vs t q 4) 32 = on at *
      generalize iK (gv vs t q 0) = a1 at *
      generalize iL (gv vs t q 0) = a2 at *
      generalize iC (gv vs t q 0) = a3 at *
      generalize gv vs t q 4 = u4 at *
      generalize freeN vs t q = fr at *
      generalize liveN vs t q = li at *
      have hon : (on : Int) ≤ 32 := by omega
      by_cases hk1 : a1 = 1
      · subst hk1
        have HSF := Lib.hid hsf
        have HSL := Lib.hid hsl
        clear hsf hsl
        go_wp2_with fail
        refine (I1.out _ X1.xv).mono ?_
        rintro e w1 ⟨rfl, hb1⟩
        have X2 := X1.keep hb1
        obtain ⟨X20, X21, X22, X23⟩ := X2.cells
        have X2z := X2.lt
        have XI := X2.alloc (.cells #[.int .i64 1, .int .i64 a2, .int .i64 a3] 61)
        have hbw := (HBel.out.trans (hb1.mono HBel.out.size)).alloc (Nat.le_trans HBel.out.size hb1.size) (.cells #[.int .i64 1, .int .i64 a2, .int .i64 a3] 61)
        go_wp2_with fail
        refine (I2.out _ XI.xv).mono ?_
        rintro e w2 ⟨rfl, hb2⟩
        have X3 := XI.keep hb2
        obtain ⟨X30, X31, X32, X33⟩ := X3.cells
        have X3z := X3.lt
        have hbw2 := hbw.trans (hb2.mono hbw.size)
        go_wp2_with fail
        refine (HO.out _).mono ?_
        rintro e w3 ⟨rfl, hb3⟩
        have hbw3 := hbw2.trans (hb3.mono hbw2.size)
        go_wp2_with fail
        go_roundw
        case rel => exact ⟨q + 1, by omega, by go_num, by rw [HSF.out]; simp, by rw [HSL.out]; simp, hbw3⟩
        case measure => simp [intOf]; omega
      · have hkb1 : (a1 == 1) = false := by simp [hk1]
        by_cases hk2 : a1 = 2
        · subst hk2
          have HSF := Lib.hid hsf
          have HSL := Lib.hid hsl
          clear hsf hsl hk1
          go_wp2_with fail
          refine (I1.out _ X1.xv).mono ?_
          rintro e w1 ⟨rfl, hb1⟩
          have X2 := X1.keep hb1
          obtain ⟨X20, X21, X22, X23⟩ := X2.cells
          have X2z := X2.lt
          have XI := X2.alloc (.cells #[.int .i64 2, .int .i64 a2, .int .i64 a3] 61)
          have hbw := (HBel.out.trans (hb1.mono HBel.out.size)).alloc (Nat.le_trans HBel.out.size hb1.size) (.cells #[.int .i64 2, .int .i64 a2, .int .i64 a3] 61)
          go_wp2_with fail
          refine (I2.out _ XI.xv).mono ?_
          rintro e w2 ⟨rfl, hb2⟩
          have X3 := XI.keep hb2
          obtain ⟨X30, X31, X32, X33⟩ := X3.cells
          have X3z := X3.lt
          have hbw2 := hbw.trans (hb2.mono hbw.size)
          go_wp2_with fail
          refine (HO.out _).mono ?_
          rintro e w3 ⟨rfl, hb3⟩
          have hbw3 := hbw2.trans (hb3.mono hbw2.size)
          go_wp2_with fail
          go_roundw
          case rel => exact ⟨q + 1, by omega, by go_num, by rw [HSF.out]; simp, by rw [HSL.out]; simp, hbw3⟩
          case measure => simp [intOf]; omega
        · have hkb2 : (a1 == 2) = false := by simp [hk2]
          rw [if_neg hk1] at hsf
          rw [if_neg hk2] at hsl
          have HSF := Lib.hid hsf
          have HSL := Lib.hid hsl
          clear hsf hsl hk1 hk2
          go_wp2_with fail
          refine (I1.out _ X1.xv).mono ?_
          rintro e w1 ⟨rfl, hb1⟩
          have X2 := X1.keep hb1
          obtain ⟨X20, X21, X22, X23⟩ := X2.cells
          have X2z := X2.lt
          have XI := X2.alloc (.cells #[.int .i64 a1, .int .i64 a2, .int .i64 a3] 61)
          have hbw := (HBel.out.trans (hb1.mono HBel.out.size)).alloc (Nat.le_trans HBel.out.size hb1.size) (.cells #[.int .i64 a1, .int .i64 a2, .int .i64 a3] 61)
          go_wp2_with fail
          refine (I2.out _ XI.xv).mono ?_
          rintro e w2 ⟨rfl, hb2⟩
          have X3 := XI.keep hb2
          obtain ⟨X30, X31, X32, X33⟩ := X3.cells
          have X3z := X3.lt
          have hbw2 := hbw.trans (hb2.mono hbw.size)
          go_wp2_with fail
          refine (HO.out _).mono ?_
          rintro e w3 ⟨rfl, hb3⟩
          have hbw3 := hbw2.trans (hb3.mono hbw2.size)
          go_wp2_with fail
          go_roundw
          case rel => exact ⟨q + 1, by omega, by go_num, by rw [HSF.out]; simp, by rw [HSL.out]; simp, hbw3⟩
          case measure => simp [intOf]; omega
    · obtain rfl : q = p.toNat := by omega
      have hc0 := X1.xv.cells 0 (by omega)
      have hc1 := X1.xv.cells 1 (by omega)
      have e0 : ad.add 0 = ad := by simp [Addr.add]
      have e1 : ad.add 1 = ⟨ad.block, ad.off + 1, none⟩ := by simp [Addr.add]
      rw [e0] at hc0
      rw [e1] at hc1
      clear HI HSl HG
      generalize freeN vs t p.toNat = fr at *
      generalize liveN vs t p.toNat = li at *
      generalize vs.getD 0 0 = v0 at *
      generalize vs.getD 1 0 = v1 at *
      have hw1 : IntKind.u32.wrap fr = fr := IntWalk.u32_in _ (by omega)
      have hw2 : IntKind.u32.wrap li = li := IntWalk.u32_in _ (by omega)
      by_cases h1 : v0 = fr
      · subst h1
        have HR2 := HR.out
        simp only [beq_self_eq_true, Bool.true_and] at HR2
        have HR3 := Lib.hid HR2
        clear HR2 HR
        go_wp2
        go_ret
        exact ⟨ret_bool HR3.out, X1.bel⟩
      · have hb : (v0 == fr) = false := by simp [h1]
        have HR2 := HR.out
        rw [hb] at HR2
        have HR3 := Lib.hid HR2
        clear HR2 HR
        go_wp2
        go_ret
        exact ⟨ret_bool HR3.out, X1.bel⟩
end
end Go.Proofs.YtpmoajhpgekhcaaGreat
