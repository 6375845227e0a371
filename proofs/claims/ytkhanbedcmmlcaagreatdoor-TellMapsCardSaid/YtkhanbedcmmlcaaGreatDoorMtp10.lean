/- parts of the proof, merged by a program. -/
import Derived.Test.YtkhanbedcmmlcaaGreatDoorMtp1
import Derived.Test.YtkhanbedcmmlcaaGreatDoorMtp7
import Derived.Test.YtkhanbedcmmlcaaGreatDoorMtp8
set_option linter.unusedSimpArgs false
set_option linter.unusedVariables false
/- the document's map of a heap: letters. -/
set_option linter.unusedSimpArgs false
set_option linter.unusedVariables false
namespace Go.Proofs.YtkhanbedcmmlcaaGreatDoor
open Go.RowKit
section
variable {t p s : Int} {ad : Addr} {n c : Nat} {vs : List Int}
def LeRel (w : World) (a r : UInt8) (L : Int) (v : Value) (wr : World) : Prop := ∃ j : Nat, (j = 0 ∨ (j : Int) < L) ∧ v = .string (bs (a :: List.replicate j r)) ∧ Below w.heap.size w wr

set_option maxHeartbeats 2000000 in
set_option maxRecDepth 100000 in
theorem rletters_any (c : Nat) (w : World) (h : XV w t p s ad n vs) (q : Nat) (h1 : (q : Int) < p) (hk : iK (gv vs t q 0) ≠ 0) :
    Calls Tryz.prog 21 #[.agg #[.int .i64 t, .int .i64 p, .int .i64 s, .slice (some ad) n c], .int .i64 q] w fun e w' => e = .returned (.string (bs (spanS vs t q))) ∧ Below w.heap.size w w' := by
  have X0 := h.boxed c
  have HX := Lib.hid h
  have b0 := loc_alloc w #[.int .i64 t, .int .i64 p, .int .i64 s, .slice (some ad) n c] 59
  have S0 := (BS.start w).alloc (.cells #[.int .i64 t, .int .i64 p, .int .i64 s, .slice (some ad) n c] 59)
  have HI := Lib.hid (fun (w : World) (h : XV w t p s ad n vs) => xinfo_any q c w h (by omega) h1)
  have HT := Lib.hid (fun (w : World) (h : XV w t p s ad n vs) => xtaken_any q c w h (by omega) h1)
  have gu := h.gu q 5
  have HF := Lib.hid (fun w => rfull_any (gv vs t q 5) (iC (gv vs t q 0)) w gu.1)
  have bd := inf_bd (gv vs t q 0)
  have hlb := let_bd vs t q
  have HSp : Hid (spanS vs t q = u8 (letC vs t q) :: List.replicate ((iL (gv vs t q 0)).toNat - 1) (u8 (restC (gv vs t q 0)))) := Lib.hid rfl
  have hcase : iK (gv vs t q 0) = 1 ∧ letC vs t q = 46 ∧ restC (gv vs t q 0) = 46 ∨ iK (gv vs t q 0) = 2 ∧ letC vs t q = 35 ∧ restC (gv vs t q 0) = 61 ∨ iK (gv vs t q 0) = 3 ∧ fullB (gv vs t q 5) (iC (gv vs t q 0)) = true ∧ letC vs t q = 65 + iC (gv vs t q 0) ∧ restC (gv vs t q 0) = 46 ∨ iK (gv vs t q 0) = 3 ∧ fullB (gv vs t q 5) (iC (gv vs t q 0)) = false ∧ letC vs t q = 97 + iC (gv vs t q 0) ∧ restC (gv vs t q 0) = 46 := by
    have h3 : iK (gv vs t q 0) = 1 ∨ iK (gv vs t q 0) = 2 ∨ iK (gv vs t q 0) = 3 := by omega
    unfold letC restC
    rcases h3 with e | e | e
    · rw [e]; simp
    · rw [e]; simp
    · rw [e]
      cases fullB (gv vs t q 5) (iC (gv vs t q 0)) <;> simp
  have hL : 1 ≤ iL (gv vs t q 0) := (bd.2.2.2.2.2.2.1 hk).2
  clear h hk
  generalize spanS vs t q = R at *
  generalize letC vs t q = lc at *
  generalize restC (gv vs t q 0) = rc at *
  generalize fullB (gv vs t q 5) (iC (gv vs t q 0)) = fb at *
  generalize iK (gv vs t q 0) = y1 at *
  generalize iL (gv vs t q 0) = y2 at *
  generalize iC (gv vs t q 0) = y3 at *
  generalize gv vs t q 5 = v at *
  obtain ⟨x0, x1, x2, x3⟩ := X0.cells
  go_enter Tryz.func21, Tryz.ntmps21
  go_wp2_with fail
  refine (HI.out _ X0.xv).mono ?_
  rintro e w1 ⟨rfl, hb1⟩
  have X1 := X0.keep hb1
  obtain ⟨X10, X11, X12, X13⟩ := X1.cells
  have X1z := X1.lt
  have S1 := S0.below hb1
  have b1 := loc_step (fun L hL => hb1.block L (S0.ls L hL).1) (by simp) b0
  rcases hcase with ⟨rfl, rfl, rfl⟩ | ⟨rfl, rfl, rfl⟩ | ⟨rfl, rfl, rfl, rfl⟩ | ⟨rfl, rfl, rfl, rfl⟩
  · have i0 := loc_alloc w1 #[.int .i64 1, .int .i64 y2, .int .i64 y3] 40
    have i1 : (w1.alloc (.cells #[.int .i64 1, .int .i64 y2, .int .i64 y3] 40)).cell? ⟨w1.heap.size, 1, none⟩ = some (.int .i64 y2) := i0 1
    have hWs : w1.heap.size < (w1.alloc (.cells #[.int .i64 1, .int .i64 y2, .int .i64 y3] 40)).heap.size := by simp
    have HB := Lib.hid (S1.bel.alloc S1.bel.size (.cells #[.int .i64 1, .int .i64 y2, .int .i64 y3] 40))
    clear HX b0 S0 b1 S1 HI HT HF X0 X1 x0 x1 x2 x3 X10 X11 X12 X13 hb1 i0
    go_wp2
    go_loopw [9] (fun v9 wr => LeRel (w1.alloc (.cells #[.int .i64 1, .int .i64 y2, .int .i64 y3] 40)) 46 46 y2 v9 wr) (fun v9 _ => 2000 - strLen v9)
    case atStart => exact ⟨0, Or.inl rfl, rfl, Below.refl _ _⟩
    case round =>
      obtain ⟨j, hj, rfl, hb⟩ := hrel
      have j1 := (hb.cell (p := ⟨w1.heap.size, 1, none⟩) hWs).trans i1
      have zr := hb.size
      have zr2 : w1.heap.size < wr.heap.size := Nat.lt_of_lt_of_le hWs zr
      have hjb : j ≤ 1024 := by omega
      have HB2 := Lib.hid hb
      clear hb
      by_cases hlt : (j : Int) + 1 < y2
      · go_wp2
        go_roundw
        case rel => exact ⟨j + 1, Or.inr (by omega), by rw [bs_cat, List.replicate_succ', List.cons_append], HB2.out⟩
        case measure => rw [bs_cat]; simp [strLen, ByteArray.size]; omega
      · go_wp2
        go_ret
        refine ⟨?_, HB.out.trans (HB2.out.mono HB.out.size)⟩
        rw [HSp.out, show y2.toNat - 1 = j by omega]
        rfl
  · have i0 := loc_alloc w1 #[.int .i64 2, .int .i64 y2, .int .i64 y3] 40
    have i1 : (w1.alloc (.cells #[.int .i64 2, .int .i64 y2, .int .i64 y3] 40)).cell? ⟨w1.heap.size, 1, none⟩ = some (.int .i64 y2) := i0 1
    have hWs : w1.heap.size < (w1.alloc (.cells #[.int .i64 2, .int .i64 y2, .int .i64 y3] 40)).heap.size := by simp
    have HB := Lib.hid (S1.bel.alloc S1.bel.size (.cells #[.int .i64 2, .int .i64 y2, .int .i64 y3] 40))
    clear HX b0 S0 b1 S1 HI HT HF X0 X1 x0 x1 x2 x3 X10 X11 X12 X13 hb1 i0
    go_wp2
    go_loopw [9] (fun v9 wr => LeRel (w1.alloc (.cells #[.int .i64 2, .int .i64 y2, .int .i64 y3] 40)) 35 61 y2 v9 wr) (fun v9 _ => 2000 - strLen v9)
    case atStart => exact ⟨0, Or.inl rfl, rfl, Below.refl _ _⟩
    case round =>
      obtain ⟨j, hj, rfl, hb⟩ := hrel
      have j1 := (hb.cell (p := ⟨w1.heap.size, 1, none⟩) hWs).trans i1
      have zr := hb.size
      have zr2 : w1.heap.size < wr.heap.size := Nat.lt_of_lt_of_le hWs zr
      have hjb : j ≤ 1024 := by omega
      have HB2 := Lib.hid hb
      clear hb
      by_cases hlt : (j : Int) + 1 < y2
      · go_wp2
        go_roundw
        case rel => exact ⟨j + 1, Or.inr (by omega), by rw [bs_cat, List.replicate_succ', List.cons_append], HB2.out⟩
        case measure => rw [bs_cat]; simp [strLen, ByteArray.size]; omega
      · go_wp2
        go_ret
        refine ⟨?_, HB.out.trans (HB2.out.mono HB.out.size)⟩
        rw [HSp.out, show y2.toNat - 1 = j by omega]
        rfl
  · have S2 := S1.alloc (.cells #[.int .i64 3, .int .i64 y2, .int .i64 y3] 40)
    have i0 := loc_alloc w1 #[.int .i64 3, .int .i64 y2, .int .i64 y3] 40
    have b2 := loc_old (.cells #[.int .i64 3, .int .i64 y2, .int .i64 y3] 40) X1z b1
    have HSp2 := HSp
    clear b0 S0 b1 S1 HI X0 X1 x0 x1 x2 x3 X10 X11 X12 X13 hb1
    go_wp2_with fail
    refine wp_region_noPanic ?_
    refine wp_region_held_drew (S := fun w' => BS w [w1.heap.size, w.heap.size] w' ∧ (∀ o : Nat, w'.cell? ⟨w.heap.size, o, none⟩ = (#[.int .i64 t, .int .i64 p, .int .i64 s, .slice (some ad) n c] : Array Value)[o]?) ∧ (∀ o : Nat, w'.cell? ⟨w1.heap.size, o, none⟩ = (#[.int .i64 3, .int .i64 y2, .int .i64 y3] : Array Value)[o]?)) (by kernel_rfl) ?_ (fun hHeld => ?_)
    · exact ⟨S2.drew, b2, i0⟩
    refine wT 0 ?_
    refine wT 1 ?_
    refine wT 3 ?_
    refine wT 4 ?_
    refine wR 2 fun K hK => ?_
    go_simp
    refine (calls_b hHeld.1 (HT.out _ (HX.out.keep hHeld.1.bel))).mono ?_
    rintro e wr1 ⟨rfl, hV, hVl⟩
    dsimp only
    refine hK.out _ _ ?_ (fun hHeld2 => ?_)
    · exact ⟨hV, loc_step hVl (by simp) hHeld.2.1, loc_step hVl (by simp) hHeld.2.2⟩
    clear hK K hV hVl hHeld
    have hHeld := hHeld2
    clear hHeld2
    try simp only [Act.put, zA, zB, zC, zD, zE, zF]
    refine wR 5 fun K hK => ?_
    go_simp
    refine (calls_b hHeld.1 (HF.out _)).mono ?_
    rintro e wr2 ⟨rfl, hV, hVl⟩
    dsimp only
    refine hK.out _ _ ?_ (fun hHeld2 => ?_)
    · exact ⟨hV, loc_step hVl (by simp) hHeld.2.1, loc_step hVl (by simp) hHeld.2.2⟩
    clear hK K hV hVl hHeld
    have hHeld := hHeld2
    clear hHeld2
    try simp only [Act.put, zA, zB, zC, zD, zE, zF]
    refine wpAnyH_done (by kernel_rfl) (NoPanic.normal ?_) _
    refine world_gen ?_
    intro wz hwz
    rw [← hwz] at hHeld
    clear hwz
    have bel := hHeld.1.bel
    have i1 := hHeld.2.2 1
    have i2 := hHeld.2.2 2
    simp at i1 i2
    have hz1 := (hHeld.1.ls w1.heap.size (by simp)).1
    clear hHeld S2 i0 b2
    have hWs : w1.heap.size < (wz.alloc (.cells #[.int .u8 (65 + y3)] 5)).heap.size := by simp; omega
    have HB := Lib.hid (bel.alloc bel.size (.cells #[.int .u8 (65 + y3)] 5))
    have i1 := (World.cell?_of_block (a := ⟨w1.heap.size, 1, none⟩) (heap_alloc_old wz (.cells #[.int .u8 (65 + y3)] 5) hz1)).trans i1
    have hc := conv_one (65 + y3).toNat (65 + y3) (by omega) (by omega) 5 wz
    go_wp2
    go_loopw [9] (fun v9 wr => LeRel (wz.alloc (.cells #[.int .u8 (65 + y3)] 5)) (u8 (65 + y3)) 46 y2 v9 wr) (fun v9 _ => 2000 - strLen v9)
    case atStart => exact ⟨0, Or.inl rfl, rfl, Below.refl _ _⟩
    case round =>
      obtain ⟨j, hj, rfl, hb⟩ := hrel
      have j1 := (hb.cell (p := ⟨w1.heap.size, 1, none⟩) hWs).trans i1
      have zr := hb.size
      have zr2 : w1.heap.size < wr.heap.size := Nat.lt_of_lt_of_le hWs zr
      have hjb : j ≤ 1024 := by omega
      have HB2 := Lib.hid hb
      clear hb
      by_cases hlt : (j : Int) + 1 < y2
      · go_wp2
        go_roundw
        case rel => exact ⟨j + 1, Or.inr (by omega), by rw [bs_cat, List.replicate_succ', List.cons_append], HB2.out⟩
        case measure => rw [bs_cat]; simp [strLen, ByteArray.size]; omega
      · go_wp2
        go_ret
        refine ⟨?_, HB.out.trans (HB2.out.mono HB.out.size)⟩
        rw [HSp.out, show y2.toNat - 1 = j by omega]
        rfl
  · have S2 := S1.alloc (.cells #[.int .i64 3, .int .i64 y2, .int .i64 y3] 40)
    have i0 := loc_alloc w1 #[.int .i64 3, .int .i64 y2, .int .i64 y3] 40
    have b2 := loc_old (.cells #[.int .i64 3, .int .i64 y2, .int .i64 y3] 40) X1z b1
    have HSp2 := HSp
    clear b0 S0 b1 S1 HI X0 X1 x0 x1 x2 x3 X10 X11 X12 X13 hb1
    go_wp2_with fail
    refine wp_region_noPanic ?_
    refine wp_region_held_drew (S := fun w' => BS w [w1.heap.size, w.heap.size] w' ∧ (∀ o : Nat, w'.cell? ⟨w.heap.size, o, none⟩ = (#[.int .i64 t, .int .i64 p, .int .i64 s, .slice (some ad) n c] : Array Value)[o]?) ∧ (∀ o : Nat, w'.cell? ⟨w1.heap.size, o, none⟩ = (#[.int .i64 3, .int .i64 y2, .int .i64 y3] : Array Value)[o]?)) (by kernel_rfl) ?_ (fun hHeld => ?_)
    · exact ⟨S2.drew, b2, i0⟩
    refine wT 0 ?_
    refine wT 1 ?_
    refine wT 3 ?_
    refine wT 4 ?_
    refine wR 2 fun K hK => ?_
    go_simp
    refine (calls_b hHeld.1 (HT.out _ (HX.out.keep hHeld.1.bel))).mono ?_
    rintro e wr1 ⟨rfl, hV, hVl⟩
    dsimp only
    refine hK.out _ _ ?_ (fun hHeld2 => ?_)
    · exact ⟨hV, loc_step hVl (by simp) hHeld.2.1, loc_step hVl (by simp) hHeld.2.2⟩
    clear hK K hV hVl hHeld
    have hHeld := hHeld2
    clear hHeld2
    try simp only [Act.put, zA, zB, zC, zD, zE, zF]
    refine wR 5 fun K hK => ?_
    go_simp
    refine (calls_b hHeld.1 (HF.out _)).mono ?_
    rintro e wr2 ⟨rfl, hV, hVl⟩
    dsimp only
    refine hK.out _ _ ?_ (fun hHeld2 => ?_)
    · exact ⟨hV, loc_step hVl (by simp) hHeld.2.1, loc_step hVl (by simp) hHeld.2.2⟩
    clear hK K hV hVl hHeld
    have hHeld := hHeld2
    clear hHeld2
    try simp only [Act.put, zA, zB, zC, zD, zE, zF]
    refine wpAnyH_done (by kernel_rfl) (NoPanic.normal ?_) _
    refine world_gen ?_
    intro wz hwz
    rw [← hwz] at hHeld
    clear hwz
    have bel := hHeld.1.bel
    have i1 := hHeld.2.2 1
    have i2 := hHeld.2.2 2
    simp at i1 i2
    have hz1 := (hHeld.1.ls w1.heap.size (by simp)).1
    clear hHeld S2 i0 b2
    have hWs : w1.heap.size < (wz.alloc (.cells #[.int .u8 (97 + y3)] 5)).heap.size := by simp; omega
    have HB := Lib.hid (bel.alloc bel.size (.cells #[.int .u8 (97 + y3)] 5))
    have i1 := (World.cell?_of_block (a := ⟨w1.heap.size, 1, none⟩) (heap_alloc_old wz (.cells #[.int .u8 (97 + y3)] 5) hz1)).trans i1
    have hc := conv_one (97 + y3).toNat (97 + y3) (by omega) (by omega) 5 wz
    go_wp2
    go_loopw [9] (fun v9 wr => LeRel (wz.alloc (.cells #[.int .u8 (97 + y3)] 5)) (u8 (97 + y3)) 46 y2 v9 wr) (fun v9 _ => 2000 - strLen v9)
    case atStart => exact ⟨0, Or.inl rfl, rfl, Below.refl _ _⟩
    case round =>
      obtain ⟨j, hj, rfl, hb⟩ := hrel
      have j1 := (hb.cell (p := ⟨w1.heap.size, 1, none⟩) hWs).trans i1
      have zr := hb.size
      have zr2 : w1.heap.size < wr.heap.size := Nat.lt_of_lt_of_le hWs zr
      have hjb : j ≤ 1024 := by omega
      have HB2 := Lib.hid hb
      clear hb
      by_cases hlt : (j : Int) + 1 < y2
      · go_wp2
        go_roundw
        case rel => exact ⟨j + 1, Or.inr (by omega), by rw [bs_cat, List.replicate_succ', List.cons_append], HB2.out⟩
        case measure => rw [bs_cat]; simp [strLen, ByteArray.size]; omega
      · go_wp2
        go_ret
        refine ⟨?_, HB.out.trans (HB2.out.mono HB.out.size)⟩
        rw [HSp.out, show y2.toNat - 1 = j by omega]
        rfl
end
end Go.Proofs.YtkhanbedcmmlcaaGreatDoor
/- the document's map of a heap. -/
set_option linter.unusedSimpArgs false
set_option linter.unusedVariables false
namespace Go.Proofs.YtkhanbedcmmlcaaGreatDoor
open Go.RowKit
section
variable {t p s : Int} {ad : Addr} {n c : Nat} {vs : List Int}
def RmRelS (w1 : World) (vs : List Int) (t : Int) (P : Nat) (v : Value) (wr : World) : Prop :=
  ∃ q : Nat, q ≤ P ∧ Tl vs t P q ∧ v = .string (bs (lets vs t q)) ∧ Below w1.heap.size w1 wr
def RmRelO (w1 : World) (vs : List Int) (t : Int) (P : Nat) (v v2 : Value) (wr : World) : Prop :=
  ∃ m : Nat, 64 * m < P + 64 ∧ v = .string (bs (docL vs t P m)) ∧ v2 = .int .i64 (64 * m : Nat) ∧ Below w1.heap.size w1 wr

set_option maxHeartbeats 2000000 in
set_option maxRecDepth 100000 in
theorem rmap_any (P : Nat) (c : Nat) (w : World) (h : XV w t P s ad n vs) (hs : tilesF vs t P = true)
    (HC : ∀ W, XV W t P s ad n vs → Calls Tryz.prog 6 #[.agg #[.int .i64 t, .int .i64 P, .int .i64 s], .slice (some ad) n c] W fun e W' => e = .returned (.bool true) ∧ Below W.heap.size W W') :
    Calls Tryz.prog 8 #[.agg #[.int .i64 t, .int .i64 P, .int .i64 s], .slice (some ad) n c] w fun e w' => e = .returned (.string (bs (mapB vs t P))) ∧ Below w.heap.size w w' := by
  have HCk := Lib.hid HC
  have S0 := (BS.start w).alloc (.cells #[.int .i64 t, .int .i64 P, .int .i64 s] 23)
  have c0 := loc_alloc w #[.int .i64 t, .int .i64 P, .int .i64 s] 23
  have bd := h.bd
  have X0 := Lib.hid h
  clear h HC
  go_enter Tryz.func8, Tryz.ntmps8
  go_wp2_with fail
  refine (calls_b S0 (HCk.out _ (X0.out.keep S0.bel))).mono ?_
  rintro e w1 ⟨rfl, S1, S1l⟩
  have c1 := loc_step S1l (by simp) c0
  have q0 := c1 0
  have q1 := c1 1
  have q2 := c1 2
  simp at q0 q1 q2
  have hz1 : w.heap.size < w1.heap.size := (S1.ls w.heap.size (by simp)).1
  have d0 := loc_alloc w1 #[.int .i64 t, .int .i64 P, .int .i64 s, .slice (some ad) n c] 59
  have b0 := loc_old (.cells #[.int .i64 t, .int .i64 P, .int .i64 s, .slice (some ad) n c] 59) hz1 c1
  have BW := Lib.hid (S1.bel.alloc S1.bel.size (.cells #[.int .i64 t, .int .i64 P, .int .i64 s, .slice (some ad) n c] 59))
  obtain ⟨W, hW⟩ : ∃ W, W = w1.alloc (.cells #[.int .i64 t, .int .i64 P, .int .i64 s, .slice (some ad) n c] 59) := ⟨_, rfl⟩
  have hzW : w1.heap.size < W.heap.size := by rw [hW]; simp
  rw [← hW] at d0 b0 BW
  have HW := Lib.hid hW
  have HX := Lib.hid (X0.out.keep BW.out)
  have ht0 := Lib.hid (tl_start hs)
  clear hW X0 S0 c0 S1 S1l HCk hs
  go_wp2
  rw [← HW.out]
  go_loopw [6] (fun v6 wr => RmRelS W vs t P v6 wr) (fun v6 _ => P - strLen v6)
  case atStart => exact ⟨0, by omega, ht0.out, rfl, Below.refl _ _⟩
  case round =>
    obtain ⟨q, hq, htl, rfl, hb⟩ := hrel
    have zr := hb.size
    have e1 := (hb.cell (p := ⟨w.heap.size, 1, none⟩) (by show w.heap.size < _; omega)).trans (b0 1)
    have f0 := (hb.cell (p := ⟨w1.heap.size, 0, none⟩) hzW).trans (d0 0)
    have f1 := (hb.cell (p := ⟨w1.heap.size, 1, none⟩) hzW).trans (d0 1)
    have f2 := (hb.cell (p := ⟨w1.heap.size, 2, none⟩) hzW).trans (d0 2)
    have f3 := (hb.cell (p := ⟨w1.heap.size, 3, none⟩) hzW).trans (d0 3)
    simp at e1 f0 f1 f2 f3
    have hsz : (bs (lets vs t q)).size = q := by simp [ByteArray.size, lets_len]
    have HT := Lib.hid htl
    have HB := Lib.hid hb
    clear htl
    by_cases hlt : q < P
    · have hql : (q : Int) < P := by omega
      obtain ⟨hk, h1, h2, h3, -⟩ := tl_step HT.out hlt
      have HL := Lib.hid (rletters_any c wr (HX.out.keep hb) q hql hk)
      have HS := Lib.hid (lets_span HT.out hlt)
      have H3 := Lib.hid h3
      have hcat := cat_run (lets vs t q) (spanS vs t q) _ HS.out (by rw [lets_len]; omega) (by have := congrArg List.length HS.out; simp only [List.length_append, lets_len] at this; omega)
      clear hb h3
      generalize (iL (gv vs t q 0)).toNat = L at *
      go_wp2_with fail
      refine HL.out.mono ?_
      rintro e wa ⟨rfl, ba⟩
      go_wp2
      go_roundw
      case rel => exact ⟨q + L, h2, H3.out, rfl, HB.out.trans (ba.mono HB.out.size)⟩
      case measure => simp [strLen, ByteArray.size, lets_len]; omega
    · obtain rfl : q = P := by omega
      clear hb
      go_wp2
      go_loopw [7, 8] (fun v7 v8 wq => RmRelO wr vs t q v7 v8 wq) (fun _ v8 _ => q - (intOf v8).toNat)
      case atStart => exact ⟨0, by omega, rfl, rfl, Below.refl _ _⟩
      case round =>
        obtain ⟨m, hm, rfl, rfl, hb2⟩ := hrel
        have HB2 := Lib.hid hb2
        clear hb2
        by_cases hlt : 64 * m < q
        · have hml : ((64 * m : Nat) : Int) < q := by omega
          have hds := doc_step vs t q m hlt
          have hD : (docL vs t q m).length ≤ 5000 := by
            unfold docL
            split
            · simp
            · have := outN_len vs t (min q (64 * m)); simp; omega
          have hC : (((lets vs t q).take (min q (64 * m + 64))).drop (64 * m)).length ≤ 1024 := by simp [lets_len]; omega
          obtain ⟨C, hCe⟩ : ∃ C, C = ((lets vs t q).take (min q (64 * m + 64))).drop (64 * m) := ⟨_, rfl⟩
          have hex : (bs (lets vs t q)).extract (64 * m) (min (q : Int) (64 * m + 64)).toNat = bs C := by
            rw [ByteArray.extract_mk, hCe, show (min (q : Int) (64 * m + 64)).toNat = min q (64 * m + 64) by omega, List.drop_take]
          rw [← hCe] at hds hC
          have cat1 := cat_run (docL vs t q m) C _ rfl (by omega) (by omega)
          have cat2 : ∀ w : World, (Op.stringOp .add (bs (docL vs t q m ++ C)) ⟨#[10]⟩).run Tryz.prog w = .ok (.string (bs (docL vs t q (m + 1)))) w := cat_run _ [10] _ hds (by simp; omega) (by simp)
          generalize docL vs t q m ++ C = D1 at *
          have HD2 := Lib.hid hD
          clear hCe hds hD hC
          go_wp2
          go_roundw
          case rel => exact ⟨m + 1, by omega, rfl, by go_num, HB2.out⟩
          case measure => simp [intOf]; omega
        · have HE := Lib.hid (doc_end vs t q m (by omega) (by omega))
          go_wp2
          go_ret
          exact ⟨by rw [HE.out]; rfl, (BW.out.trans (HB.out.mono BW.out.size)).trans (HB2.out.mono (BW.out.trans (HB.out.mono BW.out.size)).size)⟩
end
set_option maxRecDepth 100000 in
theorem rmap_none (t p s : Int) (sa : Option Addr) (m c : Nat) (w : World)
    (HC : ∀ W, Below w.heap.size w W → Calls Tryz.prog 6 #[.agg #[.int .i64 t, .int .i64 p, .int .i64 s], .slice sa m c] W fun e W' => e = .returned (.bool false) ∧ Below W.heap.size W W') :
    Calls Tryz.prog 8 #[.agg #[.int .i64 t, .int .i64 p, .int .i64 s], .slice sa m c] w fun e w' => e = .returned (.string (bs [])) ∧ Below w.heap.size w w' := by
  have H := Lib.hid HC
  clear HC
  go_enter Tryz.func8, Tryz.ntmps8
  go_wp2_with fail
  refine (H.out _ ((Below.refl _ _).alloc (Nat.le_refl _) _)).mono ?_
  rintro e w1 ⟨rfl, r1⟩
  go_wp2
  go_ret
  exact ⟨rfl, ((Below.refl _ _).alloc (Nat.le_refl _) _).trans (r1.mono (by simp))⟩
end Go.Proofs.YtkhanbedcmmlcaaGreatDoor
