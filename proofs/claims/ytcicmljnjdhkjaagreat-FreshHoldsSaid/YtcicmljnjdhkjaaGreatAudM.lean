/- the document's audit: the parts of a slab. -/
import Derived.Test.YtcicmljnjdhkjaaGreatAudL
namespace Go.Proofs.YtcicmljnjdhkjaaGreat
open Go.RowKit

theorem infoPart : (Tryz.prog.info? 82).map (fun i => (i.zero, i.size, i.bytes)) = some (some (.agg #[.int .i64 0, .int .i64 0, .int .i64 0]), 3, 24) := by kernel_rfl
def partCells (l : List (Int × Int × Int)) : List Value := l.flatMap fun x => [.int .i64 x.1, .int .i64 x.2.1, .int .i64 x.2.2]
theorem partCells_len (l : List (Int × Int × Int)) : (partCells l).length = l.length * 3 := by
  induction l with
  | nil => rfl
  | cons y ys ih => unfold partCells at ih ⊢; simp [ih]; omega
theorem partCells_app (l m : List (Int × Int × Int)) : partCells (l ++ m) = partCells l ++ partCells m := by simp [partCells]
theorem cell_three_new (w : World) (u1 u2 u3 : Value) (T : TypeId) : ∀ (j : Nat) (x : Value), [u1, u2, u3][j]? = some x → (w.alloc (.cells #[u1, u2, u3] T)).cell? ((⟨w.heap.size, 0, none⟩ : Addr).add j) = some x := by
  intro j x hj
  rcases j with _ | _ | _ | j
  · simp at hj; subst hj; exact cell?_of_heap (o := 0) (heap_alloc_new w (.cells #[u1, u2, u3] T))
  · simp at hj; subst hj; exact cell?_of_heap (o := 1) (heap_alloc_new w (.cells #[u1, u2, u3] T))
  · simp at hj; subst hj; exact cell?_of_heap (o := 2) (heap_alloc_new w (.cells #[u1, u2, u3] T))
  · simp at hj

/-- a new row of parts comes back. -/
def RowQ (w : World) (l : List (Int × Int × Int)) (v : Value) (w' : World) : Prop :=
  w'.ownsRow 0 82 3 v l.length (partCells l) ∧ (∀ k, v.ownBlock = some k → w.heap.size ≤ k) ∧ Below w.heap.size w w'

def kindF (x y : Bool) : Int := if x then 2 else if y then 4 else 3
def slabL (vs : List Int) (t s q k : Int) : Nat → List (Int × Int × Int)
  | 0 => []
  | b + 1 => slabL vs t s q k b ++ [(kindF (bitB (gv vs t q 4) b) (bitB (gv vs t q 5) b), addrF s q ((b : Int) * sizeF s k), sizeF s k)]
theorem slabL_len (vs : List Int) (t s q k : Int) (b : Nat) : (slabL vs t s q k b).length = b := by
  induction b with
  | zero => rfl
  | succ b ih => simp [slabL, ih]
def restF (s k : Int) : Int := pageF s - sizeF s k * slotsF k
def slabF (vs : List Int) (t s q k : Int) : List (Int × Int × Int) :=
  slabL vs t s q k (slotsF k).toNat ++ if 0 < restF s k then [(5, addrF s q (pageF s - restF s k), restF s k)] else []
theorem slabF_len (vs : List Int) (t s q k : Int) : (slabF vs t s q k).length ≤ 33 := by
  have := slots_bd k
  unfold slabF
  rw [List.length_append, slabL_len]
  split <;> simp <;> omega

section
variable {t p s : Int} {ad : Addr} {n c : Nat} {vs : List Int}

structure SlRel (w : World) (vs : List Int) (t p s q k : Int) (ad : Addr) (n c : Nat) (v7 v9 : Value) (wr : World) (b : Nat) : Prop where
  hb : v9 = .int .i64 b
  le : (b : Int) ≤ slotsF k
  row : wr.ownsRow 0 82 3 v7 b (partCells (slabL vs t s q k b))
  bs : BS w (w.heap.size :: v7.ownBlock.toList) wr
  xb : XB w t p s ad n c vs wr
  far : ∀ k, v7.ownBlock = some k → w.heap.size < k
def SlRelE (w : World) (vs : List Int) (t p s q k : Int) (ad : Addr) (n c : Nat) (v7 v9 : Value) (wr : World) : Prop := ∃ b, SlRel w vs t p s q k ad n c v7 v9 wr b

/-- behind an append to a row that is none of X's box. -/
theorem XB.grown {w W W' : World} {ob : Obj} {row : Option Nat} (h0 : XV w t p s ad n vs) (h : XB w t p s ad n c vs W) (hS : BS w (w.heap.size :: row.toList) W) (hg : (W.alloc ob).grownBy W' row) (hr : ∀ k, row = some k → w.heap.size < k) : XB w t p s ad n c vs W' := by
  have hb : Below w.heap.size w W' := (hS.bel.alloc hS.bel.size ob).grown hg (by simp; exact Nat.le_succ_of_le hS.bel.size) (fun k hk => (hS.ls k (by simp [hk])).2)
  refine ⟨hb, loc_grown hg (by have := h.lt; simp; omega) (fun e => by have := hr _ e; omega) (loc_old _ h.lt h.box), Nat.lt_of_lt_of_le h.lt ?_, h0.keep hb⟩
  have := hg.size; simp at this; omega

set_option maxHeartbeats 4000000 in
set_option maxRecDepth 100000 in
theorem slab_any (q k : Int) (c : Nat) (w : World) (h : XV w t p s ad n vs) (h0 : 0 ≤ q) (h1 : q < p) (hk0 : 0 ≤ k) (hk8 : k ≤ 8) :
    Calls Tryz.prog 151 #[.agg #[.int .i64 t, .int .i64 p, .int .i64 s, .slice (some ad) n c], .int .i64 q, .int .i64 k] w fun e w' => ∃ v, e = .returned v ∧ RowQ w (slabF vs t s q k) v w' := by
  have X0 := (h.boxed c).alloc (.cells #[] 82)
  have r0 := row_empty (w.alloc (.cells #[.int .i64 t, .int .i64 p, .int .i64 s, .slice (some ad) n c] 89)) 82 3
  have hS0 := ((BS.start w).alloc (.cells #[.int .i64 t, .int .i64 p, .int .i64 s, .slice (some ad) n c] 89)).alloc (.cells #[] 82)
  simp only [World.size_alloc] at hS0 r0
  have bd := h.bd
  have hr := h.right
  have hb1 := slots_bd k
  obtain ⟨z1, z2, z3, z4, z5⟩ := size_bd (s := s) (k := k) (by omega)
  have hp := pageF_bd (s := s) (by omega)
  have HZ := Lib.hid (fun w => rsize_any s k w (by omega))
  have HK := Lib.hid (fun w => rkslots_any k w)
  have HP := Lib.hid (fun w => rpagesz_any t p s w hr)
  have HAt := Lib.hid (fun (b : Int) w (h2 : 0 ≤ b) (h3 : b < slotsF k) => rat_any t p s k q b w hr h0 h1 h2 h3)
  have HOf := Lib.hid (fun (off : Int) w (h2 : 0 ≤ off) (h3 : off < pageF s) => rof_any t p s q off w hr h0 h1 h2 h3)
  have HT := Lib.hid (fun (w : World) (h : XV w t p s ad n vs) => xtaken_any q c w h h0 h1)
  have HSl := Lib.hid (fun (w : World) (h : XV w t p s ad n vs) => xslots_any q c w h h0 h1)
  have g4 := (h.gu q 4).1
  have g5 := (h.gu q 5).1
  have HB4 := Lib.hid (fun (b : Nat) w (h : b < 32) => rbit_any (gv vs t q 4) b w h g4)
  have HB5 := Lib.hid (fun (b : Nat) w (h : b < 32) => rbit_any (gv vs t q 5) b w h g5)
  have hsl : ∀ b : Nat, slabL vs t s q k (b + 1) = slabL vs t s q k b ++ [(kindF (bitB (gv vs t q 4) b) (bitB (gv vs t q 5) b), addrF s q ((b : Int) * sizeF s k), sizeF s k)] := fun _ => rfl
  have HSL := Lib.hid hsl
  have hslab : slabF vs t s q k = slabL vs t s q k (slotsF k).toNat ++ if 0 < pageF s - sizeF s k * slotsF k then [(5, addrF s q (sizeF s k * slotsF k), pageF s - sizeF s k * slotsF k)] else [] := by
    have e : pageF s - restF s k = sizeF s k * slotsF k := by unfold restF; omega
    unfold slabF
    rw [e]
    rfl
  have HSlab := Lib.hid hslab
  have H0 := Lib.hid h
  obtain ⟨i0, hi0, hi1, hi2, hi3⟩ := info_parts infoPart
  have HI := Lib.hid (And.intro hi0 (And.intro hi1 (And.intro hi2 hi3)))
  have hq1 : q ≤ 64 := by omega
  have hn := slabF_len vs t s q k
  generalize slabF vs t s q k = res at *
  have hk1 : (slotsF k ≠ 0) := by
    rcases (by omega : k = 0 ∨ k = 1 ∨ k = 2 ∨ k = 3 ∨ k = 4 ∨ k = 5 ∨ k = 6 ∨ k = 7 ∨ k = 8) with rfl | rfl | rfl | rfl | rfl | rfl | rfl | rfl | rfl <;> decide
  have z4b := z4 hk1
  clear hi0 hi1 hi2 hi3 h hsl hslab hr z5 g4 g5 bd hk0 hk8 z4
  go_enter Tryz.func151, Tryz.ntmps151
  obtain ⟨X00, X01, X02, X03⟩ := X0.cells
  have X0z := X0.lt
  go_wp2_with fail
  refine (HZ.out _).mono ?_
  rintro e w1 ⟨rfl, hb2⟩
  have X1 := X0.keep hb2
  obtain ⟨X10, X11, X12, X13⟩ := X1.cells
  have X1z := X1.lt
  have r1 := (BS.start _).below hb2 |>.row r0
  have hS1 := hS0.below hb2
  clear hb2 r0 hS0 X0 X00 X01 X02 X03 X0z
  go_wp2_with fail
  go_loopw [7, 9, 10, 11, 12] (fun v7 v9 _ _ _ wr => SlRelE w vs t p s q k ad n c v7 v9 wr) (fun _ v9 _ _ _ _ => 33 - (intOf v9).toNat)
  case atStart => exact ⟨0, rfl, by omega, r1, hS1.sub _ (by simp [Value.ownBlock]), X1, by simp [Value.ownBlock]⟩
  case round =>
    obtain ⟨b, rfl, hle, hrow, hbs, hxb, hfar⟩ := hrel
    have hlen : ∃ a c, u7 = .slice a b c := by
      rcases hrow.2 with ⟨h5, h6⟩ | ⟨g', cap', cur, h5, -⟩
      · exact ⟨_, _, by rw [h5, h6]⟩
      · exact ⟨_, _, h5⟩
    obtain ⟨pa, pc, rfl⟩ := hlen
    have HB := Lib.hid hbs
    have HF := Lib.hid hfar
    have HRow := Lib.hid hrow
    clear r1 hS1 X1 X10 X11 X12 X13 X1z hbs hfar hrow
    obtain ⟨x0, x1, x2, x3⟩ := hxb.cells
    have xz := hxb.lt
    by_cases hlt : (b : Int) < slotsF k
    · have hb32 : b < 32 := by omega
      have hsb := HSL.out b
      have HA2 := Lib.hid (fun w => HAt.out b w (by omega) hlt)
      have HC4 := Lib.hid (fun w => HB4.out b w hb32)
      have HC5 := Lib.hid (fun w => HB5.out b w hb32)
      have HSB := Lib.hid hsb
      clear hsb HAt HB4 HB5 HOf
      generalize addrF s q ((b : Int) * sizeF s k) = ar at *
      generalize bitB (gv vs t q 4) b = x at *
      generalize bitB (gv vs t q 5) b = y at *
      generalize sizeF s k = z at *
      generalize hslk : slotsF k = sl at *
      have HSLK := Lib.hid hslk
      clear hslk
      generalize pageF s = pg at *
      go_wp2_with fail
      refine (HK.out _).mono ?_
      rintro e w2 ⟨rfl, hb2⟩
      have X2 := hxb.keep hb2
      obtain ⟨X20, X21, X22, X23⟩ := X2.cells
      have X2z := X2.lt
      go_wp2_with fail
      refine (HA2.out _).mono ?_
      rintro e w3 ⟨rfl, hb3⟩
      have X3 := X2.keep hb3
      obtain ⟨X30, X31, X32, X33⟩ := X3.cells
      have X3z := X3.lt
      go_wp2_with fail
      refine (HT.out _ X3.xv).mono ?_
      rintro e w4 ⟨rfl, hb4⟩
      have X4 := X3.keep hb4
      obtain ⟨X40, X41, X42, X43⟩ := X4.cells
      have X4z := X4.lt
      go_wp2_with fail
      refine (HC5.out _).mono ?_
      rintro e w5 ⟨rfl, hb5⟩
      have X5 := X4.keep hb5
      obtain ⟨X50, X51, X52, X53⟩ := X5.cells
      have X5z := X5.lt
      cases y <;> cases x
      all_goals
        go_wp2_with fail
        refine (HSl.out _ X5.xv).mono ?_
        rintro e w6 ⟨rfl, hb6⟩
        have X6 := X5.keep hb6
        obtain ⟨X60, X61, X62, X63⟩ := X6.cells
        have X6z := X6.lt
        go_wp2_with fail
        refine (HC4.out _).mono ?_
        rintro e w7 ⟨rfl, hb7⟩
        have X7 := X6.keep hb7
        obtain ⟨X70, X71, X72, X73⟩ := X7.cells
        have X7z := X7.lt
        have S7 := ((((((BS.start wr).below hb2).below hb3).below hb4).below hb5).below hb6).below hb7
        have R7 := S7.row HRow.out
        have B7 := HB.out.below S7.bel
        clear hb2 hb3 hb4 hb5 hb6 hb7
        go_wp2_with (at_builtin; go_must (refine wpL_append rfl _ _ rfl 82 i0 (.agg #[.int .i64 0, .int .i64 0, .int .i64 0]) 3 24 Tryz.underlying44 HI.out.1 HI.out.2.1 HI.out.2.2.1 HI.out.2.2.2 rfl (by decide) (.slice pa b pc) b (partCells (slabL vs t s q k b)) rfl (R7.alloc _) ⟨w7.heap.size, 0, none⟩ 1 1 [_, .int .i64 ar, .int .i64 z] rfl rfl (cell_three_new _ _ _ _ _) ?c1 ?c2 ?c3 ?_); go_must (case c1 => (simp [Value.oneCell'])); go_must (case c2 => (unfold maxLen; omega)); go_must (case c3 => (omega)); go_must (intro v' w8 hown8 hg8 hnew8 hnil8); clear hnil8; go_must (obtain ⟨g', cap', rfl⟩ := Joins.ownsRow_form hown8 (by omega)))
        go_roundw
        case rel =>
          refine ⟨b + 1, by go_num, by have := HSLK.out; omega, ?_, B7.append hg8 hnew8 hown8, X7.grown H0.out B7 hg8 HF.out, ?_⟩
          · rw [HSB.out, partCells_app]; exact hown8
          · exact fun k hk => (hnew8 k hk).elim (HF.out k) (fun h => by have := X7.lt; simp at h; omega)
        case measure => simp [intOf]; omega
    · have hbe : (slotsF k).toNat = b := by omega
      have HO2 := Lib.hid (fun w h2 h3 => HOf.out (sizeF s k * slotsF k) w h2 h3)
      clear HAt HB4 HB5 HOf HSL HZ HT HSl
      rw [hbe] at HSlab
      have hLn : (slabL vs t s q k b).length = b := slabL_len _ _ _ _ _ _
      generalize slabL vs t s q k b = L at *
      generalize addrF s q (sizeF s k * slotsF k) = ar at *
      have hm0 : 0 ≤ sizeF s k * slotsF k := Int.mul_nonneg (by omega) (by omega)
      have hb32 : b ≤ 32 := by omega
      generalize sizeF s k = z at *
      generalize slotsF k = sl at *
      generalize pageF s = pg at *
      clear hbe
      have hm1 : IntKind.i64.wrap (z * sl) = z * sl := wrap_in _ (by omega)
      have hm2 : IntKind.i64.wrap (pg - z * sl) = pg - z * sl := wrap_in _ (by omega)
      go_wp2_with fail
      refine (HK.out _).mono ?_
      rintro e w2 ⟨rfl, hb2⟩
      have X2 := hxb.keep hb2
      obtain ⟨X20, X21, X22, X23⟩ := X2.cells
      have X2z := X2.lt
      go_wp2_with fail
      refine (HP.out _).mono ?_
      rintro e w3 ⟨rfl, hb3⟩
      have X3 := X2.keep hb3
      obtain ⟨X30, X31, X32, X33⟩ := X3.cells
      have X3z := X3.lt
      go_wp2_with fail
      refine (HK.out _).mono ?_
      rintro e w4 ⟨rfl, hb4⟩
      have X4 := X3.keep hb4
      obtain ⟨X40, X41, X42, X43⟩ := X4.cells
      have X4z := X4.lt
      have S4 := (((BS.start wr).below hb2).below hb3).below hb4
      have R4 := S4.row HRow.out
      have B4 := HB.out.below S4.bel
      clear hb2 hb3 hb4
      by_cases hrest : 0 < pg - z * sl
      · have hsl2 := HSlab.out
        rw [if_pos hrest] at hsl2
        have HRes := Lib.hid hsl2
        have HBox := Lib.hid X4.box
        have HR4 := Lib.hid R4
        clear hsl2 HSlab
        have HO3 := Lib.hid (fun w => HO2.out w (by omega) (by omega))
        have hsub : pg - (pg - z * sl) = z * sl := by omega
        go_wp2_with fail
        refine wp_region_noPanic ?_
        refine wp_region_held_drew (S := fun w' => BS w4 ([] : List Nat) w' ∧ (∀ o : Nat, w'.cell? ⟨w.heap.size, o, none⟩ = (#[.int .i64 t, .int .i64 p, .int .i64 s, .slice (some ad) n c] : Array Value)[o]?)) (by kernel_rfl) ?_ (fun hHeld => ?_)
        · exact ⟨(BS.start w4).drew, HBox.out⟩
        refine wpAnyH_take (i := 0) (oi := _) (v := ?_) rfl (by kernel_rfl) (by kernel_rfl) (by kernel_rfl) (fun _ _ _ h => h) (Or.inl ⟨by rfl, ?_⟩) (by assumption) ?_
        rotate_left
        · intro w hSw; (try dsimp only at hSw); go_simp; try with_reducible rfl
        try simp only [Act.put, List.getElem_toArray, List.getElem_cons_zero, List.setIfInBounds_toArray, List.set_cons_zero, List.set_cons_succ]
        refine wpAnyH_take (i := 1) (oi := _) (v := ?_) rfl (by kernel_rfl) (by kernel_rfl) (by kernel_rfl) (fun _ _ _ h => h) (Or.inl ⟨by rfl, ?_⟩) (by assumption) ?_
        rotate_left
        · intro w hSw; (try dsimp only at hSw); go_simp; try with_reducible rfl
        try simp only [Act.put, List.getElem_toArray, List.getElem_cons_zero, List.getElem_cons_succ, List.setIfInBounds_toArray, List.set_cons_zero, List.set_cons_succ]
        refine wpAnyH_take (i := 2) (oi := _) (v := ?_) rfl (by kernel_rfl) (by kernel_rfl) (by kernel_rfl) (fun _ _ _ h => h) (Or.inl ⟨by rfl, ?_⟩) (by assumption) ?_
        rotate_left
        · intro w hSw; (try dsimp only at hSw); go_simp; try with_reducible rfl
        try simp only [Act.put, List.getElem_toArray, List.getElem_cons_zero, List.getElem_cons_succ, List.setIfInBounds_toArray, List.set_cons_zero, List.set_cons_succ]
        refine wpAnyH_take (i := 3) (oi := _) (v := ?_) rfl (by kernel_rfl) (by kernel_rfl) (by kernel_rfl) (fun _ _ _ h => h) (Or.inl ⟨by rfl, ?_⟩) (by assumption) ?_
        rotate_left
        · intro w hSw; (try dsimp only at hSw); go_simp; try with_reducible rfl
        try simp only [Act.put, List.getElem_toArray, List.getElem_cons_zero, List.getElem_cons_succ, List.setIfInBounds_toArray, List.set_cons_zero, List.set_cons_succ]
        refine wpAnyH_take (i := 4) (oi := _) (v := ?_) rfl (by kernel_rfl) (by kernel_rfl) (by kernel_rfl) (fun _ _ _ h => h) (Or.inl ⟨by rfl, ?_⟩) (by assumption) ?_
        rotate_left
        · intro w hSw; (try dsimp only at hSw); go_simp; try with_reducible rfl
        try simp only [Act.put, List.getElem_toArray, List.getElem_cons_zero, List.getElem_cons_succ, List.setIfInBounds_toArray, List.set_cons_zero, List.set_cons_succ]
        refine wpAnyH_take (i := 6) (oi := _) (v := ?_) rfl (by kernel_rfl) (by kernel_rfl) (by kernel_rfl) (fun _ _ _ h => h) (Or.inl ⟨by rfl, ?_⟩) (by assumption) ?_
        rotate_left
        · intro w hSw; (try dsimp only at hSw); go_simp; try with_reducible rfl
        try simp only [Act.put, List.getElem_toArray, List.getElem_cons_zero, List.getElem_cons_succ, List.setIfInBounds_toArray, List.set_cons_zero, List.set_cons_succ]
        refine wpAnyH_ready (rs := [5]) (by kernel_rfl) (by simp) ?_
        refine AllReadyH.cons (o := _) rfl (fun K hK => ?_) AllReadyH.nil
        go_simp
        refine (calls_b hHeld.1 (HP.out _)).mono ?_
        rintro e wr1 ⟨rfl, hV, hVl⟩
        dsimp only
        refine hK.out _ _ ?_ (fun hHeld2 => ?_)
        · exact ⟨hV, hV.oldbox HBox.out X4z⟩
        clear hK K hV hVl hHeld
        have hHeld := hHeld2
        clear hHeld2
        try simp only [Act.put, List.getElem_toArray, List.getElem_cons_zero, List.getElem_cons_succ, List.setIfInBounds_toArray, List.set_cons_zero, List.set_cons_succ]
        refine wpAnyH_take (i := 7) (oi := _) (v := ?_) rfl (by kernel_rfl) (by kernel_rfl) (by kernel_rfl) (fun _ _ _ h => h) (Or.inl ⟨by rfl, ?_⟩) (by assumption) ?_
        rotate_left
        · intro w hSw; (try dsimp only at hSw); go_simp; try with_reducible rfl
        try simp only [Act.put, List.getElem_toArray, List.getElem_cons_zero, List.getElem_cons_succ, List.setIfInBounds_toArray, List.set_cons_zero, List.set_cons_succ]
        refine wpAnyH_ready (rs := [8]) (by kernel_rfl) (by simp) ?_
        refine AllReadyH.cons (o := _) rfl (fun K hK => ?_) AllReadyH.nil
        go_simp
        refine (calls_b hHeld.1 (HO3.out _)).mono ?_
        rintro e wr2 ⟨rfl, hV, hVl⟩
        dsimp only
        refine hK.out _ _ ?_ (fun hHeld2 => ?_)
        · exact ⟨hV, hV.oldbox HBox.out X4z⟩
        clear hK K hV hVl hHeld
        have hHeld := hHeld2
        clear hHeld2
        try simp only [Act.put, List.getElem_toArray, List.getElem_cons_zero, List.getElem_cons_succ, List.setIfInBounds_toArray, List.set_cons_zero, List.set_cons_succ]
        refine wpAnyH_take (i := 9) (oi := _) (v := ?_) rfl (by kernel_rfl) (by kernel_rfl) (by kernel_rfl) (fun _ _ _ h => h) (Or.inl ⟨by rfl, ?_⟩) (by assumption) ?_
        rotate_left
        · intro w hSw; (try dsimp only at hSw); go_simp; try with_reducible rfl
        try simp only [Act.put, List.getElem_toArray, List.getElem_cons_zero, List.getElem_cons_succ, List.setIfInBounds_toArray, List.set_cons_zero, List.set_cons_succ]
        refine wpAnyH_take (i := 10) (oi := _) (v := ?_) rfl (by kernel_rfl) (by kernel_rfl) (by kernel_rfl) (fun _ _ _ h => h) (Or.inl ⟨by rfl, ?_⟩) (by assumption) ?_
        rotate_left
        · intro w hSw; (try dsimp only at hSw); go_simp; try with_reducible rfl
        try simp only [Act.put, List.getElem_toArray, List.getElem_cons_zero, List.getElem_cons_succ, List.setIfInBounds_toArray, List.set_cons_zero, List.set_cons_succ]
        refine wpAnyH_take (i := 11) (oi := _) (v := ?_) rfl (by kernel_rfl) (by kernel_rfl) (by kernel_rfl) (fun _ _ _ h => h) (Or.inl ⟨by rfl, ?_⟩) (by assumption) ?_
        rotate_left
        · intro w hSw; (try dsimp only at hSw); go_simp; try with_reducible rfl
        try simp only [Act.put, List.getElem_toArray, List.getElem_cons_zero, List.getElem_cons_succ, List.setIfInBounds_toArray, List.set_cons_zero, List.set_cons_succ]
        refine wpAnyH_take (i := 12) (oi := _) (v := ?_) rfl (by kernel_rfl) (by kernel_rfl) (by kernel_rfl) (fun _ _ _ h => h) (Or.inl ⟨by rfl, ?_⟩) (by assumption) ?_
        rotate_left
        · intro w hSw; (try dsimp only at hSw); go_simp; try with_reducible rfl
        try simp only [Act.put, List.getElem_toArray, List.getElem_cons_zero, List.getElem_cons_succ, List.setIfInBounds_toArray, List.set_cons_zero, List.set_cons_succ]
        refine wpAnyH_take (i := 13) (oi := _) (v := ?_) rfl (by kernel_rfl) (by kernel_rfl) (by kernel_rfl) (fun _ _ _ h => h) (Or.inl ⟨by rfl, ?_⟩) (by assumption) ?_
        rotate_left
        · intro w hSw; (try dsimp only at hSw); go_simp; try with_reducible rfl
        try simp only [Act.put, List.getElem_toArray, List.getElem_cons_zero, List.getElem_cons_succ, List.setIfInBounds_toArray, List.set_cons_zero, List.set_cons_succ]
        refine wpAnyH_done (by kernel_rfl) ?_ _
        refine NoPanic.normal ?_
        refine world_gen ?_
        intro wz hwz
        rw [← hwz] at hHeld
        clear hwz
        have R5 := hHeld.1.row HR4.out
        have B5 := B4.below hHeld.1.bel
        have hzz := B5.bel.size
        clear hHeld
        go_wp2_with (at_builtin; go_must (refine wpL_append rfl _ _ rfl 82 i0 (.agg #[.int .i64 0, .int .i64 0, .int .i64 0]) 3 24 Tryz.underlying44 HI.out.1 HI.out.2.1 HI.out.2.2.1 HI.out.2.2.2 rfl (by decide) (.slice pa b pc) b (partCells L) rfl (R5.alloc _) ⟨wz.heap.size, 0, none⟩ 1 1 [.int .i64 5, .int .i64 ar, .int .i64 (pg - z * sl)] rfl rfl (cell_three_new _ _ _ _ _) ?c1 ?c2 ?c3 ?_); go_must (case c1 => (simp [Value.oneCell'])); go_must (case c2 => (unfold maxLen; omega)); go_must (case c3 => (omega)); go_must (intro v' w8 hown8 hg8 hnew8 hnil8); clear hnil8; go_must (obtain ⟨g', cap', rfl⟩ := Joins.ownsRow_form hown8 (by omega)))
        go_ret
        have B8 := B5.append hg8 hnew8 hown8
        refine ⟨_, rfl, ?_, fun k hk => ?_, B8.bel⟩
        · rw [HRes.out, partCells_app, List.length_append, hLn]
          exact hown8
        · exact Nat.le_of_lt ((hnew8 k hk).elim (HF.out k) (fun h => by have := X4.lt; simp at h; omega))
      · have hsl2 := HSlab.out
        rw [if_neg hrest] at hsl2
        have HRes := Lib.hid hsl2
        clear hsl2 HSlab
        go_wp2
        go_ret
        refine ⟨_, rfl, ?_, fun k hk => Nat.le_of_lt (HF.out k hk), B4.bel⟩
        rw [HRes.out, List.append_nil, hLn]
        exact R4
end
end Go.Proofs.YtcicmljnjdhkjaaGreat
