/- the document's audit: the parts of a heap. -/
import Derived.Test.YtcicmljnjdhkjaaGreatAudM
namespace Go.Proofs.YtcicmljnjdhkjaaGreat
open Go.RowKit
section
variable {t p s : Int} {ad : Addr} {n c : Nat} {vs : List Int}

def partQ (vs : List Int) (t s : Int) (q : Nat) : List (Int × Int × Int) :=
  if iK (gv vs t q 0) = 1 ∨ iK (gv vs t q 0) = 2 then [(iK (gv vs t q 0), addrF s q 0, iL (gv vs t q 0) * pageF s)]
  else if iK (gv vs t q 0) = 3 then slabF vs t s q (iC (gv vs t q 0)) else []
def partsL (vs : List Int) (t s : Int) : Nat → List (Int × Int × Int)
  | 0 => []
  | q + 1 => partsL vs t s q ++ partQ vs t s q
def partsF (vs : List Int) (t p s : Int) : List (Int × Int × Int) := partsL vs t s p.toNat
theorem partQ_len (vs : List Int) (t s : Int) (q : Nat) : (partQ vs t s q).length ≤ 33 := by
  unfold partQ
  split
  · simp
  · split
    · exact slabF_len _ _ _ _ _
    · simp
theorem partsL_len (vs : List Int) (t s : Int) (q : Nat) : (partsL vs t s q).length ≤ 33 * q := by
  induction q with
  | zero => simp [partsL]
  | succ q ih =>
    have := partQ_len vs t s q
    simp only [partsL, List.length_append]
    omega
theorem slabF_pos (vs : List Int) (t s q k : Int) (h0 : 0 ≤ k) (h8 : k ≤ 8) : 0 < (slabF vs t s q k).length := by
  have hk1 : 0 < slotsF k := by
    rcases (by omega : k = 0 ∨ k = 1 ∨ k = 2 ∨ k = 3 ∨ k = 4 ∨ k = 5 ∨ k = 6 ∨ k = 7 ∨ k = 8) with rfl | rfl | rfl | rfl | rfl | rfl | rfl | rfl | rfl <;> decide
  unfold slabF
  rw [List.length_append, slabL_len]
  omega

theorem BS.tail {w0 w : World} {L : Nat} {Ls : List Nat} (h : BS w0 (L :: Ls) w) : BS w0 Ls w := h.sub _ fun _ hL => List.mem_cons_of_mem _ hL
theorem mem_new {W w5 : World} {A B : Nat} {v v' : Value} {e sz m : Nat} {xs : List Value} (hnew : ∀ k, v'.ownBlock = some k → v.ownBlock = some k ∨ W.heap.size ≤ k) (hown : w5.ownsRow 0 e sz v' m xs) :
    ∀ L ∈ A :: v'.ownBlock.toList, L ∈ A :: B :: v.ownBlock.toList ∨ (W.heap.size ≤ L ∧ L < w5.heap.size) := by
  intro L hL
  simp at hL
  rcases hL with rfl | h
  · exact Or.inl (by simp)
  · rcases hnew L h with h1 | h1
    · exact Or.inl (by simp [h1])
    · exact Or.inr ⟨h1, ownsRow_lt hown h⟩
theorem mem_new3 {W w5 : World} {A B : Nat} {v v' : Value} {e sz m : Nat} {xs : List Value} (hnew : ∀ k, v'.ownBlock = some k → v.ownBlock = some k ∨ W.heap.size ≤ k) (hown : w5.ownsRow 0 e sz v' m xs) :
    ∀ L ∈ A :: v'.ownBlock.toList, L ∈ B :: A :: v.ownBlock.toList ∨ (W.heap.size ≤ L ∧ L < w5.heap.size) := by
  intro L hL
  simp at hL
  rcases hL with rfl | h
  · exact Or.inl (by simp)
  · rcases hnew L h with h1 | h1
    · exact Or.inl (by simp [h1])
    · exact Or.inr ⟨h1, ownsRow_lt hown h⟩

structure PaRel (w : World) (vs : List Int) (t p s : Int) (ad : Addr) (n c : Nat) (v3 v4 : Value) (wr : World) (q : Nat) : Prop where
  hq : v4 = .int .i64 q
  le : (q : Int) ≤ p
  row : wr.ownsRow 0 82 3 v3 (partsL vs t s q).length (partCells (partsL vs t s q))
  bs : BS w (w.heap.size :: v3.ownBlock.toList) wr
  xb : XB w t p s ad n c vs wr
  far : ∀ k, v3.ownBlock = some k → w.heap.size < k
def PaRelE (w : World) (vs : List Int) (t p s : Int) (ad : Addr) (n c : Nat) (v3 v4 : Value) (wr : World) : Prop := ∃ q, PaRel w vs t p s ad n c v3 v4 wr q

set_option maxHeartbeats 4000000 in
set_option maxRecDepth 100000 in
theorem parts_any (c : Nat) (w : World) (h : XV w t p s ad n vs) :
    Calls Tryz.prog 69 #[.agg #[.int .i64 t, .int .i64 p, .int .i64 s, .slice (some ad) n c]] w fun e w' => ∃ v, e = .returned v ∧ RowQ w (partsF vs t p s) v w' := by
  have X0 := (h.boxed c).alloc (.cells #[] 82)
  have r0 := row_empty (w.alloc (.cells #[.int .i64 t, .int .i64 p, .int .i64 s, .slice (some ad) n c] 89)) 82 3
  have hS0 := ((BS.start w).alloc (.cells #[.int .i64 t, .int .i64 p, .int .i64 s, .slice (some ad) n c] 89)).alloc (.cells #[] 82)
  simp only [World.size_alloc] at hS0 r0
  have bd : 4 ≤ p ∧ p ≤ 64 := by have := h.bd; omega
  have hr := h.right
  have hp := pageF_bd (s := s) (by have := h.bd; omega)
  have hp0 : 0 < pageF s := by omega
  have HP := Lib.hid (fun w => rpagesz_any t p s w hr)
  have HOf := Lib.hid (fun (q : Int) w (h0 : 0 ≤ q) (h1 : q < p) => rof_any t p s q 0 w hr h0 h1 (Int.le_refl 0) hp0)
  have HIn := Lib.hid (fun (q : Int) (w : World) (h : XV w t p s ad n vs) (h0 : 0 ≤ q) (h1 : q < p) => xinfo_any q c w h h0 h1)
  have HSb := Lib.hid (fun (q k : Int) (w : World) (h : XV w t p s ad n vs) (h0 : 0 ≤ q) (h1 : q < p) (h2 : 0 ≤ k) (h3 : k ≤ 8) => slab_any q k c w h h0 h1 h2 h3)
  have H0 := Lib.hid h
  obtain ⟨i0, hi0, hi1, hi2, hi3⟩ := info_parts infoPart
  have HI := Lib.hid (And.intro hi0 (And.intro hi1 (And.intro hi2 hi3)))
  generalize hF : partsF vs t p s = F
  have HF0 := Lib.hid hF
  clear hi0 hi1 hi2 hi3 h hr hp0 hF
  go_enter Tryz.func69, Tryz.ntmps69
  go_wp2_with fail
  go_loopw [3, 4, 5, 6, 7] (fun v3 v4 _ _ _ wr => PaRelE w vs t p s ad n c v3 v4 wr) (fun _ v4 _ _ _ _ => 64 - (intOf v4).toNat)
  case atStart => exact ⟨0, rfl, by omega, r0, hS0.sub _ (by simp [Value.ownBlock]), X0, by simp [Value.ownBlock]⟩
  case round =>
    obtain ⟨q, rfl, hle, hrow, hbs, hxb, hfar⟩ := hrel
    have hll := partsL_len vs t s q
    have hls : partsL vs t s (q + 1) = partsL vs t s q ++ partQ vs t s q := rfl
    generalize hL : partsL vs t s q = L at *
    have hlen : ∃ a c, u3 = .slice a L.length c := by
      rcases hrow.2 with ⟨h5, h6⟩ | ⟨g', cap', cur, h5, -⟩
      · exact ⟨_, _, by rw [h5, h6]⟩
      · exact ⟨_, _, h5⟩
    obtain ⟨pa, pc, rfl⟩ := hlen
    have HB := Lib.hid hbs
    have HF := Lib.hid hfar
    have HRow := Lib.hid hrow
    clear r0 hS0 X0 hbs hfar hrow
    obtain ⟨x0, x1, x2, x3⟩ := hxb.cells
    have xz := hxb.lt
    by_cases hlt : (q : Int) < p
    · have I1 := Lib.hid (fun (w : World) (h : XV w t p s ad n vs) => HIn.out q w h (by omega) hlt)
      have HO := Lib.hid (fun w => HOf.out q w (by omega) hlt)
      have HSb2 := Lib.hid (fun (k : Int) (w : World) (h : XV w t p s ad n vs) (h2 : 0 ≤ k) (h3 : k ≤ 8) => HSb.out q k w h (by omega) hlt h2 h3)
      have bd9 := inf_bd (gv vs t q 0)
      obtain ⟨b1, b2, b3, b4, b5, b6, -⟩ := bd9
      have hpq : partQ vs t s q = if iK (gv vs t q 0) = 1 ∨ iK (gv vs t q 0) = 2 then [(iK (gv vs t q 0), addrF s q 0, iL (gv vs t q 0) * pageF s)] else if iK (gv vs t q 0) = 3 then slabF vs t s q (iC (gv vs t q 0)) else [] := rfl
      rw [hpq] at hls
      have hll2 : L.length ≤ 2112 := by omega
      have hsb := slabF_len vs t s q (iC (gv vs t q 0))
      have hsp := slabF_pos vs t s q (iC (gv vs t q 0)) b5 b6
      have HSb3 := Lib.hid (fun (w : World) (h : XV w t p s ad n vs) => HSb2.out (iC (gv vs t q 0)) w h b5 b6)
      clear hpq HIn HOf HSb HSb2 hll hL
      generalize slabF vs t s q (iC (gv vs t q 0)) = sb at *
      generalize iK (gv vs t q 0) = a1 at *
      generalize iL (gv vs t q 0) = a2 at *
      generalize iC (gv vs t q 0) = a3 at *
      generalize addrF s q 0 = ar at *
      generalize pageF s = pg at *
      have hm0 : 0 ≤ a2 * pg := Int.mul_nonneg (by omega) (by omega)
      have hm1 : a2 * pg ≤ 1024 * 1048576 := Int.mul_le_mul (by omega) (by omega) (by omega) (by omega)
      have hmw : IntKind.i64.wrap (a2 * pg) = a2 * pg := wrap_in _ (by omega)
      by_cases hk1 : a1 = 1
      · subst hk1
        have hls2 : partsL vs t s (q + 1) = L ++ [(1, ar, a2 * pg)] := by rw [hls]; simp
        have HLS := Lib.hid hls2
        clear hls hls2
        go_wp2_with fail
        refine (I1.out _ hxb.xv).mono ?_
        rintro e w2 ⟨rfl, hb2⟩
        have X2 := hxb.keep hb2
        obtain ⟨X20, X21, X22, X23⟩ := X2.cells
        have X2z := X2.lt
        have XI := X2.alloc (.cells #[.int .i64 1, .int .i64 a2, .int .i64 a3] 111)
        have hS2 := (HB.out.below hb2)
        have hw2 := hb2.size
        have hS3 := hS2.alloc (.cells #[.int .i64 1, .int .i64 a2, .int .i64 a3] 111)
        go_wp2_with fail
        refine (HO.out _).mono ?_
        rintro e w3 ⟨rfl, hb3⟩
        have X3 := XI.keep hb3
        obtain ⟨X30, X31, X32, X33⟩ := X3.cells
        have X3z := X3.lt
        have hS4 := hS3.below hb3
        have bI := fun o => (hb3.cell (p := ⟨w2.heap.size, o, none⟩) (by simp)).trans (loc_alloc w2 #[.int .i64 1, .int .i64 a2, .int .i64 a3] 111 o)
        have bi0 := bI 0
        have bi1 := bI 1
        have bi2 := bI 2
        simp at bi0 bi1 bi2
        have li := hb3.size
        simp only [World.size_alloc] at li
        have hRz := (((BS.start wr).below hb2).alloc (.cells #[.int .i64 1, .int .i64 a2, .int .i64 a3] 111)).below hb3
        have R4 := hRz.row HRow.out
        clear hb2 hb3 X20 X21 X22 X23 X2z x0 x1 x2 x3
        go_wp2_with fail
        refine world_gen ?_
        intro wz hwz
        have hSz : BS w (w.heap.size :: w2.heap.size :: (Value.slice pa L.length pc).ownBlock.toList) wz := by rw [hwz]; exact hS4.sub _ (fun L hL => by simp only [List.mem_cons] at hL ⊢; rcases hL with h | h | h <;> simp [h])
        have Xz : XB w t p s ad n c vs wz := by rw [hwz]; exact X3
        have bz : ∀ o : Nat, wz.cell? ⟨w2.heap.size, o, none⟩ = (#[.int .i64 1, .int .i64 a2, .int .i64 a3] : Array Value)[o]? := by rw [hwz]; exact bI
        have Rz : wz.ownsRow 0 82 3 (.slice pa L.length pc) L.length (partCells L) := by rw [hwz]; exact R4
        have HX := Lib.hid Xz.box
        have HbI := Lib.hid bz
        have HRz := Lib.hid Rz
        clear hwz bz Rz bi0 bi1 bi2 X30 X31 X32 X33 X3z bI hS2 hS3 hS4 hRz R4
        refine wp_region_noPanic ?_
        refine wp_region_held_drew (S := fun w' => BS w (w.heap.size :: w2.heap.size :: (Value.slice pa L.length pc).ownBlock.toList) w' ∧ (∀ o : Nat, w'.cell? ⟨w.heap.size, o, none⟩ = (#[.int .i64 t, .int .i64 p, .int .i64 s, .slice (some ad) n c] : Array Value)[o]?) ∧ (∀ o : Nat, w'.cell? ⟨w2.heap.size, o, none⟩ = (#[.int .i64 1, .int .i64 a2, .int .i64 a3] : Array Value)[o]?)) (by kernel_rfl) ?_ (fun hHeld => ?_)
        · exact ⟨hSz.drew, HX.out, HbI.out⟩
        refine wpAnyH_take (i := 0) (oi := _) (v := ?_) rfl (by kernel_rfl) (by kernel_rfl) (by kernel_rfl) (fun _ _ _ h => h) (Or.inl ⟨by rfl, ?_⟩) (by assumption) ?_
        rotate_left
        · intro w hSw; (try dsimp only at hSw); go_simp; try with_reducible rfl
        try simp only [Act.put, List.getElem_toArray, List.getElem_cons_zero, List.setIfInBounds_toArray, List.set_cons_zero, List.set_cons_succ]
        refine wpAnyH_take (i := 1) (oi := _) (v := ?_) rfl (by kernel_rfl) (by kernel_rfl) (by kernel_rfl) (fun _ _ _ h => h) (Or.inl ⟨by rfl, ?_⟩) (by assumption) ?_
        rotate_left
        · intro w hSw; (try dsimp only at hSw); go_simp; try with_reducible rfl
        try simp only [Act.put, List.getElem_toArray, List.getElem_cons_zero, List.getElem_cons_succ, List.setIfInBounds_toArray, List.set_cons_zero, List.set_cons_succ]
        refine wpAnyH_take (i := 2) (oi := _) (v := ?_) rfl (by kernel_rfl) (by kernel_rfl) (by kernel_rfl) (fun _ _ _ h => h) (Or.inl ⟨by rfl, ?_⟩) (by assumption) ?_
        rotate_left
        · intro w hSw; (try dsimp only at hSw); go_simp; try with_reducible rfl
        try simp only [Act.put, List.getElem_toArray, List.getElem_cons_zero, List.getElem_cons_succ, List.setIfInBounds_toArray, List.set_cons_zero, List.set_cons_succ]
        refine wpAnyH_take (i := 3) (oi := _) (v := ?_) rfl (by kernel_rfl) (by kernel_rfl) (by kernel_rfl) (fun _ _ _ h => h) (Or.inl ⟨by rfl, ?_⟩) (by assumption) ?_
        rotate_left
        · intro w hSw; (try dsimp only at hSw); go_simp; try with_reducible rfl
        try simp only [Act.put, List.getElem_toArray, List.getElem_cons_zero, List.getElem_cons_succ, List.setIfInBounds_toArray, List.set_cons_zero, List.set_cons_succ]
        refine wpAnyH_take (i := 4) (oi := _) (v := ?_) rfl (by kernel_rfl) (by kernel_rfl) (by kernel_rfl) (fun _ _ _ h => h) (Or.inl ⟨by rfl, ?_⟩) (by assumption) ?_
        rotate_left
        · intro w hSw; (try dsimp only at hSw); go_simp; try with_reducible rfl
        try simp only [Act.put, List.getElem_toArray, List.getElem_cons_zero, List.getElem_cons_succ, List.setIfInBounds_toArray, List.set_cons_zero, List.set_cons_succ]
        refine wpAnyH_take (i := 5) (oi := _) (v := ?_) rfl (by kernel_rfl) (by kernel_rfl) (by kernel_rfl) (fun _ _ _ h => h) (Or.inl ⟨by rfl, ?_⟩) (by assumption) ?_
        rotate_left
        · intro w hSw; (try dsimp only at hSw); go_simp; try with_reducible rfl
        try simp only [Act.put, List.getElem_toArray, List.getElem_cons_zero, List.getElem_cons_succ, List.setIfInBounds_toArray, List.set_cons_zero, List.set_cons_succ]
        refine wpAnyH_take (i := 6) (oi := _) (v := ?_) rfl (by kernel_rfl) (by kernel_rfl) (by kernel_rfl) (fun _ _ _ h => h) (Or.inl ⟨by rfl, ?_⟩) (by assumption) ?_
        rotate_left
        · intro w hSw; (try dsimp only at hSw); go_simp; try with_reducible rfl
        try simp only [Act.put, List.getElem_toArray, List.getElem_cons_zero, List.getElem_cons_succ, List.setIfInBounds_toArray, List.set_cons_zero, List.set_cons_succ]
        refine wpAnyH_take (i := 7) (oi := _) (v := ?_) rfl (by kernel_rfl) (by kernel_rfl) (by kernel_rfl) (fun _ _ _ h => h) (Or.inl ⟨by rfl, ?_⟩) (by assumption) ?_
        rotate_left
        · intro w hSw; (try dsimp only at hSw); go_simp; try with_reducible rfl
        try simp only [Act.put, List.getElem_toArray, List.getElem_cons_zero, List.getElem_cons_succ, List.setIfInBounds_toArray, List.set_cons_zero, List.set_cons_succ]
        refine wpAnyH_ready (rs := [8]) (by kernel_rfl) (by simp) ?_
        refine AllReadyH.cons (o := _) rfl (fun K hK => ?_) AllReadyH.nil
        go_simp
        refine (calls_b hHeld.1 (HP.out _)).mono ?_
        rintro e wy ⟨rfl, hVy, hVyl⟩
        have cxy := loc_step hVyl (by simp) hHeld.2.1
        have ciy := loc_step hVyl (by simp) hHeld.2.2
        have Ry := row_step hVyl (fun k hk => by simp [hk]) (ownsRow_block (w' := wz.drew) HRz.out (fun _ _ => rfl))
        clear hVyl
        dsimp only
        refine hK.out _ _ ?_ (fun hHeld => ?_)
        · exact ⟨hVy, cxy, ciy⟩
        clear hK K
        try simp only [Act.put, List.getElem_toArray, List.getElem_cons_zero, List.getElem_cons_succ, List.setIfInBounds_toArray, List.set_cons_zero, List.set_cons_succ]
        refine wpAnyH_take (i := 9) (oi := _) (v := ?_) rfl (by kernel_rfl) (by kernel_rfl) (by kernel_rfl) (fun _ _ _ h => h) (Or.inl ⟨by rfl, ?_⟩) (by assumption) ?_
        rotate_left
        · intro w hSw; (try dsimp only at hSw); go_simp; try with_reducible rfl
        try simp only [Act.put, List.getElem_toArray, List.getElem_cons_zero, List.getElem_cons_succ, List.setIfInBounds_toArray, List.set_cons_zero, List.set_cons_succ]
        refine wpAnyH_take (i := 10) (oi := _) (v := ?_) rfl (by kernel_rfl) (by kernel_rfl) (by kernel_rfl) (fun _ _ _ h => h) (Or.inl ⟨by rfl, ?_⟩) (by assumption) ?_
        rotate_left
        · intro w hSw; (try dsimp only at hSw); go_simp; try with_reducible rfl
        try simp only [Act.put, List.getElem_toArray, List.getElem_cons_zero, List.getElem_cons_succ, List.setIfInBounds_toArray, List.set_cons_zero, List.set_cons_succ]
        refine wpAnyH_ready (rs := [11]) (by kernel_rfl) (by simp) ?_
        refine AllReadyH.cons (o := _) rfl (fun K hK => ?_) AllReadyH.nil
        go_simp
        refine hK.out _ _ ?_ (fun hHeld => ?_)
        · exact ⟨(hHeld.1.alloc _).tail, loc_old _ (hHeld.1.ls _ (by simp)).1 hHeld.2.1, loc_old _ (hHeld.1.ls _ (by simp)).1 hHeld.2.2⟩
        clear hK K
        try simp only [Act.put, List.getElem_toArray, List.getElem_cons_zero, List.getElem_cons_succ, List.setIfInBounds_toArray, List.set_cons_zero, List.set_cons_succ]
        refine wpAnyH_ready (rs := [12]) (by kernel_rfl) (by simp) ?_
        refine AllReadyH.cons (o := _) rfl (fun K hK => ?_) AllReadyH.nil
        refine step_append_new rfl (.tmp 31) (.tmp 42) rfl 82 i0 (.agg #[.int .i64 0, .int .i64 0, .int .i64 0]) 3 24 Tryz.underlying44 HI.out.1 HI.out.2.1 HI.out.2.2.1 HI.out.2.2.2 rfl (by decide) (.slice pa L.length pc) L.length (partCells L) rfl (Ry.alloc _) ⟨wy.heap.size, 0, none⟩ 1 1 [.int .i64 1, .int .i64 ar, .int .i64 (a2 * pg)] rfl rfl (cell_three_new _ _ _ _ _) ?c1 ?c2 ?c3 ?_
        case c1 => (simp [Value.oneCell'])
        case c2 => (unfold maxLen; omega)
        case c3 => (omega)
        intro v' w5 hown5 hg5 hnew5 hnil5
        clear hnil5
        obtain ⟨g', cap', rfl⟩ := Joins.ownsRow_form hown5 (by omega)
        have hb5 := hHeld.1.grown hg5 (fun k hk => by simp [hk]) (w.heap.size :: w2.heap.size :: (Value.slice pa L.length pc).ownBlock.toList) (fun L hL => Or.inl hL)
        have hn5 := hHeld.1.grown hg5 (fun k hk => by simp [hk]) (w.heap.size :: (Value.slice (some ⟨g', 0, none⟩) (L.length + 1) cap').ownBlock.toList) (mem_new hnew5 hown5)
        have hlx := (hHeld.1.ls w.heap.size (by simp))
        have hli := (hHeld.1.ls w2.heap.size (by simp))
        have hx5 := loc_grown hg5 hlx.1 (fun e => by have := HF.out _ e; omega) hHeld.2.1
        have hi5 := loc_grown hg5 hli.1 (fun e => by have := ownsRow_lt HRow.out e; omega) hHeld.2.2
        refine hK.out _ _ ?_ (fun hHeld => ?_)
        · exact ⟨hb5, hx5, hi5⟩
        clear hK K
        try simp only [Act.put, List.getElem_toArray, List.getElem_cons_zero, List.getElem_cons_succ, List.setIfInBounds_toArray, List.set_cons_zero, List.set_cons_succ]
        refine wpAnyH_take (i := 13) (oi := _) (v := ?_) rfl (by kernel_rfl) (by kernel_rfl) (by kernel_rfl) (fun _ _ _ h => h) (Or.inl ⟨by rfl, ?_⟩) (by assumption) ?_
        rotate_left
        · intro w hSw; (try dsimp only at hSw); go_simp; try with_reducible rfl
        try simp only [Act.put, List.getElem_toArray, List.getElem_cons_zero, List.getElem_cons_succ, List.setIfInBounds_toArray, List.set_cons_zero, List.set_cons_succ]
        refine wpAnyH_done (by kernel_rfl) ?_ _
        refine NoPanic.normal ?_
        refine world_gen ?_
        intro wz2 hwz2
        subst hwz2
        go_wp2_with fail
        go_roundw
        case rel =>
          refine ⟨q + 1, by go_num, by omega, ?_, hn5, ⟨hn5.bel, hx5, (hn5.ls w.heap.size (by simp)).1, H0.out.keep hn5.bel⟩, ?_⟩
          · rw [HLS.out, partCells_app, List.length_append]; exact hown5
          · exact fun k hk => (hnew5 k hk).elim (HF.out k) (fun h => by have := hlx.1; omega)
        case measure => simp [intOf]; omega
      · have hkb1 : (a1 == 1) = false := by simp [hk1]
        by_cases hk2 : a1 = 2
        · subst hk2
          have hls2 : partsL vs t s (q + 1) = L ++ [(2, ar, a2 * pg)] := by rw [hls]; simp
          have HLS := Lib.hid hls2
          clear hls hls2 hk1
          go_wp2_with fail
          refine (I1.out _ hxb.xv).mono ?_
          rintro e w2 ⟨rfl, hb2⟩
          have X2 := hxb.keep hb2
          obtain ⟨X20, X21, X22, X23⟩ := X2.cells
          have X2z := X2.lt
          have XI := X2.alloc (.cells #[.int .i64 2, .int .i64 a2, .int .i64 a3] 111)
          have hS2 := (HB.out.below hb2)
          have hw2 := hb2.size
          have hS3 := hS2.alloc (.cells #[.int .i64 2, .int .i64 a2, .int .i64 a3] 111)
          go_wp2_with fail
          refine (HO.out _).mono ?_
          rintro e w3 ⟨rfl, hb3⟩
          have X3 := XI.keep hb3
          obtain ⟨X30, X31, X32, X33⟩ := X3.cells
          have X3z := X3.lt
          have hS4 := hS3.below hb3
          have bI := fun o => (hb3.cell (p := ⟨w2.heap.size, o, none⟩) (by simp)).trans (loc_alloc w2 #[.int .i64 2, .int .i64 a2, .int .i64 a3] 111 o)
          have bi0 := bI 0
          have bi1 := bI 1
          have bi2 := bI 2
          simp at bi0 bi1 bi2
          have li := hb3.size
          simp only [World.size_alloc] at li
          have hRz := (((BS.start wr).below hb2).alloc (.cells #[.int .i64 2, .int .i64 a2, .int .i64 a3] 111)).below hb3
          have R4 := hRz.row HRow.out
          clear hb2 hb3 X20 X21 X22 X23 X2z x0 x1 x2 x3
          go_wp2_with fail
          refine world_gen ?_
          intro wz hwz
          have hSz : BS w (w.heap.size :: w2.heap.size :: (Value.slice pa L.length pc).ownBlock.toList) wz := by rw [hwz]; exact hS4.sub _ (fun L hL => by simp only [List.mem_cons] at hL ⊢; rcases hL with h | h | h <;> simp [h])
          have Xz : XB w t p s ad n c vs wz := by rw [hwz]; exact X3
          have bz : ∀ o : Nat, wz.cell? ⟨w2.heap.size, o, none⟩ = (#[.int .i64 2, .int .i64 a2, .int .i64 a3] : Array Value)[o]? := by rw [hwz]; exact bI
          have Rz : wz.ownsRow 0 82 3 (.slice pa L.length pc) L.length (partCells L) := by rw [hwz]; exact R4
          have HX := Lib.hid Xz.box
          have HbI := Lib.hid bz
          have HRz := Lib.hid Rz
          clear hwz bz Rz bi0 bi1 bi2 X30 X31 X32 X33 X3z bI hS2 hS3 hS4 hRz R4
          refine wp_region_noPanic ?_
          refine wp_region_held_drew (S := fun w' => BS w (w.heap.size :: w2.heap.size :: (Value.slice pa L.length pc).ownBlock.toList) w' ∧ (∀ o : Nat, w'.cell? ⟨w.heap.size, o, none⟩ = (#[.int .i64 t, .int .i64 p, .int .i64 s, .slice (some ad) n c] : Array Value)[o]?) ∧ (∀ o : Nat, w'.cell? ⟨w2.heap.size, o, none⟩ = (#[.int .i64 2, .int .i64 a2, .int .i64 a3] : Array Value)[o]?)) (by kernel_rfl) ?_ (fun hHeld => ?_)
          · exact ⟨hSz.drew, HX.out, HbI.out⟩
          refine wpAnyH_take (i := 0) (oi := _) (v := ?_) rfl (by kernel_rfl) (by kernel_rfl) (by kernel_rfl) (fun _ _ _ h => h) (Or.inl ⟨by rfl, ?_⟩) (by assumption) ?_
          rotate_left
          · intro w hSw; (try dsimp only at hSw); go_simp; try with_reducible rfl
          try simp only [Act.put, List.getElem_toArray, List.getElem_cons_zero, List.setIfInBounds_toArray, List.set_cons_zero, List.set_cons_succ]
          refine wpAnyH_take (i := 1) (oi := _) (v := ?_) rfl (by kernel_rfl) (by kernel_rfl) (by kernel_rfl) (fun _ _ _ h => h) (Or.inl ⟨by rfl, ?_⟩) (by assumption) ?_
          rotate_left
          · intro w hSw; (try dsimp only at hSw); go_simp; try with_reducible rfl
          try simp only [Act.put, List.getElem_toArray, List.getElem_cons_zero, List.getElem_cons_succ, List.setIfInBounds_toArray, List.set_cons_zero, List.set_cons_succ]
          refine wpAnyH_take (i := 2) (oi := _) (v := ?_) rfl (by kernel_rfl) (by kernel_rfl) (by kernel_rfl) (fun _ _ _ h => h) (Or.inl ⟨by rfl, ?_⟩) (by assumption) ?_
          rotate_left
          · intro w hSw; (try dsimp only at hSw); go_simp; try with_reducible rfl
          try simp only [Act.put, List.getElem_toArray, List.getElem_cons_zero, List.getElem_cons_succ, List.setIfInBounds_toArray, List.set_cons_zero, List.set_cons_succ]
          refine wpAnyH_take (i := 3) (oi := _) (v := ?_) rfl (by kernel_rfl) (by kernel_rfl) (by kernel_rfl) (fun _ _ _ h => h) (Or.inl ⟨by rfl, ?_⟩) (by assumption) ?_
          rotate_left
          · intro w hSw; (try dsimp only at hSw); go_simp; try with_reducible rfl
          try simp only [Act.put, List.getElem_toArray, List.getElem_cons_zero, List.getElem_cons_succ, List.setIfInBounds_toArray, List.set_cons_zero, List.set_cons_succ]
          refine wpAnyH_take (i := 4) (oi := _) (v := ?_) rfl (by kernel_rfl) (by kernel_rfl) (by kernel_rfl) (fun _ _ _ h => h) (Or.inl ⟨by rfl, ?_⟩) (by assumption) ?_
          rotate_left
          · intro w hSw; (try dsimp only at hSw); go_simp; try with_reducible rfl
          try simp only [Act.put, List.getElem_toArray, List.getElem_cons_zero, List.getElem_cons_succ, List.setIfInBounds_toArray, List.set_cons_zero, List.set_cons_succ]
          refine wpAnyH_take (i := 5) (oi := _) (v := ?_) rfl (by kernel_rfl) (by kernel_rfl) (by kernel_rfl) (fun _ _ _ h => h) (Or.inl ⟨by rfl, ?_⟩) (by assumption) ?_
          rotate_left
          · intro w hSw; (try dsimp only at hSw); go_simp; try with_reducible rfl
          try simp only [Act.put, List.getElem_toArray, List.getElem_cons_zero, List.getElem_cons_succ, List.setIfInBounds_toArray, List.set_cons_zero, List.set_cons_succ]
          refine wpAnyH_take (i := 6) (oi := _) (v := ?_) rfl (by kernel_rfl) (by kernel_rfl) (by kernel_rfl) (fun _ _ _ h => h) (Or.inl ⟨by rfl, ?_⟩) (by assumption) ?_
          rotate_left
          · intro w hSw; (try dsimp only at hSw); go_simp; try with_reducible rfl
          try simp only [Act.put, List.getElem_toArray, List.getElem_cons_zero, List.getElem_cons_succ, List.setIfInBounds_toArray, List.set_cons_zero, List.set_cons_succ]
          refine wpAnyH_take (i := 7) (oi := _) (v := ?_) rfl (by kernel_rfl) (by kernel_rfl) (by kernel_rfl) (fun _ _ _ h => h) (Or.inl ⟨by rfl, ?_⟩) (by assumption) ?_
          rotate_left
          · intro w hSw; (try dsimp only at hSw); go_simp; try with_reducible rfl
          try simp only [Act.put, List.getElem_toArray, List.getElem_cons_zero, List.getElem_cons_succ, List.setIfInBounds_toArray, List.set_cons_zero, List.set_cons_succ]
          refine wpAnyH_ready (rs := [8]) (by kernel_rfl) (by simp) ?_
          refine AllReadyH.cons (o := _) rfl (fun K hK => ?_) AllReadyH.nil
          go_simp
          refine (calls_b hHeld.1 (HP.out _)).mono ?_
          rintro e wy ⟨rfl, hVy, hVyl⟩
          have cxy := loc_step hVyl (by simp) hHeld.2.1
          have ciy := loc_step hVyl (by simp) hHeld.2.2
          have Ry := row_step hVyl (fun k hk => by simp [hk]) (ownsRow_block (w' := wz.drew) HRz.out (fun _ _ => rfl))
          clear hVyl
          dsimp only
          refine hK.out _ _ ?_ (fun hHeld => ?_)
          · exact ⟨hVy, cxy, ciy⟩
          clear hK K
          try simp only [Act.put, List.getElem_toArray, List.getElem_cons_zero, List.getElem_cons_succ, List.setIfInBounds_toArray, List.set_cons_zero, List.set_cons_succ]
          refine wpAnyH_take (i := 9) (oi := _) (v := ?_) rfl (by kernel_rfl) (by kernel_rfl) (by kernel_rfl) (fun _ _ _ h => h) (Or.inl ⟨by rfl, ?_⟩) (by assumption) ?_
          rotate_left
          · intro w hSw; (try dsimp only at hSw); go_simp; try with_reducible rfl
          try simp only [Act.put, List.getElem_toArray, List.getElem_cons_zero, List.getElem_cons_succ, List.setIfInBounds_toArray, List.set_cons_zero, List.set_cons_succ]
          refine wpAnyH_take (i := 10) (oi := _) (v := ?_) rfl (by kernel_rfl) (by kernel_rfl) (by kernel_rfl) (fun _ _ _ h => h) (Or.inl ⟨by rfl, ?_⟩) (by assumption) ?_
          rotate_left
          · intro w hSw; (try dsimp only at hSw); go_simp; try with_reducible rfl
          try simp only [Act.put, List.getElem_toArray, List.getElem_cons_zero, List.getElem_cons_succ, List.setIfInBounds_toArray, List.set_cons_zero, List.set_cons_succ]
          refine wpAnyH_ready (rs := [11]) (by kernel_rfl) (by simp) ?_
          refine AllReadyH.cons (o := _) rfl (fun K hK => ?_) AllReadyH.nil
          go_simp
          refine hK.out _ _ ?_ (fun hHeld => ?_)
          · exact ⟨(hHeld.1.alloc _).tail, loc_old _ (hHeld.1.ls _ (by simp)).1 hHeld.2.1, loc_old _ (hHeld.1.ls _ (by simp)).1 hHeld.2.2⟩
          clear hK K
          try simp only [Act.put, List.getElem_toArray, List.getElem_cons_zero, List.getElem_cons_succ, List.setIfInBounds_toArray, List.set_cons_zero, List.set_cons_succ]
          refine wpAnyH_ready (rs := [12]) (by kernel_rfl) (by simp) ?_
          refine AllReadyH.cons (o := _) rfl (fun K hK => ?_) AllReadyH.nil
          refine step_append_new rfl (.tmp 31) (.tmp 42) rfl 82 i0 (.agg #[.int .i64 0, .int .i64 0, .int .i64 0]) 3 24 Tryz.underlying44 HI.out.1 HI.out.2.1 HI.out.2.2.1 HI.out.2.2.2 rfl (by decide) (.slice pa L.length pc) L.length (partCells L) rfl (Ry.alloc _) ⟨wy.heap.size, 0, none⟩ 1 1 [.int .i64 2, .int .i64 ar, .int .i64 (a2 * pg)] rfl rfl (cell_three_new _ _ _ _ _) ?c1 ?c2 ?c3 ?_
          case c1 => (simp [Value.oneCell'])
          case c2 => (unfold maxLen; omega)
          case c3 => (omega)
          intro v' w5 hown5 hg5 hnew5 hnil5
          clear hnil5
          obtain ⟨g', cap', rfl⟩ := Joins.ownsRow_form hown5 (by omega)
          have hb5 := hHeld.1.grown hg5 (fun k hk => by simp [hk]) (w.heap.size :: w2.heap.size :: (Value.slice pa L.length pc).ownBlock.toList) (fun L hL => Or.inl hL)
          have hn5 := hHeld.1.grown hg5 (fun k hk => by simp [hk]) (w.heap.size :: (Value.slice (some ⟨g', 0, none⟩) (L.length + 1) cap').ownBlock.toList) (mem_new hnew5 hown5)
          have hlx := (hHeld.1.ls w.heap.size (by simp))
          have hli := (hHeld.1.ls w2.heap.size (by simp))
          have hx5 := loc_grown hg5 hlx.1 (fun e => by have := HF.out _ e; omega) hHeld.2.1
          have hi5 := loc_grown hg5 hli.1 (fun e => by have := ownsRow_lt HRow.out e; omega) hHeld.2.2
          refine hK.out _ _ ?_ (fun hHeld => ?_)
          · exact ⟨hb5, hx5, hi5⟩
          clear hK K
          try simp only [Act.put, List.getElem_toArray, List.getElem_cons_zero, List.getElem_cons_succ, List.setIfInBounds_toArray, List.set_cons_zero, List.set_cons_succ]
          refine wpAnyH_take (i := 13) (oi := _) (v := ?_) rfl (by kernel_rfl) (by kernel_rfl) (by kernel_rfl) (fun _ _ _ h => h) (Or.inl ⟨by rfl, ?_⟩) (by assumption) ?_
          rotate_left
          · intro w hSw; (try dsimp only at hSw); go_simp; try with_reducible rfl
          try simp only [Act.put, List.getElem_toArray, List.getElem_cons_zero, List.getElem_cons_succ, List.setIfInBounds_toArray, List.set_cons_zero, List.set_cons_succ]
          refine wpAnyH_done (by kernel_rfl) ?_ _
          refine NoPanic.normal ?_
          refine world_gen ?_
          intro wz2 hwz2
          subst hwz2
          go_wp2_with fail
          go_roundw
          case rel =>
            refine ⟨q + 1, by go_num, by omega, ?_, hn5, ⟨hn5.bel, hx5, (hn5.ls w.heap.size (by simp)).1, H0.out.keep hn5.bel⟩, ?_⟩
            · rw [HLS.out, partCells_app, List.length_append]; exact hown5
            · exact fun k hk => (hnew5 k hk).elim (HF.out k) (fun h => by have := hlx.1; omega)
          case measure => simp [intOf]; omega

        · have hkb2 : (a1 == 2) = false := by simp [hk2]
          rw [if_neg (by omega)] at hls
          by_cases hk3 : a1 = 3
          · subst hk3
            rw [if_pos rfl] at hls
            have HLS := Lib.hid hls
            clear hls hk1 hk2 hkb1 hkb2
            go_wp2_with fail
            refine (I1.out _ hxb.xv).mono ?_
            rintro e w2 ⟨rfl, hb2⟩
            have X2 := hxb.keep hb2
            obtain ⟨X20, X21, X22, X23⟩ := X2.cells
            have X2z := X2.lt
            have XI := X2.alloc (.cells #[.int .i64 3, .int .i64 a2, .int .i64 a3] 111)
            have hS2 := (HB.out.below hb2)
            have hw2 := hb2.size
            have hS3 := hS2.alloc (.cells #[.int .i64 3, .int .i64 a2, .int .i64 a3] 111)
            go_wp2_with fail
            refine (HO.out _).mono ?_
            rintro e w3 ⟨rfl, hb3⟩
            have X3 := XI.keep hb3
            obtain ⟨X30, X31, X32, X33⟩ := X3.cells
            have X3z := X3.lt
            have hS4 := hS3.below hb3
            have bI := fun o => (hb3.cell (p := ⟨w2.heap.size, o, none⟩) (by simp)).trans (loc_alloc w2 #[.int .i64 3, .int .i64 a2, .int .i64 a3] 111 o)
            have bi0 := bI 0
            have bi1 := bI 1
            have bi2 := bI 2
            simp at bi0 bi1 bi2
            have li := hb3.size
            simp only [World.size_alloc] at li
            have hRz := (((BS.start wr).below hb2).alloc (.cells #[.int .i64 3, .int .i64 a2, .int .i64 a3] 111)).below hb3
            have R4 := hRz.row HRow.out
            clear hb2 hb3 X20 X21 X22 X23 X2z x0 x1 x2 x3
            go_wp2_with fail
            refine (HSb3.out _ X3.xv).mono ?_
            rintro e w4 ⟨sv, rfl, hsv⟩
            obtain ⟨gs, cs, rfl⟩ := Joins.ownsRow_form hsv.1 hsp
            have X4 := X3.keep hsv.2.2
            have S5 := hS4.below hsv.2.2
            have R5 := ((BS.start _).below hsv.2.2).row R4
            have HNews := Lib.hid (hsv.1.cells (g := gs) rfl)
            have hnl : (partCells sb).length = sb.length * 3 := partCells_len sb
            have HNL := Lib.hid hnl
            have hone : ∀ u ∈ partCells sb, u.oneCell' = true := by
              intro u hu
              simp only [partCells, List.mem_flatMap] at hu
              obtain ⟨x, -, hx⟩ := hu
              simp at hx
              rcases hx with rfl | rfl | rfl <;> rfl
            have HOne := Lib.hid hone
            clear hsv hnl hone bI hS2 hS3 hS4 hRz R4
            go_wp2_with (at_builtin; go_must (refine wpL_append rfl _ _ rfl 82 i0 (.agg #[.int .i64 0, .int .i64 0, .int .i64 0]) 3 24 Tryz.underlying44 HI.out.1 HI.out.2.1 HI.out.2.2.1 HI.out.2.2.2 rfl (by decide) (.slice pa L.length pc) L.length (partCells L) rfl R5 ⟨gs, 0, none⟩ sb.length cs (partCells sb) rfl HNL.out HNews.out HOne.out ?c2 ?c3 ?_); go_must (case c2 => (unfold maxLen; omega)); go_must (case c3 => (omega)); go_must (intro v' w8 hown8 hg8 hnew8 hnil8); clear hnil8; go_must (obtain ⟨g', cap', rfl⟩ := Joins.ownsRow_form hown8 (by omega)))
            have hn5 := S5.grown hg8 (fun k hk => by simp [hk]) (w.heap.size :: (Value.slice (some ⟨g', 0, none⟩) (L.length + sb.length) cap').ownBlock.toList) (mem_new3 hnew8 hown8)
            have hx5 := loc_grown hg8 X4.lt (fun e => by have := HF.out _ e; omega) X4.box
            go_roundw
            case rel =>
              refine ⟨q + 1, by go_num, by omega, ?_, hn5, ⟨hn5.bel, hx5, (hn5.ls w.heap.size (by simp)).1, H0.out.keep hn5.bel⟩, ?_⟩
              · rw [HLS.out, partCells_app, List.length_append]; exact hown8
              · exact fun k hk => (hnew8 k hk).elim (HF.out k) (fun h => by have := X4.lt; omega)
            case measure => simp [intOf]; omega
          · have hkb3 : (a1 == 3) = false := by simp [hk3]
            rw [if_neg hk3, List.append_nil] at hls
            have HLS := Lib.hid hls
            clear hls hk1 hk2 hk3
            go_wp2_with fail
            refine (I1.out _ hxb.xv).mono ?_
            rintro e w2 ⟨rfl, hb2⟩
            have X2 := hxb.keep hb2
            obtain ⟨X20, X21, X22, X23⟩ := X2.cells
            have X2z := X2.lt
            have XI := X2.alloc (.cells #[.int .i64 a1, .int .i64 a2, .int .i64 a3] 111)
            have hS2 := (HB.out.below hb2)
            have hw2 := hb2.size
            have hS3 := hS2.alloc (.cells #[.int .i64 a1, .int .i64 a2, .int .i64 a3] 111)
            go_wp2_with fail
            refine (HO.out _).mono ?_
            rintro e w3 ⟨rfl, hb3⟩
            have X3 := XI.keep hb3
            obtain ⟨X30, X31, X32, X33⟩ := X3.cells
            have X3z := X3.lt
            have hS4 := hS3.below hb3
            have bI := fun o => (hb3.cell (p := ⟨w2.heap.size, o, none⟩) (by simp)).trans (loc_alloc w2 #[.int .i64 a1, .int .i64 a2, .int .i64 a3] 111 o)
            have bi0 := bI 0
            have bi1 := bI 1
            have bi2 := bI 2
            simp at bi0 bi1 bi2
            have li := hb3.size
            simp only [World.size_alloc] at li
            have hRz := (((BS.start wr).below hb2).alloc (.cells #[.int .i64 a1, .int .i64 a2, .int .i64 a3] 111)).below hb3
            have R4 := hRz.row HRow.out
            clear hb2 hb3 X20 X21 X22 X23 X2z x0 x1 x2 x3
            go_wp2_with fail
            go_roundw
            case rel =>
              refine ⟨q + 1, by go_num, by omega, ?_, hS4.sub _ (by simp; intro a ha; exact Or.inr (Or.inr ha)), X3, HF.out⟩
              rw [HLS.out]; exact R4
            case measure => simp [intOf]; omega
    · have hqe : p.toNat = q := by omega
      have hFL : F = L := by rw [← HF0.out, ← hL]; unfold partsF; rw [hqe]
      subst hFL
      clear hL hqe hll hls
      go_wp2
      go_ret
      exact ⟨_, rfl, HRow.out, fun k hk => Nat.le_of_lt (HF.out k hk), HB.out.bel⟩
end
end Go.Proofs.YtcicmljnjdhkjaaGreat
