/- parts of the proof, merged by a program. -/
import Derived.Test.YtpmoajhpgekhcaaGreatMsa1
import Derived.Test.YtpmoajhpgekhcaaGreatMsa4
import Derived.Test.YtpmoajhpgekhcaaGreatMsa5
import Derived.Test.YtpmoajhpgekhcaaGreatMsa6
import Derived.Test.YtpmoajhpgekhcaaGreatMsa7
import Derived.Test.YtpmoajhpgekhcaaGreatMsa9
import Derived.RangeFuncNested
import Derived.RangeFuncBound
import Derived.RangeFuncCalls
import Derived.RangeFuncLeaves
import Derived.Shelf.Abstract
import Derived.WalkKit
import Derived.OwnWalkIn
import Derived.TacticsInMore
import Derived.LoopNIn
import Derived.LoopIn
import Derived.OrdersIn
import Derived.Deep.OwnRows
import Derived.ProofKit
import Derived.OpenShut
import Derived.Deep.Slices
import Derived.Laws.AppendOwnNone
set_option linter.unusedSimpArgs false
set_option linter.unusedVariables false
/- the document's audit: the parts of a heap. -/
set_option linter.unusedSimpArgs false
set_option linter.unusedVariables false
namespace Go.Proofs.YtpmoajhpgekhcaaGreat
open Go.RowKit
section
variable {t p s : Int} {ad : Addr} {n c : Nat} {vs : List Int}

def partQ (vs : List Int) (t s : Int) (q : Nat) : List (Int × Int × Int) :=
  if iK (gv vs t q 0) = 1 ∨ iK (gv vs t q 0) = 2 then [(iK (gv vs t q 0), addrF s q 0, iL (gv vs t q 0) * pageF s)]
  else if iK (gv vs t q 0) = 3 then slabF vs t s q (iC (gv vs t q 0)) else []
def partsL (vs : List Int) (t s : Int) : Nat → List (Int × Int × Int)
  | 0 => []
  | q + 1 => partsL vs t s q ++ partQ vs t s q
def partsF (vs : List Int) (t p s : Int) : List (Int × Int × Int) := partsL vs t s p.toNat
theorem partQ_len (vs : List Int) (t s : Int) (q : Nat) : (partQ vs t s q).length ≤ 33 := by
  unfold partQ
  split
  · simp
  · split
    · exact slabF_len _ _ _ _ _
    · simp
theorem partsL_len (vs : List Int) (t s : Int) (q : Nat) : (partsL vs t s q).length ≤ 33 * q := by
  induction q with
  | zero => simp [partsL]
  | succ q ih =>
    have := partQ_len vs t s q
    simp only [partsL, List.length_append]
    omega
theorem slabF_pos (vs : List Int) (t s q k : Int) (h0 : 0 ≤ k) (h8 : k ≤ 8) : 0 < (slabF vs t s q k).length := by
  have hk1 : 0 < slotsF k := by
    rcases (by omega : k = 0 ∨ k = 1 ∨ k = 2 ∨ k = 3 ∨ k = 4 ∨ k = 5 ∨ k = 6 ∨ k = 7 ∨ k = 8) with rfl | rfl | rfl | rfl | rfl | rfl | rfl | rfl | rfl <;> decide
  unfold slabF
  rw [List.length_append, slabL_len]
  omega

theorem BS.tail {w0 w : World} {L : Nat} {Ls : List Nat} (h : BS w0 (L :: Ls) w) : BS w0 Ls w := h.sub _ fun _ hL => List.mem_cons_of_mem _ hL
theorem mem_new {W w5 : World} {A B : Nat} {v v' : Value} {e sz m : Nat} {xs : List Value} (hnew : ∀ k, v'.ownBlock = some k → v.ownBlock = some k ∨ W.heap.size ≤ k) (hown : w5.ownsRow 0 e sz v' m xs) :
    ∀ L ∈ A :: v'.ownBlock.toList, L ∈ A :: B :: v.ownBlock.toList ∨ (W.heap.size ≤ L ∧ L < w5.heap.size) := by
  intro L hL
  simp at hL
  rcases hL with rfl | h
  · exact Or.inl (by simp)
  · rcases hnew L h with h1 | h1
    · exact Or.inl (by simp [h1])
    · exact Or.inr ⟨h1, ownsRow_lt hown h⟩
theorem mem_new3 {W w5 : World} {A B : Nat} {v v' : Value} {e sz m : Nat} {xs : List Value} (hnew : ∀ k, v'.ownBlock = some k → v.ownBlock = some k ∨ W.heap.size ≤ k) (hown : w5.ownsRow 0 e sz v' m xs) :
    ∀ L ∈ A :: v'.ownBlock.toList, L ∈ B :: A :: v.ownBlock.toList ∨ (W.heap.size ≤ L ∧ L < w5.heap.size) := by
  intro L hL
  simp at hL
  rcases hL with rfl | h
  · exact Or.inl (by simp)
  · rcases hnew L h with h1 | h1
    · exact Or.inl (by simp [h1])
    · exact Or.inr ⟨h1, ownsRow_lt hown h⟩

structure PaRel (w : World) (vs : List Int) (t p s : Int) (ad : Addr) (n c : Nat) (v3 v4 : Value) (wr : World) (q : Nat) : Prop where
  hq : v4 = .int .i64 q
  le : (q : Int) ≤ p
  row : wr.ownsRow 0 82 3 v3 (partsL vs t s q).length (partCells (partsL vs t s q))
  bs : BS w (w.heap.size :: v3.ownBlock.toList) wr
  xb : XB w t p s ad n c vs wr
  far : ∀ k, v3.ownBlock = some k → w.heap.size < k
def PaRelE (w : World) (vs : List Int) (t p s : Int) (ad : Addr) (n c : Nat) (v3 v4 : Value) (wr : World) : Prop := ∃ q, PaRel w vs t p s ad n c v3 v4 wr q

set_option maxHeartbeats 4000000 in
set_option maxRecDepth 100000 in
theorem parts_any (c : Nat) (w : World) (h : XV w t p s ad n vs) :
    Calls Tryz.prog 55 #[.agg #[.int .i64 t, .int .i64 p, .int .i64 s, .slice (some ad) n c]] w fun e w' => ∃ v, e = .returned v ∧ RowQ w (partsF vs t p s) v w' := by
  have X0 := (h.boxed c).alloc (.cells #[] 82)
  have r0 := row_empty (w.alloc (.cells #[.int .i64 t, .int .i64 p, .int .i64 s, .slice (some ad) n c] 88)) 82 3
  have hS0 := ((BS.start w).alloc (.cells #[.int .i64 t, .int .i64 p, .int .i64 s, .slice (some ad) n c] 88)).alloc (.cells #[] 82)
  simp only [World.size_alloc] at hS0 r0
  have bd : 4 ≤ p ∧ p ≤ 1024 := by have := h.bd; omega
  have hr := h.right
  have hp := pageF_bd (s := s) (by have := h.bd; omega)
  have hp0 : 0 < pageF s := by omega
  have HP := Lib.hid (fun w => rpagesz_any t p s w hr)
  have HOf := Lib.hid (fun (q : Int) w (h0 : 0 ≤ q) (h1 : q < p) => rof_any t p s q 0 w hr h0 h1 (Int.le_refl 0) hp0)
  have HIn := Lib.hid (fun (q : Int) (w : World) (h : XV w t p s ad n vs) (h0 : 0 ≤ q) (h1 : q < p) => xinfo_any q c w h h0 h1)
  have HSb := Lib.hid (fun (q k : Int) (w : World) (h : XV w t p s ad n vs) (h0 : 0 ≤ q) (h1 : q < p) (h2 : 0 ≤ k) (h3 : k ≤ 8) => slab_any q k c w h h0 h1 h2 h3)
  have H0 := Lib.hid h
  obtain ⟨i0, hi0, hi1, hi2, hi3⟩ := info_parts infoPart
  have HI := Lib.hid (And.intro hi0 (And.intro hi1 (And.intro hi2 hi3)))
  generalize hF : partsF vs t p s = F
  have HF0 := Lib.hid hF
  clear hi0 hi1 hi2 hi3 h hr hp0 hF
  go_enter Tryz.func55, Tryz.ntmps55
  go_wp2_with fail
  go_loopw [3, 4, 5, 6, 7] (fun v3 v4 _ _ _ wr => PaRelE w vs t p s ad n c v3 v4 wr) (fun _ v4 _ _ _ _ => 1024 - (intOf v4).toNat)
  case atStart => exact ⟨0, rfl, by omega, r0, hS0.sub _ (by simp [Value.ownBlock]), X0, by simp [Value.ownBlock]⟩
  case round =>
    obtain ⟨q, rfl, hle, hrow, hbs, hxb, hfar⟩ := hrel
    have hll := partsL_len vs t s q
    have hls : partsL vs t s (q + 1) = partsL vs t s q ++ partQ vs t s q := rfl
    generalize hL : partsL vs t s q = L at *
    have hlen : ∃ a c, u3 = .slice a L.length c := by
      rcases hrow.2 with ⟨h5, h6⟩ | ⟨g', cap', cur, h5, -⟩
      · exact ⟨_, _, by rw [h5, h6]⟩
      · exact ⟨_, _, h5⟩
    obtain ⟨pa, pc, rfl⟩ := hlen
    have HB := Lib.hid hbs
    have HF := Lib.hid hfar
    have HRow := Lib.hid hrow
    clear r0 hS0 X0 hbs hfar hrow
    obtain ⟨x0, x1, x2, x3⟩ := hxb.cells
    have xz := hxb.lt
    by_cases hlt : (q : Int) < p
    · have I1 := Lib.hid (fun (w : World) (h : XV w t p s ad n vs) => HIn.out q w h (by omega) hlt)
      have HO := Lib.hid (fun w => HOf.out q w (by omega) hlt)
      have HSb2 := Lib.hid (fun (k : Int) (w : World) (h : XV w t p s ad n vs) (h2 : 0 ≤ k) (h3 : k ≤ 8) => HSb.out q k w h (by omega) hlt h2 h3)
      have bd9 := inf_bd (gv vs t q 0)
      obtain ⟨b1, b2, b3, b4, b5, b6, -⟩ := bd9
      have hpq : partQ vs t s q = if iK (gv vs t q 0) = 1 ∨ iK (gv vs t q 0) = 2 then [(iK (gv vs t q 0), addrF s q 0, iL (gv vs t q 0) * pageF s)] else if iK (gv vs t q 0) = 3 then slabF vs t s q (iC (gv vs t q 0)) else [] := rfl
      rw [hpq] at hls
      have hll2 : L.length ≤ 33792 := by omega
      have hsb := slabF_len vs t s q (iC (gv vs t q 0))
      have hsp := slabF_pos vs t s q (iC (gv vs t q 0)) b5 b6
      have HSb3 := Lib.hid (fun (w : World) (h : XV w t p s ad n vs) => HSb2.out (iC (gv vs t q 0)) w h b5 b6)
      clear hpq HIn HOf HSb HSb2 hll hL
      generalize slabF vs t s q (iC (gv vs t q 0)) = sb at *
      generalize iK (gv vs t q 0) = a1 at *
      generalize iL (gv vs t q 0) = a2 at *
      generalize iC (gv vs t q 0) = a3 at *
      generalize addrF s q 0 = ar at *
      generalize pageF s = pg at *
      have hm0 : 0 ≤ a2 * pg := Int.mul_nonneg (by omega) (by omega)
      have hm1 : a2 * pg ≤ 1024 * 1048576 := Int.mul_le_mul (by omega) (by omega) (by omega) (by omega)
      have hmw : IntKind.i64.wrap (a2 * pg) = a2 * pg := wrap_in _ (by omega)
      by_cases hk1 : a1 = 1
      · subst hk1
        have hls2 : partsL vs t s (q + 1) = L ++ [(1, ar, a2 * pg)] := by rw [hls]; simp
        have HLS := Lib.hid hls2
        clear hls hls2
        go_wp2_with fail
        refine (I1.out _ hxb.xv).mono ?_
        rintro e w2 ⟨rfl, hb2⟩
        have X2 := hxb.keep hb2
        obtain ⟨X20, X21, X22, X23⟩ := X2.cells
        have X2z := X2.lt
        have XI := X2.alloc (.cells #[.int .i64 1, .int .i64 a2, .int .i64 a3] 61)
        have hS2 := (HB.out.below hb2)
        have hw2 := hb2.size
        have hS3 := hS2.alloc (.cells #[.int .i64 1, .int .i64 a2, .int .i64 a3] 61)
        go_wp2_with fail
        refine (HO.out _).mono ?_
        rintro e w3 ⟨rfl, hb3⟩
        have X3 := XI.keep hb3
        obtain ⟨X30, X31, X32, X33⟩ := X3.cells
        have X3z := X3.lt
        have hS4 := hS3.below hb3
        have bI := fun o => (hb3.cell (p := ⟨w2.heap.size, o, none⟩) (by simp)).trans (loc_alloc w2 #[.int .i64 1, .int .i64 a2, .int .i64 a3] 61 o)
        have bi0 := bI 0
        have bi1 := bI 1
        have bi2 := bI 2
        simp at bi0 bi1 bi2
        have li := hb3.size
        simp only [World.size_alloc] at li
        have hRz := (((BS.start wr).below hb2).alloc (.cells #[.int .i64 1, .int .i64 a2, .int .i64 a3] 61)).below hb3
        have R4 := hRz.row HRow.out
        clear hb2 hb3 X20 X21 X22 X23 X2z x0 x1 x2 x3
        go_wp2_with fail
        refine world_gen ?_
        intro wz hwz
        have hSz : BS w (w.heap.size :: w2.heap.size :: (Value.slice pa L.length pc).ownBlock.toList) wz := by rw [hwz]; exact hS4.sub _ (fun L hL => by simp only [List.mem_cons] at hL ⊢; rcases hL with h | h | h <;> simp [h])
        have Xz : XB w t p s ad n c vs wz := by rw [hwz]; exact X3
        have bz : ∀ o : Nat, wz.cell? ⟨w2.heap.size, o, none⟩ = (#[.int .i64 1, .int .i64 a2, .int .i64 a3] : Array Value)[o]? := by rw [hwz]; exact bI
        have Rz : wz.ownsRow 0 82 3 (.slice pa L.length pc) L.length (partCells L) := by rw [hwz]; exact R4
        have HX := Lib.hid Xz.box
        have HbI := Lib.hid bz
        have HRz := Lib.hid Rz
        clear hwz bz Rz bi0 bi1 bi2 X30 X31 X32 X33 X3z bI hS2 hS3 hS4 hRz R4
        refine wp_region_noPanic ?_
        refine wp_region_held_drew (S := fun w' => BS w (w.heap.size :: w2.heap.size :: (Value.slice pa L.length pc).ownBlock.toList) w' ∧ (∀ o : Nat, w'.cell? ⟨w.heap.size, o, none⟩ = (#[.int .i64 t, .int .i64 p, .int .i64 s, .slice (some ad) n c] : Array Value)[o]?) ∧ (∀ o : Nat, w'.cell? ⟨w2.heap.size, o, none⟩ = (#[.int .i64 1, .int .i64 a2, .int .i64 a3] : Array Value)[o]?)) (by kernel_rfl) ?_ (fun hHeld => ?_)
        · exact ⟨hSz.drew, HX.out, HbI.out⟩
        refine wT 0 ?_
        refine wT 1 ?_
        refine wT 2 ?_
        refine wT 3 ?_
        refine wT 4 ?_
        refine wT 5 ?_
        refine wT 6 ?_
        refine wT 7 ?_
        refine wR 8 fun K hK => ?_
        go_simp
        refine (calls_b hHeld.1 (HP.out _)).mono ?_
        rintro e wy ⟨rfl, hVy, hVyl⟩
        have cxy := loc_step hVyl (by simp) hHeld.2.1
        have ciy := loc_step hVyl (by simp) hHeld.2.2
        have Ry := row_step hVyl (fun k hk => by simp [hk]) (ownsRow_block (w' := wz.drew) HRz.out (fun _ _ => rfl))
        clear hVyl
        dsimp only
        refine hK.out _ _ ?_ (fun hHeld => ?_)
        · exact ⟨hVy, cxy, ciy⟩
        clear hK K
        try simp only [Act.put, zA, zB, zC, zD, zE, zF]
        refine wT 9 ?_
        refine wT 10 ?_
        refine wR 11 fun K hK => ?_
        go_simp
        refine hK.out _ _ ?_ (fun hHeld => ?_)
        · exact ⟨(hHeld.1.alloc _).tail, loc_old _ (hHeld.1.ls _ (by simp)).1 hHeld.2.1, loc_old _ (hHeld.1.ls _ (by simp)).1 hHeld.2.2⟩
        clear hK K
        try simp only [Act.put, zA, zB, zC, zD, zE, zF]
        refine wR 12 fun K hK => ?_
        refine step_append_new rfl (.tmp 31) (.tmp 42) rfl 82 i0 (.agg #[.int .i64 0, .int .i64 0, .int .i64 0]) 3 24 Tryz.underlying75 HI.out.1 HI.out.2.1 HI.out.2.2.1 HI.out.2.2.2 rfl (by decide) (.slice pa L.length pc) L.length (partCells L) rfl (Ry.alloc _) ⟨wy.heap.size, 0, none⟩ 1 1 [.int .i64 1, .int .i64 ar, .int .i64 (a2 * pg)] rfl rfl (cell_three_new _ _ _ _ _) ?c1 ?c2 ?c3 ?_
        case c1 => (simp [Value.oneCell'])
        case c2 => (unfold maxLen; omega)
        case c3 => (omega)
        intro v' w5 hown5 hg5 hnew5 hnil5
        clear hnil5
        obtain ⟨g', cap', rfl⟩ := Joins.ownsRow_form hown5 (by omega)
        have hb5 := hHeld.1.grown hg5 (fun k hk => by simp [hk]) (w.heap.size :: w2.heap.size :: (Value.slice pa L.length pc).ownBlock.toList) (fun L hL => Or.inl hL)
        have hn5 := hHeld.1.grown hg5 (fun k hk => by simp [hk]) (w.heap.size :: (Value.slice (some ⟨g', 0, none⟩) (L.length + 1) cap').ownBlock.toList) (mem_new hnew5 hown5)
        have hlx := (hHeld.1.ls w.heap.size (by simp))
        have hli := (hHeld.1.ls w2.heap.size (by simp))
        have hx5 := loc_grown hg5 hlx.1 (fun e => by have := HF.out _ e; omega) hHeld.2.1
        have hi5 := loc_grown hg5 hli.1 (fun e => by have := ownsRow_lt HRow.out e; omega) hHeld.2.2
        refine hK.out _ _ ?_ (fun hHeld => ?_)
        · exact ⟨hb5, hx5, hi5⟩
        clear hK K
        try simp only [Act.put, zA, zB, zC, zD, zE, zF]
        refine wT 13 ?_
        refine wpAnyH_done (by kernel_rfl) (NoPanic.normal ?_) _
        refine world_gen ?_
        intro wz2 hwz2
        subst hwz2
        go_wp2_with fail
        go_roundw
        case rel =>
          refine ⟨q + 1, by go_num, by omega, ?_, hn5, ⟨hn5.bel, hx5, (hn5.ls w.heap.size (by simp)).1, H0.out.keep hn5.bel⟩, ?_⟩
          · rw [HLS.out, partCells_app, List.length_append]; exact hown5
          · exact fun k hk => (hnew5 k hk).elim (HF.out k) (fun h => by have := hlx.1; omega)
        case measure => simp [intOf]; omega
      · have hkb1 : (a1 == 1) = false := by simp [hk1]
        by_cases hk2 : a1 = 2
        · subst hk2
          have hls2 : partsL vs t s (q + 1) = L ++ [(2, ar, a2 * pg)] := by rw [hls]; simp
          have HLS := Lib.hid hls2
          clear hls hls2 hk1
          go_wp2_with fail
          refine (I1.out _ hxb.xv).mono ?_
          rintro e w2 ⟨rfl, hb2⟩
          have X2 := hxb.keep hb2
          obtain ⟨X20, X21, X22, X23⟩ := X2.cells
          have X2z := X2.lt
          have XI := X2.alloc (.cells #[.int .i64 2, .int .i64 a2, .int .i64 a3] 61)
          have hS2 := (HB.out.below hb2)
          have hw2 := hb2.size
          have hS3 := hS2.alloc (.cells #[.int .i64 2, .int .i64 a2, .int .i64 a3] 61)
          go_wp2_with fail
          refine (HO.out _).mono ?_
          rintro e w3 ⟨rfl, hb3⟩
          have X3 := XI.keep hb3
          obtain ⟨X30, X31, X32, X33⟩ := X3.cells
          have X3z := X3.lt
          have hS4 := hS3.below hb3
          have bI := fun o => (hb3.cell (p := ⟨w2.heap.size, o, none⟩) (by simp)).trans (loc_alloc w2 #[.int .i64 2, .int .i64 a2, .int .i64 a3] 61 o)
          have bi0 := bI 0
          have bi1 := bI 1
          have bi2 := bI 2
          simp at bi0 bi1 bi2
          have li := hb3.size
          simp only [World.size_alloc] at li
          have hRz := (((BS.start wr).below hb2).alloc (.cells #[.int .i64 2, .int .i64 a2, .int .i64 a3] 61)).below hb3
          have R4 := hRz.row HRow.out
          clear hb2 hb3 X20 X21 X22 X23 X2z x0 x1 x2 x3
          go_wp2_with fail
          refine world_gen ?_
          intro wz hwz
          have hSz : BS w (w.heap.size :: w2.heap.size :: (Value.slice pa L.length pc).ownBlock.toList) wz := by rw [hwz]; exact hS4.sub _ (fun L hL => by simp only [List.mem_cons] at hL ⊢; rcases hL with h | h | h <;> simp [h])
          have Xz : XB w t p s ad n c vs wz := by rw [hwz]; exact X3
          have bz : ∀ o : Nat, wz.cell? ⟨w2.heap.size, o, none⟩ = (#[.int .i64 2, .int .i64 a2, .int .i64 a3] : Array Value)[o]? := by rw [hwz]; exact bI
          have Rz : wz.ownsRow 0 82 3 (.slice pa L.length pc) L.length (partCells L) := by rw [hwz]; exact R4
          have HX := Lib.hid Xz.box
          have HbI := Lib.hid bz
          have HRz := Lib.hid Rz
          clear hwz bz Rz bi0 bi1 bi2 X30 X31 X32 X33 X3z bI hS2 hS3 hS4 hRz R4
          refine wp_region_noPanic ?_
          refine wp_region_held_drew (S := fun w' => BS w (w.heap.size :: w2.heap.size :: (Value.slice pa L.length pc).ownBlock.toList) w' ∧ (∀ o : Nat, w'.cell? ⟨w.heap.size, o, none⟩ = (#[.int .i64 t, .int .i64 p, .int .i64 s, .slice (some ad) n c] : Array Value)[o]?) ∧ (∀ o : Nat, w'.cell? ⟨w2.heap.size, o, none⟩ = (#[.int .i64 2, .int .i64 a2, .int .i64 a3] : Array Value)[o]?)) (by kernel_rfl) ?_ (fun hHeld => ?_)
          · exact ⟨hSz.drew, HX.out, HbI.out⟩
          refine wT 0 ?_
          refine wT 1 ?_
          refine wT 2 ?_
          refine wT 3 ?_
          refine wT 4 ?_
          refine wT 5 ?_
          refine wT 6 ?_
          refine wT 7 ?_
          refine wR 8 fun K hK => ?_
          go_simp
          refine (calls_b hHeld.1 (HP.out _)).mono ?_
          rintro e wy ⟨rfl, hVy, hVyl⟩
          have cxy := loc_step hVyl (by simp) hHeld.2.1
          have ciy := loc_step hVyl (by simp) hHeld.2.2
          have Ry := row_step hVyl (fun k hk => by simp [hk]) (ownsRow_block (w' := wz.drew) HRz.out (fun _ _ => rfl))
          clear hVyl
          dsimp only
          refine hK.out _ _ ?_ (fun hHeld => ?_)
          · exact ⟨hVy, cxy, ciy⟩
          clear hK K
          try simp only [Act.put, zA, zB, zC, zD, zE, zF]
          refine wT 9 ?_
          refine wT 10 ?_
          refine wR 11 fun K hK => ?_
          go_simp
          refine hK.out _ _ ?_ (fun hHeld => ?_)
          · exact ⟨(hHeld.1.alloc _).tail, loc_old _ (hHeld.1.ls _ (by simp)).1 hHeld.2.1, loc_old _ (hHeld.1.ls _ (by simp)).1 hHeld.2.2⟩
          clear hK K
          try simp only [Act.put, zA, zB, zC, zD, zE, zF]
          refine wR 12 fun K hK => ?_
          refine step_append_new rfl (.tmp 31) (.tmp 42) rfl 82 i0 (.agg #[.int .i64 0, .int .i64 0, .int .i64 0]) 3 24 Tryz.underlying75 HI.out.1 HI.out.2.1 HI.out.2.2.1 HI.out.2.2.2 rfl (by decide) (.slice pa L.length pc) L.length (partCells L) rfl (Ry.alloc _) ⟨wy.heap.size, 0, none⟩ 1 1 [.int .i64 2, .int .i64 ar, .int .i64 (a2 * pg)] rfl rfl (cell_three_new _ _ _ _ _) ?c1 ?c2 ?c3 ?_
          case c1 => (simp [Value.oneCell'])
          case c2 => (unfold maxLen; omega)
          case c3 => (omega)
          intro v' w5 hown5 hg5 hnew5 hnil5
          clear hnil5
          obtain ⟨g', cap', rfl⟩ := Joins.ownsRow_form hown5 (by omega)
          have hb5 := hHeld.1.grown hg5 (fun k hk => by simp [hk]) (w.heap.size :: w2.heap.size :: (Value.slice pa L.length pc).ownBlock.toList) (fun L hL => Or.inl hL)
          have hn5 := hHeld.1.grown hg5 (fun k hk => by simp [hk]) (w.heap.size :: (Value.slice (some ⟨g', 0, none⟩) (L.length + 1) cap').ownBlock.toList) (mem_new hnew5 hown5)
          have hlx := (hHeld.1.ls w.heap.size (by simp))
          have hli := (hHeld.1.ls w2.heap.size (by simp))
          have hx5 := loc_grown hg5 hlx.1 (fun e => by have := HF.out _ e; omega) hHeld.2.1
          have hi5 := loc_grown hg5 hli.1 (fun e => by have := ownsRow_lt HRow.out e; omega) hHeld.2.2
          refine hK.out _ _ ?_ (fun hHeld => ?_)
          · exact ⟨hb5, hx5, hi5⟩
          clear hK K
          try simp only [Act.put, zA, zB, zC, zD, zE, zF]
          refine wT 13 ?_
          refine wpAnyH_done (by kernel_rfl) (NoPanic.normal ?_) _
          refine world_gen ?_
          intro wz2 hwz2
          subst hwz2
          go_wp2_with fail
          go_roundw
          case rel =>
            refine ⟨q + 1, by go_num, by omega, ?_, hn5, ⟨hn5.bel, hx5, (hn5.ls w.heap.size (by simp)).1, H0.out.keep hn5.bel⟩, ?_⟩
            · rw [HLS.out, partCells_app, List.length_append]; exact hown5
            · exact fun k hk => (hnew5 k hk).elim (HF.out k) (fun h => by have := hlx.1; omega)
          case measure => simp [intOf]; omega

        · have hkb2 : (a1 == 2) = false := by simp [hk2]
          rw [if_neg (by omega)] at hls
          by_cases hk3 : a1 = 3
          · subst hk3
            rw [if_pos rfl] at hls
            have HLS := Lib.hid hls
            clear hls hk1 hk2 hkb1 hkb2
            go_wp2_with fail
            refine (I1.out _ hxb.xv).mono ?_
            rintro e w2 ⟨rfl, hb2⟩
            have X2 := hxb.keep hb2
            obtain ⟨X20, X21, X22, X23⟩ := X2.cells
            have X2z := X2.lt
            have XI := X2.alloc (.cells #[.int .i64 3, .int .i64 a2, .int .i64 a3] 61)
            have hS2 := (HB.out.below hb2)
            have hw2 := hb2.size
            have hS3 := hS2.alloc (.cells #[.int .i64 3, .int .i64 a2, .int .i64 a3] 61)
            go_wp2_with fail
            refine (HO.out _).mono ?_
            rintro e w3 ⟨rfl, hb3⟩
            have X3 := XI.keep hb3
            obtain ⟨X30, X31, X32, X33⟩ := X3.cells
            have X3z := X3.lt
            have hS4 := hS3.below hb3
            have bI := fun o => (hb3.cell (p := ⟨w2.heap.size, o, none⟩) (by simp)).trans (loc_alloc w2 #[.int .i64 3, .int .i64 a2, .int .i64 a3] 61 o)
            have bi0 := bI 0
            have bi1 := bI 1
            have bi2 := bI 2
            simp at bi0 bi1 bi2
            have li := hb3.size
            simp only [World.size_alloc] at li
            have hRz := (((BS.start wr).below hb2).alloc (.cells #[.int .i64 3, .int .i64 a2, .int .i64 a3] 61)).below hb3
            have R4 := hRz.row HRow.out
            clear hb2 hb3 X20 X21 X22 X23 X2z x0 x1 x2 x3
            go_wp2_with fail
            refine (HSb3.out _ X3.xv).mono ?_
            rintro e w4 ⟨sv, rfl, hsv⟩
            obtain ⟨gs, cs, rfl⟩ := Joins.ownsRow_form hsv.1 hsp
            have X4 := X3.keep hsv.2.2
            have S5 := hS4.below hsv.2.2
            have R5 := ((BS.start _).below hsv.2.2).row R4
            have HNews := Lib.hid (hsv.1.cells (g := gs) rfl)
            have hnl : (partCells sb).length = sb.length * 3 := partCells_len sb
            have HNL := Lib.hid hnl
            have hone : ∀ u ∈ partCells sb, u.oneCell' = true := by
              intro u hu
              simp only [partCells, List.mem_flatMap] at hu
              obtain ⟨x, -, hx⟩ := hu
              simp at hx
              rcases hx with rfl | rfl | rfl <;> rfl
            have HOne := Lib.hid hone
            clear hsv hnl hone bI hS2 hS3 hS4 hRz R4
            go_wp2_with (at_builtin; go_must (refine wpL_append rfl _ _ rfl 82 i0 (.agg #[.int .i64 0, .int .i64 0, .int .i64 0]) 3 24 Tryz.underlying75 HI.out.1 HI.out.2.1 HI.out.2.2.1 HI.out.2.2.2 rfl (by decide) (.slice pa L.length pc) L.length (partCells L) rfl R5 ⟨gs, 0, none⟩ sb.length cs (partCells sb) rfl HNL.out HNews.out HOne.out ?c2 ?c3 ?_); go_must (case c2 => (unfold maxLen; omega)); go_must (case c3 => (omega)); go_must (intro v' w8 hown8 hg8 hnew8 hnil8); clear hnil8; go_must (obtain ⟨g', cap', rfl⟩ := Joins.ownsRow_form hown8 (by omega)))
            have hn5 := S5.grown hg8 (fun k hk => by simp [hk]) (w.heap.size :: (Value.slice (some ⟨g', 0, none⟩) (L.length + sb.length) cap').ownBlock.toList) (mem_new3 hnew8 hown8)
            have hx5 := loc_grown hg8 X4.lt (fun e => by have := HF.out _ e; omega) X4.box
            go_roundw
            case rel =>
              refine ⟨q + 1, by go_num, by omega, ?_, hn5, ⟨hn5.bel, hx5, (hn5.ls w.heap.size (by simp)).1, H0.out.keep hn5.bel⟩, ?_⟩
              · rw [HLS.out, partCells_app, List.length_append]; exact hown8
              · exact fun k hk => (hnew8 k hk).elim (HF.out k) (fun h => by have := X4.lt; omega)
            case measure => simp [intOf]; omega
          · have hkb3 : (a1 == 3) = false := by simp [hk3]
            rw [if_neg hk3, List.append_nil] at hls
            have HLS := Lib.hid hls
            clear hls hk1 hk2 hk3
            go_wp2_with fail
            refine (I1.out _ hxb.xv).mono ?_
            rintro e w2 ⟨rfl, hb2⟩
            have X2 := hxb.keep hb2
            obtain ⟨X20, X21, X22, X23⟩ := X2.cells
            have X2z := X2.lt
            have XI := X2.alloc (.cells #[.int .i64 a1, .int .i64 a2, .int .i64 a3] 61)
            have hS2 := (HB.out.below hb2)
            have hw2 := hb2.size
            have hS3 := hS2.alloc (.cells #[.int .i64 a1, .int .i64 a2, .int .i64 a3] 61)
            go_wp2_with fail
            refine (HO.out _).mono ?_
            rintro e w3 ⟨rfl, hb3⟩
            have X3 := XI.keep hb3
            obtain ⟨X30, X31, X32, X33⟩ := X3.cells
            have X3z := X3.lt
            have hS4 := hS3.below hb3
            have bI := fun o => (hb3.cell (p := ⟨w2.heap.size, o, none⟩) (by simp)).trans (loc_alloc w2 #[.int .i64 a1, .int .i64 a2, .int .i64 a3] 61 o)
            have bi0 := bI 0
            have bi1 := bI 1
            have bi2 := bI 2
            simp at bi0 bi1 bi2
            have li := hb3.size
            simp only [World.size_alloc] at li
            have hRz := (((BS.start wr).below hb2).alloc (.cells #[.int .i64 a1, .int .i64 a2, .int .i64 a3] 61)).below hb3
            have R4 := hRz.row HRow.out
            clear hb2 hb3 X20 X21 X22 X23 X2z x0 x1 x2 x3
            go_wp2_with fail
            go_roundw
            case rel =>
              refine ⟨q + 1, by go_num, by omega, ?_, hS4.sub _ (by simp; intro a ha; exact Or.inr (Or.inr ha)), X3, HF.out⟩
              rw [HLS.out]; exact R4
            case measure => simp [intOf]; omega
    · have hqe : p.toNat = q := by omega
      have hFL : F = L := by rw [← HF0.out, ← hL]; unfold partsF; rw [hqe]
      subst hFL
      clear hL hqe hll hls
      go_wp2
      go_ret
      exact ⟨_, rfl, HRow.out, fun k hk => Nat.le_of_lt (HF.out k hk), HB.out.bel⟩
end
end Go.Proofs.YtpmoajhpgekhcaaGreat
/- the document's audit: blocks, Has, roots. -/
set_option linter.unusedSimpArgs false
set_option linter.unusedVariables false
namespace Go.Proofs.YtpmoajhpgekhcaaGreat
open Go.RowKit

theorem infoBlock : (Tryz.prog.info? 74).map (fun i => (i.zero, i.size, i.bytes)) = some (some (.agg #[.int .i64 0, .int .i64 0]), 2, 16) := by kernel_rfl
def blockCells (l : List (Int × Int)) : List Value := l.flatMap fun x => [.int .i64 x.1, .int .i64 x.2]
theorem blockCells_len (l : List (Int × Int)) : (blockCells l).length = l.length * 2 := by
  induction l with
  | nil => rfl
  | cons y ys ih => unfold blockCells at ih ⊢; simp [ih]; omega
theorem blockCells_app (l m : List (Int × Int)) : blockCells (l ++ m) = blockCells l ++ blockCells m := by simp [blockCells]
def RowB (w : World) (l : List (Int × Int)) (v : Value) (w' : World) : Prop :=
  w'.ownsRow 0 74 2 v l.length (blockCells l) ∧ (∀ k, v.ownBlock = some k → w.heap.size ≤ k) ∧ Below w.heap.size w w'

/-- the live ones of parts. -/
def liveL : List (Int × Int × Int) → List (Int × Int)
  | [] => []
  | x :: l => (if x.1 = 2 then [(x.2.1, x.2.2)] else []) ++ liveL l
theorem liveL_app (l m : List (Int × Int × Int)) : liveL (l ++ m) = liveL l ++ liveL m := by
  induction l with
  | nil => rfl
  | cons x l ih => simp [liveL, ih]
theorem liveL_len (l : List (Int × Int × Int)) : (liveL l).length ≤ l.length := by
  induction l with
  | nil => exact Nat.le_refl _
  | cons x l ih =>
    simp only [liveL, List.length_append, List.length_cons]
    split <;> simp <;> omega
theorem liveL_take {l : List (Int × Int × Int)} {k : Nat} {x : Int × Int × Int} (h : l[k]? = some x) : liveL (l.take (k + 1)) = liveL (l.take k) ++ if x.1 = 2 then [(x.2.1, x.2.2)] else [] := by
  rw [List.take_add_one, h, liveL_app]
  simp [liveL]
theorem part_cell {l : List (Int × Int × Int)} {k : Nat} {x : Int × Int × Int} (h : l[k]? = some x) : (partCells l)[k * 3]? = some (.int .i64 x.1) ∧ (partCells l)[k * 3 + 1]? = some (.int .i64 x.2.1) ∧ (partCells l)[k * 3 + 2]? = some (.int .i64 x.2.2) := by
  induction l generalizing k with
  | nil => simp at h
  | cons y ys ih =>
    have e : partCells (y :: ys) = [.int .i64 y.1, .int .i64 y.2.1, .int .i64 y.2.2] ++ partCells ys := by simp [partCells]
    rw [e]
    cases k with
    | zero => simp at h; subst h; simp
    | succ k =>
      have h2 : ys[k]? = some x := by simpa using h
      obtain ⟨a, b, d⟩ := ih h2
      refine ⟨?_, ?_, ?_⟩
      · rw [List.getElem?_append_right (by simp; omega)]; rw [← a]; congr 1; simp; omega
      · rw [List.getElem?_append_right (by simp; omega)]; rw [← b]; congr 1; simp; omega
      · rw [List.getElem?_append_right (by simp; omega)]; rw [← d]; congr 1; simp; omega
theorem block_cell {l : List (Int × Int)} {k : Nat} {x : Int × Int} (h : l[k]? = some x) : (blockCells l)[k * 2]? = some (.int .i64 x.1) ∧ (blockCells l)[k * 2 + 1]? = some (.int .i64 x.2) := by
  induction l generalizing k with
  | nil => simp at h
  | cons y ys ih =>
    have e : blockCells (y :: ys) = [.int .i64 y.1, .int .i64 y.2] ++ blockCells ys := by simp [blockCells]
    rw [e]
    cases k with
    | zero => simp at h; subst h; simp
    | succ k =>
      have h2 : ys[k]? = some x := by simpa using h
      obtain ⟨a, b⟩ := ih h2
      refine ⟨?_, ?_⟩
      · rw [List.getElem?_append_right (by simp; omega)]; rw [← a]; congr 1; simp; omega
      · rw [List.getElem?_append_right (by simp; omega)]; rw [← b]; congr 1; simp; omega

section
variable {t p s : Int} {ad : Addr} {n c : Nat} {vs : List Int}
def blocksF (vs : List Int) (t p s : Int) : List (Int × Int) := liveL (partsF vs t p s)

structure BlRel (w : World) (l : List (Int × Int × Int)) (lv : Value) (v3 v5 : Value) (wr : World) (k : Nat) : Prop where
  hk : v5 = .int .i64 k
  le : k ≤ l.length
  row : wr.ownsRow 0 74 2 v3 (liveL (l.take k)).length (blockCells (liveL (l.take k)))
  bs : BS w (w.heap.size :: v3.ownBlock.toList) wr
  lrow : wr.ownsRow 0 82 3 lv l.length (partCells l)
  far : ∀ k, v3.ownBlock = some k → lv.ownBlock ≠ some k
def BlRelE (w : World) (l : List (Int × Int × Int)) (lv : Value) (v3 v5 : Value) (wr : World) : Prop := ∃ k, BlRel w l lv v3 v5 wr k

set_option maxHeartbeats 4000000 in
set_option maxRecDepth 100000 in
theorem blocks_any (c : Nat) (w : World) (h : XV w t p s ad n vs) :
    Calls Tryz.prog 54 #[.agg #[.int .i64 t, .int .i64 p, .int .i64 s, .slice (some ad) n c]] w fun e w' => ∃ v, e = .returned v ∧ RowB w (blocksF vs t p s) v w' := by
  have X0 := (h.boxed c).alloc (.cells #[] 74)
  have r0 := row_empty (w.alloc (.cells #[.int .i64 t, .int .i64 p, .int .i64 s, .slice (some ad) n c] 88)) 74 2
  have hS0 := ((BS.start w).alloc (.cells #[.int .i64 t, .int .i64 p, .int .i64 s, .slice (some ad) n c] 88)).alloc (.cells #[] 74)
  simp only [World.size_alloc] at hS0 r0
  have HP := Lib.hid (fun (w : World) (h : XV w t p s ad n vs) => parts_any c w h)
  have hll : (partsF vs t p s).length ≤ 33792 := by
    have := partsL_len vs t s p.toNat
    have := h.bd
    unfold partsF; omega
  obtain ⟨i0, hi0, hi1, hi2, hi3⟩ := info_parts infoBlock
  have HI := Lib.hid (And.intro hi0 (And.intro hi1 (And.intro hi2 hi3)))
  have hF0 : blocksF vs t p s = liveL (partsF vs t p s) := rfl
  generalize blocksF vs t p s = F at *
  generalize partsF vs t p s = l at *
  have HF0 := Lib.hid hF0
  clear hi0 hi1 hi2 hi3 h hF0
  obtain ⟨x0, x1, x2, x3⟩ := X0.cells
  have xz := X0.lt
  go_enter Tryz.func54, Tryz.ntmps54
  go_wp2_with fail
  refine (HP.out _ X0.xv).mono ?_
  rintro e w1 ⟨lv, rfl, hlv⟩
  have r1 := ((BS.start _).below hlv.2.2).row r0
  have hS1 := hS0.below hlv.2.2
  have hlr := hlv.1
  have hlf := hlv.2.1
  have hls : ∃ a c, lv = .slice a l.length c := row_shape hlr
  obtain ⟨la, lc, rfl⟩ := hls
  simp only [World.size_alloc] at hlf
  clear hlv r0 hS0 X0 x0 x1 x2 x3 xz
  go_wp2_with fail
  go_loopw [3, 5] (fun v3 v5 wr => BlRelE w l (.slice la l.length lc) v3 v5 wr) (fun _ v5 _ => l.length - (intOf v5).toNat)
  case atStart => exact ⟨0, rfl, by omega, by simpa [liveL, blockCells] using r1, hS1.sub _ (by simp [Value.ownBlock]), hlr, fun k hk e => by have := hlf k e; simp [Value.ownBlock] at hk; omega⟩
  case round =>
    obtain ⟨k, rfl, hle, hrow, hbs, hlrow, hfar⟩ := hrel
    have hll2 := liveL_len (l.take k)
    have hll3 : (l.take k).length ≤ l.length := by simp; omega
    have HTk := Lib.hid (fun x (h : l[k]? = some x) => liveL_take h)
    have HTe := Lib.hid (fun (h : k = l.length) => (show liveL (l.take k) = liveL l by rw [h, List.take_length]))
    generalize liveL (l.take k) = o at *
    have hol : o.length ≤ 33792 := by omega
    have hlen : ∃ a c, u3 = .slice a o.length c := row_shape hrow
    obtain ⟨pa, pc, rfl⟩ := hlen
    have HB := Lib.hid hbs
    have HF := Lib.hid hfar
    have HRow := Lib.hid hrow
    have HLr := Lib.hid hlrow
    clear r1 hS1 hlr hlf hbs hfar hrow hlrow hll2 hll3
    by_cases hlt : k < l.length
    · obtain ⟨⟨y1, y2, y3⟩, hx⟩ : ∃ x, l[k]? = some x := ⟨_, List.getElem?_eq_getElem hlt⟩
      obtain ⟨g, cap, hg⟩ := Joins.ownsRow_form HLr.out (by omega)
      simp only [Value.slice.injEq, true_and] at hg
      obtain ⟨rfl, rfl⟩ := hg
      obtain ⟨p0, p1, p2⟩ := part_cell hx
      have q0 := (HLr.out.cellAt (k * 3) (by omega)).trans p0
      have q1 := (HLr.out.cellAt (k * 3 + 1) (by omega)).trans p1
      have q2 := (HLr.out.cellAt (k * 3 + 2) (by omega)).trans p2
      have ht := HTk.out _ hx
      simp only at ht q0 q1 q2
      have hgl : g < wr.heap.size := ownsRow_lt HLr.out (by simp [Value.ownBlock])
      have hgn : (Value.slice pa o.length pc).ownBlock ≠ some g := fun e => HF.out g e (by simp [Value.ownBlock])
      clear p0 p1 p2 hx HTk HTe
      by_cases hy : y1 = 2
      · subst hy
        rw [if_pos rfl] at ht
        have HT := Lib.hid ht
        have HQ1 := Lib.hid q1
        have HQ2 := Lib.hid q2
        have HGn := Lib.hid hgn
        clear ht hgn
        go_wp2_with fail
        refine wp_region_noPanic ?_
        refine wp_region_held_drew (S := fun w' => w'.cell? ⟨g, k * 3 + 1, none⟩ = some (.int .i64 y2) ∧ w'.cell? ⟨g, k * 3 + 2, none⟩ = some (.int .i64 y3)) (by kernel_rfl) ?_ (fun hHeld => ?_)
        · exact ⟨HQ1.out, HQ2.out⟩
        refine wT 0 ?_
        refine wT 1 ?_
        refine wT 2 ?_
        refine wT 3 ?_
        refine wT 4 ?_
        refine wT 5 ?_
        refine wT 6 ?_
        refine wT 7 ?_
        refine wT 8 ?_
        refine wT 9 ?_
        refine wT 10 ?_
        refine wT 11 ?_
        refine wR 12 fun K hK => ?_
        go_simp
        refine hK.out _ _ ?_ (fun hHeld => ?_)
        · exact ⟨(World.cell?_alloc_lt (a := ⟨g, k * 3 + 1, none⟩) _ _ (by simpa using hgl)).trans HQ1.out, (World.cell?_alloc_lt (a := ⟨g, k * 3 + 2, none⟩) _ _ (by simpa using hgl)).trans HQ2.out⟩
        clear hK K
        try simp only [Act.put, zA, zB, zC, zD, zE, zF]
        refine wR 13 fun K hK => ?_
        refine step_append_new rfl (.tmp 21) (.tmp 33) rfl 74 i0 (.agg #[.int .i64 0, .int .i64 0]) 2 16 Tryz.underlying33 HI.out.1 HI.out.2.1 HI.out.2.2.1 HI.out.2.2.2 rfl (by decide) (.slice pa o.length pc) o.length (blockCells o) rfl ((ownsRow_block (w' := wr.drew) HRow.out (fun _ _ => rfl)).alloc _) ⟨_, 0, none⟩ 1 1 [.int .i64 y2, .int .i64 y3] rfl rfl (cell_two_at _ _ _ _ _ (by simp)) ?c1 ?c2 ?c3 ?_
        case c1 => (simp [Value.oneCell'])
        case c2 => (unfold maxLen; omega)
        case c3 => (omega)
        intro v' w5 hown5 hg5 hnew5 hnil5
        clear hnil5
        obtain ⟨g', cap', rfl⟩ := Joins.ownsRow_form hown5 (by omega)
        have hc5 := fun i => (World.cell?_of_block (a := ⟨g, i, none⟩) (hg5.block g (by simp; omega) (fun e => HGn.out e.symm))).trans (World.cell?_alloc_lt (w := wr.drew) (a := ⟨g, i, none⟩) _ (by simpa using hgl))
        refine hK.out _ _ ?_ (fun hHeld => ?_)
        · exact ⟨(hc5 _).trans HQ1.out, (hc5 _).trans HQ2.out⟩
        clear hK K
        try simp only [Act.put, zA, zB, zC, zD, zE, zF]
        refine wT 14 ?_
        refine wpAnyH_done (by kernel_rfl) (NoPanic.normal ?_) _
        go_wp2_with fail
        go_roundw
        case rel =>
          have B5 := HB.out.drew.append hg5 hnew5 hown5
          refine ⟨k + 1, by go_num, by omega, ?_, B5, ownsRow_block HLr.out (fun j hj => ?_), fun j hj e => ?_⟩
          · rw [HT.out, blockCells_app, List.length_append]; exact hown5
          · simp [Value.ownBlock] at hj
            subst hj
            exact (hg5.block g (by simp; omega) (fun e => HGn.out e.symm)).trans (heap_alloc_old _ _ (by simpa using hgl))
          · simp [Value.ownBlock] at e
            subst e
            rcases hnew5 g hj with x | x
            · exact HGn.out x
            · simp at x; omega
        case measure => simp [intOf]; omega
      · rw [if_neg hy, List.append_nil] at ht
        have HT := Lib.hid ht
        have hyb : (y1 == 2) = false := by simp [hy]
        clear ht hgn hy
        go_wp2_with fail
        go_roundw
        case rel =>
          refine ⟨k + 1, by go_num, by omega, ?_, HB.out, HLr.out, HF.out⟩
          rw [HT.out]; exact HRow.out
        case measure => simp [intOf]; omega
    · have hFo : F = o := by rw [HF0.out, HTe.out (by omega)]
      subst hFo
      clear HTk HTe
      go_wp2
      go_ret
      refine ⟨.slice pa F.length pc, rfl, HRow.out, fun k hk => (HB.out.ls k (List.mem_cons_of_mem _ ?_)).2, HB.out.bel⟩
      rw [hk]; simp

def hasB (l : List (Int × Int)) (a : Int) : Bool := l.any fun x => x.1 == a
def HsRel (l : List (Int × Int)) (a : Int) (w : World) (i : Value) (wr : World) : Prop := ∃ k : Nat, k ≤ l.length ∧ i = .int .i64 k ∧ (∀ j x, j < k → l[j]? = some x → x.1 ≠ a) ∧ w = wr
theorem hasb_any (l : List (Int × Int)) (a : Int) (v : Value) (w : World) (h : w.ownsRow 0 74 2 v l.length (blockCells l)) (hn : l.length ≤ 4294967296) :
    Calls Tryz.prog 75 #[v, .int .i64 a] w fun e w' => e = .returned (.bool (hasB l a)) ∧ Below w.heap.size w w' := by
  have hc : ∀ k x, l[k]? = some x → ∃ g m c, v = .slice (some ⟨g, 0, none⟩) m c ∧ w.cell? ⟨g, k * 2, none⟩ = some (.int .i64 x.1) := by
    intro k x hk
    have hkl := (List.getElem?_eq_some_iff.1 hk).1
    obtain ⟨g, cap, rfl⟩ := Joins.ownsRow_form h (by omega)
    exact ⟨g, _, cap, rfl, (h.cellAt (k * 2) (by omega)).trans (block_cell hk).1⟩
  obtain ⟨pa, pc, rfl⟩ := row_shape h
  clear h
  generalize hr : hasB l a = r
  have HR := Lib.hid hr
  clear hr
  go_enter Tryz.func75, Tryz.ntmps75
  go_wp2
  go_loopw [5] (fun i wr => HsRel l a w i wr) (fun i _ => l.length - (intOf i).toNat)
  case atStart => exact ⟨0, by omega, rfl, by omega, rfl⟩
  case round =>
    obtain ⟨k, hk, rfl, hno, rfl⟩ := hrel
    have HN := Lib.hid hno
    clear hno
    by_cases hlt : k < l.length
    · obtain ⟨⟨y1, y2⟩, hx⟩ : ∃ x, l[k]? = some x := ⟨_, List.getElem?_eq_getElem hlt⟩
      obtain ⟨g, m, c', hv, c0⟩ := hc k _ hx
      simp only [Value.slice.injEq] at hv
      obtain ⟨rfl, rfl, rfl⟩ := hv
      have HX := Lib.hid hx
      clear hc hx
      simp only at c0
      by_cases hy : y1 = a
      · have HY := Lib.hid hy
        have hb : (y1 == a) = true := by simp [hy]
        have hres : r = true := by
          rw [← HR.out]
          unfold hasB
          rw [List.any_eq_true]
          exact ⟨_, List.mem_of_getElem? HX.out, by simpa using hy⟩
        subst hres
        clear hy
        go_wp2
        go_ret
        exact ⟨rfl, Below.refl _ _⟩
      · have hb : (y1 == a) = false := by simp [hy]
        have HY := Lib.hid hy
        clear hy
        go_wp2
        go_roundw
        case rel =>
          refine ⟨k + 1, by omega, by go_num, fun j x hj hjx => ?_, rfl⟩
          by_cases e : j = k
          · subst e; rw [HX.out] at hjx; simp at hjx; subst hjx; exact HY.out
          · exact HN.out j x (by omega) hjx
        case measure => simp [intOf]; omega
    · have hres : r = false := by
        rw [← HR.out]
        unfold hasB
        rw [List.any_eq_false]
        intro x hx
        obtain ⟨j, hj⟩ := List.mem_iff_getElem?.1 hx
        have := HN.out j x (by have := (List.getElem?_eq_some_iff.1 hj).1; omega) hj
        simpa using this
      subst hres
      clear hc
      go_wp2
      go_ret
      exact ⟨rfl, Below.refl _ _⟩

def rootB (vs : List Int) (bl : List (Int × Int)) (i : Nat) : Bool := vs.getD (22 + i) 0 == 0 || hasB bl (vs.getD (22 + i) 0)
def rootsF (vs : List Int) (t p s : Int) : Bool := allN (rootB vs (blocksF vs t p s)) 8
theorem blocksF_len (vs : List Int) (t p s : Int) (h : p ≤ 1024) : (blocksF vs t p s).length ≤ 33792 := by
  have h1 := liveL_len (partsF vs t p s)
  have h2 := partsL_len vs t s p.toNat
  unfold blocksF
  unfold partsF at h1 ⊢
  omega

set_option maxHeartbeats 4000000 in
set_option maxRecDepth 100000 in
theorem roots_any (c : Nat) (w : World) (h : XV w t p s ad n vs) :
    Calls Tryz.prog 44 #[.agg #[.int .i64 t, .int .i64 p, .int .i64 s, .slice (some ad) n c]] w fun e w' => e = .returned (.bool (rootsF vs t p s)) ∧ Below w.heap.size w w' := by
  have X0 := h.boxed c
  have hnn : 30 ≤ n := by have := h.bd; omega
  have hbl := blocksF_len vs t p s h.few
  have HP := Lib.hid (fun (w : World) (h : XV w t p s ad n vs) => blocks_any c w h)
  have HC := Lib.hid h.cells
  have HU := Lib.hid (fun i => getD_u32 h.u32 i)
  generalize hr : rootsF vs t p s = r
  have hr2 : allN (rootB vs (blocksF vs t p s)) 8 = r := hr
  have HR := Lib.hid hr2
  generalize blocksF vs t p s = l at *
  clear h hr hr2
  obtain ⟨x0, x1, x2, x3⟩ := X0.cells
  have xz := X0.lt
  go_enter Tryz.func44, Tryz.ntmps44
  go_wp2_with fail
  refine (HP.out _ X0.xv).mono ?_
  rintro e w1 ⟨lv, rfl, hlv⟩
  have X1 := X0.keep hlv.2.2
  have hls : ∃ a c, lv = .slice a l.length c := row_shape hlv.1
  obtain ⟨la, lc, rfl⟩ := hls
  have HL := Lib.hid hlv.1
  clear hlv X0 x0 x1 x2 x3 xz
  go_wp2_with fail
  go_loopw [4, 5] (fun v4 _ wr => AllRel (rootB vs l) 8 w1 v4 wr) (fun v4 _ _ => 8 - (intOf v4).toNat)
  case atStart => exact ⟨0, by omega, rfl, rfl, Below.refl _ _⟩
  case round =>
    obtain ⟨i, hi, rfl, hall, hbel⟩ := hrel
    have X3 := X1.keep hbel
    have HA := Lib.hid hall
    have HB := Lib.hid hbel
    clear hall hbel
    obtain ⟨x0, x1, x2, x3⟩ := X3.cells
    by_cases hlt : i < 8
    · have hRo := Lib.hid (fun w => rroot_any i w hlt)
      have hd0 := (BS.mk X3.bel (by simp) : BS w [] wr).old (HC.out (22 + i) (by omega))
      have hu := HU.out (22 + i)
      have hrb : rootB vs l i = (vs.getD (22 + i) 0 == 0 || hasB l (vs.getD (22 + i) 0)) := rfl
      have HBox := Lib.hid X3.box
      have hxl := X3.lt
      have hin : 22 + i < n := by omega
      generalize vs.getD (22 + i) 0 = a at *
      generalize hki : 22 + i = ki at *
      clear hki
      obtain ⟨hu0, hu1⟩ := hu
      have hwa : IntKind.i64.wrap a = a := wrap_in _ (by omega)
      have HH := Lib.hid (fun (w' : World) (hb : Below w1.heap.size w1 w') => hasb_any l a (.slice la l.length lc) w' (ownsRow_block HL.out fun k hk => hb.block k (ownsRow_lt HL.out hk)) (by omega))
      clear HC HU
      by_cases ha : a = 0
      · subst ha
        have hyes : rootB vs l i = true := by rw [hrb]; simp
        have HY := Lib.hid hyes
        clear hyes hrb
        go_wp2_with fail
        refine wp_region_noPanic ?_
        refine wp_region_held_drew (S := fun w' => BS wr ([] : List Nat) w' ∧ (∀ o : Nat, w'.cell? ⟨w.heap.size, o, none⟩ = (#[.int .i64 t, .int .i64 p, .int .i64 s, .slice (some ad) n c] : Array Value)[o]?) ∧ w'.cell? (ad.add ki) = some (.int .u32 0)) (by kernel_rfl) ?_ (fun hHeld => ?_)
        · exact ⟨(BS.start wr).drew, HBox.out, hd0⟩
        refine wT 0 ?_
        refine wT 1 ?_
        refine wT 2 ?_
        refine wR 3 fun K hK => ?_
        go_simp
        refine (calls_b hHeld.1 (hRo.out _)).mono ?_
        rintro e wr1 ⟨rfl, hV, hVl⟩
        dsimp only
        refine hK.out _ _ ?_ (fun hHeld2 => ?_)
        · exact ⟨hV, hV.oldbox HBox.out hxl, hV.old hd0⟩
        clear hK K hV hVl hHeld
        have hHeld := hHeld2
        clear hHeld2
        try simp only [Act.put, zA, zB, zC, zD, zE, zF]
        refine wT 4 ?_
        refine wT 5 ?_
        refine wT 6 ?_
        refine wT 7 ?_
        refine wpAnyH_done (by kernel_rfl) (NoPanic.normal ?_) _
        refine world_gen ?_
        intro wz hwz
        rw [← hwz] at hHeld
        clear hwz
        have hbz := HB.out.trans (hHeld.1.bel.mono HB.out.size)
        clear hHeld
        go_wp2_with fail
        go_roundw
        case rel => exact ⟨i + 1, by omega, by go_num, by simp [allN, HA.out, HY.out], hbz⟩
        case measure => simp [intOf]; omega
      · have hab : (a != 0) = true := by simp [ha]
        cases hz : hasB l a
        · have hno : rootB vs l i = false := by rw [hrb, hz]; simp [ha]
          have hres : r = false := by rw [← HR.out]; exact allN_no hlt hno
          subst hres
          rw [hz] at HH
          clear hno hrb ha hz
          go_wp2_with fail
          refine wp_region_noPanic ?_
          refine wp_region_held_drew (S := fun w' => BS wr ([] : List Nat) w' ∧ (∀ o : Nat, w'.cell? ⟨w.heap.size, o, none⟩ = (#[.int .i64 t, .int .i64 p, .int .i64 s, .slice (some ad) n c] : Array Value)[o]?) ∧ w'.cell? (ad.add ki) = some (.int .u32 a)) (by kernel_rfl) ?_ (fun hHeld => ?_)
          · exact ⟨(BS.start wr).drew, HBox.out, hd0⟩
          refine wT 0 ?_
          refine wT 1 ?_
          refine wT 2 ?_
          refine wR 3 fun K hK => ?_
          go_simp
          refine (calls_b hHeld.1 (hRo.out _)).mono ?_
          rintro e wr1 ⟨rfl, hV, hVl⟩
          dsimp only
          refine hK.out _ _ ?_ (fun hHeld2 => ?_)
          · exact ⟨hV, hV.oldbox HBox.out hxl, hV.old hd0⟩
          clear hK K hV hVl hHeld
          have hHeld := hHeld2
          clear hHeld2
          try simp only [Act.put, zA, zB, zC, zD, zE, zF]
          refine wT 4 ?_
          refine wT 5 ?_
          refine wT 6 ?_
          refine wT 7 ?_
          refine wpAnyH_done (by kernel_rfl) (NoPanic.normal ?_) _
          refine world_gen ?_
          intro wz hwz
          rw [← hwz] at hHeld
          clear hwz
          have hbz := HB.out.trans (hHeld.1.bel.mono HB.out.size)
          have X5 := X3.keep hHeld.1.bel
          clear hHeld
          go_wp2_with fail
          refine (HH.out _ hbz).mono ?_
          rintro e w5 ⟨rfl, hb5⟩
          go_wp2
          go_ret
          exact ⟨rfl, (X5.keep hb5).bel⟩
        · have hyes : rootB vs l i = true := by rw [hrb, hz]; simp
          have HY := Lib.hid hyes
          rw [hz] at HH
          clear hyes hrb ha hz
          go_wp2_with fail
          refine wp_region_noPanic ?_
          refine wp_region_held_drew (S := fun w' => BS wr ([] : List Nat) w' ∧ (∀ o : Nat, w'.cell? ⟨w.heap.size, o, none⟩ = (#[.int .i64 t, .int .i64 p, .int .i64 s, .slice (some ad) n c] : Array Value)[o]?) ∧ w'.cell? (ad.add ki) = some (.int .u32 a)) (by kernel_rfl) ?_ (fun hHeld => ?_)
          · exact ⟨(BS.start wr).drew, HBox.out, hd0⟩
          refine wT 0 ?_
          refine wT 1 ?_
          refine wT 2 ?_
          refine wR 3 fun K hK => ?_
          go_simp
          refine (calls_b hHeld.1 (hRo.out _)).mono ?_
          rintro e wr1 ⟨rfl, hV, hVl⟩
          dsimp only
          refine hK.out _ _ ?_ (fun hHeld2 => ?_)
          · exact ⟨hV, hV.oldbox HBox.out hxl, hV.old hd0⟩
          clear hK K hV hVl hHeld
          have hHeld := hHeld2
          clear hHeld2
          try simp only [Act.put, zA, zB, zC, zD, zE, zF]
          refine wT 4 ?_
          refine wT 5 ?_
          refine wT 6 ?_
          refine wT 7 ?_
          refine wpAnyH_done (by kernel_rfl) (NoPanic.normal ?_) _
          refine world_gen ?_
          intro wz hwz
          rw [← hwz] at hHeld
          clear hwz
          have hbz := HB.out.trans (hHeld.1.bel.mono HB.out.size)
          clear hHeld
          go_wp2_with fail
          refine (HH.out _ hbz).mono ?_
          rintro e w5 ⟨rfl, hb5⟩
          have hbz5 := hbz.trans (hb5.mono hbz.size)
          go_wp2_with fail
          go_roundw
          case rel => exact ⟨i + 1, by omega, by go_num, by simp [allN, HA.out, HY.out], hbz5⟩
          case measure => simp [intOf]; omega
    · obtain rfl : i = 8 := by omega
      have hres : r = true := by rw [← HR.out]; exact HA.out
      subst hres
      go_wp2
      go_ret
      exact ⟨rfl, X3.bel⟩
end
end Go.Proofs.YtpmoajhpgekhcaaGreat
/- the document's audit: Check, Sound. -/
set_option linter.unusedSimpArgs false
set_option linter.unusedVariables false
namespace Go.Proofs.YtpmoajhpgekhcaaGreat
open Go.RowKit
section
variable {t p s : Int} {ad : Addr} {n c : Nat} {vs : List Int}

/-- which rule does not hold first. -/
def chkF (vs : List Int) (t p s : Int) : Int × Bool :=
  if tilesF vs t p = false then (2, false) else
  if feetF vs t p = false then (3, false) else
  if apartF vs t p = false then (4, false) else
  if slotsAll vs t p = false then (5, false) else
  if binsF vs t p = false then (6, false) else
  if racksF vs t p = false then (7, false) else
  if looseF vs t p = false then (8, false) else
  if countsF vs t p = false then (9, false) else
  if rootsF vs t p s = false then (10, false) else
  (0, true)

set_option maxHeartbeats 4000000 in
set_option maxRecDepth 100000 in
theorem rcheck_any (c : Nat) (w : World) (h : XV w t p s ad n vs) :
    Calls Tryz.prog 16 #[.agg #[.int .i64 t, .int .i64 p, .int .i64 s], .slice (some ad) n c] w fun e w' => e = .returned (.tuple #[.int .i64 (chkF vs t p s).1, .bool (chkF vs t p s).2]) ∧ Below w.heap.size w w' := by
  have H1 := rright_any t p s
  have H2 := rcells_any t p s
  rw [h.right] at H1
  have hcf : cellsF t p s = (n : Int) := by unfold cellsF; rw [h.right, h.num]; rfl
  rw [hcf] at H2
  have HH1 := Lib.hid H1
  have HH2 := Lib.hid H2
  have HV := Lib.hid h
  have hst := (startsF_mem (g := fun q => gv vs t q 0) (p := p) (by have := h.bd; omega)).2.1
  have HSt := Lib.hid hst
  have C_tiles := fun (w : World) (h : XV w t p s ad n vs) => tiles_any c w h
  have C_feet := fun (w : World) (h : XV w t p s ad n vs) (hne : (startsF (fun q => gv vs t q 0) p).1 ≠ []) => feet_any c w h hne
  have C_apart := fun (w : World) (h : XV w t p s ad n vs) => apart_any c w h
  have C_slots := fun (w : World) (h : XV w t p s ad n vs) => slots_any c w h
  have C_bins := fun (w : World) (h : XV w t p s ad n vs) => bins_any c w h
  have C_racks := fun (w : World) (h : XV w t p s ad n vs) => racks_any c w h
  have C_loose := fun (w : World) (h : XV w t p s ad n vs) => loose_any c w h
  have C_counts := fun (w : World) (h : XV w t p s ad n vs) => counts_any c w h
  have C_roots := fun (w : World) (h : XV w t p s ad n vs) => roots_any c w h
  generalize hr : chkF vs t p s = r
  have HR := Lib.hid hr
  clear H1 H2 hcf h hst hr
  cases h_tiles : tilesF vs t p
  · have hR : r = (2, false) := by rw [← HR.out]; simp [chkF, h_tiles]
    subst hR
    rw [h_tiles] at C_tiles
    have K_tiles := Lib.hid C_tiles
    clear HR h_tiles C_tiles C_feet C_apart C_slots C_bins C_racks C_loose C_counts C_roots
    go_enter Tryz.func16, Tryz.ntmps16
    go_wp2_with fail
    refine (HH1.out _).mono ?_
    rintro e w1 ⟨rfl, ha⟩
    obtain ⟨hac, haf⟩ := bcell ha
    have haz0 : w.heap.size < w1.heap.size := by have := ha.size; first | omega | (simp at this; omega)
    go_wp2_with fail
    refine (HH2.out _).mono ?_
    rintro e w2 ⟨rfl, hb⟩
    obtain ⟨hbc, hbf⟩ := bcell hb
    have hbz0 : w1.heap.size ≤ w2.heap.size := by have := hb.size; first | omega | (simp at this; omega)
    have hbz1 : w.heap.size < w2.heap.size := by have := hb.size; first | omega | (simp at this; omega)
    have bel2 : Below w.heap.size w w2 := by (repeat (first | exact Below.refl _ _ | assumption | refine Below.setCell ?_ (by first | omega | (simp; done) | (simp; omega)) _ | refine Below.alloc ?_ (by first | omega | (simp; done) | (simp; omega)) _ | refine Below.drew ?_ | refine Below.trans ?_ (Below.mono ‹Below _ _ _› (by first | omega | (simp; done) | (simp; omega)))))
    have X0 := (HV.out.keep bel2).boxed c
    have X0z := X0.lt
    obtain ⟨X00, X01, X02, X03⟩ := X0.cells
    go_wp2_with fail
    refine (K_tiles.out _ X0.xv).mono ?_
    rintro e v0 ⟨rfl, hv0⟩
    have Y0 := X0.keep hv0
    obtain ⟨Y00, Y01, Y02, Y03⟩ := Y0.cells
    have Y0z := Y0.lt
    clear hv0 X00 X01 X02 X03 X0z
    go_wp2
    exact bodyPost_ret (v := .tuple #[.int .i64 2, .bool false]) (by simp [results, Tryz.results16, go_sem]) rfl ⟨rfl, bel2.trans (Y0.bel.mono bel2.size)⟩
  · have hne := HSt.out (by simp [tilesF] at h_tiles; exact h_tiles.1)
    rw [h_tiles] at C_tiles
    have K_tiles := Lib.hid C_tiles
    clear C_tiles
    cases h_feet : feetF vs t p
    · have hR : r = (3, false) := by rw [← HR.out]; simp [chkF, h_tiles, h_feet]
      have hne := HSt.out (by simp [tilesF] at h_tiles; exact h_tiles.1)
      subst hR
      rw [h_feet] at C_feet
      have K_feet := Lib.hid C_feet
      clear HR h_tiles h_feet C_feet C_apart C_slots C_bins C_racks C_loose C_counts C_roots
      go_enter Tryz.func16, Tryz.ntmps16
      go_wp2_with fail
      refine (HH1.out _).mono ?_
      rintro e w1 ⟨rfl, ha⟩
      obtain ⟨hac, haf⟩ := bcell ha
      have haz0 : w.heap.size < w1.heap.size := by have := ha.size; first | omega | (simp at this; omega)
      go_wp2_with fail
      refine (HH2.out _).mono ?_
      rintro e w2 ⟨rfl, hb⟩
      obtain ⟨hbc, hbf⟩ := bcell hb
      have hbz0 : w1.heap.size ≤ w2.heap.size := by have := hb.size; first | omega | (simp at this; omega)
      have hbz1 : w.heap.size < w2.heap.size := by have := hb.size; first | omega | (simp at this; omega)
      have bel2 : Below w.heap.size w w2 := by (repeat (first | exact Below.refl _ _ | assumption | refine Below.setCell ?_ (by first | omega | (simp; done) | (simp; omega)) _ | refine Below.alloc ?_ (by first | omega | (simp; done) | (simp; omega)) _ | refine Below.drew ?_ | refine Below.trans ?_ (Below.mono ‹Below _ _ _› (by first | omega | (simp; done) | (simp; omega)))))
      have X0 := (HV.out.keep bel2).boxed c
      have X0z := X0.lt
      obtain ⟨X00, X01, X02, X03⟩ := X0.cells
      go_wp2_with fail
      refine (K_tiles.out _ X0.xv).mono ?_
      rintro e v0 ⟨rfl, hv0⟩
      have Y0 := X0.keep hv0
      obtain ⟨Y00, Y01, Y02, Y03⟩ := Y0.cells
      have Y0z := Y0.lt
      clear hv0 X00 X01 X02 X03 X0z
      go_wp2_with fail
      refine (K_feet.out _ Y0.xv hne).mono ?_
      rintro e v1 ⟨rfl, hv1⟩
      have Y1 := Y0.keep hv1
      obtain ⟨Y10, Y11, Y12, Y13⟩ := Y1.cells
      have Y1z := Y1.lt
      clear hv1 Y00 Y01 Y02 Y03 Y0z
      go_wp2
      exact bodyPost_ret (v := .tuple #[.int .i64 3, .bool false]) (by simp [results, Tryz.results16, go_sem]) rfl ⟨rfl, bel2.trans (Y1.bel.mono bel2.size)⟩
    · rw [h_feet] at C_feet
      have K_feet := Lib.hid C_feet
      clear C_feet
      cases h_apart : apartF vs t p
      · have hR : r = (4, false) := by rw [← HR.out]; simp [chkF, h_tiles, h_feet, h_apart]
        subst hR
        rw [h_apart] at C_apart
        have K_apart := Lib.hid C_apart
        clear HR h_tiles h_feet h_apart C_apart C_slots C_bins C_racks C_loose C_counts C_roots
        go_enter Tryz.func16, Tryz.ntmps16
        go_wp2_with fail
        refine (HH1.out _).mono ?_
        rintro e w1 ⟨rfl, ha⟩
        obtain ⟨hac, haf⟩ := bcell ha
        have haz0 : w.heap.size < w1.heap.size := by have := ha.size; first | omega | (simp at this; omega)
        go_wp2_with fail
        refine (HH2.out _).mono ?_
        rintro e w2 ⟨rfl, hb⟩
        obtain ⟨hbc, hbf⟩ := bcell hb
        have hbz0 : w1.heap.size ≤ w2.heap.size := by have := hb.size; first | omega | (simp at this; omega)
        have hbz1 : w.heap.size < w2.heap.size := by have := hb.size; first | omega | (simp at this; omega)
        have bel2 : Below w.heap.size w w2 := by (repeat (first | exact Below.refl _ _ | assumption | refine Below.setCell ?_ (by first | omega | (simp; done) | (simp; omega)) _ | refine Below.alloc ?_ (by first | omega | (simp; done) | (simp; omega)) _ | refine Below.drew ?_ | refine Below.trans ?_ (Below.mono ‹Below _ _ _› (by first | omega | (simp; done) | (simp; omega)))))
        have X0 := (HV.out.keep bel2).boxed c
        have X0z := X0.lt
        obtain ⟨X00, X01, X02, X03⟩ := X0.cells
        go_wp2_with fail
        refine (K_tiles.out _ X0.xv).mono ?_
        rintro e v0 ⟨rfl, hv0⟩
        have Y0 := X0.keep hv0
        obtain ⟨Y00, Y01, Y02, Y03⟩ := Y0.cells
        have Y0z := Y0.lt
        clear hv0 X00 X01 X02 X03 X0z
        go_wp2_with fail
        refine (K_feet.out _ Y0.xv hne).mono ?_
        rintro e v1 ⟨rfl, hv1⟩
        have Y1 := Y0.keep hv1
        obtain ⟨Y10, Y11, Y12, Y13⟩ := Y1.cells
        have Y1z := Y1.lt
        clear hv1 Y00 Y01 Y02 Y03 Y0z
        go_wp2_with fail
        refine (K_apart.out _ Y1.xv).mono ?_
        rintro e v2 ⟨rfl, hv2⟩
        have Y2 := Y1.keep hv2
        obtain ⟨Y20, Y21, Y22, Y23⟩ := Y2.cells
        have Y2z := Y2.lt
        clear hv2 Y10 Y11 Y12 Y13 Y1z
        go_wp2
        exact bodyPost_ret (v := .tuple #[.int .i64 4, .bool false]) (by simp [results, Tryz.results16, go_sem]) rfl ⟨rfl, bel2.trans (Y2.bel.mono bel2.size)⟩
      · rw [h_apart] at C_apart
        have K_apart := Lib.hid C_apart
        clear C_apart
        cases h_slots : slotsAll vs t p
        · have hR : r = (5, false) := by rw [← HR.out]; simp [chkF, h_tiles, h_feet, h_apart, h_slots]
          subst hR
          rw [h_slots] at C_slots
          have K_slots := Lib.hid C_slots
          clear HR h_tiles h_feet h_apart h_slots C_slots C_bins C_racks C_loose C_counts C_roots
          go_enter Tryz.func16, Tryz.ntmps16
          go_wp2_with fail
          refine (HH1.out _).mono ?_
          rintro e w1 ⟨rfl, ha⟩
          obtain ⟨hac, haf⟩ := bcell ha
          have haz0 : w.heap.size < w1.heap.size := by have := ha.size; first | omega | (simp at this; omega)
          go_wp2_with fail
          refine (HH2.out _).mono ?_
          rintro e w2 ⟨rfl, hb⟩
          obtain ⟨hbc, hbf⟩ := bcell hb
          have hbz0 : w1.heap.size ≤ w2.heap.size := by have := hb.size; first | omega | (simp at this; omega)
          have hbz1 : w.heap.size < w2.heap.size := by have := hb.size; first | omega | (simp at this; omega)
          have bel2 : Below w.heap.size w w2 := by (repeat (first | exact Below.refl _ _ | assumption | refine Below.setCell ?_ (by first | omega | (simp; done) | (simp; omega)) _ | refine Below.alloc ?_ (by first | omega | (simp; done) | (simp; omega)) _ | refine Below.drew ?_ | refine Below.trans ?_ (Below.mono ‹Below _ _ _› (by first | omega | (simp; done) | (simp; omega)))))
          have X0 := (HV.out.keep bel2).boxed c
          have X0z := X0.lt
          obtain ⟨X00, X01, X02, X03⟩ := X0.cells
          go_wp2_with fail
          refine (K_tiles.out _ X0.xv).mono ?_
          rintro e v0 ⟨rfl, hv0⟩
          have Y0 := X0.keep hv0
          obtain ⟨Y00, Y01, Y02, Y03⟩ := Y0.cells
          have Y0z := Y0.lt
          clear hv0 X00 X01 X02 X03 X0z
          go_wp2_with fail
          refine (K_feet.out _ Y0.xv hne).mono ?_
          rintro e v1 ⟨rfl, hv1⟩
          have Y1 := Y0.keep hv1
          obtain ⟨Y10, Y11, Y12, Y13⟩ := Y1.cells
          have Y1z := Y1.lt
          clear hv1 Y00 Y01 Y02 Y03 Y0z
          go_wp2_with fail
          refine (K_apart.out _ Y1.xv).mono ?_
          rintro e v2 ⟨rfl, hv2⟩
          have Y2 := Y1.keep hv2
          obtain ⟨Y20, Y21, Y22, Y23⟩ := Y2.cells
          have Y2z := Y2.lt
          clear hv2 Y10 Y11 Y12 Y13 Y1z
          go_wp2_with fail
          refine (K_slots.out _ Y2.xv).mono ?_
          rintro e v3 ⟨rfl, hv3⟩
          have Y3 := Y2.keep hv3
          obtain ⟨Y30, Y31, Y32, Y33⟩ := Y3.cells
          have Y3z := Y3.lt
          clear hv3 Y20 Y21 Y22 Y23 Y2z
          go_wp2
          exact bodyPost_ret (v := .tuple #[.int .i64 5, .bool false]) (by simp [results, Tryz.results16, go_sem]) rfl ⟨rfl, bel2.trans (Y3.bel.mono bel2.size)⟩
        · rw [h_slots] at C_slots
          have K_slots := Lib.hid C_slots
          clear C_slots
          cases h_bins : binsF vs t p
          · have hR : r = (6, false) := by rw [← HR.out]; simp [chkF, h_tiles, h_feet, h_apart, h_slots, h_bins]
            subst hR
            rw [h_bins] at C_bins
            have K_bins := Lib.hid C_bins
            clear HR h_tiles h_feet h_apart h_slots h_bins C_bins C_racks C_loose C_counts C_roots
            go_enter Tryz.func16, Tryz.ntmps16
            go_wp2_with fail
            refine (HH1.out _).mono ?_
            rintro e w1 ⟨rfl, ha⟩
            obtain ⟨hac, haf⟩ := bcell ha
            have haz0 : w.heap.size < w1.heap.size := by have := ha.size; first | omega | (simp at this; omega)
            go_wp2_with fail
            refine (HH2.out _).mono ?_
            rintro e w2 ⟨rfl, hb⟩
            obtain ⟨hbc, hbf⟩ := bcell hb
            have hbz0 : w1.heap.size ≤ w2.heap.size := by have := hb.size; first | omega | (simp at this; omega)
            have hbz1 : w.heap.size < w2.heap.size := by have := hb.size; first | omega | (simp at this; omega)
            have bel2 : Below w.heap.size w w2 := by (repeat (first | exact Below.refl _ _ | assumption | refine Below.setCell ?_ (by first | omega | (simp; done) | (simp; omega)) _ | refine Below.alloc ?_ (by first | omega | (simp; done) | (simp; omega)) _ | refine Below.drew ?_ | refine Below.trans ?_ (Below.mono ‹Below _ _ _› (by first | omega | (simp; done) | (simp; omega)))))
            have X0 := (HV.out.keep bel2).boxed c
            have X0z := X0.lt
            obtain ⟨X00, X01, X02, X03⟩ := X0.cells
            go_wp2_with fail
            refine (K_tiles.out _ X0.xv).mono ?_
            rintro e v0 ⟨rfl, hv0⟩
            have Y0 := X0.keep hv0
            obtain ⟨Y00, Y01, Y02, Y03⟩ := Y0.cells
            have Y0z := Y0.lt
            clear hv0 X00 X01 X02 X03 X0z
            go_wp2_with fail
            refine (K_feet.out _ Y0.xv hne).mono ?_
            rintro e v1 ⟨rfl, hv1⟩
            have Y1 := Y0.keep hv1
            obtain ⟨Y10, Y11, Y12, Y13⟩ := Y1.cells
            have Y1z := Y1.lt
            clear hv1 Y00 Y01 Y02 Y03 Y0z
            go_wp2_with fail
            refine (K_apart.out _ Y1.xv).mono ?_
            rintro e v2 ⟨rfl, hv2⟩
            have Y2 := Y1.keep hv2
            obtain ⟨Y20, Y21, Y22, Y23⟩ := Y2.cells
            have Y2z := Y2.lt
            clear hv2 Y10 Y11 Y12 Y13 Y1z
            go_wp2_with fail
            refine (K_slots.out _ Y2.xv).mono ?_
            rintro e v3 ⟨rfl, hv3⟩
            have Y3 := Y2.keep hv3
            obtain ⟨Y30, Y31, Y32, Y33⟩ := Y3.cells
            have Y3z := Y3.lt
            clear hv3 Y20 Y21 Y22 Y23 Y2z
            go_wp2_with fail
            refine (K_bins.out _ Y3.xv).mono ?_
            rintro e v4 ⟨rfl, hv4⟩
            have Y4 := Y3.keep hv4
            obtain ⟨Y40, Y41, Y42, Y43⟩ := Y4.cells
            have Y4z := Y4.lt
            clear hv4 Y30 Y31 Y32 Y33 Y3z
            go_wp2
            exact bodyPost_ret (v := .tuple #[.int .i64 6, .bool false]) (by simp [results, Tryz.results16, go_sem]) rfl ⟨rfl, bel2.trans (Y4.bel.mono bel2.size)⟩
          · rw [h_bins] at C_bins
            have K_bins := Lib.hid C_bins
            clear C_bins
            cases h_racks : racksF vs t p
            · have hR : r = (7, false) := by rw [← HR.out]; simp [chkF, h_tiles, h_feet, h_apart, h_slots, h_bins, h_racks]
              subst hR
              rw [h_racks] at C_racks
              have K_racks := Lib.hid C_racks
              clear HR h_tiles h_feet h_apart h_slots h_bins h_racks C_racks C_loose C_counts C_roots
              go_enter Tryz.func16, Tryz.ntmps16
              go_wp2_with fail
              refine (HH1.out _).mono ?_
              rintro e w1 ⟨rfl, ha⟩
              obtain ⟨hac, haf⟩ := bcell ha
              have haz0 : w.heap.size < w1.heap.size := by have := ha.size; first | omega | (simp at this; omega)
              go_wp2_with fail
              refine (HH2.out _).mono ?_
              rintro e w2 ⟨rfl, hb⟩
              obtain ⟨hbc, hbf⟩ := bcell hb
              have hbz0 : w1.heap.size ≤ w2.heap.size := by have := hb.size; first | omega | (simp at this; omega)
              have hbz1 : w.heap.size < w2.heap.size := by have := hb.size; first | omega | (simp at this; omega)
              have bel2 : Below w.heap.size w w2 := by (repeat (first | exact Below.refl _ _ | assumption | refine Below.setCell ?_ (by first | omega | (simp; done) | (simp; omega)) _ | refine Below.alloc ?_ (by first | omega | (simp; done) | (simp; omega)) _ | refine Below.drew ?_ | refine Below.trans ?_ (Below.mono ‹Below _ _ _› (by first | omega | (simp; done) | (simp; omega)))))
              have X0 := (HV.out.keep bel2).boxed c
              have X0z := X0.lt
              obtain ⟨X00, X01, X02, X03⟩ := X0.cells
              go_wp2_with fail
              refine (K_tiles.out _ X0.xv).mono ?_
              rintro e v0 ⟨rfl, hv0⟩
              have Y0 := X0.keep hv0
              obtain ⟨Y00, Y01, Y02, Y03⟩ := Y0.cells
              have Y0z := Y0.lt
              clear hv0 X00 X01 X02 X03 X0z
              go_wp2_with fail
              refine (K_feet.out _ Y0.xv hne).mono ?_
              rintro e v1 ⟨rfl, hv1⟩
              have Y1 := Y0.keep hv1
              obtain ⟨Y10, Y11, Y12, Y13⟩ := Y1.cells
              have Y1z := Y1.lt
              clear hv1 Y00 Y01 Y02 Y03 Y0z
              go_wp2_with fail
              refine (K_apart.out _ Y1.xv).mono ?_
              rintro e v2 ⟨rfl, hv2⟩
              have Y2 := Y1.keep hv2
              obtain ⟨Y20, Y21, Y22, Y23⟩ := Y2.cells
              have Y2z := Y2.lt
              clear hv2 Y10 Y11 Y12 Y13 Y1z
              go_wp2_with fail
              refine (K_slots.out _ Y2.xv).mono ?_
              rintro e v3 ⟨rfl, hv3⟩
              have Y3 := Y2.keep hv3
              obtain ⟨Y30, Y31, Y32, Y33⟩ := Y3.cells
              have Y3z := Y3.lt
              clear hv3 Y20 Y21 Y22 Y23 Y2z
              go_wp2_with fail
              refine (K_bins.out _ Y3.xv).mono ?_
              rintro e v4 ⟨rfl, hv4⟩
              have Y4 := Y3.keep hv4
              obtain ⟨Y40, Y41, Y42, Y43⟩ := Y4.cells
              have Y4z := Y4.lt
              clear hv4 Y30 Y31 Y32 Y33 Y3z
              go_wp2_with fail
              refine (K_racks.out _ Y4.xv).mono ?_
              rintro e v5 ⟨rfl, hv5⟩
              have Y5 := Y4.keep hv5
              obtain ⟨Y50, Y51, Y52, Y53⟩ := Y5.cells
              have Y5z := Y5.lt
              clear hv5 Y40 Y41 Y42 Y43 Y4z
              go_wp2
              exact bodyPost_ret (v := .tuple #[.int .i64 7, .bool false]) (by simp [results, Tryz.results16, go_sem]) rfl ⟨rfl, bel2.trans (Y5.bel.mono bel2.size)⟩
            · rw [h_racks] at C_racks
              have K_racks := Lib.hid C_racks
              clear C_racks
              cases h_loose : looseF vs t p
              · have hR : r = (8, false) := by rw [← HR.out]; simp [chkF, h_tiles, h_feet, h_apart, h_slots, h_bins, h_racks, h_loose]
                subst hR
                rw [h_loose] at C_loose
                have K_loose := Lib.hid C_loose
                clear HR h_tiles h_feet h_apart h_slots h_bins h_racks h_loose C_loose C_counts C_roots
                go_enter Tryz.func16, Tryz.ntmps16
                go_wp2_with fail
                refine (HH1.out _).mono ?_
                rintro e w1 ⟨rfl, ha⟩
                obtain ⟨hac, haf⟩ := bcell ha
                have haz0 : w.heap.size < w1.heap.size := by have := ha.size; first | omega | (simp at this; omega)
                go_wp2_with fail
                refine (HH2.out _).mono ?_
                rintro e w2 ⟨rfl, hb⟩
                obtain ⟨hbc, hbf⟩ := bcell hb
                have hbz0 : w1.heap.size ≤ w2.heap.size := by have := hb.size; first | omega | (simp at this; omega)
                have hbz1 : w.heap.size < w2.heap.size := by have := hb.size; first | omega | (simp at this; omega)
                have bel2 : Below w.heap.size w w2 := by (repeat (first | exact Below.refl _ _ | assumption | refine Below.setCell ?_ (by first | omega | (simp; done) | (simp; omega)) _ | refine Below.alloc ?_ (by first | omega | (simp; done) | (simp; omega)) _ | refine Below.drew ?_ | refine Below.trans ?_ (Below.mono ‹Below _ _ _› (by first | omega | (simp; done) | (simp; omega)))))
                have X0 := (HV.out.keep bel2).boxed c
                have X0z := X0.lt
                obtain ⟨X00, X01, X02, X03⟩ := X0.cells
                go_wp2_with fail
                refine (K_tiles.out _ X0.xv).mono ?_
                rintro e v0 ⟨rfl, hv0⟩
                have Y0 := X0.keep hv0
                obtain ⟨Y00, Y01, Y02, Y03⟩ := Y0.cells
                have Y0z := Y0.lt
                clear hv0 X00 X01 X02 X03 X0z
                go_wp2_with fail
                refine (K_feet.out _ Y0.xv hne).mono ?_
                rintro e v1 ⟨rfl, hv1⟩
                have Y1 := Y0.keep hv1
                obtain ⟨Y10, Y11, Y12, Y13⟩ := Y1.cells
                have Y1z := Y1.lt
                clear hv1 Y00 Y01 Y02 Y03 Y0z
                go_wp2_with fail
                refine (K_apart.out _ Y1.xv).mono ?_
                rintro e v2 ⟨rfl, hv2⟩
                have Y2 := Y1.keep hv2
                obtain ⟨Y20, Y21, Y22, Y23⟩ := Y2.cells
                have Y2z := Y2.lt
                clear hv2 Y10 Y11 Y12 Y13 Y1z
                go_wp2_with fail
                refine (K_slots.out _ Y2.xv).mono ?_
                rintro e v3 ⟨rfl, hv3⟩
                have Y3 := Y2.keep hv3
                obtain ⟨Y30, Y31, Y32, Y33⟩ := Y3.cells
                have Y3z := Y3.lt
                clear hv3 Y20 Y21 Y22 Y23 Y2z
                go_wp2_with fail
                refine (K_bins.out _ Y3.xv).mono ?_
                rintro e v4 ⟨rfl, hv4⟩
                have Y4 := Y3.keep hv4
                obtain ⟨Y40, Y41, Y42, Y43⟩ := Y4.cells
                have Y4z := Y4.lt
                clear hv4 Y30 Y31 Y32 Y33 Y3z
                go_wp2_with fail
                refine (K_racks.out _ Y4.xv).mono ?_
                rintro e v5 ⟨rfl, hv5⟩
                have Y5 := Y4.keep hv5
                obtain ⟨Y50, Y51, Y52, Y53⟩ := Y5.cells
                have Y5z := Y5.lt
                clear hv5 Y40 Y41 Y42 Y43 Y4z
                go_wp2_with fail
                refine (K_loose.out _ Y5.xv).mono ?_
                rintro e v6 ⟨rfl, hv6⟩
                have Y6 := Y5.keep hv6
                obtain ⟨Y60, Y61, Y62, Y63⟩ := Y6.cells
                have Y6z := Y6.lt
                clear hv6 Y50 Y51 Y52 Y53 Y5z
                go_wp2
                exact bodyPost_ret (v := .tuple #[.int .i64 8, .bool false]) (by simp [results, Tryz.results16, go_sem]) rfl ⟨rfl, bel2.trans (Y6.bel.mono bel2.size)⟩
              · rw [h_loose] at C_loose
                have K_loose := Lib.hid C_loose
                clear C_loose
                cases h_counts : countsF vs t p
                · have hR : r = (9, false) := by rw [← HR.out]; simp [chkF, h_tiles, h_feet, h_apart, h_slots, h_bins, h_racks, h_loose, h_counts]
                  subst hR
                  rw [h_counts] at C_counts
                  have K_counts := Lib.hid C_counts
                  clear HR h_tiles h_feet h_apart h_slots h_bins h_racks h_loose h_counts C_counts C_roots
                  go_enter Tryz.func16, Tryz.ntmps16
                  go_wp2_with fail
                  refine (HH1.out _).mono ?_
                  rintro e w1 ⟨rfl, ha⟩
                  obtain ⟨hac, haf⟩ := bcell ha
                  have haz0 : w.heap.size < w1.heap.size := by have := ha.size; first | omega | (simp at this; omega)
                  go_wp2_with fail
                  refine (HH2.out _).mono ?_
                  rintro e w2 ⟨rfl, hb⟩
                  obtain ⟨hbc, hbf⟩ := bcell hb
                  have hbz0 : w1.heap.size ≤ w2.heap.size := by have := hb.size; first | omega | (simp at this; omega)
                  have hbz1 : w.heap.size < w2.heap.size := by have := hb.size; first | omega | (simp at this; omega)
                  have bel2 : Below w.heap.size w w2 := by (repeat (first | exact Below.refl _ _ | assumption | refine Below.setCell ?_ (by first | omega | (simp; done) | (simp; omega)) _ | refine Below.alloc ?_ (by first | omega | (simp; done) | (simp; omega)) _ | refine Below.drew ?_ | refine Below.trans ?_ (Below.mono ‹Below _ _ _› (by first | omega | (simp; done) | (simp; omega)))))
                  have X0 := (HV.out.keep bel2).boxed c
                  have X0z := X0.lt
                  obtain ⟨X00, X01, X02, X03⟩ := X0.cells
                  go_wp2_with fail
                  refine (K_tiles.out _ X0.xv).mono ?_
                  rintro e v0 ⟨rfl, hv0⟩
                  have Y0 := X0.keep hv0
                  obtain ⟨Y00, Y01, Y02, Y03⟩ := Y0.cells
                  have Y0z := Y0.lt
                  clear hv0 X00 X01 X02 X03 X0z
                  go_wp2_with fail
                  refine (K_feet.out _ Y0.xv hne).mono ?_
                  rintro e v1 ⟨rfl, hv1⟩
                  have Y1 := Y0.keep hv1
                  obtain ⟨Y10, Y11, Y12, Y13⟩ := Y1.cells
                  have Y1z := Y1.lt
                  clear hv1 Y00 Y01 Y02 Y03 Y0z
                  go_wp2_with fail
                  refine (K_apart.out _ Y1.xv).mono ?_
                  rintro e v2 ⟨rfl, hv2⟩
                  have Y2 := Y1.keep hv2
                  obtain ⟨Y20, Y21, Y22, Y23⟩ := Y2.cells
                  have Y2z := Y2.lt
                  clear hv2 Y10 Y11 Y12 Y13 Y1z
                  go_wp2_with fail
                  refine (K_slots.out _ Y2.xv).mono ?_
                  rintro e v3 ⟨rfl, hv3⟩
                  have Y3 := Y2.keep hv3
                  obtain ⟨Y30, Y31, Y32, Y33⟩ := Y3.cells
                  have Y3z := Y3.lt
                  clear hv3 Y20 Y21 Y22 Y23 Y2z
                  go_wp2_with fail
                  refine (K_bins.out _ Y3.xv).mono ?_
                  rintro e v4 ⟨rfl, hv4⟩
                  have Y4 := Y3.keep hv4
                  obtain ⟨Y40, Y41, Y42, Y43⟩ := Y4.cells
                  have Y4z := Y4.lt
                  clear hv4 Y30 Y31 Y32 Y33 Y3z
                  go_wp2_with fail
                  refine (K_racks.out _ Y4.xv).mono ?_
                  rintro e v5 ⟨rfl, hv5⟩
                  have Y5 := Y4.keep hv5
                  obtain ⟨Y50, Y51, Y52, Y53⟩ := Y5.cells
                  have Y5z := Y5.lt
                  clear hv5 Y40 Y41 Y42 Y43 Y4z
                  go_wp2_with fail
                  refine (K_loose.out _ Y5.xv).mono ?_
                  rintro e v6 ⟨rfl, hv6⟩
                  have Y6 := Y5.keep hv6
                  obtain ⟨Y60, Y61, Y62, Y63⟩ := Y6.cells
                  have Y6z := Y6.lt
                  clear hv6 Y50 Y51 Y52 Y53 Y5z
                  go_wp2_with fail
                  refine (K_counts.out _ Y6.xv).mono ?_
                  rintro e v7 ⟨rfl, hv7⟩
                  have Y7 := Y6.keep hv7
                  obtain ⟨Y70, Y71, Y72, Y73⟩ := Y7.cells
                  have Y7z := Y7.lt
                  clear hv7 Y60 Y61 Y62 Y63 Y6z
                  go_wp2
                  exact bodyPost_ret (v := .tuple #[.int .i64 9, .bool false]) (by simp [results, Tryz.results16, go_sem]) rfl ⟨rfl, bel2.trans (Y7.bel.mono bel2.size)⟩
                · rw [h_counts] at C_counts
                  have K_counts := Lib.hid C_counts
                  clear C_counts
                  cases h_roots : rootsF vs t p s
                  · have hR : r = (10, false) := by rw [← HR.out]; simp [chkF, h_tiles, h_feet, h_apart, h_slots, h_bins, h_racks, h_loose, h_counts, h_roots]
                    subst hR
                    rw [h_roots] at C_roots
                    have K_roots := Lib.hid C_roots
                    clear HR h_tiles h_feet h_apart h_slots h_bins h_racks h_loose h_counts h_roots C_roots 
                    go_enter Tryz.func16, Tryz.ntmps16
                    go_wp2_with fail
                    refine (HH1.out _).mono ?_
                    rintro e w1 ⟨rfl, ha⟩
                    obtain ⟨hac, haf⟩ := bcell ha
                    have haz0 : w.heap.size < w1.heap.size := by have := ha.size; first | omega | (simp at this; omega)
                    go_wp2_with fail
                    refine (HH2.out _).mono ?_
                    rintro e w2 ⟨rfl, hb⟩
                    obtain ⟨hbc, hbf⟩ := bcell hb
                    have hbz0 : w1.heap.size ≤ w2.heap.size := by have := hb.size; first | omega | (simp at this; omega)
                    have hbz1 : w.heap.size < w2.heap.size := by have := hb.size; first | omega | (simp at this; omega)
                    have bel2 : Below w.heap.size w w2 := by (repeat (first | exact Below.refl _ _ | assumption | refine Below.setCell ?_ (by first | omega | (simp; done) | (simp; omega)) _ | refine Below.alloc ?_ (by first | omega | (simp; done) | (simp; omega)) _ | refine Below.drew ?_ | refine Below.trans ?_ (Below.mono ‹Below _ _ _› (by first | omega | (simp; done) | (simp; omega)))))
                    have X0 := (HV.out.keep bel2).boxed c
                    have X0z := X0.lt
                    obtain ⟨X00, X01, X02, X03⟩ := X0.cells
                    go_wp2_with fail
                    refine (K_tiles.out _ X0.xv).mono ?_
                    rintro e v0 ⟨rfl, hv0⟩
                    have Y0 := X0.keep hv0
                    obtain ⟨Y00, Y01, Y02, Y03⟩ := Y0.cells
                    have Y0z := Y0.lt
                    clear hv0 X00 X01 X02 X03 X0z
                    go_wp2_with fail
                    refine (K_feet.out _ Y0.xv hne).mono ?_
                    rintro e v1 ⟨rfl, hv1⟩
                    have Y1 := Y0.keep hv1
                    obtain ⟨Y10, Y11, Y12, Y13⟩ := Y1.cells
                    have Y1z := Y1.lt
                    clear hv1 Y00 Y01 Y02 Y03 Y0z
                    go_wp2_with fail
                    refine (K_apart.out _ Y1.xv).mono ?_
                    rintro e v2 ⟨rfl, hv2⟩
                    have Y2 := Y1.keep hv2
                    obtain ⟨Y20, Y21, Y22, Y23⟩ := Y2.cells
                    have Y2z := Y2.lt
                    clear hv2 Y10 Y11 Y12 Y13 Y1z
                    go_wp2_with fail
                    refine (K_slots.out _ Y2.xv).mono ?_
                    rintro e v3 ⟨rfl, hv3⟩
                    have Y3 := Y2.keep hv3
                    obtain ⟨Y30, Y31, Y32, Y33⟩ := Y3.cells
                    have Y3z := Y3.lt
                    clear hv3 Y20 Y21 Y22 Y23 Y2z
                    go_wp2_with fail
                    refine (K_bins.out _ Y3.xv).mono ?_
                    rintro e v4 ⟨rfl, hv4⟩
                    have Y4 := Y3.keep hv4
                    obtain ⟨Y40, Y41, Y42, Y43⟩ := Y4.cells
                    have Y4z := Y4.lt
                    clear hv4 Y30 Y31 Y32 Y33 Y3z
                    go_wp2_with fail
                    refine (K_racks.out _ Y4.xv).mono ?_
                    rintro e v5 ⟨rfl, hv5⟩
                    have Y5 := Y4.keep hv5
                    obtain ⟨Y50, Y51, Y52, Y53⟩ := Y5.cells
                    have Y5z := Y5.lt
                    clear hv5 Y40 Y41 Y42 Y43 Y4z
                    go_wp2_with fail
                    refine (K_loose.out _ Y5.xv).mono ?_
                    rintro e v6 ⟨rfl, hv6⟩
                    have Y6 := Y5.keep hv6
                    obtain ⟨Y60, Y61, Y62, Y63⟩ := Y6.cells
                    have Y6z := Y6.lt
                    clear hv6 Y50 Y51 Y52 Y53 Y5z
                    go_wp2_with fail
                    refine (K_counts.out _ Y6.xv).mono ?_
                    rintro e v7 ⟨rfl, hv7⟩
                    have Y7 := Y6.keep hv7
                    obtain ⟨Y70, Y71, Y72, Y73⟩ := Y7.cells
                    have Y7z := Y7.lt
                    clear hv7 Y60 Y61 Y62 Y63 Y6z
                    go_wp2_with fail
                    refine (K_roots.out _ Y7.xv).mono ?_
                    rintro e v8 ⟨rfl, hv8⟩
                    have Y8 := Y7.keep hv8
                    obtain ⟨Y80, Y81, Y82, Y83⟩ := Y8.cells
                    have Y8z := Y8.lt
                    clear hv8 Y70 Y71 Y72 Y73 Y7z
                    go_wp2
                    exact bodyPost_ret (v := .tuple #[.int .i64 10, .bool false]) (by simp [results, Tryz.results16, go_sem]) rfl ⟨rfl, bel2.trans (Y8.bel.mono bel2.size)⟩
                  · rw [h_roots] at C_roots
                    have K_roots := Lib.hid C_roots
                    clear C_roots
                    have hR : r = (0, true) := by rw [← HR.out]; simp [chkF, h_tiles, h_feet, h_apart, h_slots, h_bins, h_racks, h_loose, h_counts, h_roots]
                    subst hR
                    clear HR h_tiles h_feet h_apart h_slots h_bins h_racks h_loose h_counts h_roots 
                    go_enter Tryz.func16, Tryz.ntmps16
                    go_wp2_with fail
                    refine (HH1.out _).mono ?_
                    rintro e w1 ⟨rfl, ha⟩
                    obtain ⟨hac, haf⟩ := bcell ha
                    have haz0 : w.heap.size < w1.heap.size := by have := ha.size; first | omega | (simp at this; omega)
                    go_wp2_with fail
                    refine (HH2.out _).mono ?_
                    rintro e w2 ⟨rfl, hb⟩
                    obtain ⟨hbc, hbf⟩ := bcell hb
                    have hbz0 : w1.heap.size ≤ w2.heap.size := by have := hb.size; first | omega | (simp at this; omega)
                    have hbz1 : w.heap.size < w2.heap.size := by have := hb.size; first | omega | (simp at this; omega)
                    have bel2 : Below w.heap.size w w2 := by (repeat (first | exact Below.refl _ _ | assumption | refine Below.setCell ?_ (by first | omega | (simp; done) | (simp; omega)) _ | refine Below.alloc ?_ (by first | omega | (simp; done) | (simp; omega)) _ | refine Below.drew ?_ | refine Below.trans ?_ (Below.mono ‹Below _ _ _› (by first | omega | (simp; done) | (simp; omega)))))
                    have X0 := (HV.out.keep bel2).boxed c
                    have X0z := X0.lt
                    obtain ⟨X00, X01, X02, X03⟩ := X0.cells
                    go_wp2_with fail
                    refine (K_tiles.out _ X0.xv).mono ?_
                    rintro e v0 ⟨rfl, hv0⟩
                    have Y0 := X0.keep hv0
                    obtain ⟨Y00, Y01, Y02, Y03⟩ := Y0.cells
                    have Y0z := Y0.lt
                    clear hv0 X00 X01 X02 X03 X0z
                    go_wp2_with fail
                    refine (K_feet.out _ Y0.xv hne).mono ?_
                    rintro e v1 ⟨rfl, hv1⟩
                    have Y1 := Y0.keep hv1
                    obtain ⟨Y10, Y11, Y12, Y13⟩ := Y1.cells
                    have Y1z := Y1.lt
                    clear hv1 Y00 Y01 Y02 Y03 Y0z
                    go_wp2_with fail
                    refine (K_apart.out _ Y1.xv).mono ?_
                    rintro e v2 ⟨rfl, hv2⟩
                    have Y2 := Y1.keep hv2
                    obtain ⟨Y20, Y21, Y22, Y23⟩ := Y2.cells
                    have Y2z := Y2.lt
                    clear hv2 Y10 Y11 Y12 Y13 Y1z
                    go_wp2_with fail
                    refine (K_slots.out _ Y2.xv).mono ?_
                    rintro e v3 ⟨rfl, hv3⟩
                    have Y3 := Y2.keep hv3
                    obtain ⟨Y30, Y31, Y32, Y33⟩ := Y3.cells
                    have Y3z := Y3.lt
                    clear hv3 Y20 Y21 Y22 Y23 Y2z
                    go_wp2_with fail
                    refine (K_bins.out _ Y3.xv).mono ?_
                    rintro e v4 ⟨rfl, hv4⟩
                    have Y4 := Y3.keep hv4
                    obtain ⟨Y40, Y41, Y42, Y43⟩ := Y4.cells
                    have Y4z := Y4.lt
                    clear hv4 Y30 Y31 Y32 Y33 Y3z
                    go_wp2_with fail
                    refine (K_racks.out _ Y4.xv).mono ?_
                    rintro e v5 ⟨rfl, hv5⟩
                    have Y5 := Y4.keep hv5
                    obtain ⟨Y50, Y51, Y52, Y53⟩ := Y5.cells
                    have Y5z := Y5.lt
                    clear hv5 Y40 Y41 Y42 Y43 Y4z
                    go_wp2_with fail
                    refine (K_loose.out _ Y5.xv).mono ?_
                    rintro e v6 ⟨rfl, hv6⟩
                    have Y6 := Y5.keep hv6
                    obtain ⟨Y60, Y61, Y62, Y63⟩ := Y6.cells
                    have Y6z := Y6.lt
                    clear hv6 Y50 Y51 Y52 Y53 Y5z
                    go_wp2_with fail
                    refine (K_counts.out _ Y6.xv).mono ?_
                    rintro e v7 ⟨rfl, hv7⟩
                    have Y7 := Y6.keep hv7
                    obtain ⟨Y70, Y71, Y72, Y73⟩ := Y7.cells
                    have Y7z := Y7.lt
                    clear hv7 Y60 Y61 Y62 Y63 Y6z
                    go_wp2_with fail
                    refine (K_roots.out _ Y7.xv).mono ?_
                    rintro e v8 ⟨rfl, hv8⟩
                    have Y8 := Y7.keep hv8
                    obtain ⟨Y80, Y81, Y82, Y83⟩ := Y8.cells
                    have Y8z := Y8.lt
                    clear hv8 Y70 Y71 Y72 Y73 Y7z
                    go_wp2
                    exact bodyPost_ret (v := .tuple #[.int .i64 0, .bool true]) (by simp [results, Tryz.results16, go_sem]) rfl ⟨rfl, bel2.trans (Y8.bel.mono bel2.size)⟩

theorem rcheck_no (a : Option Addr) (m c : Nat) (w : World) (h : rightB t p s = false ∨ (m : Int) ≠ cellsN t p) :
    Calls Tryz.prog 16 #[.agg #[.int .i64 t, .int .i64 p, .int .i64 s], .slice a m c] w fun e w' => e = .returned (.tuple #[.int .i64 1, .bool false]) ∧ Below w.heap.size w w' := by
  have H1 := rright_any t p s
  have H2 := rcells_any t p s
  cases hr : rightB t p s
  · rw [hr] at H1
    have HH1 := Lib.hid H1
    clear H1 H2 h hr
    go_enter Tryz.func16, Tryz.ntmps16
    go_wp2_with fail
    refine (HH1.out _).mono ?_
    rintro e w1 ⟨rfl, ha⟩
    obtain ⟨hac, haf⟩ := bcell ha
    have haz0 : w.heap.size < w1.heap.size := by have := ha.size; first | omega | (simp at this; omega)
    go_wp2
    refine bodyPost_ret (v := .tuple #[.int .i64 1, .bool false]) (by simp [results, Tryz.results16, go_sem]) rfl ⟨rfl, ?_⟩
    (repeat (first | exact Below.refl _ _ | assumption | refine Below.setCell ?_ (by first | omega | (simp; done) | (simp; omega)) _ | refine Below.alloc ?_ (by first | omega | (simp; done) | (simp; omega)) _ | refine Below.drew ?_ | refine Below.trans ?_ (Below.mono ‹Below _ _ _› (by first | omega | (simp; done) | (simp; omega)))))
  · rw [hr] at H1
    have hcf : cellsF t p s = cellsN t p := by simp [cellsF, hr]
    rw [hcf] at H2
    have HH1 := Lib.hid H1
    have HH2 := Lib.hid H2
    have hm : (m : Int) ≠ cellsN t p := h.resolve_left (by rw [hr]; simp)
    generalize cellsN t p = z at *
    have hmb : ((m : Int) != z) = true := by simpa using hm
    clear H1 H2 h hr hcf hm
    go_enter Tryz.func16, Tryz.ntmps16
    go_wp2_with fail
    refine (HH1.out _).mono ?_
    rintro e w1 ⟨rfl, ha⟩
    obtain ⟨hac, haf⟩ := bcell ha
    have haz0 : w.heap.size < w1.heap.size := by have := ha.size; first | omega | (simp at this; omega)
    go_wp2_with fail
    refine (HH2.out _).mono ?_
    rintro e w2 ⟨rfl, hb⟩
    obtain ⟨hbc, hbf⟩ := bcell hb
    have hbz0 : w1.heap.size ≤ w2.heap.size := by have := hb.size; first | omega | (simp at this; omega)
    go_wp2
    refine bodyPost_ret (v := .tuple #[.int .i64 1, .bool false]) (by simp [results, Tryz.results16, go_sem]) rfl ⟨rfl, ?_⟩
    (repeat (first | exact Below.refl _ _ | assumption | refine Below.setCell ?_ (by first | omega | (simp; done) | (simp; omega)) _ | refine Below.alloc ?_ (by first | omega | (simp; done) | (simp; omega)) _ | refine Below.drew ?_ | refine Below.trans ?_ (Below.mono ‹Below _ _ _› (by first | omega | (simp; done) | (simp; omega)))))
end
end Go.Proofs.YtpmoajhpgekhcaaGreat
/- pockets that fit a heap: the document's way, and that it is the program's. -/
set_option linter.unusedSimpArgs false
set_option linter.unusedVariables false
namespace Go.Proofs.YtpmoajhpgekhcaaGreat

/-- the addresses of all pockets of a class. -/
def haveF (all : List (List (List Int))) (k : Nat) : List Int := all.flatMap fun p => p.getD k []
def dPart (z : Int) (h : List Int) : List (Int × Int × Int) → Int → Option Int
  | [], n => some n
  | x :: l, n => if x.1 = 4 ∧ x.2.2 = z then (if h.count x.2.1 = 1 then dPart z h l (n - 1) else none) else dPart z h l n
def lensB (all : List (List (List Int))) (k : Nat) : Bool := all.all fun p => decide ((p.getD k []).length ≤ 4)
def docR (sz : Nat → Int) (all : List (List (List Int))) (l : List (Int × Int × Int)) : Nat → Option Int
  | 0 => some 0
  | k + 1 => (docR sz all l k).bind fun n => if lensB all k = true then dPart (sz k) (haveF all k) l (n + (haveF all k).length) else none
def fitsD (sz : Nat → Int) (all : List (List (List Int))) (l : List (Int × Int × Int)) : Bool := match docR sz all l 9 with
  | some n => n == 0
  | none => false

def idleL (l : List (Int × Int × Int)) : List (Int × Int) := l.filterMap fun x => if x.1 = 4 then some (x.2.1, x.2.2) else none

theorem dPart_iff (z : Int) (h : List Int) : ∀ (l : List (Int × Int × Int)) (n m : Int), dPart z h l n = some m ↔ (∀ q ∈ idleL l, q.2 = z → h.count q.1 = 1) ∧ m = n - ((idleL l).countP (fun q => q.2 = z) : Nat)
  | [], n, m => by simp [dPart, idleL]; omega
  | x :: l, n, m => by
    unfold dPart
    by_cases h4 : x.1 = 4
    · have e : idleL (x :: l) = (x.2.1, x.2.2) :: idleL l := by simp [idleL, h4]
      rw [e]
      by_cases hz : x.2.2 = z
      · rw [if_pos ⟨h4, hz⟩]
        by_cases hc : h.count x.2.1 = 1
        · rw [if_pos hc, dPart_iff z h l]
          simp only [List.forall_mem_cons, List.countP_cons, hz, decide_true, if_true, hc, implies_true, true_and]
          constructor
          · rintro ⟨a, b⟩; exact ⟨a, by omega⟩
          · rintro ⟨a, b⟩; exact ⟨a, by omega⟩
        · rw [if_neg hc]
          simp [hz, hc]
      · rw [if_neg (by simp [hz]), dPart_iff z h l]
        simp only [List.forall_mem_cons, List.countP_cons, hz, decide_false, false_implies, true_and]
        simp
    · have e : idleL (x :: l) = idleL l := by simp [idleL, h4]
      rw [e, if_neg (by simp [h4]), dPart_iff z h l]

end Go.Proofs.YtpmoajhpgekhcaaGreat
/- the program's audit: tiles. -/
set_option linter.unusedSimpArgs false
set_option linter.unusedVariables false
namespace Go.Proofs.YtpmoajhpgekhcaaGreat
open Go.RowKit

theorem partCells_at : ∀ (l : List (Int × Int × Int)) (k : Nat) (x : Int × Int × Int), l[k]? = some x → (partCells l)[k * 3]? = some (.int .i64 x.1) ∧ (partCells l)[k * 3 + 1]? = some (.int .i64 x.2.1) ∧ (partCells l)[k * 3 + 2]? = some (.int .i64 x.2.2)
  | [], _, _, h => by simp at h
  | y :: l, 0, x, h => by
    simp at h
    subst h
    exact ⟨rfl, rfl, rfl⟩
  | y :: l, k + 1, x, h => by
    have ih := partCells_at l k x (by simpa using h)
    have e : partCells (y :: l) = [.int .i64 y.1, .int .i64 y.2.1, .int .i64 y.2.2] ++ partCells l := rfl
    rw [e]
    refine ⟨?_, ?_, ?_⟩
    · rw [List.getElem?_append_right (by simp; omega)]; rw [← ih.1]; congr 1; simp; omega
    · rw [List.getElem?_append_right (by simp; omega)]; rw [← ih.2.1]; congr 1; simp; omega
    · rw [List.getElem?_append_right (by simp; omega)]; rw [← ih.2.2]; congr 1; simp; omega
section
variable {b : Nat} {t p s : Int} {ad : Addr} {n c : Nat} {vs : List Int} {atv : Value} {mb : Nat}
/-- a row of infos of the look's own. -/
structure AtR (w0 : World) (b : Nat) (mb g P : Nat) (al : List (Int × Int × Int)) (ad : Addr) (W : World) : Prop where
  row : W.ownsRow 0 61 3 (.slice (some ⟨g, 0, none⟩) P P) P (partCells al)
  ge : w0.heap.size ≤ g
  n1 : g ≠ b
  n2 : g ≠ mb
  n3 : g ≠ ad.block
theorem AtR.keep {w0 W W' : World} {g P : Nat} {al : List (Int × Int × Int)} (h : AtR w0 b mb g P al ad W) (hb : Below W.heap.size W W') : AtR w0 b mb g P al ad W' :=
  ⟨((BS.start _).below hb).row h.row, h.ge, h.n1, h.n2, h.n3⟩
end
end Go.Proofs.YtpmoajhpgekhcaaGreat
/- the program's audit: lists (bins, racks). -/
set_option linter.unusedSimpArgs false
set_option linter.unusedVariables false
namespace Go.Proofs.YtpmoajhpgekhcaaGreat
open Go.RowKit
section
variable {b : Nat} {t p s : Int} {ad : Addr} {n c : Nat} {vs : List Int} {mb : Nat}
/-- what a page's info, as the look has it, offers. -/
theorem AtR.at {w0 W : World} {g P : Nat} {al : List (Int × Int × Int)} (hA : AtR w0 b mb g P al ad W) {q : Nat} (hq : q < P) : ∃ K L C, al[q]? = some (K, L, C) ∧ W.cell? ⟨g, q * 3, none⟩ = some (.int .i64 K) ∧ W.cell? ⟨g, q * 3 + 1, none⟩ = some (.int .i64 L) ∧ W.cell? ⟨g, q * 3 + 2, none⟩ = some (.int .i64 C) := by
  have hpl := hA.row.1
  have hal : q < al.length := by have := partCells_len al; omega
  obtain ⟨⟨K, L, C⟩, hx⟩ : ∃ x, al[q]? = some x := ⟨_, List.getElem?_eq_getElem hal⟩
  obtain ⟨p0, p1, p2⟩ := partCells_at al q _ hx
  exact ⟨K, L, C, hx, (hA.row.cellAt (q * 3) (by omega)).trans p0, (hA.row.cellAt (q * 3 + 1) (by omega)).trans p1, (hA.row.cellAt (q * 3 + 2) (by omega)).trans p2⟩
end
end Go.Proofs.YtpmoajhpgekhcaaGreat
/- regions that draw, in a round of a range over a function; the iterator over spans. -/
set_option linter.unusedSimpArgs false
set_option linter.unusedVariables false
namespace Go.Proofs.YtpmoajhpgekhcaaGreat
open Go.RowKit
attribute [local go_sem] Oper.semAt_some

/-- the post of a way on alone. -/
def Only (Q : Exit → Act → World → Prop) : Exit → Act → World → Prop
  | .normal, a, w => Q .normal a w
  | _, _, _ => False
theorem Only.normal {Q : Exit → Act → World → Prop} {a : Act} {w : World} (h : Q .normal a w) : Only Q .normal a w := h
theorem Only.imp {Q : Exit → Act → World → Prop} : ∀ (e : Exit) (a : Act) (w : World), Only Q e a w → Q e a w := fun e a w h => by
  cases e <;> first | exact h | exact (h : False).elim
section
variable {P : Program} {ops : Array Oper} {Q : Exit → Act → World → Prop} {md : Region.Mode} {l n : Nat}
end
/-- a body that calls keeps what is no cells. -/
theorem Below.from {W W' : World} (h : Below W.heap.size W W') (B : Nat) : KeepsFrom B W W' :=
  ⟨h.size, fun k o _ hk _ => (h.block k (Array.getElem?_eq_some_iff.1 hk).1).trans hk⟩

section
variable {P : Nat}
end
end Go.Proofs.YtpmoajhpgekhcaaGreat
/- the program's audit: apart. -/
set_option linter.unusedSimpArgs false
set_option linter.unusedVariables false
namespace Go.Proofs.YtpmoajhpgekhcaaGreat
open Go.RowKit
attribute [local go_sem] Oper.semAt_some

/-- the cells of a row of infos. -/
theorem AtR.cells {w0 : World} {b mb g P : Nat} {al : List (Int × Int × Int)} {ad : Addr} {W : World} (h : AtR w0 b mb g P al ad W) : ∀ k x, al[k]? = some x → W.cell? ⟨g, k * 3, none⟩ = some (.int .i64 x.1) ∧ W.cell? ⟨g, k * 3 + 1, none⟩ = some (.int .i64 x.2.1) ∧ W.cell? ⟨g, k * 3 + 2, none⟩ = some (.int .i64 x.2.2) := fun k x hx => by
  obtain ⟨p0, p1, p2⟩ := partCells_at al k x hx
  have hpl := h.row.1
  have hal : k < al.length := (List.getElem?_eq_some_iff.1 hx).1
  have hl := partCells_len al
  exact ⟨(h.row.cellAt (k * 3) (by omega)).trans p0, (h.row.cellAt (k * 3 + 1) (by omega)).trans p1, (h.row.cellAt (k * 3 + 2) (by omega)).trans p2⟩
theorem AtR.len {w0 : World} {b mb g P : Nat} {al : List (Int × Int × Int)} {ad : Addr} {W : World} (h : AtR w0 b mb g P al ad W) : al.length = P := by
  have hpl := h.row.1
  have hl := partCells_len al
  omega
/-- a loop variable's box. -/
def InfoAt (W : World) (B : Nat) (x : Nat × Int × Int × Int) : Prop := W.heap[B]? = some (.cells #[.int .i64 x.2.1, .int .i64 x.2.2.1, .int .i64 x.2.2.2] 61)
theorem InfoAt.own {n : Nat} {B : Nat} {x : Nat × Int × Int × Int} : OwnFrom n (fun (_ : Unit) W => InfoAt W B x) := fun _ X Y row hs hg hr => by
  refine (hg.block B (Array.getElem?_eq_some_iff.1 hs).1 (fun e => ?_)).trans hs
  obtain ⟨_, o, ho, hc⟩ := hr B e.symm
  rw [show X.heap[B]? = _ from hs] at ho
  cases ho
  cases hc
theorem InfoAt.cell {W : World} {B : Nat} {x : Nat × Int × Int × Int} (h : InfoAt W B x) : W.cell? ⟨B, 0, none⟩ = some (.int .i64 x.2.1) ∧ W.cell? ⟨B, 1, none⟩ = some (.int .i64 x.2.2.1) ∧ W.cell? ⟨B, 2, none⟩ = some (.int .i64 x.2.2.2) :=
  ⟨cell?_of_heap h, cell?_of_heap h, cell?_of_heap h⟩
section
variable {b : Nat} {t s : Int} {ad : Addr} {n c : Nat} {vs : List Int} {mb : Nat}
end
end Go.Proofs.YtpmoajhpgekhcaaGreat
/- the program's audit: feet. -/
set_option linter.unusedSimpArgs false
set_option linter.unusedVariables false
namespace Go.Proofs.YtpmoajhpgekhcaaGreat
open Go.RowKit
attribute [local go_sem] Oper.semAt_some

theorem made_u32 (N : Nat) : madeCells #[.int .u32 0] N = (uints (List.replicate N 0)).toArray := by
  apply Array.ext'
  simp [madeCells, uints, Nat.mod_one]
  exact List.eq_replicate_iff.2 ⟨by simp, by simp⟩
def WtAt (W : World) (g : Nat) (ws : List Int) : Prop := W.heap[g]? = some (.cells (uints ws).toArray 41)
theorem WtAt.own {β : Type} {n : Nat} {g : Nat} {f : β → List Int} : OwnFrom n (fun (x : β) W => WtAt W g (f x)) := fun x X Y row hs hg hr => by
  refine (hg.block g (Array.getElem?_eq_some_iff.1 hs).1 (fun e => ?_)).trans hs
  obtain ⟨_, o, ho, hc⟩ := hr g e.symm
  rw [show X.heap[g]? = _ from hs] at ho
  cases ho
  cases hc
theorem WtAt.lt {W : World} {g : Nat} {ws : List Int} (h : WtAt W g ws) : g < W.heap.size := (Array.getElem?_eq_some_iff.1 h).1
theorem WtAt.alloc {W : World} {g : Nat} {ws : List Int} (h : WtAt W g ws) (o : Obj) : WtAt (W.alloc o) g ws := (Below.heap_alloc _ _ _ h.lt).trans h
theorem WtAt.cell {W : World} {g : Nat} {ws : List Int} (h : WtAt W g ws) {k : Nat} (hk : k < ws.length) : W.cell? ⟨g, k, none⟩ = some (.int .u32 (ws.getD k 0)) := by
  refine (cell?_of_heap h).trans ?_
  rw [List.getElem?_toArray]
  unfold uints
  rw [List.getElem?_map, List.getElem?_eq_getElem hk, List.getD_eq_getElem?_getD, List.getElem?_eq_getElem hk]
  rfl
theorem WtAt.frozen {W : World} {g : Nat} {ws : List Int} (h : WtAt W g ws) (k : Nat) : W.frozen? ⟨g, k, none⟩ = false := frozen?_of_heap h
theorem WtAt.set {W : World} {g : Nat} {ws : List Int} (h : WtAt W g ws) (k : Nat) (x : Int) : WtAt (W.setCell ⟨g, k, none⟩ (.int .u32 x)) g (ws.set k x) := by
  refine (heap_setCell_same h).trans ?_
  unfold uints
  simp [List.map_set]
theorem WtAt.keep {W W' : World} {g : Nat} {ws : List Int} (h : WtAt W g ws) (hb : Below W.heap.size W W') : WtAt W' g ws := (hb.block g h.lt).trans h
section
variable {b : Nat} {t s : Int} {ad : Addr} {n c : Nat} {vs : List Int} {mb : Nat}
end
end Go.Proofs.YtpmoajhpgekhcaaGreat
/- the program's audit: counts. -/
set_option linter.unusedSimpArgs false
set_option linter.unusedVariables false
namespace Go.Proofs.YtpmoajhpgekhcaaGreat
open Go.RowKit
attribute [local go_sem] Oper.semAt_some

theorem Boxed.keepB {W W' : World} {B : Nat} {t : TypeId} {v : Value} (h : Boxed W B t v) (hb : Below W.heap.size W W') : Boxed W' B t v := (hb.block B h.lt).trans h
section
variable {b : Nat} {t s : Int} {ad : Addr} {n c : Nat} {vs : List Int} {mb : Nat}
end
end Go.Proofs.YtpmoajhpgekhcaaGreat
/- the program's audit: parts. -/
set_option linter.unusedSimpArgs false
set_option linter.unusedVariables false
namespace Go.Proofs.YtpmoajhpgekhcaaGreat
open Go.RowKit
attribute [local go_sem] Oper.semAt_some

/-- a box holds a row of parts of the call's own. -/
def OutIs (W : World) (n0 B : Nat) (l : List (Int × Int × Int)) : Prop := ∃ v, Boxed W B 75 v ∧ W.ownsRow 0 82 3 v l.length (partCells l) ∧ ∀ k, v.ownBlock = some k → n0 ≤ k
theorem row_isCells {w : World} {e sz n : Nat} {v : Value} {xs : List Value} (h : w.ownsRow 0 e sz v n xs) {k : Nat} (hk : v.ownBlock = some k) : ∃ o : Obj, w.heap[k]? = some o ∧ o.isCells = true := by
  rcases h.2 with ⟨rfl, -⟩ | ⟨g', cap, cur', rfl, -, hg', -⟩
  · simp [Value.ownBlock] at hk
  · simp [Value.ownBlock] at hk
    subst hk
    exact ⟨_, hg', rfl⟩
theorem row_other {X Y : World} {row : Option Nat} {e sz n : Nat} {v : Value} {xs : List Value} (h : X.ownsRow 0 e sz v n xs) (hg : X.grownBy Y row) (hr : ∀ r, row = some r → ∃ o : Obj, X.heap[r]? = some o ∧ o.isCells = false) : Y.ownsRow 0 e sz v n xs :=
  ownsRow_block h fun k hk => hg.block k (ownsRow_lt h hk) fun e => by
    obtain ⟨o, ho, hc⟩ := hr k e.symm
    obtain ⟨o', ho', hc'⟩ := row_isCells h hk
    rw [ho] at ho'
    cases ho'
    rw [hc] at hc'
    cases hc'
theorem OutIs.own {β : Type} {n n0 B : Nat} {f : β → List (Int × Int × Int)} : OwnFrom n (fun (x : β) W => OutIs W n0 B (f x)) := fun x X Y row hs hg hr => by
  obtain ⟨v, h1, h2, h3⟩ := hs
  refine ⟨v, ?_, row_other h2 hg (fun r e => (hr r e).2), h3⟩
  exact (Own.from (boxed_own B 75 (fun _ : Unit => v)) n) () X Y row h1 hg hr
theorem OutIs.lt {W : World} {n0 B : Nat} {l : List (Int × Int × Int)} (h : OutIs W n0 B l) : B < W.heap.size := by obtain ⟨v, h1, -⟩ := h; exact h1.lt
theorem OutIs.alloc {W : World} {n0 B : Nat} {l : List (Int × Int × Int)} (h : OutIs W n0 B l) (o : Obj) : OutIs (W.alloc o) n0 B l := by
  obtain ⟨v, h1, h2, h3⟩ := h
  exact ⟨v, h1.alloc _, h2.alloc o, h3⟩
section
variable {b : Nat} {t s : Int} {ad : Addr} {n c : Nat} {vs : List Int} {mb : Nat}
end
end Go.Proofs.YtpmoajhpgekhcaaGreat
/- the document's audit: Sound, Live, Parts, State of values that are a heap. -/
set_option linter.unusedSimpArgs false
set_option linter.unusedVariables false
namespace Go.Proofs.YtpmoajhpgekhcaaGreat
open Go.RowKit
section
variable {t p s : Int} {ad : Addr} {n c : Nat} {vs : List Int}

theorem rsound_any (c : Nat) (w : World) (h : XV w t p s ad n vs) :
    Calls Tryz.prog 6 #[.agg #[.int .i64 t, .int .i64 p, .int .i64 s], .slice (some ad) n c] w fun e w' => e = .returned (.bool (chkF vs t p s).2) ∧ Below w.heap.size w w' := by
  have H := Lib.hid (fun w (h : XV w t p s ad n vs) => rcheck_any c w h)
  have h2 := h.keep ((Below.refl _ _).alloc (Nat.le_refl _) (.cells #[.int .i64 t, .int .i64 p, .int .i64 s] 23))
  have HV := Lib.hid h
  have HV2 := Lib.hid h2
  generalize chkF vs t p s = r at *
  clear h h2
  go_enter Tryz.func6, Tryz.ntmps6
  go_wp2_with fail
  refine (H.out _ (by first | exact HV.out | exact HV2.out)).mono ?_
  rintro e w1 ⟨rfl, hb⟩
  go_wp2
  go_ret
  refine ⟨rfl, ?_⟩
  (repeat (first | exact Below.refl _ _ | assumption | refine Below.setCell ?_ (by first | omega | (simp; done) | (simp; omega)) _ | refine Below.alloc ?_ (by first | omega | (simp; done) | (simp; omega)) _ | refine Below.drew ?_ | refine Below.trans ?_ (Below.mono ‹Below _ _ _› (by first | omega | (simp; done) | (simp; omega)))))

theorem rlive_any (c : Nat) (w : World) (h : XV w t p s ad n vs) (hs : (chkF vs t p s).2 = true) :
    Calls Tryz.prog 26 #[.agg #[.int .i64 t, .int .i64 p, .int .i64 s], .slice (some ad) n c] w fun e w' => ∃ v, e = .returned v ∧ RowB w (blocksF vs t p s) v w' := by
  have H := Lib.hid (fun w (h : XV w t p s ad n vs) => rsound_any c w h)
  rw [hs] at H
  have HB := Lib.hid (fun w (h : XV w t p s ad n vs) => blocks_any c w h)
  have h2 := h.keep ((Below.refl _ _).alloc (Nat.le_refl _) (.cells #[.int .i64 t, .int .i64 p, .int .i64 s] 23))
  have HV2 := Lib.hid h2
  generalize blocksF vs t p s = l at *
  have c0 := loc_alloc w #[.int .i64 t, .int .i64 p, .int .i64 s] 23
  have S0 := ((BS.start w).alloc (.cells #[.int .i64 t, .int .i64 p, .int .i64 s] 23))
  have HV := Lib.hid h
  clear h hs h2
  go_enter Tryz.func26, Tryz.ntmps26
  go_wp2_with fail
  refine (calls_b S0 (H.out _ HV2.out)).mono ?_
  rintro e w1 ⟨rfl, S1, S1l⟩
  have c1 := loc_step S1l (by simp) c0
  clear S1l
  have HVa := Lib.hid ((HV.out.keep S1.bel).keep ((Below.refl _ _).alloc (Nat.le_refl _) (.cells #[.int .i64 t, .int .i64 p, .int .i64 s, .slice (some ad) n c] 88)))
  have S2 := S1.alloc (.cells #[.int .i64 t, .int .i64 p, .int .i64 s, .slice (some ad) n c] 88)
  go_wp2_with fail
  refine (HB.out _ HVa.out).mono ?_
  rintro e w2 ⟨v, rfl, hr, hf, hb⟩
  go_wp2
  go_ret
  exact ⟨v, rfl, hr, fun k hk => Nat.le_trans S2.bel.size (hf k hk), S2.bel.trans (hb.mono S2.bel.size)⟩

theorem rparts_any (c : Nat) (w : World) (h : XV w t p s ad n vs) (hs : (chkF vs t p s).2 = true) :
    Calls Tryz.prog 29 #[.agg #[.int .i64 t, .int .i64 p, .int .i64 s], .slice (some ad) n c] w fun e w' => ∃ v, e = .returned v ∧ RowQ w (partsF vs t p s) v w' := by
  have H := Lib.hid (fun w (h : XV w t p s ad n vs) => rsound_any c w h)
  rw [hs] at H
  have HB := Lib.hid (fun w (h : XV w t p s ad n vs) => parts_any c w h)
  have h2 := h.keep ((Below.refl _ _).alloc (Nat.le_refl _) (.cells #[.int .i64 t, .int .i64 p, .int .i64 s] 23))
  have HV2 := Lib.hid h2
  generalize partsF vs t p s = l at *
  have c0 := loc_alloc w #[.int .i64 t, .int .i64 p, .int .i64 s] 23
  have S0 := ((BS.start w).alloc (.cells #[.int .i64 t, .int .i64 p, .int .i64 s] 23))
  have HV := Lib.hid h
  clear h hs h2
  go_enter Tryz.func29, Tryz.ntmps29
  go_wp2_with fail
  refine (calls_b S0 (H.out _ HV2.out)).mono ?_
  rintro e w1 ⟨rfl, S1, S1l⟩
  have c1 := loc_step S1l (by simp) c0
  clear S1l
  have HVa := Lib.hid ((HV.out.keep S1.bel).keep ((Below.refl _ _).alloc (Nat.le_refl _) (.cells #[.int .i64 t, .int .i64 p, .int .i64 s, .slice (some ad) n c] 88)))
  have S2 := S1.alloc (.cells #[.int .i64 t, .int .i64 p, .int .i64 s, .slice (some ad) n c] 88)
  go_wp2_with fail
  refine (HB.out _ HVa.out).mono ?_
  rintro e w2 ⟨v, rfl, hr, hf, hb⟩
  go_wp2
  go_ret
  exact ⟨v, rfl, hr, fun k hk => Nat.le_trans S2.bel.size (hf k hk), S2.bel.trans (hb.mono S2.bel.size)⟩


def rootV (vs : List Int) (k i : Nat) : Value := .int .i64 (if i < k then vs.getD (22 + i) 0 else 0)
def stateC (lv : Value) (vs : List Int) (k : Nat) : Array Value := #[lv, rootV vs k 0, rootV vs k 1, rootV vs k 2, rootV vs k 3, rootV vs k 4, rootV vs k 5, rootV vs k 6, rootV vs k 7]
structure StateR (w : World) (l : List (Int × Int)) (v : Value) (vs : List Int) (g : Nat) (wr : World) (k : Nat) : Prop where
  le : k ≤ 8
  box : BA w [w.heap.size + 1, w.heap.size] g (stateC v vs k) 36 wr
  res : wr.heap[w.heap.size + 1]? = some (.cells #[.slice none 0 0, .int .i64 0, .int .i64 0, .int .i64 0, .int .i64 0, .int .i64 0, .int .i64 0, .int .i64 0, .int .i64 0] 36)
  row : wr.ownsRow 0 74 2 v l.length (blockCells l)
  far : ∀ k, v.ownBlock = some k → w.heap.size + 2 ≤ k ∧ k < g
theorem StateR.below {w wr w' : World} {l : List (Int × Int)} {v : Value} {g k : Nat} (h : StateR w l v vs g wr k) (hb : Below wr.heap.size wr w') : StateR w l v vs g w' k := by
  obtain ⟨h1, h2, h3, h4, h5⟩ := h
  refine ⟨h1, ⟨h2.bs.below hb, (hb.block g (h2.bs.ls g (by simp)).1).trans h2.box, h2.ne⟩, (hb.block _ (h2.bs.ls (w.heap.size + 1) (by simp)).1).trans h3, ((BS.start _).below hb).row h4, h5⟩
theorem stateC_step (v : Value) (vs : List Int) (k : Nat) (hk : k < 8) : (stateC v vs k).setIfInBounds (1 + k) (.int .i64 (vs.getD (22 + k) 0)) = stateC v vs (k + 1) := by
  rcases (by omega : k = 0 ∨ k = 1 ∨ k = 2 ∨ k = 3 ∨ k = 4 ∨ k = 5 ∨ k = 6 ∨ k = 7) with rfl | rfl | rfl | rfl | rfl | rfl | rfl | rfl <;> simp [stateC, rootV]
theorem StateR.step {w wr : World} {l : List (Int × Int)} {v : Value} {g k : Nat} (h : StateR w l v vs g wr k) (hk : k < 8) : StateR w l v vs g (wr.setCell ⟨g, 1 + k, none⟩ (.int .i64 (vs.getD (22 + k) 0))) (k + 1) := by
  obtain ⟨h1, h2, h3, h4, h5⟩ := h
  refine ⟨by omega, ?_, h2.hloc (by simp) _ _ h3, ownsRow_block h4 (fun b hb => heap_setCell_other (by have := h5 b hb; omega)), h5⟩
  have := h2.set (1 + k) (.int .i64 (vs.getD (22 + k) 0))
  rwa [stateC_step v vs k hk] at this
theorem stateC_at (v : Value) (vs : List Int) (k : Nat) (hk : k < 8) : ∃ z, (stateC v vs k)[1 + k]? = some z := by
  rcases (by omega : k = 0 ∨ k = 1 ∨ k = 2 ∨ k = 3 ∨ k = 4 ∨ k = 5 ∨ k = 6 ∨ k = 7) with rfl | rfl | rfl | rfl | rfl | rfl | rfl | rfl <;> exact ⟨_, rfl⟩
def StateRel (w : World) (l : List (Int × Int)) (v : Value) (vs : List Int) (g : Nat) (i : Value) (wr : World) : Prop := ∃ k : Nat, i = .int .i64 k ∧ StateR w l v vs g wr k
theorem rstate_any (c : Nat) (w : World) (h : XV w t p s ad n vs) (hs : (chkF vs t p s).2 = true) :
    Calls Tryz.prog 11 #[.agg #[.int .i64 t, .int .i64 p, .int .i64 s], .slice (some ad) n c] w fun e w' => ∃ v, e = .returned (.tuple #[.agg (stateC v vs 8), .bool true]) ∧ RowB w (blocksF vs t p s) v w' := by
  have H := Lib.hid (fun w (h : XV w t p s ad n vs) => rsound_any c w h)
  rw [hs] at H
  have HB := Lib.hid (fun w (h : XV w t p s ad n vs) => rlive_any c w h hs)
  have HRo := Lib.hid (fun (k : Nat) w (h : k < 8) => rroot_any k w h)
  generalize blocksF vs t p s = l at *
  have c0 := loc_old (.cells (stateC (.slice none 0 0) vs 0) 36) (by simp) (loc_alloc w #[.int .i64 t, .int .i64 p, .int .i64 s] 23)
  have S0 := ((BS.start w).alloc (.cells #[.int .i64 t, .int .i64 p, .int .i64 s] 23)).alloc (.cells (stateC (.slice none 0 0) vs 0) 36)
  have HV2 := Lib.hid (h.keep S0.bel)
  have HV := Lib.hid h
  clear h hs
  have hz : stateC (.slice none 0 0) vs 0 = #[.slice none 0 0, .int .i64 0, .int .i64 0, .int .i64 0, .int .i64 0, .int .i64 0, .int .i64 0, .int .i64 0, .int .i64 0] := by simp [stateC, rootV]
  rw [hz] at c0 S0 HV2
  simp only [World.size_alloc] at S0
  go_enter Tryz.func11, Tryz.ntmps11
  go_wp2_with fail
  refine (calls_b S0 (H.out _ HV2.out)).mono ?_
  rintro e w1 ⟨rfl, S1, S1k⟩
  have c1 := loc_step S1k (by simp) c0
  have HVa := Lib.hid (HV.out.keep S1.bel)
  have r1 : w1.heap[w.heap.size + 1]? = some (.cells #[.slice none 0 0, .int .i64 0, .int .i64 0, .int .i64 0, .int .i64 0, .int .i64 0, .int .i64 0, .int .i64 0, .int .i64 0] 36) := by
    rw [S1k (w.heap.size + 1) (by simp), ← hz]
    exact hb_alloc _ _ _ (by simp)
  clear S0 c0 HV2 S1k
  go_wp2_with fail
  refine (HB.out _ HVa.out).mono ?_
  rintro e w2 ⟨v, rfl, hr, hf, hb⟩
  obtain ⟨va, vc, rfl⟩ := row_shape hr
  have S2 := S1.below hb
  have r2 := (hb.block (w.heap.size + 1) (S1.ls (w.heap.size + 1) (by simp)).1).trans r1
  have A2 := S2.allocd (stateC (.slice va l.length vc) vs 0) 36
  have HR : StateR w l (.slice va l.length vc) vs w2.heap.size (w2.alloc (.cells (stateC (.slice va l.length vc) vs 0) 36)) 0 := by
    refine ⟨by omega, A2, (heap_alloc_old _ _ (S2.ls (w.heap.size + 1) (by simp)).1).trans r2, hr.alloc _, fun k hk => ⟨?_, ownsRow_lt hr hk⟩⟩
    have := hf k hk
    have := (S1.ls (w.heap.size + 1) (by simp)).1
    omega
  have hz2 : stateC (.slice va l.length vc) vs 0 = #[.slice va l.length vc, .int .i64 0, .int .i64 0, .int .i64 0, .int .i64 0, .int .i64 0, .int .i64 0, .int .i64 0, .int .i64 0] := by simp [stateC, rootV]
  have HVb := Lib.hid (HVa.out.keep hb)
  have hbw2 := S2.bel.size
  have HRs : StateRel w l (.slice va l.length vc) vs w2.heap.size (.int .i64 0) (w2.alloc (.cells (stateC (.slice va l.length vc) vs 0) 36)) := ⟨0, rfl, HR⟩
  rw [hz2] at HRs
  have hg1 : w.heap.size + 1 < w2.heap.size := (S2.ls (w.heap.size + 1) (by simp)).1
  clear r1 r2 A2 hr hf hb S1 S2 HR
  go_wp2
  go_loopw [7] (fun i wr => StateRel w l (.slice va l.length vc) vs w2.heap.size i wr) (fun i _ => 8 - (intOf i).toNat)
  case atStart => exact HRs
  case round =>
    clear HRs
    obtain ⟨k, rfl, hR⟩ := hrel
    have HX := Lib.hid hR
    have hle := hR.le
    clear hR
    by_cases hlt : k < 8
    · go_wp2_with fail
      refine (HRo.out k _ hlt).mono ?_
      rintro e w3 ⟨rfl, b3⟩
      have hR3 := HX.out.below b3
      obtain ⟨z, hz3⟩ := stateC_at (.slice va l.length vc) vs k hlt
      have q3 : w3.cell? ⟨w2.heap.size, 1 + k, none⟩ = some z := (cell?_of_heap hR3.box.box).trans hz3
      have f3 : w3.frozen? ⟨w2.heap.size, 1 + k, none⟩ = false := frozen?_of_heap hR3.box.box
      have hx3 := HV.out.keep hR3.box.bs.bel
      have hnum := hx3.num
      have hbd := hx3.bd
      have c3 := hx3.cells (22 + k) (by omega)
      have hlt2 : ((22 + k : Nat) : Int) < n := by omega
      have hub := getD_u32 hx3.u32 (22 + k)
      unfold VS.U32 at hub
      have hw : IntKind.i64.wrap (vs.getD (22 + k) 0) = vs.getD (22 + k) 0 := wrap_in _ (by omega)
      have HS3 := Lib.hid (hR3.step hlt)
      clear hR3 hz3 hx3 hnum hbd b3
      generalize vs.getD (22 + k) 0 = x at *
      generalize 22 + k = m at *
      go_wp2
      go_roundw
      case rel => exact ⟨k + 1, by go_num, HS3.out⟩
      case measure => simp [intOf]; omega
    · have h8 : k = 8 := by omega
      have hB := HX.out.box
      have h0 := HX.out.res
      rw [h8] at hB
      have hS8 : stateC (.slice va l.length vc) vs 8 = #[.slice va l.length vc, rootV vs 8 0, rootV vs 8 1, rootV vs 8 2, rootV vs 8 3, rootV vs 8 4, rootV vs 8 5, rootV vs 8 6, rootV vs 8 7] := rfl
      have hrow := HX.out.row
      have hfar := HX.out.far
      have hne : w.heap.size + 1 ≠ w2.heap.size := by omega
      have HS8 := Lib.hid hS8
      rw [hS8] at hB
      have hroot : ∀ i, ∃ y, rootV vs 8 i = .int .i64 y := fun i => ⟨_, rfl⟩
      obtain ⟨y0, e0⟩ := hroot 0
      obtain ⟨y1, e1⟩ := hroot 1
      obtain ⟨y2, e2⟩ := hroot 2
      obtain ⟨y3, e3⟩ := hroot 3
      obtain ⟨y4, e4⟩ := hroot 4
      obtain ⟨y5, e5⟩ := hroot 5
      obtain ⟨y6, e6⟩ := hroot 6
      obtain ⟨y7, e7⟩ := hroot 7
      rw [e0, e1, e2, e3, e4, e5, e6, e7] at hB
      rw [e0, e1, e2, e3, e4, e5, e6, e7] at HS8
      have a0 := cell?_of_heap (o := 0) hB.box
      have a1 := cell?_of_heap (o := 1) hB.box
      have a2 := cell?_of_heap (o := 2) hB.box
      have a3 := cell?_of_heap (o := 3) hB.box
      have a4 := cell?_of_heap (o := 4) hB.box
      have a5 := cell?_of_heap (o := 5) hB.box
      have a6 := cell?_of_heap (o := 6) hB.box
      have a7 := cell?_of_heap (o := 7) hB.box
      have a8 := cell?_of_heap (o := 8) hB.box
      have d0 := cell?_of_heap (o := 0) h0
      have d1 := cell?_of_heap (o := 1) h0
      have d2 := cell?_of_heap (o := 2) h0
      have d3 := cell?_of_heap (o := 3) h0
      have d4 := cell?_of_heap (o := 4) h0
      have d5 := cell?_of_heap (o := 5) h0
      have d6 := cell?_of_heap (o := 6) h0
      have d7 := cell?_of_heap (o := 7) h0
      have d8 := cell?_of_heap (o := 8) h0
      have j0 := frozen?_of_heap (o := 0) h0
      have j1 := frozen?_of_heap (o := 1) h0
      have j2 := frozen?_of_heap (o := 2) h0
      have j3 := frozen?_of_heap (o := 3) h0
      have j4 := frozen?_of_heap (o := 4) h0
      have j5 := frozen?_of_heap (o := 5) h0
      have j6 := frozen?_of_heap (o := 6) h0
      have j7 := frozen?_of_heap (o := 7) h0
      have j8 := frozen?_of_heap (o := 8) h0
      simp at a0 a1 a2 a3 a4 a5 a6 a7 a8 d0 d1 d2 d3 d4 d5 d6 d7 d8
      have HBs := Lib.hid hB.bs
      have HRow := Lib.hid hrow
      have HFar := Lib.hid hfar
      clear hB h0 hrow hfar hS8 hroot e0 e1 e2 e3 e4 e5 e6 e7
      go_wp2
      refine bodyPost_ret (v := .tuple #[.agg #[.slice va l.length vc, .int .i64 y0, .int .i64 y1, .int .i64 y2, .int .i64 y3, .int .i64 y4, .int .i64 y5, .int .i64 y6, .int .i64 y7], .bool true]) (by simp [results, Tryz.results11, go_sem, *]) rfl ⟨_, by rw [HS8.out], ownsRow_block HRow.out (fun b hb => ?_), fun b hb => by have := HFar.out b hb; omega, ?_⟩
      · have hnb : b ≠ w.heap.size + 1 := by have := HFar.out b hb; omega
        repeat rw [heap_setCell_other hnb]
      · have hm : w.heap.size + 1 ∈ [w2.heap.size, w.heap.size + 1, w.heap.size] := by simp
        exact (((((((((HBs.out.setCell hm 0 _).setCell hm 1 _).setCell hm 2 _).setCell hm 3 _).setCell hm 4 _).setCell hm 5 _).setCell hm 6 _).setCell hm 7 _).setCell hm 8 _).bel
end
end Go.Proofs.YtpmoajhpgekhcaaGreat
/- slices among the arguments, opened as rows that can be read: any element. -/
set_option linter.unusedSimpArgs false
set_option linter.unusedVariables false
namespace Go.Proofs.YtpmoajhpgekhcaaGreat
open Go.ChangeShapes Go.RowKit

theorem flat_len {α : Type} (f : α → List Value) (sz : Nat) (hf : ∀ a, (f a).length = sz) (l : List α) : (l.flatMap f).length = l.length * sz := by
  induction l with
  | nil => simp
  | cons y ys ih => simp [ih, hf, Nat.succ_mul]; omega
theorem flat_cell {α : Type} (f : α → List Value) (sz : Nat) (hf : ∀ a, (f a).length = sz) {l : List α} {k : Nat} {a : α} (h : l[k]? = some a) {j : Nat} {u : Value} (hj : (f a)[j]? = some u) : (l.flatMap f)[k * sz + j]? = some u := by
  induction l generalizing k with
  | nil => simp at h
  | cons p r ih =>
    have hjl : j < sz := by have := (List.getElem?_eq_some_iff.1 hj).1; rw [hf] at this; exact this
    cases k with
    | zero =>
      simp at h; subst h
      rw [List.flatMap_cons, List.getElem?_append_left (by rw [hf]; omega), Nat.zero_mul, Nat.zero_add]
      exact hj
    | succ k =>
      rw [List.flatMap_cons, List.getElem?_append_right (by rw [hf, Nat.succ_mul]; omega), hf]
      rw [show (k + 1) * sz + j - sz = k * sz + j by rw [Nat.succ_mul]; omega]
      exact ih (by simpa using h)

section
variable {H : Type} {enc : TypeId × Value → H} {w : World} {base : Nat} {spare : Nat → Bool} {held : Bool}
end

theorem Rd.keepBy {w w' : World} {v : Value} {sz n : Nat} {xs : List Value} {B : Nat} (hh : Rd w v sz n xs) (hb : Below B w w') (hB : w.heap.size ≤ B) : Rd w' v sz n xs := by
  obtain ⟨hl, hh⟩ := hh
  refine ⟨hl, hh.imp_right ?_⟩
  rintro ⟨ad, c, rfl, hcc⟩
  exact ⟨ad, c, rfl, fun j u hj => (hb.cell (Nat.lt_of_lt_of_le (World.block_lt_of_cell? w _ (hcc j u hj)) hB)).trans (hcc j u hj)⟩
theorem Rd.len {w : World} {v : Value} {sz n : Nat} {xs : List Value} (h : Rd w v sz n xs) : ∃ a c, v = .slice a n c := by
  obtain ⟨hl, ⟨rfl, h0⟩ | ⟨ad, c, rfl, hcc⟩⟩ := h
  · exact ⟨_, _, by rw [h0]⟩
  · exact ⟨_, _, rfl⟩
end Go.Proofs.YtpmoajhpgekhcaaGreat
/- pockets among the arguments: read; often, Few, All. -/
set_option linter.unusedSimpArgs false
set_option linter.unusedVariables false
namespace Go.Proofs.YtpmoajhpgekhcaaGreat
open Go.ChangeShapes Go.RowKit

def longs (l : List Int) : List Value := l.map (Value.int .i64)
theorem longs_len (l : List Int) : (longs l).length = l.length := by simp [longs]
theorem longs_get {l : List Int} {k : Nat} (h : k < l.length) : (longs l)[k]? = some (.int .i64 (l.getD k 0)) := by simp [longs, h]

/-- pockets: nine slices, and what they read as. -/
structure PkE where
  v0 : Value
  v1 : Value
  v2 : Value
  v3 : Value
  v4 : Value
  v5 : Value
  v6 : Value
  v7 : Value
  v8 : Value
  l0 : List Int
  l1 : List Int
  l2 : List Int
  l3 : List Int
  l4 : List Int
  l5 : List Int
  l6 : List Int
  l7 : List Int
  l8 : List Int
def PkE.vs (e : PkE) : List Value := [e.v0, e.v1, e.v2, e.v3, e.v4, e.v5, e.v6, e.v7, e.v8]
def PkE.ls (e : PkE) : List (List Int) := [e.l0, e.l1, e.l2, e.l3, e.l4, e.l5, e.l6, e.l7, e.l8]
def RdI (w : World) (v : Value) (l : List Int) : Prop := Rd w v 1 l.length (longs l)
structure PkE.Ok (w : World) (e : PkE) : Prop where
  r0 : RdI w e.v0 e.l0
  r1 : RdI w e.v1 e.l1
  r2 : RdI w e.v2 e.l2
  r3 : RdI w e.v3 e.l3
  r4 : RdI w e.v4 e.l4
  r5 : RdI w e.v5 e.l5
  r6 : RdI w e.v6 e.l6
  r7 : RdI w e.v7 e.l7
  r8 : RdI w e.v8 e.l8
theorem nine {k : Nat} (h : k < 9) : k = 0 ∨ k = 1 ∨ k = 2 ∨ k = 3 ∨ k = 4 ∨ k = 5 ∨ k = 6 ∨ k = 7 ∨ k = 8 := by omega
theorem PkE.Ok.at_ {w : World} {e : PkE} (h : e.Ok w) {k : Nat} (hk : k < 9) : RdI w (e.vs.getD k undef) (e.ls.getD k []) := by
  rcases nine hk with rfl | rfl | rfl | rfl | rfl | rfl | rfl | rfl | rfl
  · exact h.r0
  · exact h.r1
  · exact h.r2
  · exact h.r3
  · exact h.r4
  · exact h.r5
  · exact h.r6
  · exact h.r7
  · exact h.r8
theorem PkE.Ok.keep {w w' : World} {B : Nat} {e : PkE} (h : e.Ok w) (hb : Below B w w') (hB : w.heap.size ≤ B) : e.Ok w' :=
  ⟨Rd.keepBy h.r0 hb hB, Rd.keepBy h.r1 hb hB, Rd.keepBy h.r2 hb hB, Rd.keepBy h.r3 hb hB, Rd.keepBy h.r4 hb hB, Rd.keepBy h.r5 hb hB, Rd.keepBy h.r6 hb hB, Rd.keepBy h.r7 hb hB, Rd.keepBy h.r8 hb hB⟩

section
variable {H : Type} {enc : TypeId × Value → H} {w : World} {base : Nat} {spare : Nat → Bool} {held : Bool}
end

/-- how often a number is among some. -/
def OfRel (l : List Int) (a : Int) (w : World) (vn vi : Value) (wr : World) : Prop := ∃ k : Nat, k ≤ l.length ∧ vi = .int .i64 k ∧ vn = .int .i64 ((l.take k).count a : Nat) ∧ Below w.heap.size w wr
theorem roften_any (v : Value) (l : List Int) (a : Int) (w : World) (h : RdI w v l) (hn : l.length ≤ 4294967296) :
    Calls Tryz.prog 32 #[v, .int .i64 a] w fun e w' => e = .returned (.int .i64 (l.count a : Nat)) ∧ Below w.heap.size w w' := by
  have H := Lib.hid h
  obtain ⟨p, c, rfl⟩ := h.len
  clear h
  go_enter Tryz.func32, Tryz.ntmps32
  go_wp2
  go_loopw [5, 6] (fun vn vi wr => OfRel l a w vn vi wr) (fun _ vi _ => l.length - (intOf vi).toNat)
  case atStart => exact ⟨0, by omega, rfl, by simp, Below.refl _ _⟩
  case round =>
    obtain ⟨k, hk, rfl, rfl, hb⟩ := hrel
    have HB := Lib.hid hb
    have hcl : (l.take k).count a ≤ k := Nat.le_trans List.count_le_length (by simp; omega)
    by_cases hlt : k < l.length
    · have hkl : (k : Int) < l.length := by omega
      obtain ⟨hl, ⟨h0, h1⟩ | ⟨ad, c', hv, hc⟩⟩ := H.out
      · omega
      simp only [Value.slice.injEq, true_and] at hv
      obtain ⟨rfl, rfl⟩ := hv
      have q0 := hc k _ (longs_get hlt)
      have q1 := (hb.cell (World.block_lt_of_cell? w _ q0)).trans q0
      have hs : (l.take (k + 1)).count a = (l.take k).count a + if l.getD k 0 = a then 1 else 0 := by
        rw [List.take_add_one, List.count_append]
        simp [hlt, List.count_cons]
      have HS := Lib.hid hs
      generalize l.getD k 0 = y at *
      generalize (l.take k).count a = d at *
      clear hs hc hb q0
      by_cases hy : y = a
      · have hyb : (y == a) = true := by simpa using hy
        have HE := Lib.hid (show (l.take (k + 1)).count a = d + 1 by rw [HS.out, if_pos hy])
        clear hy HS
        go_wp2
        go_roundw
        case rel => exact ⟨k + 1, by omega, by go_num, by rw [HE.out]; go_num, HB.out⟩
        case measure => simp [intOf]; omega
      · have hyb : (y == a) = false := by simpa using hy
        have HE := Lib.hid (show (l.take (k + 1)).count a = d by rw [HS.out, if_neg hy]; rfl)
        clear hy HS
        go_wp2
        go_roundw
        case rel => exact ⟨k + 1, by omega, by go_num, by rw [HE.out], HB.out⟩
        case measure => simp [intOf]; omega
    · have hke : k = l.length := by omega
      have HK := Lib.hid (show (l.take k).count a = l.count a by rw [hke, List.take_length])
      have hkl : ¬ (k : Int) < l.length := by omega
      clear hb hke
      go_wp2
      go_ret
      refine ⟨?_, HB.out⟩
      rw [← HK.out]
      rfl

/-- are pockets few? -/
def fewB (e : PkE) : Bool := e.ls.all fun l => decide (l.length ≤ 10)
end Go.Proofs.YtpmoajhpgekhcaaGreat
/- pockets: All of a class. -/
set_option linter.unusedSimpArgs false
set_option linter.unusedVariables false
namespace Go.Proofs.YtpmoajhpgekhcaaGreat
open Go.ChangeShapes Go.RowKit

/-- all pockets, read. -/
structure PkR (w : World) (v : Value) (es : List PkE) : Prop where
  rd : Rd w v 9 es.length (es.flatMap PkE.vs)
  ok : ∀ e ∈ es, e.Ok w
theorem PkR.keep {w w' : World} {B : Nat} {v : Value} {es : List PkE} (h : PkR w v es) (hb : Below B w w') (hB : w.heap.size ≤ B) : PkR w' v es :=
  ⟨h.rd.keepBy hb hB, fun e he => (h.ok e he).keep hb hB⟩
theorem PkR.cell {w : World} {v : Value} {es : List PkE} (h : PkR w v es) {j : Nat} {e : PkE} (he : es[j]? = some e) :
    ∃ b off c, v = .slice (some ⟨b, off, none⟩) es.length c ∧ ∀ k, k < 9 → w.cell? ⟨b, off + (j * 9 + k), none⟩ = some (e.vs.getD k undef) := by
  obtain ⟨hl, ⟨-, h0⟩ | ⟨ad, c, rfl, hc⟩⟩ := h.rd
  · have := (List.getElem?_eq_some_iff.1 he).1; omega
  · have hv : ∀ k, k < 9 → (e.vs)[k]? = some (e.vs.getD k undef) := fun k hk => by
      rcases nine hk with rfl | rfl | rfl | rfl | rfl | rfl | rfl | rfl | rfl <;> rfl
    have hcell : ∀ k, k < 9 → w.cell? (ad.add (j * 9 + k)) = some (e.vs.getD k undef) := fun k hk => hc _ _ (flat_cell PkE.vs 9 (fun _ => rfl) he (hv k hk))
    obtain ⟨b, off, spot⟩ := ad
    have hl0 : es.length ≠ 0 := by have := (List.getElem?_eq_some_iff.1 he).1; omega
    obtain ⟨e0, he0⟩ : ∃ e0, es[0]? = some e0 := ⟨_, List.getElem?_eq_getElem (by omega)⟩
    have h00 := hc _ _ (flat_cell PkE.vs 9 (fun _ => rfl) he0 (show (e0.vs)[0]? = some e0.v0 from rfl))
    have hs : spot = none := by simpa [Addr.add] using World.cell?_spot h00
    subst hs
    exact ⟨b, off, c, rfl, fun k hk => by rw [← Go.WideShapes.add_plain]; exact hcell k hk⟩

theorem infoI64p : (Tryz.prog.info? 2).map (fun i => (i.zero, i.size, i.bytes)) = some (some (.int .i64 0), 1, 8) := by kernel_rfl
theorem wpL_append_nil {P : Program} {w : World} {ops : Array Oper} {rest : List Oper} {o : Oper} {a : Act} {Q : Exit → Act → World → Prop} {t e : TypeId} {i : TypeInfo} (hgd : o.guard = none) (s x : Operand)
    (ho : o.op = .call { callee := .builtin .append, args := #[s, x], argTypes := #[t, t] }) (size : Nat) (ht : P.underlying t = some (.slice e)) (hi : P.info? e = some i)
    (v : Value) (n : Nat) (xs : List Value) (hs : a.eval s = v) (hown : w.ownsRow 0 e size v n xs) (hx : a.eval x = .slice none 0 0)
    (h : wpList P ops Q rest (a.put o.dst v) w) : wpList P ops Q (o :: rest) a w := by
  refine wpList_plain hgd fun K2 hK2 => ?_
  have hr := run_append_owned_none (P := P) (w := w) 0 t o.type e i size ht hi v n xs hown
  unfold Oper.wp execOp
  simp only [ho, resolve, invoke, builtin, Sem.run_bind, Sem.run_pure, Result.andThen_ok, List.map_toArray, List.map_cons, List.map_nil, hs, hx, hr]
  exact hK2 _ _ h
theorem own_form {w : World} {B e sz n : Nat} {v : Value} {xs : List Value} (h : w.ownsRow B e sz v n xs) (hv : v ≠ .slice none 0 0) : ∃ g c, v = .slice (some ⟨g, 0, none⟩) n c := by
  rcases h.2 with ⟨h1, -⟩ | ⟨g, cap, cur, rfl, -⟩
  · exact absurd h1 hv
  · exact ⟨_, _, rfl⟩
structure AlRel (es : List PkE) (q : Nat) (w : World) (vo vi : Value) (wr : World) (k : Nat) : Prop where
  le : k ≤ es.length
  eq : vi = .int .i64 k
  row : wr.ownsRow 0 2 1 vo (haveF ((es.take k).map PkE.ls) q).length (longs (haveF ((es.take k).map PkE.ls) q))
  own : ∀ x, vo.ownBlock = some x → w.heap.size ≤ x
  nn : vo ≠ .slice none 0 0
  bel : Below w.heap.size w wr
def AlRelE (es : List PkE) (q : Nat) (w : World) (vo vi : Value) (wr : World) : Prop := ∃ k, AlRel es q w vo vi wr k
def AllP (w : World) (l : List Int) (e : Ending) (w' : World) : Prop := ∃ v, e = .returned v ∧ w'.ownsRow 0 2 1 v l.length (longs l) ∧ (∀ x, v.ownBlock = some x → w.heap.size ≤ x) ∧ Below w.heap.size w w'
theorem have_succ {es : List PkE} {k q : Nat} {e : PkE} (he : es[k]? = some e) : haveF ((es.take (k + 1)).map PkE.ls) q = haveF ((es.take k).map PkE.ls) q ++ e.ls.getD q [] := by
  rw [List.take_add_one, he]
  simp [haveF]
theorem have_len (es : List PkE) (q : Nat) (hf : ∀ e ∈ es, fewB e = true) (hq : q < 9) : (haveF (es.map PkE.ls) q).length ≤ es.length * 10 := by
  induction es with
  | nil => simp [haveF]
  | cons e es ih =>
    have h1 := ih fun x hx => hf x (by simp [hx])
    have h2 := hf e (by simp)
    unfold fewB at h2
    rw [List.all_eq_true] at h2
    have h3 : (e.ls.getD q []).length ≤ 10 := by
      have := h2 (e.ls.getD q []) (by rcases nine hq with rfl | rfl | rfl | rfl | rfl | rfl | rfl | rfl | rfl <;> simp [PkE.ls])
      simpa using this
    unfold haveF at h1 ⊢
    simp only [List.map_cons, List.flatMap_cons, List.length_append, List.length_cons]
    omega

set_option maxHeartbeats 1000000 in
set_option maxRecDepth 100000 in
theorem rallp_any (v : Value) (es : List PkE) (q : Nat) (w : World) (h : PkR w v es) (hf : ∀ e ∈ es, fewB e = true) (hq : q < 9) (hn : es.length ≤ 20) :
    Calls Tryz.prog 30 #[v, .int .i64 q] w (AllP w (haveF (es.map PkE.ls) q)) := by
  have H := Lib.hid h
  have HF := Lib.hid hf
  obtain ⟨pa, pc, rfl⟩ := h.rd.len
  obtain ⟨i0, hi0, hi1, hi2, hi3⟩ := info_parts infoI64p
  have HT := Lib.hid (And.intro hi0 (And.intro hi1 (And.intro hi2 hi3)))
  have hq9 : (q : Int) < 9 := by omega
  clear h hf hi1 hi2 hi3
  go_enter Tryz.func30, Tryz.ntmps30
  go_wp2
  go_loopw [5, 6] (fun vo vi wr => AlRelE es q w vo vi wr) (fun _ vi _ => es.length - (intOf vi).toNat)
  case atStart => exact ⟨0, by omega, rfl, by simpa [haveF, longs] using row_empty w 2 1, by simp [Value.ownBlock], by simp, (Below.refl _ _).alloc (Nat.le_refl _) _⟩
  case round =>
    obtain ⟨k, hk, rfl, hrow, hown, hnn, hb⟩ := hrel
    by_cases hlt : k < es.length
    · have hkl : (k : Int) < es.length := by omega
      obtain ⟨e, he⟩ : ∃ e, es[k]? = some e := ⟨_, List.getElem?_eq_getElem hlt⟩
      have hR := H.out.keep hb (Nat.le_refl _)
      obtain ⟨b, off, c, hvs, hcell⟩ := hR.cell he
      simp only [Value.slice.injEq, true_and] at hvs
      obtain ⟨rfl, rfl⟩ := hvs
      have q0 := hcell q hq
      have hrd := (hR.ok e (List.mem_of_getElem? he)).at_ hq
      have hs := have_succ (q := q) he
      obtain ⟨l, hl⟩ : ∃ l, e.ls.getD q [] = l := ⟨_, rfl⟩
      obtain ⟨u, hu⟩ : ∃ u, e.vs.getD q undef = u := ⟨_, rfl⟩
      rw [hl] at hrd hs
      rw [hu] at hrd q0
      have q1 : wr.cell? ⟨b, off + k * 9 + q, none⟩ = some u := by rw [Nat.add_assoc]; exact q0
      obtain ⟨go, co, rfl⟩ := own_form hrow hnn
      clear hnn
      have hln : (haveF ((es.take k).map PkE.ls) q).length ≤ 200 := by
        have h1 := have_len (es.take k) q (fun x hx => HF.out x (List.mem_of_mem_take hx)) hq
        have h2 : (es.take k).length ≤ 20 := by simp; omega
        omega
      have hll : l.length ≤ 10 := by
        have h2 := HF.out e (List.mem_of_getElem? he)
        unfold fewB at h2
        rw [List.all_eq_true] at h2
        have := h2 l (by rw [← hl]; rcases nine hq with rfl | rfl | rfl | rfl | rfl | rfl | rfl | rfl | rfl <;> simp [PkE.ls])
        simpa using this
      have HS := Lib.hid hs
      obtain ⟨out, ho⟩ : ∃ out, haveF ((es.take k).map PkE.ls) q = out := ⟨_, rfl⟩
      rw [ho] at HS hrow hln
      have HO := Lib.hid ho
      have HRow := Lib.hid hrow
      have HOwn := Lib.hid hown
      have HB := Lib.hid hb
      clear hcell hR hs hl hu hown hb he ho
      rw [HO.out] at HOwn ⊢
      obtain ⟨hxl, ⟨hu0, hl0⟩ | ⟨al, cl, hu1, hcl⟩⟩ := hrd
      · subst hu0
        have hln0 : l = [] := List.eq_nil_of_length_eq_zero hl0
        have HE := Lib.hid (show haveF ((es.take (k + 1)).map PkE.ls) q = out by rw [HS.out, hln0, List.append_nil])
        clear HS hln0 hl0 hxl hll hrow
        go_wp2_with (at_builtin; go_must (refine wpL_append_nil rfl _ _ rfl 1 Tryz.underlying77 hi0 (.slice (some ⟨go, 0, none⟩) out.length co) out.length (longs out) rfl HRow.out rfl ?_))
        go_roundw
        case rel => exact ⟨k + 1, by omega, by go_num, by rw [HE.out]; exact HRow.out, HOwn.out, by simp, HB.out⟩
        case measure => simp [intOf]; omega
      · subst hu1
        have HC := Lib.hid hcl
        have HL1 := Lib.hid (fun x (hx : x ∈ longs l) => (by obtain ⟨z, -, rfl⟩ := List.mem_map.1 hx; rfl : x.oneCell' = true))
        clear hcl hrow hxl
        go_wp2_with (at_builtin; go_must (refine wpL_append rfl _ _ rfl 2 i0 (.int .i64 0) 1 8 Tryz.underlying77 HT.out.1 HT.out.2.1 HT.out.2.2.1 HT.out.2.2.2 rfl (by decide) (.slice (some ⟨go, 0, none⟩) out.length co) out.length (longs out) rfl HRow.out al l.length cl (longs l) rfl (by rw [longs_len, Nat.mul_one]) HC.out HL1.out ?c2 ?c3 ?_); go_must (case c2 => (unfold maxLen; omega)); go_must (case c3 => (omega)); go_must (intro v' w5 hown5 hg5 hnew5 hnil5); go_must (have hnn5 : v' ≠ .slice none 0 0 := fun e => by have := (hnil5.1 e).1; cases this); clear hnil5)
        have HNN := Lib.hid hnn5
        clear hnn5
        have HE := Lib.hid HS.out
        have hz := HB.out.size
        have B5 := Lib.hid (HB.out.grown hg5 (Nat.le_trans hz (Nat.le_refl _)) (fun x hx => HOwn.out x hx))
        have R5 := Lib.hid (show w5.ownsRow 0 2 1 v' (haveF ((es.take (k + 1)).map PkE.ls) q).length (longs (haveF ((es.take (k + 1)).map PkE.ls) q)) by rw [HE.out, List.length_append]; simpa [longs] using hown5)
        have O5 := Lib.hid (show ∀ x, v'.ownBlock = some x → w.heap.size ≤ x from fun x hx => by
          rcases hnew5 x hx with h1 | h1
          · exact HOwn.out x h1
          · omega)
        clear hown5 hg5 hnew5 HS
        go_wp2
        go_roundw
        case rel => exact ⟨k + 1, by omega, by go_num, R5.out, O5.out, HNN.out, B5.out⟩
        case measure => simp [intOf]; omega
    · have hke : k = es.length := by omega
      have hkl : ¬ (k : Int) < es.length := by omega
      rw [hke, List.take_length] at hrow
      have HRow := Lib.hid hrow
      have HOwn := Lib.hid hown
      have HB := Lib.hid hb
      clear hrow hown hb hke
      go_wp2
      go_ret
      exact ⟨_, rfl, HRow.out, HOwn.out, HB.out⟩
end Go.Proofs.YtpmoajhpgekhcaaGreat
/- the document's pockets: Fits. -/
set_option linter.unusedSimpArgs false
set_option linter.unusedVariables false
namespace Go.Proofs.YtpmoajhpgekhcaaGreat
open Go.RowKit
section
variable {w : World} {t s : Int} {P : Nat} {ad : Addr} {n : Nat} {vs : List Int}

theorem partD_cell {l : List (Int × Int × Int)} {j : Nat} {x : Int × Int × Int} (h : l[j]? = some x) : (partCells l)[j * 3]? = some (.int .i64 x.1) ∧ (partCells l)[j * 3 + 1]? = some (.int .i64 x.2.1) ∧ (partCells l)[j * 3 + 2]? = some (.int .i64 x.2.2) := by
  induction l generalizing j with
  | nil => simp at h
  | cons p r ih =>
    cases j with
    | zero => simp at h; subst h; simp [partCells]
    | succ j =>
      have := ih (j := j) (by simpa using h)
      unfold partCells at this ⊢
      simp only [List.flatMap_cons]
      have e1 : (j + 1) * 3 = j * 3 + 3 := by omega
      rw [e1]
      simpa using this

theorem dPart_bd {z : Int} {h : List Int} : ∀ {l : List (Int × Int × Int)} {n m : Int}, dPart z h l n = some m → n - (l.length : Nat) ≤ m ∧ m ≤ n
  | [], n, m, e => by simp [dPart] at e; subst e; simp
  | x :: l, n, m, e => by
    unfold dPart at e
    split at e
    · split at e
      · have := dPart_bd e; simp; omega
      · cases e
    · have := dPart_bd e; simp; omega
theorem docR_bd {sz : Nat → Int} {all : List (List (List Int))} {l : List (Int × Int × Int)} {B : Nat} (hB : ∀ k, k < 9 → (haveF all k).length ≤ B) : ∀ {K : Nat} {m : Int}, K ≤ 9 → docR sz all l K = some m → -((K * l.length : Nat) : Int) ≤ m ∧ m ≤ ((K * B : Nat) : Int)
  | 0, m, _, e => by simp [docR] at e; subst e; simp
  | K + 1, m, hK, e => by
    unfold docR at e
    obtain ⟨q, h1, h2⟩ := Option.bind_eq_some_iff.1 e
    have i1 := docR_bd hB (by omega) h1
    split at h2
    · have i2 := dPart_bd h2
      have i3 := hB K (by omega)
      have e1 : (K + 1) * l.length = K * l.length + l.length := Nat.succ_mul _ _
      have e2 : (K + 1) * B = K * B + B := Nat.succ_mul _ _
      rw [e1, e2]
      omega
    · cases h2
theorem docR_none {sz : Nat → Int} {all : List (List (List Int))} {l : List (Int × Int × Int)} {k : Nat} (h : docR sz all l k = none) : ∀ d, docR sz all l (k + d) = none
  | 0 => h
  | d + 1 => by
    show docR sz all l ((k + d) + 1) = none
    unfold docR
    rw [docR_none h d]
    rfl
theorem fitsD_no {sz : Nat → Int} {all : List (List (List Int))} {l : List (Int × Int × Int)} {k : Nat} (hk : k ≤ 9) (h : docR sz all l k = none) : fitsD sz all l = false := by
  have := docR_none h (9 - k)
  rw [show k + (9 - k) = 9 by omega] at this
  unfold fitsD
  rw [this]
theorem lens_no {es : List PkE} {j k : Nat} {e : PkE} (he : es[j]? = some e) (h : ¬ (e.ls.getD k []).length ≤ 4) : lensB (es.map PkE.ls) k = false := by
  unfold lensB
  rw [List.all_eq_false]
  exact ⟨e.ls, List.mem_map.2 ⟨e, List.mem_of_getElem? he, rfl⟩, by simpa using h⟩
theorem lens_yes {es : List PkE} {k : Nat} (h : ∀ (j : Nat) (e : PkE), es[j]? = some e → (e.ls.getD k []).length ≤ 4) : lensB (es.map PkE.ls) k = true := by
  unfold lensB
  rw [List.all_eq_true]
  intro p hp
  obtain ⟨e, he, rfl⟩ := List.mem_map.1 hp
  obtain ⟨j, hj, hje⟩ := List.getElem_of_mem he
  simpa using h j e (by rw [List.getElem?_eq_getElem hj, hje])

structure FdO (w2 : World) (sz : Nat → Int) (all : List (List (List Int))) (L : List (Int × Int × Int)) (vn vk : Value) (wr : World) (k : Nat) (m : Int) : Prop where
  le : k ≤ 9
  eq : vk = .int .i64 k
  en : vn = .int .i64 m
  dr : docR sz all L k = some m
  bel : Below w2.heap.size w2 wr
def FdOE (w2 : World) (sz : Nat → Int) (all : List (List (List Int))) (L : List (Int × Int × Int)) (vn vk : Value) (wr : World) : Prop := ∃ k m, FdO w2 sz all L vn vk wr k m
structure FdL (w2 : World) (es : List PkE) (k : Nat) (vt : Value) (wr : World) (j : Nat) : Prop where
  le : j ≤ es.length
  eq : vt = .int .i64 j
  al : ∀ (i : Nat) (e : PkE), i < j → es[i]? = some e → (e.ls.getD k []).length ≤ 4
  bel : Below w2.heap.size w2 wr
def FdLE (w2 : World) (es : List PkE) (k : Nat) (vt : Value) (wr : World) : Prop := ∃ j, FdL w2 es k vt wr j
structure FdI (w2 : World) (z : Int) (h : List Int) (L : List (Int × Int × Int)) (n0 : Int) (vn vi : Value) (wr : World) (i : Nat) (m : Int) : Prop where
  le : i ≤ L.length
  eq : vi = .int .i64 i
  en : vn = .int .i64 m
  dp : dPart z h L n0 = dPart z h (L.drop i) m
  lo : n0 - (i : Nat) ≤ m
  hi : m ≤ n0
  bel : Below w2.heap.size w2 wr
def FdIE (w2 : World) (z : Int) (h : List Int) (L : List (Int × Int × Int)) (n0 : Int) (vn vi : Value) (wr : World) : Prop := ∃ i m, FdI w2 z h L n0 vn vi wr i m

theorem drop_get {α : Type} {L : List α} {i : Nat} {x : α} (h : L[i]? = some x) : L.drop i = x :: L.drop (i + 1) := by
  have hl := (List.getElem?_eq_some_iff.1 h).1
  rw [List.drop_eq_getElem_cons hl]
  congr 1
  exact (List.getElem?_eq_some_iff.1 h).2

set_option maxHeartbeats 2000000 in
set_option maxRecDepth 100000 in
theorem rfitsp_yes (av : Value) (es : List PkE) (c : Nat) (w : World) (h : XV w (es.length : Nat) P s ad n vs) (hs : (chkF vs (es.length : Nat) P s).2 = true) (hk : PkR w av es) (hf : ∀ e ∈ es, fewB e = true) (hn : es.length ≤ 20) :
    Calls Tryz.prog 14 #[.agg #[.int .i64 (es.length : Nat), .int .i64 P, .int .i64 s], .slice (some ad) n c, av] w fun e w' => e = .returned (.bool (fitsD (fun k => sizeF s k) (es.map PkE.ls) (partsF vs (es.length : Nat) P s))) ∧ Below w.heap.size w w' := by
  have H := Lib.hid (fun w (h : XV w (es.length : Nat) P s ad n vs) => rsound_any c w h)
  rw [hs] at H
  have HP := Lib.hid (fun w (h : XV w (es.length : Nat) P s ad n vs) => rparts_any c w h hs)
  have hbd := h.bd
  have HSz := Lib.hid (fun (k : Nat) W => rsize_any s k W ⟨hbd.2.2.2.2.1, hbd.2.2.2.2.2.1⟩)
  obtain ⟨L, hL⟩ : ∃ L, partsF vs (es.length : Nat) P s = L := ⟨_, rfl⟩
  have hll : L.length ≤ 33 * 1024 := by
    rw [← hL]
    have := partsL_len vs (es.length : Nat) s P
    unfold partsF
    rw [Int.toNat_natCast]
    omega
  rw [hL] at HP ⊢
  obtain ⟨r, hr⟩ : ∃ r, fitsD (fun k => sizeF s k) (es.map PkE.ls) L = r := ⟨_, rfl⟩
  rw [hr]
  have HR := Lib.hid hr
  have c0 := loc_alloc w #[.int .i64 (es.length : Nat), .int .i64 P, .int .i64 s] 23
  have S0 := ((BS.start w).alloc (.cells #[.int .i64 (es.length : Nat), .int .i64 P, .int .i64 s] 23))
  have HV2 := Lib.hid (h.keep S0.bel)
  have HV := Lib.hid h
  have HK := Lib.hid hk
  have HF := Lib.hid hf
  obtain ⟨pa, pc, rfl⟩ := hk.rd.len
  have hhv : ∀ k, k < 9 → (haveF (es.map PkE.ls) k).length ≤ 200 := fun k hk9 => by have := have_len es k hf hk9; omega
  have HHv := Lib.hid hhv
  clear h hs hk hf hr hL hbd hhv
  go_enter Tryz.func14, Tryz.ntmps14
  go_wp2_with fail
  refine (calls_b S0 (H.out _ HV2.out)).mono ?_
  rintro e w1 ⟨rfl, S1, S1l⟩
  have c1 := loc_step S1l (by simp) c0
  clear S1l
  have HVa := Lib.hid (HV.out.keep S1.bel)
  clear S0 c0 HV2
  go_wp2_with fail
  refine (HP.out _ HVa.out).mono ?_
  rintro e w2 ⟨v, rfl, hrow, -, hb⟩
  obtain ⟨pv, cv, rfl⟩ := row_shape hrow
  have z1 := S1.bel.size
  have hz1 : w.heap.size < w1.heap.size := by have := S1.ls w.heap.size (by simp); exact this.1
  have HB2 := Lib.hid (S1.bel.trans (hb.mono z1))
  have HQ := Lib.hid (fun W (hW : Below w2.heap.size w2 W) => (⟨HK.out.keep ((S1.bel.trans (hb.mono z1)).trans (hW.mono (S1.bel.trans (hb.mono z1)).size)) (Nat.le_refl _), ownsRow_block hrow (fun x hx => hW.block x (ownsRow_lt hrow hx)), fun o => ((World.cell?_of_block (a := ⟨w.heap.size, o, none⟩) (hW.block w.heap.size (by have := hb.size; omega))).trans (World.cell?_of_block (a := ⟨w.heap.size, o, none⟩) (hb.block w.heap.size hz1))).trans (c1 o)⟩ : PkR W (.slice pa es.length pc) es ∧ W.ownsRow 0 82 3 (.slice pv L.length cv) L.length (partCells L) ∧ ∀ o : Nat, W.cell? ⟨w.heap.size, o, none⟩ = (#[.int .i64 (es.length : Nat), .int .i64 P, .int .i64 s] : Array Value)[o]?))
  clear hrow hb S1 c1 HP H HVa hz1 z1
  go_wp2
  go_loopw [8, 9] (fun vn vk wr => FdOE w2 (fun k => sizeF s k) (es.map PkE.ls) L vn vk wr) (fun _ vk _ => 9 - (intOf vk).toNat)
  case atStart => exact ⟨0, 0, by omega, rfl, rfl, rfl, Below.refl _ _⟩
  case round =>
    obtain ⟨k, m, hk, rfl, rfl, hdr, hbel⟩ := hrel
    by_cases hlt : k < 9
    · have hk9 : (k : Int) < 9 := by omega
      have hbd := docR_bd HHv.out hk hdr
      have HDr := Lib.hid hdr
      have HBel := Lib.hid hbel
      have hm1 : -(9 * 33 * 1024 : Int) ≤ m ∧ m ≤ 1800 := by
        have h1 := Nat.mul_le_mul (show k ≤ 9 by omega) hll
        have h2 := Nat.mul_le_mul_right 200 (show k ≤ 9 by omega)
        omega
      clear hdr hbel hbd
      go_wp2
      go_loopw [10] (fun vt wr => FdLE w2 es k vt wr) (fun vt _ => es.length - (intOf vt).toNat)
      case atStart => exact ⟨0, by omega, rfl, fun i e hi => absurd hi (by omega), HBel.out⟩
      case round =>
        clear HBel
        obtain ⟨j, hj, rfl, hal, hbel⟩ := hrel
        obtain ⟨hpk, -, hcfg⟩ := HQ.out _ hbel
        by_cases hlj : j < es.length
        · have hjl : (j : Int) < es.length := by omega
          obtain ⟨e, he⟩ : ∃ e, es[j]? = some e := ⟨_, List.getElem?_eq_getElem hlj⟩
          obtain ⟨b, off, c, hvs, hcell⟩ := hpk.cell he
          simp only [Value.slice.injEq, true_and] at hvs
          obtain ⟨rfl, rfl⟩ := hvs
          have q0 := hcell k hlt
          have hrd := (hpk.ok e (List.mem_of_getElem? he)).at_ hlt
          obtain ⟨ua, uc, hu⟩ := hrd.len
          rw [hu] at q0
          have q1 : wr.cell? ⟨b, off + j * 9 + k, none⟩ = some (.slice ua (e.ls.getD k []).length uc) := by rw [Nat.add_assoc]; exact q0
          have HNo := Lib.hid (fun h : ¬ (e.ls.getD k []).length ≤ 4 => lens_no he h)
          have HAl := Lib.hid hal
          have HBl := Lib.hid hbel
          have HE := Lib.hid he
          obtain ⟨ln, hln⟩ : ∃ ln, (e.ls.getD k []).length = ln := ⟨_, rfl⟩
          rw [hln] at q0 q1 HNo
          have HLn := Lib.hid hln
          clear hpk hcell hrd hu hal hbel he hln hcfg
          by_cases h4 : ln ≤ 4
          · have h4i : ¬ (4 : Int) < (ln : Int) := by omega
            have H4 := Lib.hid h4
            clear h4 HNo
            go_wp2
            go_roundw
            case rel => exact ⟨j + 1, by omega, by go_num, fun i e' hi he' => by
              by_cases e2 : i = j
              · subst e2
                have := HE.out.symm.trans he'
                simp at this
                subst this
                rw [HLn.out]; exact H4.out
              · exact HAl.out i e' (by omega) he', HBl.out⟩
            case measure => simp [intOf]; omega
          · have h4i : (4 : Int) < (ln : Int) := by omega
            have HN := Lib.hid (show fitsD (fun k => sizeF s k) (es.map PkE.ls) L = false from fitsD_no (k := k + 1) (by omega) (by
              unfold docR
              rw [HDr.out, Option.bind_some, HNo.out h4]
              rfl))
            clear h4 HNo
            go_wp2
            go_ret
            exact ⟨ret_bool (HN.out.symm.trans HR.out), HB2.out.trans (HBl.out.mono HB2.out.size)⟩
        · have hjl : ¬ (j : Int) < es.length := by omega
          have hje : j = es.length := by omega
          have HLe := Lib.hid (show lensB (es.map PkE.ls) k = true from lens_yes fun i e he => hal i e (by have := (List.getElem?_eq_some_iff.1 he).1; omega) he)
          have HBl := Lib.hid hbel
          have hpkH := Lib.hid hpk
          clear hal hbel hje hpk hcfg
          go_wp2_with fail
          refine (rallp_any _ es k _ hpkH.out HF.out hlt hn).mono ?_
          rintro e w3 ⟨hv, rfl, hrow3, -, hb3⟩
          obtain ⟨hl, hhl⟩ : ∃ hl, haveF (es.map PkE.ls) k = hl := ⟨_, rfl⟩
          have hhn := HHv.out k hlt
          rw [hhl] at hrow3 hhn
          obtain ⟨ph, ch, rfl⟩ := row_shape hrow3
          have z2 := HBl.out.size
          have HB3 := Lib.hid (HBl.out.trans (hb3.mono z2))
          have HH := Lib.hid (fun W (hW : Below w3.heap.size w3 W) => (Rd.of_row (ownsRow_block hrow3 (fun x hx => hW.block x (ownsRow_lt hrow3 hx))) : RdI W (.slice ph hl.length ch) hl))
          have HDk := Lib.hid (show docR (fun k => sizeF s k) (es.map PkE.ls) L (k + 1) = dPart (sizeF s k) hl L (m + (hl.length : Nat)) by
            unfold docR
            rw [HDr.out, Option.bind_some, if_pos HLe.out, hhl])
          clear hrow3 hb3 hhl hpkH HLe HBl
          go_wp2
          go_loopw [8, 12] (fun vn vi wr => FdIE w3 (sizeF s k) hl L (m + (hl.length : Nat)) vn vi wr) (fun _ vi _ => L.length - (intOf vi).toNat)
          case atStart => exact ⟨0, m + (hl.length : Nat), by omega, rfl, by go_num, rfl, by omega, by omega, Below.refl _ _⟩
          case round =>
            obtain ⟨i, q, hi, rfl, rfl, hdp, hlo, hhi, hbel⟩ := hrel
            have HBi := Lib.hid (HB3.out.trans (hbel.mono HB3.out.size))
            have HBj := Lib.hid hbel
            obtain ⟨-, hrowL, hcfg⟩ := HQ.out _ HBi.out
            by_cases hli : i < L.length
            · have hil : (i : Int) < L.length := by omega
              obtain ⟨⟨x1, x2, x3⟩, hx⟩ : ∃ x, L[i]? = some x := ⟨_, List.getElem?_eq_getElem hli⟩
              obtain ⟨d1, d2, d3⟩ := partD_cell hx
              obtain ⟨g, cg, hgv⟩ := Joins.ownsRow_form hrowL (by omega)
              simp only [Value.slice.injEq, true_and] at hgv
              obtain ⟨rfl, rfl⟩ := hgv
              have r1 := (hrowL.cellAt (i * 3) (by omega)).trans d1
              have r2 := (hrowL.cellAt (i * 3 + 1) (by omega)).trans d2
              have r3 := (hrowL.cellAt (i * 3 + 2) (by omega)).trans d3
              have e2 := (hcfg 2).trans rfl
              have hdr1 := drop_get hx
              have HX := Lib.hid hdp
              have HD1 := Lib.hid hdr1
              clear hdp hdr1 hrowL hcfg d1 d2 d3 hx hbel
              by_cases h4 : x1 = 4
              · subst h4
                by_cases hz : x3 = sizeF s k
                · have hzb : (x3 == sizeF s k) = true := by simpa using hz
                  have HZ := Lib.hid hz
                  clear hz
                  obtain ⟨cn, hcn⟩ : ∃ cn, hl.count x2 = cn := ⟨_, rfl⟩
                  have HCn := Lib.hid hcn
                  have HOf := Lib.hid (fun W (hW : Below w3.heap.size w3 W) => roften_any (.slice ph hl.length ch) hl x2 W (HH.out W hW) (by omega))
                  rw [hcn] at HOf
                  have HXs := Lib.hid (fun W (hW : Below wr.heap.size wr W) => (⟨hW, (hW.cell (World.block_lt_of_cell? wr _ r1)).trans r1, (hW.cell (World.block_lt_of_cell? wr _ r2)).trans r2, (hW.cell (World.block_lt_of_cell? wr _ r3)).trans r3, (hW.cell (World.block_lt_of_cell? wr _ e2)).trans e2⟩ : Below wr.heap.size wr W ∧ W.cell? ⟨g, i * 3, none⟩ = some (.int .i64 4) ∧ W.cell? ⟨g, i * 3 + 1, none⟩ = some (.int .i64 x2) ∧ W.cell? ⟨g, i * 3 + 2, none⟩ = some (.int .i64 x3) ∧ W.cell? ⟨w.heap.size, 2, none⟩ = some (.int .i64 s)))
                  clear hcn r1 r2 r3 e2
                  go_wp2
                  refine wp_region_noPanic ?_
                  refine wp_region_held_drew (S := fun w' => Below wr.heap.size wr w' ∧ w'.cell? ⟨g, i * 3, none⟩ = some (.int .i64 4) ∧ w'.cell? ⟨g, i * 3 + 1, none⟩ = some (.int .i64 x2) ∧ w'.cell? ⟨g, i * 3 + 2, none⟩ = some (.int .i64 x3) ∧ w'.cell? ⟨w.heap.size, 2, none⟩ = some (.int .i64 s)) (by kernel_rfl) ?_ (fun hHeld => ?_)
                  · exact HXs.out _ (Below.refl _ _).drew
                  refine wT 0 ?_
                  refine wT 1 ?_
                  refine wT 2 ?_
                  refine wT 3 ?_
                  refine wT 4 ?_
                  refine wT 5 ?_
                  refine wT 6 ?_
                  refine wT 7 ?_
                  refine wT 8 ?_
                  refine wT 9 ?_
                  refine wT 10 ?_
                  refine wT 11 ?_
                  refine wT 12 ?_
                  refine wT 13 ?_
                  refine wT 14 ?_
                  refine wR 15 fun K hK => ?_
                  go_simp
                  refine (HSz.out k _).mono ?_
                  rintro e w5 ⟨rfl, b5⟩
                  have B5 := hHeld.1.trans (b5.mono hHeld.1.size)
                  dsimp only
                  refine hK.out _ _ ?_ (fun hHeld => ?_)
                  · exact HXs.out _ B5
                  clear hK K
                  try simp only [Act.put, zA, zB, zC, zD, zE, zF]
                  refine wT 16 ?_
                  refine wT 17 ?_
                  refine wpAnyH_done (by kernel_rfl) (NoPanic.normal ?_) _
                  obtain ⟨q0, q1, q2, q3, q4⟩ := HXs.out _ B5
                  have B6 := Lib.hid (HBj.out.trans (B5.mono HBj.out.size))
                  clear hHeld b5 B5
                  go_wp2_with fail
                  refine (HOf.out _ B6.out).mono ?_
                  rintro e w6 ⟨rfl, b6⟩
                  have B7 := Lib.hid (B6.out.trans (b6.mono B6.out.size))
                  clear b6 q0 q1 q2 q3 q4
                  by_cases h1 : cn = 1
                  · subst h1
                    have HD2 := Lib.hid (show dPart (sizeF s k) hl (L.drop i) q = dPart (sizeF s k) hl (L.drop (i + 1)) (q - 1) by
                      rw [HD1.out]
                      rw [dPart, if_pos ⟨rfl, HZ.out⟩, if_pos HCn.out])
                    go_wp2
                    go_roundw
                    case rel => exact ⟨i + 1, q - 1, by omega, by go_num, by go_num, HX.out.trans HD2.out, by omega, by omega, B7.out⟩
                    case measure => simp [intOf]; omega
                  · have h1b : ((cn : Int) != 1) = true := by simp; omega
                    have HN := Lib.hid (show fitsD (fun k => sizeF s k) (es.map PkE.ls) L = false from fitsD_no (k := k + 1) (by omega) (by
                      rw [HDk.out, HX.out, HD1.out]
                      unfold dPart
                      rw [if_pos ⟨rfl, HZ.out⟩, if_neg (by rw [HCn.out]; exact h1)]))
                    have HB7 := Lib.hid (HB2.out.trans ((HB3.out.trans (B7.out.mono HB3.out.size)).mono HB2.out.size))
                    clear h1
                    go_wp2
                    go_ret
                    exact ⟨ret_bool (HN.out.symm.trans HR.out), HB7.out⟩
                · have hzb : (x3 == sizeF s k) = false := by simpa using hz
                  have HD2 := Lib.hid (show dPart (sizeF s k) hl (L.drop i) q = dPart (sizeF s k) hl (L.drop (i + 1)) q by
                    rw [HD1.out]
                    rw [dPart, if_neg (fun h => hz h.2)])
                  have HXs := Lib.hid (fun W (hW : Below wr.heap.size wr W) => (⟨hW, (hW.cell (World.block_lt_of_cell? wr _ r1)).trans r1, (hW.cell (World.block_lt_of_cell? wr _ r3)).trans r3, (hW.cell (World.block_lt_of_cell? wr _ e2)).trans e2⟩ : Below wr.heap.size wr W ∧ W.cell? ⟨g, i * 3, none⟩ = some (.int .i64 4) ∧ W.cell? ⟨g, i * 3 + 2, none⟩ = some (.int .i64 x3) ∧ W.cell? ⟨w.heap.size, 2, none⟩ = some (.int .i64 s)))
                  clear hz r1 r2 r3 e2
                  go_wp2
                  refine wp_region_noPanic ?_
                  refine wp_region_held_drew (S := fun w' => Below wr.heap.size wr w' ∧ w'.cell? ⟨g, i * 3, none⟩ = some (.int .i64 4) ∧ w'.cell? ⟨g, i * 3 + 2, none⟩ = some (.int .i64 x3) ∧ w'.cell? ⟨w.heap.size, 2, none⟩ = some (.int .i64 s)) (by kernel_rfl) ?_ (fun hHeld => ?_)
                  · exact HXs.out _ (Below.refl _ _).drew
                  refine wT 0 ?_
                  refine wT 1 ?_
                  refine wT 2 ?_
                  refine wT 3 ?_
                  refine wT 4 ?_
                  refine wT 5 ?_
                  refine wT 6 ?_
                  refine wT 7 ?_
                  refine wT 8 ?_
                  refine wT 9 ?_
                  refine wT 10 ?_
                  refine wT 11 ?_
                  refine wT 12 ?_
                  refine wT 13 ?_
                  refine wT 14 ?_
                  refine wR 15 fun K hK => ?_
                  go_simp
                  refine (HSz.out k _).mono ?_
                  rintro e w5 ⟨rfl, b5⟩
                  have B5 := hHeld.1.trans (b5.mono hHeld.1.size)
                  dsimp only
                  refine hK.out _ _ ?_ (fun hHeld => ?_)
                  · exact HXs.out _ B5
                  clear hK K
                  try simp only [Act.put, zA, zB, zC, zD, zE, zF]
                  refine wT 16 ?_
                  refine wT 17 ?_
                  refine wpAnyH_done (by kernel_rfl) (NoPanic.normal ?_) _
                  have B6 := Lib.hid (HBj.out.trans (B5.mono HBj.out.size))
                  clear hHeld b5 B5
                  go_wp2
                  go_roundw
                  case rel => exact ⟨i + 1, q, by omega, by go_num, rfl, HX.out.trans HD2.out, by omega, by omega, B6.out⟩
                  case measure => simp [intOf]; omega
              · have h4b : (x1 == 4) = false := by simpa using h4
                have HD2 := Lib.hid (show dPart (sizeF s k) hl (L.drop i) q = dPart (sizeF s k) hl (L.drop (i + 1)) q by
                  rw [HD1.out]
                  rw [dPart, if_neg (fun h => h4 h.1)])
                clear h4
                go_wp2
                refine wp_region_noPanic ?_
                refine wp_region_held_drew (S := fun w' => w'.cell? ⟨g, i * 3, none⟩ = some (.int .i64 x1)) (by kernel_rfl) ?_ (fun hHeld => ?_)
                · exact r1
                refine wT 0 ?_
                refine wT 1 ?_
                refine wT 2 ?_
                refine wT 3 ?_
                refine wT 4 ?_
                refine wT 5 ?_
                refine wT 6 ?_
                refine wU 7 ?_
                refine wU 8 ?_
                refine wU 9 ?_
                refine wU 10 ?_
                refine wU 11 ?_
                refine wU 12 ?_
                refine wU 13 ?_
                refine wU 14 ?_
                refine wU 15 ?_
                refine wU 16 ?_
                refine wT 17 ?_
                refine wpAnyH_done (by kernel_rfl) (NoPanic.normal ?_) _
                clear hHeld
                go_wp2
                go_roundw
                case rel => exact ⟨i + 1, q, by omega, by go_num, rfl, HX.out.trans HD2.out, by omega, by omega, HBj.out.drew⟩
                case measure => simp [intOf]; omega
            · have hil : ¬ (i : Int) < L.length := by omega
              have hie : i = L.length := by omega
              have HDn := Lib.hid (show docR (fun k => sizeF s k) (es.map PkE.ls) L (k + 1) = some q by
                rw [HDk.out, hdp, hie, List.drop_length]
                rfl)
              have HBk := Lib.hid ((HB3.out.trans (hbel.mono HB3.out.size)))
              clear hdp hie hbel hrowL hcfg
              go_wp2
              go_roundw
              case rel => exact ⟨k + 1, q, by omega, by go_num, rfl, HDn.out, HBk.out⟩
              case measure => simp [intOf]; omega
    · have hke : k = 9 := by omega
      have hkl : ¬ (k : Int) < 9 := by omega
      rw [hke] at hdr
      have HB := Lib.hid hbel
      by_cases hm : m = 0
      · have HN := Lib.hid (show fitsD (fun k => sizeF s k) (es.map PkE.ls) L = true by unfold fitsD; rw [hdr, hm]; rfl)
        have hmb : (m == 0) = true := by simpa using hm
        clear hm hdr hke hbel
        go_wp2
        go_ret
        exact ⟨ret_bool (HN.out.symm.trans HR.out), HB2.out.trans (HB.out.mono HB2.out.size)⟩
      · have HN := Lib.hid (show fitsD (fun k => sizeF s k) (es.map PkE.ls) L = false by unfold fitsD; rw [hdr]; simpa using hm)
        have hmb : (m == 0) = false := by simpa using hm
        clear hm hdr hke hbel
        go_wp2
        go_ret
        exact ⟨ret_bool (HN.out.symm.trans HR.out), HB2.out.trans (HB.out.mono HB2.out.size)⟩
end
end Go.Proofs.YtpmoajhpgekhcaaGreat
