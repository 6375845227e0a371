/- parts of the proof, merged by a program. -/
import Derived.Test.YtnagdljgeglceaaGreatMsp2
import Derived.Test.YtnagdljgeglceaaGreatMsp4
import Derived.Test.YtnagdljgeglceaaGreatMsp5
import Derived.Test.YtnagdljgeglceaaGreatMsp7
import Derived.Test.YtnagdljgeglceaaGreatMsp8
import Derived.Test.YtnagdljgeglceaaGreatMsp9
import Derived.RangeFuncNested
import Derived.RangeFuncBound
import Derived.RangeFuncCalls
import Derived.RangeFuncLeaves
import Derived.Shelf.Abstract
import Derived.WalkKit
import Derived.OwnWalkIn
import Derived.TacticsInMore
import Derived.LoopNIn
import Derived.LoopIn
import Derived.OrdersIn
import Derived.Deep.OwnRows
import Derived.ProofKit
import Derived.OpenShut
import Derived.Deep.Slices
import Derived.Deep.RegionLaw
set_option linter.unusedSimpArgs false
set_option linter.unusedVariables false
/- sweep of the program: All. -/
set_option linter.unusedSimpArgs false
set_option linter.unusedVariables false
namespace Go.Proofs.YtnagdljgeglceaaGreat
open Go.RowKit

structure SwRel (w : World) (b : Nat) (S : Nat → Prop) (t p s : Int) (st : VS) (k : Nat) (n i : Value) (wr : World) : Prop where
 le : k ≤ p.toNat
 n : n = .int .i64 ((sweepN t p s k st).1 : Nat)
 i : i = .int .i64 k
 v : VSt PV w b S [w.heap.size] (sweepN t p s k st).2 wr
 c : ∀ o : Nat, wr.cell? ⟨w.heap.size, o, none⟩ = (#[.int .i64 t, .int .i64 p, .int .i64 s] : Array Value)[o]?
def SwRelE (w : World) (b : Nat) (S : Nat → Prop) (t p s : Int) (st : VS) (n i : Value) (wr : World) : Prop := ∃ k, SwRel w b S t p s st k n i wr

set_option maxHeartbeats 1000000 in
set_option maxRecDepth 100000 in
theorem sall_any (b : Nat) (t p s : Int) (w : World) (S : Nat → Prop) (st : VS) (h : PV w b S st) (hp : p ≤ 1024) (hp0 : 0 ≤ p) :
 Calls Tryz.prog 12 #[.pointer (some ⟨b, 0, none⟩), .agg #[.int .i64 t, .int .i64 p, .int .i64 s]] w fun e w' => e = .returned (.int .i64 (sweepN t p s p.toNat st).1) ∧ Now w b S (sweepN t p s p.toNat st).2 w' := by
 have hV := (VSt.start keepsPV h).alloc keepsPV (.cells #[.int .i64 t, .int .i64 p, .int .i64 s] 23)
 have c0 := loc_alloc w #[.int .i64 t, .int .i64 p, .int .i64 s] 23
 have HN := Lib.hid hp0
 clear h
 go_enter Tryz.func12, Tryz.ntmps12
 go_wp2_with fail
 go_loopw [5, 6, 9] (fun v5 _ v9 wr => SwRelE w b S t p s st v5 v9 wr) (fun _ _ v9 _ => p.toNat - (intOf v9).toNat)
 case atStart => exact ⟨0, Nat.zero_le _, rfl, rfl, hV, c0⟩
 case round =>
  obtain ⟨k, hk, rfl, rfl, hV1, c1⟩ := hrel
  clear hV c0
  have hN := sweepN_le t p s st k
  by_cases hlt : k < p.toNat
  ·have hkp : (k : Int) < p := by omega
   have HP := fun (w : World) (S1 : Nat → Prop) (h1 : PV w b S1 (sweepN t p s k st).2) => spage_any b t p s k w S1 _ h1 hp
   have hs : sweepN t p s (k + 1) st = ((if (sweepF t p s k (sweepN t p s k st).2).1 = true then (sweepN t p s k st).1 + 1 else (sweepN t p s k st).1), (sweepF t p s k (sweepN t p s k st).2).2) := rfl
   have HK := Lib.hid hs
   clear hs
   generalize hm : (sweepN t p s k st).1 = m at *
   generalize hx : (sweepN t p s k st).2 = x at *
   clear hm hx
   obtain ⟨rb, y, hy⟩ : ∃ rb y, sweepF t p s k x = (rb, y) := ⟨_, _, rfl⟩
   rw [hy] at HP HK
   dsimp only at HP HK
   have HQ := Lib.hid HP
   clear HP hy
   cases rb
   ·go_wp2_with fail
    refine (calls_st hV1 (HQ.out _)).mono ?_
    rintro e w2 ⟨rfl, hV2, hV2l⟩
    have c2 := loc_step hV2l (by simp) c1
    clear hV2l
    go_wp2_with fail
    go_roundw
    case rel => exact ⟨k + 1, by omega, by rw [HK.out]; simp, by go_num, by rw [HK.out]; exact hV2, c2⟩
    case measure => simp [intOf]; omega
   ·have hw : IntKind.i64.wrap ((m : Int) + 1) = (m : Int) + 1 := wrap_in _ (by omega)
    go_wp2_with fail
    refine (calls_st hV1 (HQ.out _)).mono ?_
    rintro e w2 ⟨rfl, hV2, hV2l⟩
    have c2 := loc_step hV2l (by simp) c1
    clear hV2l
    go_wp2_with fail
    go_roundw
    case rel => exact ⟨k + 1, by omega, by rw [HK.out]; simp, by go_num, by rw [HK.out]; exact hV2, c2⟩
    case measure => simp [intOf]; omega
  ·have hke : k = p.toNat := by omega
   subst hke
   have hkp : ((p.toNat : Nat) : Int) = p := by omega
   have HD := Lib.hid (hV1.done keepsPV)
   clear hV1 c1 hlt hk
   rw [hkp]
   go_wp2
   go_ret
   exact ⟨rfl, HD.out⟩
end Go.Proofs.YtnagdljgeglceaaGreat
/- the document's audit: the parts of a heap. -/
set_option linter.unusedSimpArgs false
set_option linter.unusedVariables false
namespace Go.Proofs.YtnagdljgeglceaaGreat
open Go.RowKit
section
variable {t p s : Int} {ad : Addr} {n c : Nat} {vs : List Int}

def partQ (vs : List Int) (t s : Int) (q : Nat) : List (Int × Int × Int) :=
 if iK (gv vs t q 0) = 1 ∨ iK (gv vs t q 0) = 2 then [(iK (gv vs t q 0), addrF s q 0, iL (gv vs t q 0) * pageF s)]
 else if iK (gv vs t q 0) = 3 then slabF vs t s q (iC (gv vs t q 0)) else []
def partsL (vs : List Int) (t s : Int) : Nat → List (Int × Int × Int)
 | 0 => []
 | q + 1 => partsL vs t s q ++ partQ vs t s q
def partsF (vs : List Int) (t p s : Int) : List (Int × Int × Int) := partsL vs t s p.toNat
theorem partQ_len (vs : List Int) (t s : Int) (q : Nat) : (partQ vs t s q).length ≤ 33 := by
 unfold partQ
 split
 ·simp
 ·split
  ·exact slabF_len _ _ _ _ _
  ·simp
theorem partsL_len (vs : List Int) (t s : Int) (q : Nat) : (partsL vs t s q).length ≤ 33 * q := by
 induction q with
 | zero => simp [partsL]
 | succ q ih =>
  have := partQ_len vs t s q
  simp only [partsL, List.length_append]
  omega
theorem slabF_pos (vs : List Int) (t s q k : Int) (h0 : 0 ≤ k) (h8 : k ≤ 8) : 0 < (slabF vs t s q k).length := by
 have hk1 : 0 < slotsF k := by
  rcases (by omega : k = 0 ∨ k = 1 ∨ k = 2 ∨ k = 3 ∨ k = 4 ∨ k = 5 ∨ k = 6 ∨ k = 7 ∨ k = 8) with rfl | rfl | rfl | rfl | rfl | rfl | rfl | rfl | rfl <;> decide
 unfold slabF
 rw [List.length_append, slabL_len]
 omega

theorem BS.tail {w0 w : World} {L : Nat} {Ls : List Nat} (h : BS w0 (L :: Ls) w) : BS w0 Ls w := h.sub _ fun _ hL => List.mem_cons_of_mem _ hL
theorem mem_new {W w5 : World} {A B : Nat} {v v' : Value} {e sz m : Nat} {xs : List Value} (hnew : ∀ k, v'.ownBlock = some k → v.ownBlock = some k ∨ W.heap.size ≤ k) (hown : w5.ownsRow 0 e sz v' m xs) :
 ∀ L ∈ A :: v'.ownBlock.toList, L ∈ A :: B :: v.ownBlock.toList ∨ (W.heap.size ≤ L ∧ L < w5.heap.size) := by
 intro L hL
 simp at hL
 rcases hL with rfl | h
 ·exact Or.inl (by simp)
 ·rcases hnew L h with h1 | h1
  ·exact Or.inl (by simp [h1])
  ·exact Or.inr ⟨h1, ownsRow_lt hown h⟩
theorem mem_new3 {W w5 : World} {A B : Nat} {v v' : Value} {e sz m : Nat} {xs : List Value} (hnew : ∀ k, v'.ownBlock = some k → v.ownBlock = some k ∨ W.heap.size ≤ k) (hown : w5.ownsRow 0 e sz v' m xs) :
 ∀ L ∈ A :: v'.ownBlock.toList, L ∈ B :: A :: v.ownBlock.toList ∨ (W.heap.size ≤ L ∧ L < w5.heap.size) := by
 intro L hL
 simp at hL
 rcases hL with rfl | h
 ·exact Or.inl (by simp)
 ·rcases hnew L h with h1 | h1
  ·exact Or.inl (by simp [h1])
  ·exact Or.inr ⟨h1, ownsRow_lt hown h⟩

structure PaRel (w : World) (vs : List Int) (t p s : Int) (ad : Addr) (n c : Nat) (v3 v4 : Value) (wr : World) (q : Nat) : Prop where
 hq : v4 = .int .i64 q
 le : (q : Int) ≤ p
 row : wr.ownsRow 0 91 3 v3 (partsL vs t s q).length (partCells (partsL vs t s q))
 bs : BS w (w.heap.size :: v3.ownBlock.toList) wr
 xb : XB w t p s ad n c vs wr
 far : ∀ k, v3.ownBlock = some k → w.heap.size < k
def PaRelE (w : World) (vs : List Int) (t p s : Int) (ad : Addr) (n c : Nat) (v3 v4 : Value) (wr : World) : Prop := ∃ q, PaRel w vs t p s ad n c v3 v4 wr q

set_option maxHeartbeats 4000000 in
set_option maxRecDepth 100000 in
theorem parts_any (c : Nat) (w : World) (h : XV w t p s ad n vs) :
 Calls Tryz.prog 86 #[.agg #[.int .i64 t, .int .i64 p, .int .i64 s, .slice (some ad) n c]] w fun e w' => ∃ v, e = .returned v ∧ RowQ w (partsF vs t p s) v w' := by
 have X0 := (h.boxed c).alloc (.cells #[] 91)
 have r0 := row_empty (w.alloc (.cells #[.int .i64 t, .int .i64 p, .int .i64 s, .slice (some ad) n c] 114)) 91 3
 have hS0 := ((BS.start w).alloc (.cells #[.int .i64 t, .int .i64 p, .int .i64 s, .slice (some ad) n c] 114)).alloc (.cells #[] 91)
 simp only [World.size_alloc] at hS0 r0
 have bd : 4 ≤ p ∧ p ≤ 64 := by have := h.bd; omega
 have hr := h.right
 have hp := pageF_bd (s := s) (by have := h.bd; omega)
 have hp0 : 0 < pageF s := by omega
 have HP := Lib.hid (fun w => rpagesz_any t p s w hr)
 have HOf := Lib.hid (fun (q : Int) w (h0 : 0 ≤ q) (h1 : q < p) => rof_any t p s q 0 w hr h0 h1 (Int.le_refl 0) hp0)
 have HIn := Lib.hid (fun (q : Int) (w : World) (h : XV w t p s ad n vs) (h0 : 0 ≤ q) (h1 : q < p) => xinfo_any q c w h h0 h1)
 have HSb := Lib.hid (fun (q k : Int) (w : World) (h : XV w t p s ad n vs) (h0 : 0 ≤ q) (h1 : q < p) (h2 : 0 ≤ k) (h3 : k ≤ 8) => slab_any q k c w h h0 h1 h2 h3)
 have H0 := Lib.hid h
 obtain ⟨i0, hi0, hi1, hi2, hi3⟩ := info_parts infoPart
 have HI := Lib.hid (And.intro hi0 (And.intro hi1 (And.intro hi2 hi3)))
 generalize hF : partsF vs t p s = F
 have HF0 := Lib.hid hF
 clear hi0 hi1 hi2 hi3 h hr hp0 hF
 go_enter Tryz.func86, Tryz.ntmps86
 go_wp2_with fail
 go_loopw [3, 4, 5, 6, 7] (fun v3 v4 _ _ _ wr => PaRelE w vs t p s ad n c v3 v4 wr) (fun _ v4 _ _ _ _ => 64 - (intOf v4).toNat)
 case atStart => exact ⟨0, rfl, by omega, r0, hS0.sub _ (by simp [Value.ownBlock]), X0, by simp [Value.ownBlock]⟩
 case round =>
  obtain ⟨q, rfl, hle, hrow, hbs, hxb, hfar⟩ := hrel
  have hll := partsL_len vs t s q
  have hls : partsL vs t s (q + 1) = partsL vs t s q ++ partQ vs t s q := rfl
  generalize hL : partsL vs t s q = L at *
  have hlen : ∃ a c, u3 = .slice a L.length c := by
   rcases hrow.2 with ⟨h5, h6⟩ | ⟨g', cap', cur, h5, -⟩
   ·exact ⟨_, _, by rw [h5, h6]⟩
   ·exact ⟨_, _, h5⟩
  obtain ⟨pa, pc, rfl⟩ := hlen
  have HB := Lib.hid hbs
  have HF := Lib.hid hfar
  have HRow := Lib.hid hrow
  clear r0 hS0 X0 hbs hfar hrow
  obtain ⟨x0, x1, x2, x3⟩ := hxb.cells
  have xz := hxb.lt
  by_cases hlt : (q : Int) < p
  ·have I1 := Lib.hid (fun (w : World) (h : XV w t p s ad n vs) => HIn.out q w h (by omega) hlt)
   have HO := Lib.hid (fun w => HOf.out q w (by omega) hlt)
   have HSb2 := Lib.hid (fun (k : Int) (w : World) (h : XV w t p s ad n vs) (h2 : 0 ≤ k) (h3 : k ≤ 8) => HSb.out q k w h (by omega) hlt h2 h3)
   have bd9 := inf_bd (gv vs t q 0)
   obtain ⟨b1, b2, b3, b4, b5, b6, -⟩ := bd9
   have hpq : partQ vs t s q = if iK (gv vs t q 0) = 1 ∨ iK (gv vs t q 0) = 2 then [(iK (gv vs t q 0), addrF s q 0, iL (gv vs t q 0) * pageF s)] else if iK (gv vs t q 0) = 3 then slabF vs t s q (iC (gv vs t q 0)) else [] := rfl
   rw [hpq] at hls
   have hll2 : L.length ≤ 2112 := by omega
   have hsb := slabF_len vs t s q (iC (gv vs t q 0))
   have hsp := slabF_pos vs t s q (iC (gv vs t q 0)) b5 b6
   have HSb3 := Lib.hid (fun (w : World) (h : XV w t p s ad n vs) => HSb2.out (iC (gv vs t q 0)) w h b5 b6)
   clear hpq HIn HOf HSb HSb2 hll hL
   generalize slabF vs t s q (iC (gv vs t q 0)) = sb at *
   generalize iK (gv vs t q 0) = a1 at *
   generalize iL (gv vs t q 0) = a2 at *
   generalize iC (gv vs t q 0) = a3 at *
   generalize addrF s q 0 = ar at *
   generalize pageF s = pg at *
   have hm0 : 0 ≤ a2 * pg := Int.mul_nonneg (by omega) (by omega)
   have hm1 : a2 * pg ≤ 1024 * 1048576 := Int.mul_le_mul (by omega) (by omega) (by omega) (by omega)
   have hmw : IntKind.i64.wrap (a2 * pg) = a2 * pg := wrap_in _ (by omega)
   by_cases hk1 : a1 = 1
   ·subst hk1
    have hls2 : partsL vs t s (q + 1) = L ++ [(1, ar, a2 * pg)] := by rw [hls]; simp
    have HLS := Lib.hid hls2
    clear hls hls2
    go_wp2_with fail
    refine (I1.out _ hxb.xv).mono ?_
    rintro e w2 ⟨rfl, hb2⟩
    have X2 := hxb.keep hb2
    obtain ⟨X20, X21, X22, X23⟩ := X2.cells
    have X2z := X2.lt
    have XI := X2.alloc (.cells #[.int .i64 1, .int .i64 a2, .int .i64 a3] 73)
    have hS2 := (HB.out.below hb2)
    have hw2 := hb2.size
    have hS3 := hS2.alloc (.cells #[.int .i64 1, .int .i64 a2, .int .i64 a3] 73)
    go_wp2_with fail
    refine (HO.out _).mono ?_
    rintro e w3 ⟨rfl, hb3⟩
    have X3 := XI.keep hb3
    obtain ⟨X30, X31, X32, X33⟩ := X3.cells
    have X3z := X3.lt
    have hS4 := hS3.below hb3
    have bI := fun o => (hb3.cell (p := ⟨w2.heap.size, o, none⟩) (by simp)).trans (loc_alloc w2 #[.int .i64 1, .int .i64 a2, .int .i64 a3] 73 o)
    have bi0 := bI 0
    have bi1 := bI 1
    have bi2 := bI 2
    simp at bi0 bi1 bi2
    have li := hb3.size
    simp only [World.size_alloc] at li
    have hRz := (((BS.start wr).below hb2).alloc (.cells #[.int .i64 1, .int .i64 a2, .int .i64 a3] 73)).below hb3
    have R4 := hRz.row HRow.out
    clear hb2 hb3 X20 X21 X22 X23 X2z x0 x1 x2 x3
    go_wp2_with fail
    refine world_gen ?_
    intro wz hwz
    have hSz : BS w (w.heap.size :: w2.heap.size :: (Value.slice pa L.length pc).ownBlock.toList) wz := by rw [hwz]; exact hS4.sub _ (fun L hL => by simp only [List.mem_cons] at hL ⊢; rcases hL with h | h | h <;> simp [h])
    have Xz : XB w t p s ad n c vs wz := by rw [hwz]; exact X3
    have bz : ∀ o : Nat, wz.cell? ⟨w2.heap.size, o, none⟩ = (#[.int .i64 1, .int .i64 a2, .int .i64 a3] : Array Value)[o]? := by rw [hwz]; exact bI
    have Rz : wz.ownsRow 0 91 3 (.slice pa L.length pc) L.length (partCells L) := by rw [hwz]; exact R4
    have HX := Lib.hid Xz.box
    have HbI := Lib.hid bz
    have HRz := Lib.hid Rz
    clear hwz bz Rz bi0 bi1 bi2 X30 X31 X32 X33 X3z bI hS2 hS3 hS4 hRz R4
    refine wp_region_noPanic ?_
    refine wp_region_held_drew (S := fun w' => BS w (w.heap.size :: w2.heap.size :: (Value.slice pa L.length pc).ownBlock.toList) w' ∧ (∀ o : Nat, w'.cell? ⟨w.heap.size, o, none⟩ = (#[.int .i64 t, .int .i64 p, .int .i64 s, .slice (some ad) n c] : Array Value)[o]?) ∧ (∀ o : Nat, w'.cell? ⟨w2.heap.size, o, none⟩ = (#[.int .i64 1, .int .i64 a2, .int .i64 a3] : Array Value)[o]?)) (by kernel_rfl) ?_ (fun hHeld => ?_)
    ·exact ⟨hSz.drew, HX.out, HbI.out⟩
    refine wpAnyH_take (i := 0) (oi := _) (v := ?_) rfl (by kernel_rfl) (by kernel_rfl) (by kernel_rfl) (fun _ _ _ h => h) (Or.inl ⟨by rfl, ?_⟩) (by assumption) ?_
    rotate_left
    ·intro w hSw; (try dsimp only at hSw); go_simp; try with_reducible rfl
    try simp only [Act.put, zA, zB, zD, zE, zF]
    refine wpAnyH_take (i := 1) (oi := _) (v := ?_) rfl (by kernel_rfl) (by kernel_rfl) (by kernel_rfl) (fun _ _ _ h => h) (Or.inl ⟨by rfl, ?_⟩) (by assumption) ?_
    rotate_left
    ·intro w hSw; (try dsimp only at hSw); go_simp; try with_reducible rfl
    try simp only [Act.put, zA, zB, zC, zD, zE, zF]
    refine wpAnyH_take (i := 2) (oi := _) (v := ?_) rfl (by kernel_rfl) (by kernel_rfl) (by kernel_rfl) (fun _ _ _ h => h) (Or.inl ⟨by rfl, ?_⟩) (by assumption) ?_
    rotate_left
    ·intro w hSw; (try dsimp only at hSw); go_simp; try with_reducible rfl
    try simp only [Act.put, zA, zB, zC, zD, zE, zF]
    refine wpAnyH_take (i := 3) (oi := _) (v := ?_) rfl (by kernel_rfl) (by kernel_rfl) (by kernel_rfl) (fun _ _ _ h => h) (Or.inl ⟨by rfl, ?_⟩) (by assumption) ?_
    rotate_left
    ·intro w hSw; (try dsimp only at hSw); go_simp; try with_reducible rfl
    try simp only [Act.put, zA, zB, zC, zD, zE, zF]
    refine wpAnyH_take (i := 4) (oi := _) (v := ?_) rfl (by kernel_rfl) (by kernel_rfl) (by kernel_rfl) (fun _ _ _ h => h) (Or.inl ⟨by rfl, ?_⟩) (by assumption) ?_
    rotate_left
    ·intro w hSw; (try dsimp only at hSw); go_simp; try with_reducible rfl
    try simp only [Act.put, zA, zB, zC, zD, zE, zF]
    refine wpAnyH_take (i := 5) (oi := _) (v := ?_) rfl (by kernel_rfl) (by kernel_rfl) (by kernel_rfl) (fun _ _ _ h => h) (Or.inl ⟨by rfl, ?_⟩) (by assumption) ?_
    rotate_left
    ·intro w hSw; (try dsimp only at hSw); go_simp; try with_reducible rfl
    try simp only [Act.put, zA, zB, zC, zD, zE, zF]
    refine wpAnyH_take (i := 6) (oi := _) (v := ?_) rfl (by kernel_rfl) (by kernel_rfl) (by kernel_rfl) (fun _ _ _ h => h) (Or.inl ⟨by rfl, ?_⟩) (by assumption) ?_
    rotate_left
    ·intro w hSw; (try dsimp only at hSw); go_simp; try with_reducible rfl
    try simp only [Act.put, zA, zB, zC, zD, zE, zF]
    refine wpAnyH_take (i := 7) (oi := _) (v := ?_) rfl (by kernel_rfl) (by kernel_rfl) (by kernel_rfl) (fun _ _ _ h => h) (Or.inl ⟨by rfl, ?_⟩) (by assumption) ?_
    rotate_left
    ·intro w hSw; (try dsimp only at hSw); go_simp; try with_reducible rfl
    try simp only [Act.put, zA, zB, zC, zD, zE, zF]
    refine wpAnyH_ready (rs := [8]) (by kernel_rfl) (by simp) ?_
    refine AllReadyH.cons (o := _) rfl (fun K hK => ?_) AllReadyH.nil
    go_simp
    refine (calls_b hHeld.1 (HP.out _)).mono ?_
    rintro e wy ⟨rfl, hVy, hVyl⟩
    have cxy := loc_step hVyl (by simp) hHeld.2.1
    have ciy := loc_step hVyl (by simp) hHeld.2.2
    have Ry := row_step hVyl (fun k hk => by simp [hk]) (ownsRow_block (w' := wz.drew) HRz.out (fun _ _ => rfl))
    clear hVyl
    dsimp only
    refine hK.out _ _ ?_ (fun hHeld => ?_)
    ·exact ⟨hVy, cxy, ciy⟩
    clear hK K
    try simp only [Act.put, zA, zB, zC, zD, zE, zF]
    refine wpAnyH_take (i := 9) (oi := _) (v := ?_) rfl (by kernel_rfl) (by kernel_rfl) (by kernel_rfl) (fun _ _ _ h => h) (Or.inl ⟨by rfl, ?_⟩) (by assumption) ?_
    rotate_left
    ·intro w hSw; (try dsimp only at hSw); go_simp; try with_reducible rfl
    try simp only [Act.put, zA, zB, zC, zD, zE, zF]
    refine wpAnyH_take (i := 10) (oi := _) (v := ?_) rfl (by kernel_rfl) (by kernel_rfl) (by kernel_rfl) (fun _ _ _ h => h) (Or.inl ⟨by rfl, ?_⟩) (by assumption) ?_
    rotate_left
    ·intro w hSw; (try dsimp only at hSw); go_simp; try with_reducible rfl
    try simp only [Act.put, zA, zB, zC, zD, zE, zF]
    refine wpAnyH_ready (rs := [11]) (by kernel_rfl) (by simp) ?_
    refine AllReadyH.cons (o := _) rfl (fun K hK => ?_) AllReadyH.nil
    go_simp
    refine hK.out _ _ ?_ (fun hHeld => ?_)
    ·exact ⟨(hHeld.1.alloc _).tail, loc_old _ (hHeld.1.ls _ (by simp)).1 hHeld.2.1, loc_old _ (hHeld.1.ls _ (by simp)).1 hHeld.2.2⟩
    clear hK K
    try simp only [Act.put, zA, zB, zC, zD, zE, zF]
    refine wpAnyH_ready (rs := [12]) (by kernel_rfl) (by simp) ?_
    refine AllReadyH.cons (o := _) rfl (fun K hK => ?_) AllReadyH.nil
    refine step_append_new rfl (.tmp 31) (.tmp 42) rfl 91 i0 (.agg #[.int .i64 0, .int .i64 0, .int .i64 0]) 3 24 Tryz.underlying87 HI.out.1 HI.out.2.1 HI.out.2.2.1 HI.out.2.2.2 rfl (by decide) (.slice pa L.length pc) L.length (partCells L) rfl (Ry.alloc _) ⟨wy.heap.size, 0, none⟩ 1 1 [.int .i64 1, .int .i64 ar, .int .i64 (a2 * pg)] rfl rfl (cell_three_new _ _ _ _ _) ?c1 ?c2 ?c3 ?_
    case c1 => (simp [Value.oneCell'])
    case c2 => (unfold maxLen; omega)
    case c3 => (omega)
    intro v' w5 hown5 hg5 hnew5 hnil5
    clear hnil5
    obtain ⟨g', cap', rfl⟩ := Joins.ownsRow_form hown5 (by omega)
    have hb5 := hHeld.1.grown hg5 (fun k hk => by simp [hk]) (w.heap.size :: w2.heap.size :: (Value.slice pa L.length pc).ownBlock.toList) (fun L hL => Or.inl hL)
    have hn5 := hHeld.1.grown hg5 (fun k hk => by simp [hk]) (w.heap.size :: (Value.slice (some ⟨g', 0, none⟩) (L.length + 1) cap').ownBlock.toList) (mem_new hnew5 hown5)
    have hlx := (hHeld.1.ls w.heap.size (by simp))
    have hli := (hHeld.1.ls w2.heap.size (by simp))
    have hx5 := loc_grown hg5 hlx.1 (fun e => by have := HF.out _ e; omega) hHeld.2.1
    have hi5 := loc_grown hg5 hli.1 (fun e => by have := ownsRow_lt HRow.out e; omega) hHeld.2.2
    refine hK.out _ _ ?_ (fun hHeld => ?_)
    ·exact ⟨hb5, hx5, hi5⟩
    clear hK K
    try simp only [Act.put, zA, zB, zC, zD, zE, zF]
    refine wpAnyH_take (i := 13) (oi := _) (v := ?_) rfl (by kernel_rfl) (by kernel_rfl) (by kernel_rfl) (fun _ _ _ h => h) (Or.inl ⟨by rfl, ?_⟩) (by assumption) ?_
    rotate_left
    ·intro w hSw; (try dsimp only at hSw); go_simp; try with_reducible rfl
    try simp only [Act.put, zA, zB, zC, zD, zE, zF]
    refine wpAnyH_done (by kernel_rfl) ?_ _
    refine NoPanic.normal ?_
    refine world_gen ?_
    intro wz2 hwz2
    subst hwz2
    go_wp2_with fail
    go_roundw
    case rel =>
     refine ⟨q + 1, by go_num, by omega, ?_, hn5, ⟨hn5.bel, hx5, (hn5.ls w.heap.size (by simp)).1, H0.out.keep hn5.bel⟩, ?_⟩
     ·rw [HLS.out, partCells_app, List.length_append]; exact hown5
     ·exact fun k hk => (hnew5 k hk).elim (HF.out k) (fun h => by have := hlx.1; omega)
    case measure => simp [intOf]; omega
   ·have hkb1 : (a1 == 1) = false := by simp [hk1]
    by_cases hk2 : a1 = 2
    ·subst hk2
     have hls2 : partsL vs t s (q + 1) = L ++ [(2, ar, a2 * pg)] := by rw [hls]; simp
     have HLS := Lib.hid hls2
     clear hls hls2 hk1
     go_wp2_with fail
     refine (I1.out _ hxb.xv).mono ?_
     rintro e w2 ⟨rfl, hb2⟩
     have X2 := hxb.keep hb2
     obtain ⟨X20, X21, X22, X23⟩ := X2.cells
     have X2z := X2.lt
     have XI := X2.alloc (.cells #[.int .i64 2, .int .i64 a2, .int .i64 a3] 73)
     have hS2 := (HB.out.below hb2)
     have hw2 := hb2.size
     have hS3 := hS2.alloc (.cells #[.int .i64 2, .int .i64 a2, .int .i64 a3] 73)
     go_wp2_with fail
     refine (HO.out _).mono ?_
     rintro e w3 ⟨rfl, hb3⟩
     have X3 := XI.keep hb3
     obtain ⟨X30, X31, X32, X33⟩ := X3.cells
     have X3z := X3.lt
     have hS4 := hS3.below hb3
     have bI := fun o => (hb3.cell (p := ⟨w2.heap.size, o, none⟩) (by simp)).trans (loc_alloc w2 #[.int .i64 2, .int .i64 a2, .int .i64 a3] 73 o)
     have bi0 := bI 0
     have bi1 := bI 1
     have bi2 := bI 2
     simp at bi0 bi1 bi2
     have li := hb3.size
     simp only [World.size_alloc] at li
     have hRz := (((BS.start wr).below hb2).alloc (.cells #[.int .i64 2, .int .i64 a2, .int .i64 a3] 73)).below hb3
     have R4 := hRz.row HRow.out
     clear hb2 hb3 X20 X21 X22 X23 X2z x0 x1 x2 x3
     go_wp2_with fail
     refine world_gen ?_
     intro wz hwz
     have hSz : BS w (w.heap.size :: w2.heap.size :: (Value.slice pa L.length pc).ownBlock.toList) wz := by rw [hwz]; exact hS4.sub _ (fun L hL => by simp only [List.mem_cons] at hL ⊢; rcases hL with h | h | h <;> simp [h])
     have Xz : XB w t p s ad n c vs wz := by rw [hwz]; exact X3
     have bz : ∀ o : Nat, wz.cell? ⟨w2.heap.size, o, none⟩ = (#[.int .i64 2, .int .i64 a2, .int .i64 a3] : Array Value)[o]? := by rw [hwz]; exact bI
     have Rz : wz.ownsRow 0 91 3 (.slice pa L.length pc) L.length (partCells L) := by rw [hwz]; exact R4
     have HX := Lib.hid Xz.box
     have HbI := Lib.hid bz
     have HRz := Lib.hid Rz
     clear hwz bz Rz bi0 bi1 bi2 X30 X31 X32 X33 X3z bI hS2 hS3 hS4 hRz R4
     refine wp_region_noPanic ?_
     refine wp_region_held_drew (S := fun w' => BS w (w.heap.size :: w2.heap.size :: (Value.slice pa L.length pc).ownBlock.toList) w' ∧ (∀ o : Nat, w'.cell? ⟨w.heap.size, o, none⟩ = (#[.int .i64 t, .int .i64 p, .int .i64 s, .slice (some ad) n c] : Array Value)[o]?) ∧ (∀ o : Nat, w'.cell? ⟨w2.heap.size, o, none⟩ = (#[.int .i64 2, .int .i64 a2, .int .i64 a3] : Array Value)[o]?)) (by kernel_rfl) ?_ (fun hHeld => ?_)
     ·exact ⟨hSz.drew, HX.out, HbI.out⟩
     refine wpAnyH_take (i := 0) (oi := _) (v := ?_) rfl (by kernel_rfl) (by kernel_rfl) (by kernel_rfl) (fun _ _ _ h => h) (Or.inl ⟨by rfl, ?_⟩) (by assumption) ?_
     rotate_left
     ·intro w hSw; (try dsimp only at hSw); go_simp; try with_reducible rfl
     try simp only [Act.put, zA, zB, zD, zE, zF]
     refine wpAnyH_take (i := 1) (oi := _) (v := ?_) rfl (by kernel_rfl) (by kernel_rfl) (by kernel_rfl) (fun _ _ _ h => h) (Or.inl ⟨by rfl, ?_⟩) (by assumption) ?_
     rotate_left
     ·intro w hSw; (try dsimp only at hSw); go_simp; try with_reducible rfl
     try simp only [Act.put, zA, zB, zC, zD, zE, zF]
     refine wpAnyH_take (i := 2) (oi := _) (v := ?_) rfl (by kernel_rfl) (by kernel_rfl) (by kernel_rfl) (fun _ _ _ h => h) (Or.inl ⟨by rfl, ?_⟩) (by assumption) ?_
     rotate_left
     ·intro w hSw; (try dsimp only at hSw); go_simp; try with_reducible rfl
     try simp only [Act.put, zA, zB, zC, zD, zE, zF]
     refine wpAnyH_take (i := 3) (oi := _) (v := ?_) rfl (by kernel_rfl) (by kernel_rfl) (by kernel_rfl) (fun _ _ _ h => h) (Or.inl ⟨by rfl, ?_⟩) (by assumption) ?_
     rotate_left
     ·intro w hSw; (try dsimp only at hSw); go_simp; try with_reducible rfl
     try simp only [Act.put, zA, zB, zC, zD, zE, zF]
     refine wpAnyH_take (i := 4) (oi := _) (v := ?_) rfl (by kernel_rfl) (by kernel_rfl) (by kernel_rfl) (fun _ _ _ h => h) (Or.inl ⟨by rfl, ?_⟩) (by assumption) ?_
     rotate_left
     ·intro w hSw; (try dsimp only at hSw); go_simp; try with_reducible rfl
     try simp only [Act.put, zA, zB, zC, zD, zE, zF]
     refine wpAnyH_take (i := 5) (oi := _) (v := ?_) rfl (by kernel_rfl) (by kernel_rfl) (by kernel_rfl) (fun _ _ _ h => h) (Or.inl ⟨by rfl, ?_⟩) (by assumption) ?_
     rotate_left
     ·intro w hSw; (try dsimp only at hSw); go_simp; try with_reducible rfl
     try simp only [Act.put, zA, zB, zC, zD, zE, zF]
     refine wpAnyH_take (i := 6) (oi := _) (v := ?_) rfl (by kernel_rfl) (by kernel_rfl) (by kernel_rfl) (fun _ _ _ h => h) (Or.inl ⟨by rfl, ?_⟩) (by assumption) ?_
     rotate_left
     ·intro w hSw; (try dsimp only at hSw); go_simp; try with_reducible rfl
     try simp only [Act.put, zA, zB, zC, zD, zE, zF]
     refine wpAnyH_take (i := 7) (oi := _) (v := ?_) rfl (by kernel_rfl) (by kernel_rfl) (by kernel_rfl) (fun _ _ _ h => h) (Or.inl ⟨by rfl, ?_⟩) (by assumption) ?_
     rotate_left
     ·intro w hSw; (try dsimp only at hSw); go_simp; try with_reducible rfl
     try simp only [Act.put, zA, zB, zC, zD, zE, zF]
     refine wpAnyH_ready (rs := [8]) (by kernel_rfl) (by simp) ?_
     refine AllReadyH.cons (o := _) rfl (fun K hK => ?_) AllReadyH.nil
     go_simp
     refine (calls_b hHeld.1 (HP.out _)).mono ?_
     rintro e wy ⟨rfl, hVy, hVyl⟩
     have cxy := loc_step hVyl (by simp) hHeld.2.1
     have ciy := loc_step hVyl (by simp) hHeld.2.2
     have Ry := row_step hVyl (fun k hk => by simp [hk]) (ownsRow_block (w' := wz.drew) HRz.out (fun _ _ => rfl))
     clear hVyl
     dsimp only
     refine hK.out _ _ ?_ (fun hHeld => ?_)
     ·exact ⟨hVy, cxy, ciy⟩
     clear hK K
     try simp only [Act.put, zA, zB, zC, zD, zE, zF]
     refine wpAnyH_take (i := 9) (oi := _) (v := ?_) rfl (by kernel_rfl) (by kernel_rfl) (by kernel_rfl) (fun _ _ _ h => h) (Or.inl ⟨by rfl, ?_⟩) (by assumption) ?_
     rotate_left
     ·intro w hSw; (try dsimp only at hSw); go_simp; try with_reducible rfl
     try simp only [Act.put, zA, zB, zC, zD, zE, zF]
     refine wpAnyH_take (i := 10) (oi := _) (v := ?_) rfl (by kernel_rfl) (by kernel_rfl) (by kernel_rfl) (fun _ _ _ h => h) (Or.inl ⟨by rfl, ?_⟩) (by assumption) ?_
     rotate_left
     ·intro w hSw; (try dsimp only at hSw); go_simp; try with_reducible rfl
     try simp only [Act.put, zA, zB, zC, zD, zE, zF]
     refine wpAnyH_ready (rs := [11]) (by kernel_rfl) (by simp) ?_
     refine AllReadyH.cons (o := _) rfl (fun K hK => ?_) AllReadyH.nil
     go_simp
     refine hK.out _ _ ?_ (fun hHeld => ?_)
     ·exact ⟨(hHeld.1.alloc _).tail, loc_old _ (hHeld.1.ls _ (by simp)).1 hHeld.2.1, loc_old _ (hHeld.1.ls _ (by simp)).1 hHeld.2.2⟩
     clear hK K
     try simp only [Act.put, zA, zB, zC, zD, zE, zF]
     refine wpAnyH_ready (rs := [12]) (by kernel_rfl) (by simp) ?_
     refine AllReadyH.cons (o := _) rfl (fun K hK => ?_) AllReadyH.nil
     refine step_append_new rfl (.tmp 31) (.tmp 42) rfl 91 i0 (.agg #[.int .i64 0, .int .i64 0, .int .i64 0]) 3 24 Tryz.underlying87 HI.out.1 HI.out.2.1 HI.out.2.2.1 HI.out.2.2.2 rfl (by decide) (.slice pa L.length pc) L.length (partCells L) rfl (Ry.alloc _) ⟨wy.heap.size, 0, none⟩ 1 1 [.int .i64 2, .int .i64 ar, .int .i64 (a2 * pg)] rfl rfl (cell_three_new _ _ _ _ _) ?c1 ?c2 ?c3 ?_
     case c1 => (simp [Value.oneCell'])
     case c2 => (unfold maxLen; omega)
     case c3 => (omega)
     intro v' w5 hown5 hg5 hnew5 hnil5
     clear hnil5
     obtain ⟨g', cap', rfl⟩ := Joins.ownsRow_form hown5 (by omega)
     have hb5 := hHeld.1.grown hg5 (fun k hk => by simp [hk]) (w.heap.size :: w2.heap.size :: (Value.slice pa L.length pc).ownBlock.toList) (fun L hL => Or.inl hL)
     have hn5 := hHeld.1.grown hg5 (fun k hk => by simp [hk]) (w.heap.size :: (Value.slice (some ⟨g', 0, none⟩) (L.length + 1) cap').ownBlock.toList) (mem_new hnew5 hown5)
     have hlx := (hHeld.1.ls w.heap.size (by simp))
     have hli := (hHeld.1.ls w2.heap.size (by simp))
     have hx5 := loc_grown hg5 hlx.1 (fun e => by have := HF.out _ e; omega) hHeld.2.1
     have hi5 := loc_grown hg5 hli.1 (fun e => by have := ownsRow_lt HRow.out e; omega) hHeld.2.2
     refine hK.out _ _ ?_ (fun hHeld => ?_)
     ·exact ⟨hb5, hx5, hi5⟩
     clear hK K
     try simp only [Act.put, zA, zB, zC, zD, zE, zF]
     refine wpAnyH_take (i := 13) (oi := _) (v := ?_) rfl (by kernel_rfl) (by kernel_rfl) (by kernel_rfl) (fun _ _ _ h => h) (Or.inl ⟨by rfl, ?_⟩) (by assumption) ?_
     rotate_left
     ·intro w hSw; (try dsimp only at hSw); go_simp; try with_reducible rfl
     try simp only [Act.put, zA, zB, zC, zD, zE, zF]
     refine wpAnyH_done (by kernel_rfl) ?_ _
     refine NoPanic.normal ?_
     refine world_gen ?_
     intro wz2 hwz2
     subst hwz2
     go_wp2_with fail
     go_roundw
     case rel =>
      refine ⟨q + 1, by go_num, by omega, ?_, hn5, ⟨hn5.bel, hx5, (hn5.ls w.heap.size (by simp)).1, H0.out.keep hn5.bel⟩, ?_⟩
      ·rw [HLS.out, partCells_app, List.length_append]; exact hown5
      ·exact fun k hk => (hnew5 k hk).elim (HF.out k) (fun h => by have := hlx.1; omega)
     case measure => simp [intOf]; omega

    ·have hkb2 : (a1 == 2) = false := by simp [hk2]
     rw [if_neg (by omega)] at hls
     by_cases hk3 : a1 = 3
     ·subst hk3
      rw [if_pos rfl] at hls
      have HLS := Lib.hid hls
      clear hls hk1 hk2 hkb1 hkb2
      go_wp2_with fail
      refine (I1.out _ hxb.xv).mono ?_
      rintro e w2 ⟨rfl, hb2⟩
      have X2 := hxb.keep hb2
      obtain ⟨X20, X21, X22, X23⟩ := X2.cells
      have X2z := X2.lt
      have XI := X2.alloc (.cells #[.int .i64 3, .int .i64 a2, .int .i64 a3] 73)
      have hS2 := (HB.out.below hb2)
      have hw2 := hb2.size
      have hS3 := hS2.alloc (.cells #[.int .i64 3, .int .i64 a2, .int .i64 a3] 73)
      go_wp2_with fail
      refine (HO.out _).mono ?_
      rintro e w3 ⟨rfl, hb3⟩
      have X3 := XI.keep hb3
      obtain ⟨X30, X31, X32, X33⟩ := X3.cells
      have X3z := X3.lt
      have hS4 := hS3.below hb3
      have bI := fun o => (hb3.cell (p := ⟨w2.heap.size, o, none⟩) (by simp)).trans (loc_alloc w2 #[.int .i64 3, .int .i64 a2, .int .i64 a3] 73 o)
      have bi0 := bI 0
      have bi1 := bI 1
      have bi2 := bI 2
      simp at bi0 bi1 bi2
      have li := hb3.size
      simp only [World.size_alloc] at li
      have hRz := (((BS.start wr).below hb2).alloc (.cells #[.int .i64 3, .int .i64 a2, .int .i64 a3] 73)).below hb3
      have R4 := hRz.row HRow.out
      clear hb2 hb3 X20 X21 X22 X23 X2z x0 x1 x2 x3
      go_wp2_with fail
      refine (HSb3.out _ X3.xv).mono ?_
      rintro e w4 ⟨sv, rfl, hsv⟩
      obtain ⟨gs, cs, rfl⟩ := Joins.ownsRow_form hsv.1 hsp
      have X4 := X3.keep hsv.2.2
      have S5 := hS4.below hsv.2.2
      have R5 := ((BS.start _).below hsv.2.2).row R4
      have HNews := Lib.hid (hsv.1.cells (g := gs) rfl)
      have hnl : (partCells sb).length = sb.length * 3 := partCells_len sb
      have HNL := Lib.hid hnl
      have hone : ∀ u ∈ partCells sb, u.oneCell' = true := by
       intro u hu
       simp only [partCells, List.mem_flatMap] at hu
       obtain ⟨x, -, hx⟩ := hu
       simp at hx
       rcases hx with rfl | rfl | rfl <;> rfl
      have HOne := Lib.hid hone
      clear hsv hnl hone bI hS2 hS3 hS4 hRz R4
      go_wp2_with (at_builtin; go_must (refine wpL_append rfl _ _ rfl 91 i0 (.agg #[.int .i64 0, .int .i64 0, .int .i64 0]) 3 24 Tryz.underlying87 HI.out.1 HI.out.2.1 HI.out.2.2.1 HI.out.2.2.2 rfl (by decide) (.slice pa L.length pc) L.length (partCells L) rfl R5 ⟨gs, 0, none⟩ sb.length cs (partCells sb) rfl HNL.out HNews.out HOne.out ?c2 ?c3 ?_); go_must (case c2 => (unfold maxLen; omega)); go_must (case c3 => (omega)); go_must (intro v' w8 hown8 hg8 hnew8 hnil8); clear hnil8; go_must (obtain ⟨g', cap', rfl⟩ := Joins.ownsRow_form hown8 (by omega)))
      have hn5 := S5.grown hg8 (fun k hk => by simp [hk]) (w.heap.size :: (Value.slice (some ⟨g', 0, none⟩) (L.length + sb.length) cap').ownBlock.toList) (mem_new3 hnew8 hown8)
      have hx5 := loc_grown hg8 X4.lt (fun e => by have := HF.out _ e; omega) X4.box
      go_roundw
      case rel =>
       refine ⟨q + 1, by go_num, by omega, ?_, hn5, ⟨hn5.bel, hx5, (hn5.ls w.heap.size (by simp)).1, H0.out.keep hn5.bel⟩, ?_⟩
       ·rw [HLS.out, partCells_app, List.length_append]; exact hown8
       ·exact fun k hk => (hnew8 k hk).elim (HF.out k) (fun h => by have := X4.lt; omega)
      case measure => simp [intOf]; omega
     ·have hkb3 : (a1 == 3) = false := by simp [hk3]
      rw [if_neg hk3, List.append_nil] at hls
      have HLS := Lib.hid hls
      clear hls hk1 hk2 hk3
      go_wp2_with fail
      refine (I1.out _ hxb.xv).mono ?_
      rintro e w2 ⟨rfl, hb2⟩
      have X2 := hxb.keep hb2
      obtain ⟨X20, X21, X22, X23⟩ := X2.cells
      have X2z := X2.lt
      have XI := X2.alloc (.cells #[.int .i64 a1, .int .i64 a2, .int .i64 a3] 73)
      have hS2 := (HB.out.below hb2)
      have hw2 := hb2.size
      have hS3 := hS2.alloc (.cells #[.int .i64 a1, .int .i64 a2, .int .i64 a3] 73)
      go_wp2_with fail
      refine (HO.out _).mono ?_
      rintro e w3 ⟨rfl, hb3⟩
      have X3 := XI.keep hb3
      obtain ⟨X30, X31, X32, X33⟩ := X3.cells
      have X3z := X3.lt
      have hS4 := hS3.below hb3
      have bI := fun o => (hb3.cell (p := ⟨w2.heap.size, o, none⟩) (by simp)).trans (loc_alloc w2 #[.int .i64 a1, .int .i64 a2, .int .i64 a3] 73 o)
      have bi0 := bI 0
      have bi1 := bI 1
      have bi2 := bI 2
      simp at bi0 bi1 bi2
      have li := hb3.size
      simp only [World.size_alloc] at li
      have hRz := (((BS.start wr).below hb2).alloc (.cells #[.int .i64 a1, .int .i64 a2, .int .i64 a3] 73)).below hb3
      have R4 := hRz.row HRow.out
      clear hb2 hb3 X20 X21 X22 X23 X2z x0 x1 x2 x3
      go_wp2_with fail
      go_roundw
      case rel =>
       refine ⟨q + 1, by go_num, by omega, ?_, hS4.sub _ (by simp; intro a ha; exact Or.inr (Or.inr ha)), X3, HF.out⟩
       rw [HLS.out]; exact R4
      case measure => simp [intOf]; omega
  ·have hqe : p.toNat = q := by omega
   have hFL : F = L := by rw [← HF0.out, ← hL]; unfold partsF; rw [hqe]
   subst hFL
   clear hL hqe hll hls
   go_wp2
   go_ret
   exact ⟨_, rfl, HRow.out, fun k hk => Nat.le_of_lt (HF.out k hk), HB.out.bel⟩
end
end Go.Proofs.YtnagdljgeglceaaGreat
/- the document's audit: blocks, Has, roots. -/
set_option linter.unusedSimpArgs false
set_option linter.unusedVariables false
namespace Go.Proofs.YtnagdljgeglceaaGreat
open Go.RowKit

theorem infoBlock : (Tryz.prog.info? 86).map (fun i => (i.zero, i.size, i.bytes)) = some (some (.agg #[.int .i64 0, .int .i64 0]), 2, 16) := by kernel_rfl
def blockCells (l : List (Int × Int)) : List Value := l.flatMap fun x => [.int .i64 x.1, .int .i64 x.2]
theorem blockCells_app (l m : List (Int × Int)) : blockCells (l ++ m) = blockCells l ++ blockCells m := by simp [blockCells]
def RowB (w : World) (l : List (Int × Int)) (v : Value) (w' : World) : Prop :=
 w'.ownsRow 0 86 2 v l.length (blockCells l) ∧ (∀ k, v.ownBlock = some k → w.heap.size ≤ k) ∧ Below w.heap.size w w'

/-- the live ones of parts. -/
def liveL : List (Int × Int × Int) → List (Int × Int)
 | [] => []
 | x :: l => (if x.1 = 2 then [(x.2.1, x.2.2)] else []) ++ liveL l
theorem liveL_app (l m : List (Int × Int × Int)) : liveL (l ++ m) = liveL l ++ liveL m := by
 induction l with
 | nil => rfl
 | cons x l ih => simp [liveL, ih]
theorem liveL_len (l : List (Int × Int × Int)) : (liveL l).length ≤ l.length := by
 induction l with
 | nil => exact Nat.le_refl _
 | cons x l ih =>
  simp only [liveL, List.length_append, List.length_cons]
  split <;> simp <;> omega
theorem liveL_take {l : List (Int × Int × Int)} {k : Nat} {x : Int × Int × Int} (h : l[k]? = some x) : liveL (l.take (k + 1)) = liveL (l.take k) ++ if x.1 = 2 then [(x.2.1, x.2.2)] else [] := by
 rw [List.take_add_one, h, liveL_app]
 simp [liveL]
theorem part_cell {l : List (Int × Int × Int)} {k : Nat} {x : Int × Int × Int} (h : l[k]? = some x) : (partCells l)[k * 3]? = some (.int .i64 x.1) ∧ (partCells l)[k * 3 + 1]? = some (.int .i64 x.2.1) ∧ (partCells l)[k * 3 + 2]? = some (.int .i64 x.2.2) := by
 induction l generalizing k with
 | nil => simp at h
 | cons y ys ih =>
  have e : partCells (y :: ys) = [.int .i64 y.1, .int .i64 y.2.1, .int .i64 y.2.2] ++ partCells ys := by simp [partCells]
  rw [e]
  cases k with
  | zero => simp at h; subst h; simp
  | succ k =>
   have h2 : ys[k]? = some x := by simpa using h
   obtain ⟨a, b, d⟩ := ih h2
   refine ⟨?_, ?_, ?_⟩
   ·rw [List.getElem?_append_right (by simp; omega)]; rw [← a]; congr 1; simp; omega
   ·rw [List.getElem?_append_right (by simp; omega)]; rw [← b]; congr 1; simp; omega
   ·rw [List.getElem?_append_right (by simp; omega)]; rw [← d]; congr 1; simp; omega
theorem block_cell {l : List (Int × Int)} {k : Nat} {x : Int × Int} (h : l[k]? = some x) : (blockCells l)[k * 2]? = some (.int .i64 x.1) ∧ (blockCells l)[k * 2 + 1]? = some (.int .i64 x.2) := by
 induction l generalizing k with
 | nil => simp at h
 | cons y ys ih =>
  have e : blockCells (y :: ys) = [.int .i64 y.1, .int .i64 y.2] ++ blockCells ys := by simp [blockCells]
  rw [e]
  cases k with
  | zero => simp at h; subst h; simp
  | succ k =>
   have h2 : ys[k]? = some x := by simpa using h
   obtain ⟨a, b⟩ := ih h2
   refine ⟨?_, ?_⟩
   ·rw [List.getElem?_append_right (by simp; omega)]; rw [← a]; congr 1; simp; omega
   ·rw [List.getElem?_append_right (by simp; omega)]; rw [← b]; congr 1; simp; omega

section
variable {t p s : Int} {ad : Addr} {n c : Nat} {vs : List Int}
def blocksF (vs : List Int) (t p s : Int) : List (Int × Int) := liveL (partsF vs t p s)

structure BlRel (w : World) (l : List (Int × Int × Int)) (lv : Value) (v3 v5 : Value) (wr : World) (k : Nat) : Prop where
 hk : v5 = .int .i64 k
 le : k ≤ l.length
 row : wr.ownsRow 0 86 2 v3 (liveL (l.take k)).length (blockCells (liveL (l.take k)))
 bs : BS w (w.heap.size :: v3.ownBlock.toList) wr
 lrow : wr.ownsRow 0 91 3 lv l.length (partCells l)
 far : ∀ k, v3.ownBlock = some k → lv.ownBlock ≠ some k
def BlRelE (w : World) (l : List (Int × Int × Int)) (lv : Value) (v3 v5 : Value) (wr : World) : Prop := ∃ k, BlRel w l lv v3 v5 wr k

set_option maxHeartbeats 4000000 in
set_option maxRecDepth 100000 in
theorem blocks_any (c : Nat) (w : World) (h : XV w t p s ad n vs) :
 Calls Tryz.prog 85 #[.agg #[.int .i64 t, .int .i64 p, .int .i64 s, .slice (some ad) n c]] w fun e w' => ∃ v, e = .returned v ∧ RowB w (blocksF vs t p s) v w' := by
 have X0 := (h.boxed c).alloc (.cells #[] 86)
 have r0 := row_empty (w.alloc (.cells #[.int .i64 t, .int .i64 p, .int .i64 s, .slice (some ad) n c] 114)) 86 2
 have hS0 := ((BS.start w).alloc (.cells #[.int .i64 t, .int .i64 p, .int .i64 s, .slice (some ad) n c] 114)).alloc (.cells #[] 86)
 simp only [World.size_alloc] at hS0 r0
 have HP := Lib.hid (fun (w : World) (h : XV w t p s ad n vs) => parts_any c w h)
 have hll : (partsF vs t p s).length ≤ 2112 := by
  have := partsL_len vs t s p.toNat
  have := h.bd
  unfold partsF; omega
 obtain ⟨i0, hi0, hi1, hi2, hi3⟩ := info_parts infoBlock
 have HI := Lib.hid (And.intro hi0 (And.intro hi1 (And.intro hi2 hi3)))
 have hF0 : blocksF vs t p s = liveL (partsF vs t p s) := rfl
 generalize blocksF vs t p s = F at *
 generalize partsF vs t p s = l at *
 have HF0 := Lib.hid hF0
 clear hi0 hi1 hi2 hi3 h hF0
 obtain ⟨x0, x1, x2, x3⟩ := X0.cells
 have xz := X0.lt
 go_enter Tryz.func85, Tryz.ntmps85
 go_wp2_with fail
 refine (HP.out _ X0.xv).mono ?_
 rintro e w1 ⟨lv, rfl, hlv⟩
 have r1 := ((BS.start _).below hlv.2.2).row r0
 have hS1 := hS0.below hlv.2.2
 have hlr := hlv.1
 have hlf := hlv.2.1
 have hls : ∃ a c, lv = .slice a l.length c := row_shape hlr
 obtain ⟨la, lc, rfl⟩ := hls
 simp only [World.size_alloc] at hlf
 clear hlv r0 hS0 X0 x0 x1 x2 x3 xz
 go_wp2_with fail
 go_loopw [3, 5] (fun v3 v5 wr => BlRelE w l (.slice la l.length lc) v3 v5 wr) (fun _ v5 _ => l.length - (intOf v5).toNat)
 case atStart => exact ⟨0, rfl, by omega, by simpa [liveL, blockCells] using r1, hS1.sub _ (by simp [Value.ownBlock]), hlr, fun k hk e => by have := hlf k e; simp [Value.ownBlock] at hk; omega⟩
 case round =>
  obtain ⟨k, rfl, hle, hrow, hbs, hlrow, hfar⟩ := hrel
  have hll2 := liveL_len (l.take k)
  have hll3 : (l.take k).length ≤ l.length := by simp; omega
  have HTk := Lib.hid (fun x (h : l[k]? = some x) => liveL_take h)
  have HTe := Lib.hid (fun (h : k = l.length) => (show liveL (l.take k) = liveL l by rw [h, List.take_length]))
  generalize liveL (l.take k) = o at *
  have hol : o.length ≤ 2112 := by omega
  have hlen : ∃ a c, u3 = .slice a o.length c := row_shape hrow
  obtain ⟨pa, pc, rfl⟩ := hlen
  have HB := Lib.hid hbs
  have HF := Lib.hid hfar
  have HRow := Lib.hid hrow
  have HLr := Lib.hid hlrow
  clear r1 hS1 hlr hlf hbs hfar hrow hlrow hll2 hll3
  by_cases hlt : k < l.length
  ·obtain ⟨⟨y1, y2, y3⟩, hx⟩ : ∃ x, l[k]? = some x := ⟨_, List.getElem?_eq_getElem hlt⟩
   obtain ⟨g, cap, hg⟩ := Joins.ownsRow_form HLr.out (by omega)
   simp only [Value.slice.injEq, true_and] at hg
   obtain ⟨rfl, rfl⟩ := hg
   obtain ⟨p0, p1, p2⟩ := part_cell hx
   have q0 := (HLr.out.cellAt (k * 3) (by omega)).trans p0
   have q1 := (HLr.out.cellAt (k * 3 + 1) (by omega)).trans p1
   have q2 := (HLr.out.cellAt (k * 3 + 2) (by omega)).trans p2
   have ht := HTk.out _ hx
   simp only at ht q0 q1 q2
   have hgl : g < wr.heap.size := ownsRow_lt HLr.out (by simp [Value.ownBlock])
   have hgn : (Value.slice pa o.length pc).ownBlock ≠ some g := fun e => HF.out g e (by simp [Value.ownBlock])
   clear p0 p1 p2 hx HTk HTe
   by_cases hy : y1 = 2
   ·subst hy
    rw [if_pos rfl] at ht
    have HT := Lib.hid ht
    have HQ1 := Lib.hid q1
    have HQ2 := Lib.hid q2
    have HGn := Lib.hid hgn
    clear ht hgn
    go_wp2_with fail
    refine wp_region_noPanic ?_
    refine wp_region_held_drew (S := fun w' => w'.cell? ⟨g, k * 3 + 1, none⟩ = some (.int .i64 y2) ∧ w'.cell? ⟨g, k * 3 + 2, none⟩ = some (.int .i64 y3)) (by kernel_rfl) ?_ (fun hHeld => ?_)
    ·exact ⟨HQ1.out, HQ2.out⟩
    refine wpAnyH_take (i := 0) (oi := _) (v := ?_) rfl (by kernel_rfl) (by kernel_rfl) (by kernel_rfl) (fun _ _ _ h => h) (Or.inl ⟨by rfl, ?_⟩) (by assumption) ?_
    rotate_left
    ·intro w hSw; (try dsimp only at hSw); go_simp; try with_reducible rfl
    try simp only [Act.put, zA, zB, zD, zE, zF]
    refine wpAnyH_take (i := 1) (oi := _) (v := ?_) rfl (by kernel_rfl) (by kernel_rfl) (by kernel_rfl) (fun _ _ _ h => h) (Or.inl ⟨by rfl, ?_⟩) (by assumption) ?_
    rotate_left
    ·intro w hSw; (try dsimp only at hSw); go_simp; try with_reducible rfl
    try simp only [Act.put, zA, zB, zC, zD, zE, zF]
    refine wpAnyH_take (i := 2) (oi := _) (v := ?_) rfl (by kernel_rfl) (by kernel_rfl) (by kernel_rfl) (fun _ _ _ h => h) (Or.inl ⟨by rfl, ?_⟩) (by assumption) ?_
    rotate_left
    ·intro w hSw; (try dsimp only at hSw); go_simp; try with_reducible rfl
    try simp only [Act.put, zA, zB, zC, zD, zE, zF]
    refine wpAnyH_take (i := 3) (oi := _) (v := ?_) rfl (by kernel_rfl) (by kernel_rfl) (by kernel_rfl) (fun _ _ _ h => h) (Or.inl ⟨by rfl, ?_⟩) (by assumption) ?_
    rotate_left
    ·intro w hSw; (try dsimp only at hSw); go_simp; try with_reducible rfl
    try simp only [Act.put, zA, zB, zC, zD, zE, zF]
    refine wpAnyH_take (i := 4) (oi := _) (v := ?_) rfl (by kernel_rfl) (by kernel_rfl) (by kernel_rfl) (fun _ _ _ h => h) (Or.inl ⟨by rfl, ?_⟩) (by assumption) ?_
    rotate_left
    ·intro w hSw; (try dsimp only at hSw); go_simp; try with_reducible rfl
    try simp only [Act.put, zA, zB, zC, zD, zE, zF]
    refine wpAnyH_take (i := 5) (oi := _) (v := ?_) rfl (by kernel_rfl) (by kernel_rfl) (by kernel_rfl) (fun _ _ _ h => h) (Or.inl ⟨by rfl, ?_⟩) (by assumption) ?_
    rotate_left
    ·intro w hSw; (try dsimp only at hSw); go_simp; try with_reducible rfl
    try simp only [Act.put, zA, zB, zC, zD, zE, zF]
    refine wpAnyH_take (i := 6) (oi := _) (v := ?_) rfl (by kernel_rfl) (by kernel_rfl) (by kernel_rfl) (fun _ _ _ h => h) (Or.inl ⟨by rfl, ?_⟩) (by assumption) ?_
    rotate_left
    ·intro w hSw; (try dsimp only at hSw); go_simp; try with_reducible rfl
    try simp only [Act.put, zA, zB, zC, zD, zE, zF]
    refine wpAnyH_take (i := 7) (oi := _) (v := ?_) rfl (by kernel_rfl) (by kernel_rfl) (by kernel_rfl) (fun _ _ _ h => h) (Or.inl ⟨by rfl, ?_⟩) (by assumption) ?_
    rotate_left
    ·intro w hSw; (try dsimp only at hSw); go_simp; try with_reducible rfl
    try simp only [Act.put, zA, zB, zC, zD, zE, zF]
    refine wpAnyH_take (i := 8) (oi := _) (v := ?_) rfl (by kernel_rfl) (by kernel_rfl) (by kernel_rfl) (fun _ _ _ h => h) (Or.inl ⟨by rfl, ?_⟩) (by assumption) ?_
    rotate_left
    ·intro w hSw; (try dsimp only at hSw); go_simp; try with_reducible rfl
    try simp only [Act.put, zA, zB, zC, zD, zE, zF]
    refine wpAnyH_take (i := 9) (oi := _) (v := ?_) rfl (by kernel_rfl) (by kernel_rfl) (by kernel_rfl) (fun _ _ _ h => h) (Or.inl ⟨by rfl, ?_⟩) (by assumption) ?_
    rotate_left
    ·intro w hSw; (try dsimp only at hSw); go_simp; try with_reducible rfl
    try simp only [Act.put, zA, zB, zC, zD, zE, zF]
    refine wpAnyH_take (i := 10) (oi := _) (v := ?_) rfl (by kernel_rfl) (by kernel_rfl) (by kernel_rfl) (fun _ _ _ h => h) (Or.inl ⟨by rfl, ?_⟩) (by assumption) ?_
    rotate_left
    ·intro w hSw; (try dsimp only at hSw); go_simp; try with_reducible rfl
    try simp only [Act.put, zA, zB, zC, zD, zE, zF]
    refine wpAnyH_take (i := 11) (oi := _) (v := ?_) rfl (by kernel_rfl) (by kernel_rfl) (by kernel_rfl) (fun _ _ _ h => h) (Or.inl ⟨by rfl, ?_⟩) (by assumption) ?_
    rotate_left
    ·intro w hSw; (try dsimp only at hSw); go_simp; try with_reducible rfl
    try simp only [Act.put, zA, zB, zC, zD, zE, zF]
    refine wpAnyH_ready (rs := [12]) (by kernel_rfl) (by simp) ?_
    refine AllReadyH.cons (o := _) rfl (fun K hK => ?_) AllReadyH.nil
    go_simp
    refine hK.out _ _ ?_ (fun hHeld => ?_)
    ·exact ⟨(World.cell?_alloc_lt (a := ⟨g, k * 3 + 1, none⟩) _ _ (by simpa using hgl)).trans HQ1.out, (World.cell?_alloc_lt (a := ⟨g, k * 3 + 2, none⟩) _ _ (by simpa using hgl)).trans HQ2.out⟩
    clear hK K
    try simp only [Act.put, zA, zB, zC, zD, zE, zF]
    refine wpAnyH_ready (rs := [13]) (by kernel_rfl) (by simp) ?_
    refine AllReadyH.cons (o := _) rfl (fun K hK => ?_) AllReadyH.nil
    refine step_append_new rfl (.tmp 21) (.tmp 33) rfl 86 i0 (.agg #[.int .i64 0, .int .i64 0]) 2 16 Tryz.underlying33 HI.out.1 HI.out.2.1 HI.out.2.2.1 HI.out.2.2.2 rfl (by decide) (.slice pa o.length pc) o.length (blockCells o) rfl ((ownsRow_block (w' := wr.drew) HRow.out (fun _ _ => rfl)).alloc _) ⟨_, 0, none⟩ 1 1 [.int .i64 y2, .int .i64 y3] rfl rfl (cell_two_at _ _ _ _ _ (by simp)) ?c1 ?c2 ?c3 ?_
    case c1 => (simp [Value.oneCell'])
    case c2 => (unfold maxLen; omega)
    case c3 => (omega)
    intro v' w5 hown5 hg5 hnew5 hnil5
    clear hnil5
    obtain ⟨g', cap', rfl⟩ := Joins.ownsRow_form hown5 (by omega)
    have hc5 := fun i => (World.cell?_of_block (a := ⟨g, i, none⟩) (hg5.block g (by simp; omega) (fun e => HGn.out e.symm))).trans (World.cell?_alloc_lt (w := wr.drew) (a := ⟨g, i, none⟩) _ (by simpa using hgl))
    refine hK.out _ _ ?_ (fun hHeld => ?_)
    ·exact ⟨(hc5 _).trans HQ1.out, (hc5 _).trans HQ2.out⟩
    clear hK K
    try simp only [Act.put, zA, zB, zC, zD, zE, zF]
    refine wpAnyH_take (i := 14) (oi := _) (v := ?_) rfl (by kernel_rfl) (by kernel_rfl) (by kernel_rfl) (fun _ _ _ h => h) (Or.inl ⟨by rfl, ?_⟩) (by assumption) ?_
    rotate_left
    ·intro w hSw; (try dsimp only at hSw); go_simp; try with_reducible rfl
    try simp only [Act.put, zA, zB, zC, zD, zE, zF]
    refine wpAnyH_done (by kernel_rfl) ?_ _
    refine NoPanic.normal ?_
    go_wp2_with fail
    go_roundw
    case rel =>
     have B5 := HB.out.drew.append hg5 hnew5 hown5
     refine ⟨k + 1, by go_num, by omega, ?_, B5, ownsRow_block HLr.out (fun j hj => ?_), fun j hj e => ?_⟩
     ·rw [HT.out, blockCells_app, List.length_append]; exact hown5
     ·simp [Value.ownBlock] at hj
      subst hj
      exact (hg5.block g (by simp; omega) (fun e => HGn.out e.symm)).trans (heap_alloc_old _ _ (by simpa using hgl))
     ·simp [Value.ownBlock] at e
      subst e
      rcases hnew5 g hj with x | x
      ·exact HGn.out x
      ·simp at x; omega
    case measure => simp [intOf]; omega
   ·rw [if_neg hy, List.append_nil] at ht
    have HT := Lib.hid ht
    have hyb : (y1 == 2) = false := by simp [hy]
    clear ht hgn hy
    go_wp2_with fail
    go_roundw
    case rel =>
     refine ⟨k + 1, by go_num, by omega, ?_, HB.out, HLr.out, HF.out⟩
     rw [HT.out]; exact HRow.out
    case measure => simp [intOf]; omega
  ·have hFo : F = o := by rw [HF0.out, HTe.out (by omega)]
   subst hFo
   clear HTk HTe
   go_wp2
   go_ret
   refine ⟨.slice pa F.length pc, rfl, HRow.out, fun k hk => (HB.out.ls k (List.mem_cons_of_mem _ ?_)).2, HB.out.bel⟩
   rw [hk]; simp

def hasB (l : List (Int × Int)) (a : Int) : Bool := l.any fun x => x.1 == a
def HsRel (l : List (Int × Int)) (a : Int) (w : World) (i : Value) (wr : World) : Prop := ∃ k : Nat, k ≤ l.length ∧ i = .int .i64 k ∧ (∀ j x, j < k → l[j]? = some x → x.1 ≠ a) ∧ w = wr
theorem hasb_any (l : List (Int × Int)) (a : Int) (v : Value) (w : World) (h : w.ownsRow 0 86 2 v l.length (blockCells l)) (hn : l.length ≤ 4294967296) :
 Calls Tryz.prog 114 #[v, .int .i64 a] w fun e w' => e = .returned (.bool (hasB l a)) ∧ Below w.heap.size w w' := by
 have hc : ∀ k x, l[k]? = some x → ∃ g m c, v = .slice (some ⟨g, 0, none⟩) m c ∧ w.cell? ⟨g, k * 2, none⟩ = some (.int .i64 x.1) := by
  intro k x hk
  have hkl := (List.getElem?_eq_some_iff.1 hk).1
  obtain ⟨g, cap, rfl⟩ := Joins.ownsRow_form h (by omega)
  exact ⟨g, _, cap, rfl, (h.cellAt (k * 2) (by omega)).trans (block_cell hk).1⟩
 obtain ⟨pa, pc, rfl⟩ := row_shape h
 clear h
 generalize hr : hasB l a = r
 have HR := Lib.hid hr
 clear hr
 go_enter Tryz.func114, Tryz.ntmps114
 go_wp2
 go_loopw [5] (fun i wr => HsRel l a w i wr) (fun i _ => l.length - (intOf i).toNat)
 case atStart => exact ⟨0, by omega, rfl, by omega, rfl⟩
 case round =>
  obtain ⟨k, hk, rfl, hno, rfl⟩ := hrel
  have HN := Lib.hid hno
  clear hno
  by_cases hlt : k < l.length
  ·obtain ⟨⟨y1, y2⟩, hx⟩ : ∃ x, l[k]? = some x := ⟨_, List.getElem?_eq_getElem hlt⟩
   obtain ⟨g, m, c', hv, c0⟩ := hc k _ hx
   simp only [Value.slice.injEq] at hv
   obtain ⟨rfl, rfl, rfl⟩ := hv
   have HX := Lib.hid hx
   clear hc hx
   simp only at c0
   by_cases hy : y1 = a
   ·have HY := Lib.hid hy
    have hb : (y1 == a) = true := by simp [hy]
    have hres : r = true := by
     rw [← HR.out]
     unfold hasB
     rw [List.any_eq_true]
     exact ⟨_, List.mem_of_getElem? HX.out, by simpa using hy⟩
    subst hres
    clear hy
    go_wp2
    go_ret
    exact ⟨rfl, Below.refl _ _⟩
   ·have hb : (y1 == a) = false := by simp [hy]
    have HY := Lib.hid hy
    clear hy
    go_wp2
    go_roundw
    case rel =>
     refine ⟨k + 1, by omega, by go_num, fun j x hj hjx => ?_, rfl⟩
     by_cases e : j = k
     ·subst e; rw [HX.out] at hjx; simp at hjx; subst hjx; exact HY.out
     ·exact HN.out j x (by omega) hjx
    case measure => simp [intOf]; omega
  ·have hres : r = false := by
    rw [← HR.out]
    unfold hasB
    rw [List.any_eq_false]
    intro x hx
    obtain ⟨j, hj⟩ := List.mem_iff_getElem?.1 hx
    have := HN.out j x (by have := (List.getElem?_eq_some_iff.1 hj).1; omega) hj
    simpa using this
   subst hres
   clear hc
   go_wp2
   go_ret
   exact ⟨rfl, Below.refl _ _⟩

def rootB (vs : List Int) (bl : List (Int × Int)) (i : Nat) : Bool := vs.getD (22 + i) 0 == 0 || hasB bl (vs.getD (22 + i) 0)
def rootsF (vs : List Int) (t p s : Int) : Bool := allN (rootB vs (blocksF vs t p s)) 8
theorem blocksF_len (vs : List Int) (t p s : Int) (h : p ≤ 64) : (blocksF vs t p s).length ≤ 2112 := by
 have h1 := liveL_len (partsF vs t p s)
 have h2 := partsL_len vs t s p.toNat
 unfold blocksF
 unfold partsF at h1 ⊢
 omega

set_option maxHeartbeats 4000000 in
set_option maxRecDepth 100000 in
theorem roots_any (c : Nat) (w : World) (h : XV w t p s ad n vs) :
 Calls Tryz.prog 75 #[.agg #[.int .i64 t, .int .i64 p, .int .i64 s, .slice (some ad) n c]] w fun e w' => e = .returned (.bool (rootsF vs t p s)) ∧ Below w.heap.size w w' := by
 have X0 := h.boxed c
 have hnn : 30 ≤ n := by have := h.bd; omega
 have hbl := blocksF_len vs t p s h.few
 have HP := Lib.hid (fun (w : World) (h : XV w t p s ad n vs) => blocks_any c w h)
 have HC := Lib.hid h.cells
 have HU := Lib.hid (fun i => getD_u32 h.u32 i)
 generalize hr : rootsF vs t p s = r
 have hr2 : allN (rootB vs (blocksF vs t p s)) 8 = r := hr
 have HR := Lib.hid hr2
 generalize blocksF vs t p s = l at *
 clear h hr hr2
 obtain ⟨x0, x1, x2, x3⟩ := X0.cells
 have xz := X0.lt
 go_enter Tryz.func75, Tryz.ntmps75
 go_wp2_with fail
 refine (HP.out _ X0.xv).mono ?_
 rintro e w1 ⟨lv, rfl, hlv⟩
 have X1 := X0.keep hlv.2.2
 have hls : ∃ a c, lv = .slice a l.length c := row_shape hlv.1
 obtain ⟨la, lc, rfl⟩ := hls
 have HL := Lib.hid hlv.1
 clear hlv X0 x0 x1 x2 x3 xz
 go_wp2_with fail
 go_loopw [4, 5] (fun v4 _ wr => AllRel (rootB vs l) 8 w1 v4 wr) (fun v4 _ _ => 8 - (intOf v4).toNat)
 case atStart => exact ⟨0, by omega, rfl, rfl, Below.refl _ _⟩
 case round =>
  obtain ⟨i, hi, rfl, hall, hbel⟩ := hrel
  have X3 := X1.keep hbel
  have HA := Lib.hid hall
  have HB := Lib.hid hbel
  clear hall hbel
  obtain ⟨x0, x1, x2, x3⟩ := X3.cells
  by_cases hlt : i < 8
  ·have hRo := Lib.hid (fun w => rroot_any i w hlt)
   have hd0 := (BS.mk X3.bel (by simp) : BS w [] wr).old (HC.out (22 + i) (by omega))
   have hu := HU.out (22 + i)
   have hrb : rootB vs l i = (vs.getD (22 + i) 0 == 0 || hasB l (vs.getD (22 + i) 0)) := rfl
   have HBox := Lib.hid X3.box
   have hxl := X3.lt
   have hin : 22 + i < n := by omega
   generalize vs.getD (22 + i) 0 = a at *
   generalize hki : 22 + i = ki at *
   clear hki
   obtain ⟨hu0, hu1⟩ := hu
   have hwa : IntKind.i64.wrap a = a := wrap_in _ (by omega)
   have HH := Lib.hid (fun (w' : World) (hb : Below w1.heap.size w1 w') => hasb_any l a (.slice la l.length lc) w' (ownsRow_block HL.out fun k hk => hb.block k (ownsRow_lt HL.out hk)) (by omega))
   clear HC HU
   by_cases ha : a = 0
   ·subst ha
    have hyes : rootB vs l i = true := by rw [hrb]; simp
    have HY := Lib.hid hyes
    clear hyes hrb
    go_wp2_with fail
    refine wp_region_noPanic ?_
    refine wp_region_held_drew (S := fun w' => BS wr ([] : List Nat) w' ∧ (∀ o : Nat, w'.cell? ⟨w.heap.size, o, none⟩ = (#[.int .i64 t, .int .i64 p, .int .i64 s, .slice (some ad) n c] : Array Value)[o]?) ∧ w'.cell? (ad.add ki) = some (.int .u32 0)) (by kernel_rfl) ?_ (fun hHeld => ?_)
    ·exact ⟨(BS.start wr).drew, HBox.out, hd0⟩
    refine wpAnyH_take (i := 0) (oi := _) (v := ?_) rfl (by kernel_rfl) (by kernel_rfl) (by kernel_rfl) (fun _ _ _ h => h) (Or.inl ⟨by rfl, ?_⟩) (by assumption) ?_
    rotate_left
    ·intro w hSw; (try dsimp only at hSw); go_simp; try with_reducible rfl
    try simp only [Act.put, zA, zB, zD, zE, zF]
    refine wpAnyH_take (i := 1) (oi := _) (v := ?_) rfl (by kernel_rfl) (by kernel_rfl) (by kernel_rfl) (fun _ _ _ h => h) (Or.inl ⟨by rfl, ?_⟩) (by assumption) ?_
    rotate_left
    ·intro w hSw; (try dsimp only at hSw); go_simp; try with_reducible rfl
    try simp only [Act.put, zA, zB, zC, zD, zE, zF]
    refine wpAnyH_take (i := 2) (oi := _) (v := ?_) rfl (by kernel_rfl) (by kernel_rfl) (by kernel_rfl) (fun _ _ _ h => h) (Or.inl ⟨by rfl, ?_⟩) (by assumption) ?_
    rotate_left
    ·intro w hSw; (try dsimp only at hSw); go_simp; try with_reducible rfl
    try simp only [Act.put, zA, zB, zC, zD, zE, zF]
    refine wpAnyH_ready (rs := [3]) (by kernel_rfl) (by simp) ?_
    refine AllReadyH.cons (o := _) rfl (fun K hK => ?_) AllReadyH.nil
    go_simp
    refine (calls_b hHeld.1 (hRo.out _)).mono ?_
    rintro e wr1 ⟨rfl, hV, hVl⟩
    dsimp only
    refine hK.out _ _ ?_ (fun hHeld2 => ?_)
    ·exact ⟨hV, hV.oldbox HBox.out hxl, hV.old hd0⟩
    clear hK K hV hVl hHeld
    have hHeld := hHeld2
    clear hHeld2
    try simp only [Act.put, zA, zB, zC, zD, zE, zF]
    refine wpAnyH_take (i := 4) (oi := _) (v := ?_) rfl (by kernel_rfl) (by kernel_rfl) (by kernel_rfl) (fun _ _ _ h => h) (Or.inl ⟨by rfl, ?_⟩) (by assumption) ?_
    rotate_left
    ·intro w hSw; (try dsimp only at hSw); go_simp; try with_reducible rfl
    try simp only [Act.put, zA, zB, zC, zD, zE, zF]
    refine wpAnyH_take (i := 5) (oi := _) (v := ?_) rfl (by kernel_rfl) (by kernel_rfl) (by kernel_rfl) (fun _ _ _ h => h) (Or.inl ⟨by rfl, ?_⟩) (by assumption) ?_
    rotate_left
    ·intro w hSw; (try dsimp only at hSw); go_simp; try with_reducible rfl
    try simp only [Act.put, zA, zB, zC, zD, zE, zF]
    refine wpAnyH_take (i := 6) (oi := _) (v := ?_) rfl (by kernel_rfl) (by kernel_rfl) (by kernel_rfl) (fun _ _ _ h => h) (Or.inl ⟨by rfl, ?_⟩) (by assumption) ?_
    rotate_left
    ·intro w hSw; (try dsimp only at hSw); go_simp; try with_reducible rfl
    try simp only [Act.put, zA, zB, zC, zD, zE, zF]
    refine wpAnyH_take (i := 7) (oi := _) (v := ?_) rfl (by kernel_rfl) (by kernel_rfl) (by kernel_rfl) (fun _ _ _ h => h) (Or.inl ⟨by rfl, ?_⟩) (by assumption) ?_
    rotate_left
    ·intro w hSw; (try dsimp only at hSw); go_simp; try with_reducible rfl
    try simp only [Act.put, zA, zB, zC, zD, zE, zF]
    refine wpAnyH_done (by kernel_rfl) ?_ _
    refine NoPanic.normal ?_
    refine world_gen ?_
    intro wz hwz
    rw [← hwz] at hHeld
    clear hwz
    have hbz := HB.out.trans (hHeld.1.bel.mono HB.out.size)
    clear hHeld
    go_wp2_with fail
    go_roundw
    case rel => exact ⟨i + 1, by omega, by go_num, by simp [allN, HA.out, HY.out], hbz⟩
    case measure => simp [intOf]; omega
   ·have hab : (a != 0) = true := by simp [ha]
    cases hz : hasB l a
    ·have hno : rootB vs l i = false := by rw [hrb, hz]; simp [ha]
     have hres : r = false := by rw [← HR.out]; exact allN_no hlt hno
     subst hres
     rw [hz] at HH
     clear hno hrb ha hz
     go_wp2_with fail
     refine wp_region_noPanic ?_
     refine wp_region_held_drew (S := fun w' => BS wr ([] : List Nat) w' ∧ (∀ o : Nat, w'.cell? ⟨w.heap.size, o, none⟩ = (#[.int .i64 t, .int .i64 p, .int .i64 s, .slice (some ad) n c] : Array Value)[o]?) ∧ w'.cell? (ad.add ki) = some (.int .u32 a)) (by kernel_rfl) ?_ (fun hHeld => ?_)
     ·exact ⟨(BS.start wr).drew, HBox.out, hd0⟩
     refine wpAnyH_take (i := 0) (oi := _) (v := ?_) rfl (by kernel_rfl) (by kernel_rfl) (by kernel_rfl) (fun _ _ _ h => h) (Or.inl ⟨by rfl, ?_⟩) (by assumption) ?_
     rotate_left
     ·intro w hSw; (try dsimp only at hSw); go_simp; try with_reducible rfl
     try simp only [Act.put, zA, zB, zD, zE, zF]
     refine wpAnyH_take (i := 1) (oi := _) (v := ?_) rfl (by kernel_rfl) (by kernel_rfl) (by kernel_rfl) (fun _ _ _ h => h) (Or.inl ⟨by rfl, ?_⟩) (by assumption) ?_
     rotate_left
     ·intro w hSw; (try dsimp only at hSw); go_simp; try with_reducible rfl
     try simp only [Act.put, zA, zB, zC, zD, zE, zF]
     refine wpAnyH_take (i := 2) (oi := _) (v := ?_) rfl (by kernel_rfl) (by kernel_rfl) (by kernel_rfl) (fun _ _ _ h => h) (Or.inl ⟨by rfl, ?_⟩) (by assumption) ?_
     rotate_left
     ·intro w hSw; (try dsimp only at hSw); go_simp; try with_reducible rfl
     try simp only [Act.put, zA, zB, zC, zD, zE, zF]
     refine wpAnyH_ready (rs := [3]) (by kernel_rfl) (by simp) ?_
     refine AllReadyH.cons (o := _) rfl (fun K hK => ?_) AllReadyH.nil
     go_simp
     refine (calls_b hHeld.1 (hRo.out _)).mono ?_
     rintro e wr1 ⟨rfl, hV, hVl⟩
     dsimp only
     refine hK.out _ _ ?_ (fun hHeld2 => ?_)
     ·exact ⟨hV, hV.oldbox HBox.out hxl, hV.old hd0⟩
     clear hK K hV hVl hHeld
     have hHeld := hHeld2
     clear hHeld2
     try simp only [Act.put, zA, zB, zC, zD, zE, zF]
     refine wpAnyH_take (i := 4) (oi := _) (v := ?_) rfl (by kernel_rfl) (by kernel_rfl) (by kernel_rfl) (fun _ _ _ h => h) (Or.inl ⟨by rfl, ?_⟩) (by assumption) ?_
     rotate_left
     ·intro w hSw; (try dsimp only at hSw); go_simp; try with_reducible rfl
     try simp only [Act.put, zA, zB, zC, zD, zE, zF]
     refine wpAnyH_take (i := 5) (oi := _) (v := ?_) rfl (by kernel_rfl) (by kernel_rfl) (by kernel_rfl) (fun _ _ _ h => h) (Or.inl ⟨by rfl, ?_⟩) (by assumption) ?_
     rotate_left
     ·intro w hSw; (try dsimp only at hSw); go_simp; try with_reducible rfl
     try simp only [Act.put, zA, zB, zC, zD, zE, zF]
     refine wpAnyH_take (i := 6) (oi := _) (v := ?_) rfl (by kernel_rfl) (by kernel_rfl) (by kernel_rfl) (fun _ _ _ h => h) (Or.inl ⟨by rfl, ?_⟩) (by assumption) ?_
     rotate_left
     ·intro w hSw; (try dsimp only at hSw); go_simp; try with_reducible rfl
     try simp only [Act.put, zA, zB, zC, zD, zE, zF]
     refine wpAnyH_take (i := 7) (oi := _) (v := ?_) rfl (by kernel_rfl) (by kernel_rfl) (by kernel_rfl) (fun _ _ _ h => h) (Or.inl ⟨by rfl, ?_⟩) (by assumption) ?_
     rotate_left
     ·intro w hSw; (try dsimp only at hSw); go_simp; try with_reducible rfl
     try simp only [Act.put, zA, zB, zC, zD, zE, zF]
     refine wpAnyH_done (by kernel_rfl) ?_ _
     refine NoPanic.normal ?_
     refine world_gen ?_
     intro wz hwz
     rw [← hwz] at hHeld
     clear hwz
     have hbz := HB.out.trans (hHeld.1.bel.mono HB.out.size)
     have X5 := X3.keep hHeld.1.bel
     clear hHeld
     go_wp2_with fail
     refine (HH.out _ hbz).mono ?_
     rintro e w5 ⟨rfl, hb5⟩
     go_wp2
     go_ret
     exact ⟨rfl, (X5.keep hb5).bel⟩
    ·have hyes : rootB vs l i = true := by rw [hrb, hz]; simp
     have HY := Lib.hid hyes
     rw [hz] at HH
     clear hyes hrb ha hz
     go_wp2_with fail
     refine wp_region_noPanic ?_
     refine wp_region_held_drew (S := fun w' => BS wr ([] : List Nat) w' ∧ (∀ o : Nat, w'.cell? ⟨w.heap.size, o, none⟩ = (#[.int .i64 t, .int .i64 p, .int .i64 s, .slice (some ad) n c] : Array Value)[o]?) ∧ w'.cell? (ad.add ki) = some (.int .u32 a)) (by kernel_rfl) ?_ (fun hHeld => ?_)
     ·exact ⟨(BS.start wr).drew, HBox.out, hd0⟩
     refine wpAnyH_take (i := 0) (oi := _) (v := ?_) rfl (by kernel_rfl) (by kernel_rfl) (by kernel_rfl) (fun _ _ _ h => h) (Or.inl ⟨by rfl, ?_⟩) (by assumption) ?_
     rotate_left
     ·intro w hSw; (try dsimp only at hSw); go_simp; try with_reducible rfl
     try simp only [Act.put, zA, zB, zD, zE, zF]
     refine wpAnyH_take (i := 1) (oi := _) (v := ?_) rfl (by kernel_rfl) (by kernel_rfl) (by kernel_rfl) (fun _ _ _ h => h) (Or.inl ⟨by rfl, ?_⟩) (by assumption) ?_
     rotate_left
     ·intro w hSw; (try dsimp only at hSw); go_simp; try with_reducible rfl
     try simp only [Act.put, zA, zB, zC, zD, zE, zF]
     refine wpAnyH_take (i := 2) (oi := _) (v := ?_) rfl (by kernel_rfl) (by kernel_rfl) (by kernel_rfl) (fun _ _ _ h => h) (Or.inl ⟨by rfl, ?_⟩) (by assumption) ?_
     rotate_left
     ·intro w hSw; (try dsimp only at hSw); go_simp; try with_reducible rfl
     try simp only [Act.put, zA, zB, zC, zD, zE, zF]
     refine wpAnyH_ready (rs := [3]) (by kernel_rfl) (by simp) ?_
     refine AllReadyH.cons (o := _) rfl (fun K hK => ?_) AllReadyH.nil
     go_simp
     refine (calls_b hHeld.1 (hRo.out _)).mono ?_
     rintro e wr1 ⟨rfl, hV, hVl⟩
     dsimp only
     refine hK.out _ _ ?_ (fun hHeld2 => ?_)
     ·exact ⟨hV, hV.oldbox HBox.out hxl, hV.old hd0⟩
     clear hK K hV hVl hHeld
     have hHeld := hHeld2
     clear hHeld2
     try simp only [Act.put, zA, zB, zC, zD, zE, zF]
     refine wpAnyH_take (i := 4) (oi := _) (v := ?_) rfl (by kernel_rfl) (by kernel_rfl) (by kernel_rfl) (fun _ _ _ h => h) (Or.inl ⟨by rfl, ?_⟩) (by assumption) ?_
     rotate_left
     ·intro w hSw; (try dsimp only at hSw); go_simp; try with_reducible rfl
     try simp only [Act.put, zA, zB, zC, zD, zE, zF]
     refine wpAnyH_take (i := 5) (oi := _) (v := ?_) rfl (by kernel_rfl) (by kernel_rfl) (by kernel_rfl) (fun _ _ _ h => h) (Or.inl ⟨by rfl, ?_⟩) (by assumption) ?_
     rotate_left
     ·intro w hSw; (try dsimp only at hSw); go_simp; try with_reducible rfl
     try simp only [Act.put, zA, zB, zC, zD, zE, zF]
     refine wpAnyH_take (i := 6) (oi := _) (v := ?_) rfl (by kernel_rfl) (by kernel_rfl) (by kernel_rfl) (fun _ _ _ h => h) (Or.inl ⟨by rfl, ?_⟩) (by assumption) ?_
     rotate_left
     ·intro w hSw; (try dsimp only at hSw); go_simp; try with_reducible rfl
     try simp only [Act.put, zA, zB, zC, zD, zE, zF]
     refine wpAnyH_take (i := 7) (oi := _) (v := ?_) rfl (by kernel_rfl) (by kernel_rfl) (by kernel_rfl) (fun _ _ _ h => h) (Or.inl ⟨by rfl, ?_⟩) (by assumption) ?_
     rotate_left
     ·intro w hSw; (try dsimp only at hSw); go_simp; try with_reducible rfl
     try simp only [Act.put, zA, zB, zC, zD, zE, zF]
     refine wpAnyH_done (by kernel_rfl) ?_ _
     refine NoPanic.normal ?_
     refine world_gen ?_
     intro wz hwz
     rw [← hwz] at hHeld
     clear hwz
     have hbz := HB.out.trans (hHeld.1.bel.mono HB.out.size)
     clear hHeld
     go_wp2_with fail
     refine (HH.out _ hbz).mono ?_
     rintro e w5 ⟨rfl, hb5⟩
     have hbz5 := hbz.trans (hb5.mono hbz.size)
     go_wp2_with fail
     go_roundw
     case rel => exact ⟨i + 1, by omega, by go_num, by simp [allN, HA.out, HY.out], hbz5⟩
     case measure => simp [intOf]; omega
  ·obtain rfl : i = 8 := by omega
   have hres : r = true := by rw [← HR.out]; exact HA.out
   subst hres
   go_wp2
   go_ret
   exact ⟨rfl, X3.bel⟩
end
end Go.Proofs.YtnagdljgeglceaaGreat
/- the program's audit: what it looks at (look), and tiles. -/
set_option linter.unusedSimpArgs false
set_option linter.unusedVariables false
namespace Go.Proofs.YtnagdljgeglceaaGreat
open Go.RowKit

/-- a look at a heap's values. -/
structure LK (b : Nat) (t p s : Int) (ad : Addr) (n c : Nat) (vs : List Int) (atv : Value) (mb : Nat) (W : World) : Prop where
 box : W.heap[b]? = some (.cells #[.int .i64 t, .int .i64 p, .int .i64 s, .slice (some ad) n c, atv, .map (some mb)] 153)
 xv : XV W t p s ad n vs
section
variable {b : Nat} {t p s : Int} {ad : Addr} {n c : Nat} {vs : List Int} {atv : Value} {mb : Nat} {W W' : World}
theorem LK.lt (h : LK b t p s ad n c vs atv mb W) : b < W.heap.size := (Array.getElem?_eq_some_iff.1 h.box).1
theorem LK.keep (h : LK b t p s ad n c vs atv mb W) (hb : Below W.heap.size W W') : LK b t p s ad n c vs atv mb W' :=
 ⟨(hb.block b h.lt).trans h.box, h.xv.keep hb⟩
theorem LK.cells (h : LK b t p s ad n c vs atv mb W) : (W.cell? ⟨b, 0, none⟩ = some (.int .i64 t) ∧ W.cell? ⟨b, 1, none⟩ = some (.int .i64 p) ∧ W.cell? ⟨b, 2, none⟩ = some (.int .i64 s)) ∧ W.cell? ⟨b, 3, none⟩ = some (.slice (some ad) n c) ∧ W.cell? ⟨b, 4, none⟩ = some atv ∧ W.cell? ⟨b, 5, none⟩ = some (.map (some mb)) :=
 ⟨⟨cell?_of_heap h.box, cell?_of_heap h.box, cell?_of_heap h.box⟩, cell?_of_heap h.box, cell?_of_heap h.box, cell?_of_heap h.box⟩
end
end Go.Proofs.YtnagdljgeglceaaGreat
/- the program's audit: tiles. -/
set_option linter.unusedSimpArgs false
set_option linter.unusedVariables false
namespace Go.Proofs.YtnagdljgeglceaaGreat
open Go.RowKit

theorem partCells_at : ∀ (l : List (Int × Int × Int)) (k : Nat) (x : Int × Int × Int), l[k]? = some x → (partCells l)[k * 3]? = some (.int .i64 x.1) ∧ (partCells l)[k * 3 + 1]? = some (.int .i64 x.2.1) ∧ (partCells l)[k * 3 + 2]? = some (.int .i64 x.2.2)
 | [], _, _, h => by simp at h
 | y :: l, 0, x, h => by
  simp at h
  subst h
  exact ⟨rfl, rfl, rfl⟩
 | y :: l, k + 1, x, h => by
  have ih := partCells_at l k x (by simpa using h)
  have e : partCells (y :: l) = [.int .i64 y.1, .int .i64 y.2.1, .int .i64 y.2.2] ++ partCells l := rfl
  rw [e]
  refine ⟨?_, ?_, ?_⟩
  ·rw [List.getElem?_append_right (by simp; omega)]; rw [← ih.1]; congr 1; simp; omega
  ·rw [List.getElem?_append_right (by simp; omega)]; rw [← ih.2.1]; congr 1; simp; omega
  ·rw [List.getElem?_append_right (by simp; omega)]; rw [← ih.2.2]; congr 1; simp; omega
section
variable {b : Nat} {t p s : Int} {ad : Addr} {n c : Nat} {vs : List Int} {atv : Value} {mb : Nat}
/-- a look, its map of lists, and that nothing else has turned. -/
structure LS (w0 : World) (b : Nat) (t p s : Int) (ad : Addr) (n c : Nat) (vs : List Int) (atv : Value) (mb : Nat) (ml : List (Int × Int)) (W : World) : Prop where
 lk : LK b t p s ad n c vs atv mb W
 bs : BS w0 [b, mb] W
 ne : mb ≠ b
 map : MapIs W mb ml
theorem LS.keep {w0 W W' : World} {ml : List (Int × Int)} (h : LS w0 b t p s ad n c vs atv mb ml W) (hb : Below W.heap.size W W') : LS w0 b t p s ad n c vs atv mb ml W' := by
 obtain ⟨es, clk, h1, h2⟩ := h.map
 exact ⟨h.lk.keep hb, h.bs.below hb, h.ne, ⟨es, clk, (hb.block mb (h.bs.ls mb (by simp)).1).trans h1, h2⟩⟩
/-- a row of infos of the look's own. -/
structure AtR (w0 : World) (b : Nat) (mb g P : Nat) (al : List (Int × Int × Int)) (ad : Addr) (W : World) : Prop where
 row : W.ownsRow 0 73 3 (.slice (some ⟨g, 0, none⟩) P P) P (partCells al)
 ge : w0.heap.size ≤ g
 n1 : g ≠ b
 n2 : g ≠ mb
 n3 : g ≠ ad.block
theorem AtR.keep {w0 W W' : World} {g P : Nat} {al : List (Int × Int × Int)} (h : AtR w0 b mb g P al ad W) (hb : Below W.heap.size W W') : AtR w0 b mb g P al ad W' :=
 ⟨((BS.start _).below hb).row h.row, h.ge, h.n1, h.n2, h.n3⟩
end
end Go.Proofs.YtnagdljgeglceaaGreat
/- the document's audit: Check, Sound. -/
set_option linter.unusedSimpArgs false
set_option linter.unusedVariables false
namespace Go.Proofs.YtnagdljgeglceaaGreat
open Go.RowKit
section
variable {t p s : Int} {ad : Addr} {n c : Nat} {vs : List Int}

/-- which rule does not hold first. -/
def chkF (vs : List Int) (t p s : Int) : Int × Bool :=
 if tilesF vs t p = false then (2, false) else
 if feetF vs t p = false then (3, false) else
 if apartF vs t p = false then (4, false) else
 if slotsAll vs t p = false then (5, false) else
 if binsF vs t p = false then (6, false) else
 if racksF vs t p = false then (7, false) else
 if looseF vs t p = false then (8, false) else
 if countsF vs t p = false then (9, false) else
 if rootsF vs t p s = false then (10, false) else
 (0, true)

set_option maxHeartbeats 4000000 in
set_option maxRecDepth 100000 in
theorem rcheck_any (c : Nat) (w : World) (h : XV w t p s ad n vs) :
 Calls Tryz.prog 27 #[.agg #[.int .i64 t, .int .i64 p, .int .i64 s], .slice (some ad) n c] w fun e w' => e = .returned (.tuple #[.int .i64 (chkF vs t p s).1, .bool (chkF vs t p s).2]) ∧ Below w.heap.size w w' := by
 have H1 := rright_any t p s
 have H2 := rcells_any t p s
 rw [h.right] at H1
 have hcf : cellsF t p s = (n : Int) := by unfold cellsF; rw [h.right, h.num]; rfl
 rw [hcf] at H2
 have HH1 := Lib.hid H1
 have HH2 := Lib.hid H2
 have HV := Lib.hid h
 have hst := (startsF_mem (g := fun q => gv vs t q 0) (p := p) (by have := h.bd; omega)).2.1
 have HSt := Lib.hid hst
 have C_tiles := fun (w : World) (h : XV w t p s ad n vs) => tiles_any c w h
 have C_feet := fun (w : World) (h : XV w t p s ad n vs) (hne : (startsF (fun q => gv vs t q 0) p).1 ≠ []) => feet_any c w h hne
 have C_apart := fun (w : World) (h : XV w t p s ad n vs) => apart_any c w h
 have C_slots := fun (w : World) (h : XV w t p s ad n vs) => slots_any c w h
 have C_bins := fun (w : World) (h : XV w t p s ad n vs) => bins_any c w h
 have C_racks := fun (w : World) (h : XV w t p s ad n vs) => racks_any c w h
 have C_loose := fun (w : World) (h : XV w t p s ad n vs) => loose_any c w h
 have C_counts := fun (w : World) (h : XV w t p s ad n vs) => counts_any c w h
 have C_roots := fun (w : World) (h : XV w t p s ad n vs) => roots_any c w h
 generalize hr : chkF vs t p s = r
 have HR := Lib.hid hr
 clear H1 H2 hcf h hst hr
 cases h_tiles : tilesF vs t p
 ·have hR : r = (2, false) := by rw [← HR.out]; simp [chkF, h_tiles]
  subst hR
  rw [h_tiles] at C_tiles
  have K_tiles := Lib.hid C_tiles
  clear HR h_tiles C_tiles C_feet C_apart C_slots C_bins C_racks C_loose C_counts C_roots
  go_enter Tryz.func27, Tryz.ntmps27
  go_wp2_with fail
  refine (HH1.out _).mono ?_
  rintro e w1 ⟨rfl, ha⟩
  obtain ⟨hac, haf⟩ := bcell ha
  have haz0 : w.heap.size < w1.heap.size := by have := ha.size; first | omega | (simp at this; omega)
  go_wp2_with fail
  refine (HH2.out _).mono ?_
  rintro e w2 ⟨rfl, hb⟩
  obtain ⟨hbc, hbf⟩ := bcell hb
  have hbz0 : w1.heap.size ≤ w2.heap.size := by have := hb.size; first | omega | (simp at this; omega)
  have hbz1 : w.heap.size < w2.heap.size := by have := hb.size; first | omega | (simp at this; omega)
  have bel2 : Below w.heap.size w w2 := by (repeat (first | exact Below.refl _ _ | assumption | refine Below.setCell ?_ (by first | omega | (simp; done) | (simp; omega)) _ | refine Below.alloc ?_ (by first | omega | (simp; done) | (simp; omega)) _ | refine Below.drew ?_ | refine Below.trans ?_ (Below.mono ‹Below _ _ _› (by first | omega | (simp; done) | (simp; omega)))))
  have X0 := (HV.out.keep bel2).boxed c
  have X0z := X0.lt
  obtain ⟨X00, X01, X02, X03⟩ := X0.cells
  go_wp2_with fail
  refine (K_tiles.out _ X0.xv).mono ?_
  rintro e v0 ⟨rfl, hv0⟩
  have Y0 := X0.keep hv0
  obtain ⟨Y00, Y01, Y02, Y03⟩ := Y0.cells
  have Y0z := Y0.lt
  clear hv0 X00 X01 X02 X03 X0z
  go_wp2
  exact bodyPost_ret (v := .tuple #[.int .i64 2, .bool false]) (by simp [results, Tryz.results27, go_sem]) rfl ⟨rfl, bel2.trans (Y0.bel.mono bel2.size)⟩
 ·have hne := HSt.out (by simp [tilesF] at h_tiles; exact h_tiles.1)
  rw [h_tiles] at C_tiles
  have K_tiles := Lib.hid C_tiles
  clear C_tiles
  cases h_feet : feetF vs t p
  ·have hR : r = (3, false) := by rw [← HR.out]; simp [chkF, h_tiles, h_feet]
   have hne := HSt.out (by simp [tilesF] at h_tiles; exact h_tiles.1)
   subst hR
   rw [h_feet] at C_feet
   have K_feet := Lib.hid C_feet
   clear HR h_tiles h_feet C_feet C_apart C_slots C_bins C_racks C_loose C_counts C_roots
   go_enter Tryz.func27, Tryz.ntmps27
   go_wp2_with fail
   refine (HH1.out _).mono ?_
   rintro e w1 ⟨rfl, ha⟩
   obtain ⟨hac, haf⟩ := bcell ha
   have haz0 : w.heap.size < w1.heap.size := by have := ha.size; first | omega | (simp at this; omega)
   go_wp2_with fail
   refine (HH2.out _).mono ?_
   rintro e w2 ⟨rfl, hb⟩
   obtain ⟨hbc, hbf⟩ := bcell hb
   have hbz0 : w1.heap.size ≤ w2.heap.size := by have := hb.size; first | omega | (simp at this; omega)
   have hbz1 : w.heap.size < w2.heap.size := by have := hb.size; first | omega | (simp at this; omega)
   have bel2 : Below w.heap.size w w2 := by (repeat (first | exact Below.refl _ _ | assumption | refine Below.setCell ?_ (by first | omega | (simp; done) | (simp; omega)) _ | refine Below.alloc ?_ (by first | omega | (simp; done) | (simp; omega)) _ | refine Below.drew ?_ | refine Below.trans ?_ (Below.mono ‹Below _ _ _› (by first | omega | (simp; done) | (simp; omega)))))
   have X0 := (HV.out.keep bel2).boxed c
   have X0z := X0.lt
   obtain ⟨X00, X01, X02, X03⟩ := X0.cells
   go_wp2_with fail
   refine (K_tiles.out _ X0.xv).mono ?_
   rintro e v0 ⟨rfl, hv0⟩
   have Y0 := X0.keep hv0
   obtain ⟨Y00, Y01, Y02, Y03⟩ := Y0.cells
   have Y0z := Y0.lt
   clear hv0 X00 X01 X02 X03 X0z
   go_wp2_with fail
   refine (K_feet.out _ Y0.xv hne).mono ?_
   rintro e v1 ⟨rfl, hv1⟩
   have Y1 := Y0.keep hv1
   obtain ⟨Y10, Y11, Y12, Y13⟩ := Y1.cells
   have Y1z := Y1.lt
   clear hv1 Y00 Y01 Y02 Y03 Y0z
   go_wp2
   exact bodyPost_ret (v := .tuple #[.int .i64 3, .bool false]) (by simp [results, Tryz.results27, go_sem]) rfl ⟨rfl, bel2.trans (Y1.bel.mono bel2.size)⟩
  ·rw [h_feet] at C_feet
   have K_feet := Lib.hid C_feet
   clear C_feet
   cases h_apart : apartF vs t p
   ·have hR : r = (4, false) := by rw [← HR.out]; simp [chkF, h_tiles, h_feet, h_apart]
    subst hR
    rw [h_apart] at C_apart
    have K_apart := Lib.hid C_apart
    clear HR h_tiles h_feet h_apart C_apart C_slots C_bins C_racks C_loose C_counts C_roots
    go_enter Tryz.func27, Tryz.ntmps27
    go_wp2_with fail
    refine (HH1.out _).mono ?_
    rintro e w1 ⟨rfl, ha⟩
    obtain ⟨hac, haf⟩ := bcell ha
    have haz0 : w.heap.size < w1.heap.size := by have := ha.size; first | omega | (simp at this; omega)
    go_wp2_with fail
    refine (HH2.out _).mono ?_
    rintro e w2 ⟨rfl, hb⟩
    obtain ⟨hbc, hbf⟩ := bcell hb
    have hbz0 : w1.heap.size ≤ w2.heap.size := by have := hb.size; first | omega | (simp at this; omega)
    have hbz1 : w.heap.size < w2.heap.size := by have := hb.size; first | omega | (simp at this; omega)
    have bel2 : Below w.heap.size w w2 := by (repeat (first | exact Below.refl _ _ | assumption | refine Below.setCell ?_ (by first | omega | (simp; done) | (simp; omega)) _ | refine Below.alloc ?_ (by first | omega | (simp; done) | (simp; omega)) _ | refine Below.drew ?_ | refine Below.trans ?_ (Below.mono ‹Below _ _ _› (by first | omega | (simp; done) | (simp; omega)))))
    have X0 := (HV.out.keep bel2).boxed c
    have X0z := X0.lt
    obtain ⟨X00, X01, X02, X03⟩ := X0.cells
    go_wp2_with fail
    refine (K_tiles.out _ X0.xv).mono ?_
    rintro e v0 ⟨rfl, hv0⟩
    have Y0 := X0.keep hv0
    obtain ⟨Y00, Y01, Y02, Y03⟩ := Y0.cells
    have Y0z := Y0.lt
    clear hv0 X00 X01 X02 X03 X0z
    go_wp2_with fail
    refine (K_feet.out _ Y0.xv hne).mono ?_
    rintro e v1 ⟨rfl, hv1⟩
    have Y1 := Y0.keep hv1
    obtain ⟨Y10, Y11, Y12, Y13⟩ := Y1.cells
    have Y1z := Y1.lt
    clear hv1 Y00 Y01 Y02 Y03 Y0z
    go_wp2_with fail
    refine (K_apart.out _ Y1.xv).mono ?_
    rintro e v2 ⟨rfl, hv2⟩
    have Y2 := Y1.keep hv2
    obtain ⟨Y20, Y21, Y22, Y23⟩ := Y2.cells
    have Y2z := Y2.lt
    clear hv2 Y10 Y11 Y12 Y13 Y1z
    go_wp2
    exact bodyPost_ret (v := .tuple #[.int .i64 4, .bool false]) (by simp [results, Tryz.results27, go_sem]) rfl ⟨rfl, bel2.trans (Y2.bel.mono bel2.size)⟩
   ·rw [h_apart] at C_apart
    have K_apart := Lib.hid C_apart
    clear C_apart
    cases h_slots : slotsAll vs t p
    ·have hR : r = (5, false) := by rw [← HR.out]; simp [chkF, h_tiles, h_feet, h_apart, h_slots]
     subst hR
     rw [h_slots] at C_slots
     have K_slots := Lib.hid C_slots
     clear HR h_tiles h_feet h_apart h_slots C_slots C_bins C_racks C_loose C_counts C_roots
     go_enter Tryz.func27, Tryz.ntmps27
     go_wp2_with fail
     refine (HH1.out _).mono ?_
     rintro e w1 ⟨rfl, ha⟩
     obtain ⟨hac, haf⟩ := bcell ha
     have haz0 : w.heap.size < w1.heap.size := by have := ha.size; first | omega | (simp at this; omega)
     go_wp2_with fail
     refine (HH2.out _).mono ?_
     rintro e w2 ⟨rfl, hb⟩
     obtain ⟨hbc, hbf⟩ := bcell hb
     have hbz0 : w1.heap.size ≤ w2.heap.size := by have := hb.size; first | omega | (simp at this; omega)
     have hbz1 : w.heap.size < w2.heap.size := by have := hb.size; first | omega | (simp at this; omega)
     have bel2 : Below w.heap.size w w2 := by (repeat (first | exact Below.refl _ _ | assumption | refine Below.setCell ?_ (by first | omega | (simp; done) | (simp; omega)) _ | refine Below.alloc ?_ (by first | omega | (simp; done) | (simp; omega)) _ | refine Below.drew ?_ | refine Below.trans ?_ (Below.mono ‹Below _ _ _› (by first | omega | (simp; done) | (simp; omega)))))
     have X0 := (HV.out.keep bel2).boxed c
     have X0z := X0.lt
     obtain ⟨X00, X01, X02, X03⟩ := X0.cells
     go_wp2_with fail
     refine (K_tiles.out _ X0.xv).mono ?_
     rintro e v0 ⟨rfl, hv0⟩
     have Y0 := X0.keep hv0
     obtain ⟨Y00, Y01, Y02, Y03⟩ := Y0.cells
     have Y0z := Y0.lt
     clear hv0 X00 X01 X02 X03 X0z
     go_wp2_with fail
     refine (K_feet.out _ Y0.xv hne).mono ?_
     rintro e v1 ⟨rfl, hv1⟩
     have Y1 := Y0.keep hv1
     obtain ⟨Y10, Y11, Y12, Y13⟩ := Y1.cells
     have Y1z := Y1.lt
     clear hv1 Y00 Y01 Y02 Y03 Y0z
     go_wp2_with fail
     refine (K_apart.out _ Y1.xv).mono ?_
     rintro e v2 ⟨rfl, hv2⟩
     have Y2 := Y1.keep hv2
     obtain ⟨Y20, Y21, Y22, Y23⟩ := Y2.cells
     have Y2z := Y2.lt
     clear hv2 Y10 Y11 Y12 Y13 Y1z
     go_wp2_with fail
     refine (K_slots.out _ Y2.xv).mono ?_
     rintro e v3 ⟨rfl, hv3⟩
     have Y3 := Y2.keep hv3
     obtain ⟨Y30, Y31, Y32, Y33⟩ := Y3.cells
     have Y3z := Y3.lt
     clear hv3 Y20 Y21 Y22 Y23 Y2z
     go_wp2
     exact bodyPost_ret (v := .tuple #[.int .i64 5, .bool false]) (by simp [results, Tryz.results27, go_sem]) rfl ⟨rfl, bel2.trans (Y3.bel.mono bel2.size)⟩
    ·rw [h_slots] at C_slots
     have K_slots := Lib.hid C_slots
     clear C_slots
     cases h_bins : binsF vs t p
     ·have hR : r = (6, false) := by rw [← HR.out]; simp [chkF, h_tiles, h_feet, h_apart, h_slots, h_bins]
      subst hR
      rw [h_bins] at C_bins
      have K_bins := Lib.hid C_bins
      clear HR h_tiles h_feet h_apart h_slots h_bins C_bins C_racks C_loose C_counts C_roots
      go_enter Tryz.func27, Tryz.ntmps27
      go_wp2_with fail
      refine (HH1.out _).mono ?_
      rintro e w1 ⟨rfl, ha⟩
      obtain ⟨hac, haf⟩ := bcell ha
      have haz0 : w.heap.size < w1.heap.size := by have := ha.size; first | omega | (simp at this; omega)
      go_wp2_with fail
      refine (HH2.out _).mono ?_
      rintro e w2 ⟨rfl, hb⟩
      obtain ⟨hbc, hbf⟩ := bcell hb
      have hbz0 : w1.heap.size ≤ w2.heap.size := by have := hb.size; first | omega | (simp at this; omega)
      have hbz1 : w.heap.size < w2.heap.size := by have := hb.size; first | omega | (simp at this; omega)
      have bel2 : Below w.heap.size w w2 := by (repeat (first | exact Below.refl _ _ | assumption | refine Below.setCell ?_ (by first | omega | (simp; done) | (simp; omega)) _ | refine Below.alloc ?_ (by first | omega | (simp; done) | (simp; omega)) _ | refine Below.drew ?_ | refine Below.trans ?_ (Below.mono ‹Below _ _ _› (by first | omega | (simp; done) | (simp; omega)))))
      have X0 := (HV.out.keep bel2).boxed c
      have X0z := X0.lt
      obtain ⟨X00, X01, X02, X03⟩ := X0.cells
      go_wp2_with fail
      refine (K_tiles.out _ X0.xv).mono ?_
      rintro e v0 ⟨rfl, hv0⟩
      have Y0 := X0.keep hv0
      obtain ⟨Y00, Y01, Y02, Y03⟩ := Y0.cells
      have Y0z := Y0.lt
      clear hv0 X00 X01 X02 X03 X0z
      go_wp2_with fail
      refine (K_feet.out _ Y0.xv hne).mono ?_
      rintro e v1 ⟨rfl, hv1⟩
      have Y1 := Y0.keep hv1
      obtain ⟨Y10, Y11, Y12, Y13⟩ := Y1.cells
      have Y1z := Y1.lt
      clear hv1 Y00 Y01 Y02 Y03 Y0z
      go_wp2_with fail
      refine (K_apart.out _ Y1.xv).mono ?_
      rintro e v2 ⟨rfl, hv2⟩
      have Y2 := Y1.keep hv2
      obtain ⟨Y20, Y21, Y22, Y23⟩ := Y2.cells
      have Y2z := Y2.lt
      clear hv2 Y10 Y11 Y12 Y13 Y1z
      go_wp2_with fail
      refine (K_slots.out _ Y2.xv).mono ?_
      rintro e v3 ⟨rfl, hv3⟩
      have Y3 := Y2.keep hv3
      obtain ⟨Y30, Y31, Y32, Y33⟩ := Y3.cells
      have Y3z := Y3.lt
      clear hv3 Y20 Y21 Y22 Y23 Y2z
      go_wp2_with fail
      refine (K_bins.out _ Y3.xv).mono ?_
      rintro e v4 ⟨rfl, hv4⟩
      have Y4 := Y3.keep hv4
      obtain ⟨Y40, Y41, Y42, Y43⟩ := Y4.cells
      have Y4z := Y4.lt
      clear hv4 Y30 Y31 Y32 Y33 Y3z
      go_wp2
      exact bodyPost_ret (v := .tuple #[.int .i64 6, .bool false]) (by simp [results, Tryz.results27, go_sem]) rfl ⟨rfl, bel2.trans (Y4.bel.mono bel2.size)⟩
     ·rw [h_bins] at C_bins
      have K_bins := Lib.hid C_bins
      clear C_bins
      cases h_racks : racksF vs t p
      ·have hR : r = (7, false) := by rw [← HR.out]; simp [chkF, h_tiles, h_feet, h_apart, h_slots, h_bins, h_racks]
       subst hR
       rw [h_racks] at C_racks
       have K_racks := Lib.hid C_racks
       clear HR h_tiles h_feet h_apart h_slots h_bins h_racks C_racks C_loose C_counts C_roots
       go_enter Tryz.func27, Tryz.ntmps27
       go_wp2_with fail
       refine (HH1.out _).mono ?_
       rintro e w1 ⟨rfl, ha⟩
       obtain ⟨hac, haf⟩ := bcell ha
       have haz0 : w.heap.size < w1.heap.size := by have := ha.size; first | omega | (simp at this; omega)
       go_wp2_with fail
       refine (HH2.out _).mono ?_
       rintro e w2 ⟨rfl, hb⟩
       obtain ⟨hbc, hbf⟩ := bcell hb
       have hbz0 : w1.heap.size ≤ w2.heap.size := by have := hb.size; first | omega | (simp at this; omega)
       have hbz1 : w.heap.size < w2.heap.size := by have := hb.size; first | omega | (simp at this; omega)
       have bel2 : Below w.heap.size w w2 := by (repeat (first | exact Below.refl _ _ | assumption | refine Below.setCell ?_ (by first | omega | (simp; done) | (simp; omega)) _ | refine Below.alloc ?_ (by first | omega | (simp; done) | (simp; omega)) _ | refine Below.drew ?_ | refine Below.trans ?_ (Below.mono ‹Below _ _ _› (by first | omega | (simp; done) | (simp; omega)))))
       have X0 := (HV.out.keep bel2).boxed c
       have X0z := X0.lt
       obtain ⟨X00, X01, X02, X03⟩ := X0.cells
       go_wp2_with fail
       refine (K_tiles.out _ X0.xv).mono ?_
       rintro e v0 ⟨rfl, hv0⟩
       have Y0 := X0.keep hv0
       obtain ⟨Y00, Y01, Y02, Y03⟩ := Y0.cells
       have Y0z := Y0.lt
       clear hv0 X00 X01 X02 X03 X0z
       go_wp2_with fail
       refine (K_feet.out _ Y0.xv hne).mono ?_
       rintro e v1 ⟨rfl, hv1⟩
       have Y1 := Y0.keep hv1
       obtain ⟨Y10, Y11, Y12, Y13⟩ := Y1.cells
       have Y1z := Y1.lt
       clear hv1 Y00 Y01 Y02 Y03 Y0z
       go_wp2_with fail
       refine (K_apart.out _ Y1.xv).mono ?_
       rintro e v2 ⟨rfl, hv2⟩
       have Y2 := Y1.keep hv2
       obtain ⟨Y20, Y21, Y22, Y23⟩ := Y2.cells
       have Y2z := Y2.lt
       clear hv2 Y10 Y11 Y12 Y13 Y1z
       go_wp2_with fail
       refine (K_slots.out _ Y2.xv).mono ?_
       rintro e v3 ⟨rfl, hv3⟩
       have Y3 := Y2.keep hv3
       obtain ⟨Y30, Y31, Y32, Y33⟩ := Y3.cells
       have Y3z := Y3.lt
       clear hv3 Y20 Y21 Y22 Y23 Y2z
       go_wp2_with fail
       refine (K_bins.out _ Y3.xv).mono ?_
       rintro e v4 ⟨rfl, hv4⟩
       have Y4 := Y3.keep hv4
       obtain ⟨Y40, Y41, Y42, Y43⟩ := Y4.cells
       have Y4z := Y4.lt
       clear hv4 Y30 Y31 Y32 Y33 Y3z
       go_wp2_with fail
       refine (K_racks.out _ Y4.xv).mono ?_
       rintro e v5 ⟨rfl, hv5⟩
       have Y5 := Y4.keep hv5
       obtain ⟨Y50, Y51, Y52, Y53⟩ := Y5.cells
       have Y5z := Y5.lt
       clear hv5 Y40 Y41 Y42 Y43 Y4z
       go_wp2
       exact bodyPost_ret (v := .tuple #[.int .i64 7, .bool false]) (by simp [results, Tryz.results27, go_sem]) rfl ⟨rfl, bel2.trans (Y5.bel.mono bel2.size)⟩
      ·rw [h_racks] at C_racks
       have K_racks := Lib.hid C_racks
       clear C_racks
       cases h_loose : looseF vs t p
       ·have hR : r = (8, false) := by rw [← HR.out]; simp [chkF, h_tiles, h_feet, h_apart, h_slots, h_bins, h_racks, h_loose]
        subst hR
        rw [h_loose] at C_loose
        have K_loose := Lib.hid C_loose
        clear HR h_tiles h_feet h_apart h_slots h_bins h_racks h_loose C_loose C_counts C_roots
        go_enter Tryz.func27, Tryz.ntmps27
        go_wp2_with fail
        refine (HH1.out _).mono ?_
        rintro e w1 ⟨rfl, ha⟩
        obtain ⟨hac, haf⟩ := bcell ha
        have haz0 : w.heap.size < w1.heap.size := by have := ha.size; first | omega | (simp at this; omega)
        go_wp2_with fail
        refine (HH2.out _).mono ?_
        rintro e w2 ⟨rfl, hb⟩
        obtain ⟨hbc, hbf⟩ := bcell hb
        have hbz0 : w1.heap.size ≤ w2.heap.size := by have := hb.size; first | omega | (simp at this; omega)
        have hbz1 : w.heap.size < w2.heap.size := by have := hb.size; first | omega | (simp at this; omega)
        have bel2 : Below w.heap.size w w2 := by (repeat (first | exact Below.refl _ _ | assumption | refine Below.setCell ?_ (by first | omega | (simp; done) | (simp; omega)) _ | refine Below.alloc ?_ (by first | omega | (simp; done) | (simp; omega)) _ | refine Below.drew ?_ | refine Below.trans ?_ (Below.mono ‹Below _ _ _› (by first | omega | (simp; done) | (simp; omega)))))
        have X0 := (HV.out.keep bel2).boxed c
        have X0z := X0.lt
        obtain ⟨X00, X01, X02, X03⟩ := X0.cells
        go_wp2_with fail
        refine (K_tiles.out _ X0.xv).mono ?_
        rintro e v0 ⟨rfl, hv0⟩
        have Y0 := X0.keep hv0
        obtain ⟨Y00, Y01, Y02, Y03⟩ := Y0.cells
        have Y0z := Y0.lt
        clear hv0 X00 X01 X02 X03 X0z
        go_wp2_with fail
        refine (K_feet.out _ Y0.xv hne).mono ?_
        rintro e v1 ⟨rfl, hv1⟩
        have Y1 := Y0.keep hv1
        obtain ⟨Y10, Y11, Y12, Y13⟩ := Y1.cells
        have Y1z := Y1.lt
        clear hv1 Y00 Y01 Y02 Y03 Y0z
        go_wp2_with fail
        refine (K_apart.out _ Y1.xv).mono ?_
        rintro e v2 ⟨rfl, hv2⟩
        have Y2 := Y1.keep hv2
        obtain ⟨Y20, Y21, Y22, Y23⟩ := Y2.cells
        have Y2z := Y2.lt
        clear hv2 Y10 Y11 Y12 Y13 Y1z
        go_wp2_with fail
        refine (K_slots.out _ Y2.xv).mono ?_
        rintro e v3 ⟨rfl, hv3⟩
        have Y3 := Y2.keep hv3
        obtain ⟨Y30, Y31, Y32, Y33⟩ := Y3.cells
        have Y3z := Y3.lt
        clear hv3 Y20 Y21 Y22 Y23 Y2z
        go_wp2_with fail
        refine (K_bins.out _ Y3.xv).mono ?_
        rintro e v4 ⟨rfl, hv4⟩
        have Y4 := Y3.keep hv4
        obtain ⟨Y40, Y41, Y42, Y43⟩ := Y4.cells
        have Y4z := Y4.lt
        clear hv4 Y30 Y31 Y32 Y33 Y3z
        go_wp2_with fail
        refine (K_racks.out _ Y4.xv).mono ?_
        rintro e v5 ⟨rfl, hv5⟩
        have Y5 := Y4.keep hv5
        obtain ⟨Y50, Y51, Y52, Y53⟩ := Y5.cells
        have Y5z := Y5.lt
        clear hv5 Y40 Y41 Y42 Y43 Y4z
        go_wp2_with fail
        refine (K_loose.out _ Y5.xv).mono ?_
        rintro e v6 ⟨rfl, hv6⟩
        have Y6 := Y5.keep hv6
        obtain ⟨Y60, Y61, Y62, Y63⟩ := Y6.cells
        have Y6z := Y6.lt
        clear hv6 Y50 Y51 Y52 Y53 Y5z
        go_wp2
        exact bodyPost_ret (v := .tuple #[.int .i64 8, .bool false]) (by simp [results, Tryz.results27, go_sem]) rfl ⟨rfl, bel2.trans (Y6.bel.mono bel2.size)⟩
       ·rw [h_loose] at C_loose
        have K_loose := Lib.hid C_loose
        clear C_loose
        cases h_counts : countsF vs t p
        ·have hR : r = (9, false) := by rw [← HR.out]; simp [chkF, h_tiles, h_feet, h_apart, h_slots, h_bins, h_racks, h_loose, h_counts]
         subst hR
         rw [h_counts] at C_counts
         have K_counts := Lib.hid C_counts
         clear HR h_tiles h_feet h_apart h_slots h_bins h_racks h_loose h_counts C_counts C_roots
         go_enter Tryz.func27, Tryz.ntmps27
         go_wp2_with fail
         refine (HH1.out _).mono ?_
         rintro e w1 ⟨rfl, ha⟩
         obtain ⟨hac, haf⟩ := bcell ha
         have haz0 : w.heap.size < w1.heap.size := by have := ha.size; first | omega | (simp at this; omega)
         go_wp2_with fail
         refine (HH2.out _).mono ?_
         rintro e w2 ⟨rfl, hb⟩
         obtain ⟨hbc, hbf⟩ := bcell hb
         have hbz0 : w1.heap.size ≤ w2.heap.size := by have := hb.size; first | omega | (simp at this; omega)
         have hbz1 : w.heap.size < w2.heap.size := by have := hb.size; first | omega | (simp at this; omega)
         have bel2 : Below w.heap.size w w2 := by (repeat (first | exact Below.refl _ _ | assumption | refine Below.setCell ?_ (by first | omega | (simp; done) | (simp; omega)) _ | refine Below.alloc ?_ (by first | omega | (simp; done) | (simp; omega)) _ | refine Below.drew ?_ | refine Below.trans ?_ (Below.mono ‹Below _ _ _› (by first | omega | (simp; done) | (simp; omega)))))
         have X0 := (HV.out.keep bel2).boxed c
         have X0z := X0.lt
         obtain ⟨X00, X01, X02, X03⟩ := X0.cells
         go_wp2_with fail
         refine (K_tiles.out _ X0.xv).mono ?_
         rintro e v0 ⟨rfl, hv0⟩
         have Y0 := X0.keep hv0
         obtain ⟨Y00, Y01, Y02, Y03⟩ := Y0.cells
         have Y0z := Y0.lt
         clear hv0 X00 X01 X02 X03 X0z
         go_wp2_with fail
         refine (K_feet.out _ Y0.xv hne).mono ?_
         rintro e v1 ⟨rfl, hv1⟩
         have Y1 := Y0.keep hv1
         obtain ⟨Y10, Y11, Y12, Y13⟩ := Y1.cells
         have Y1z := Y1.lt
         clear hv1 Y00 Y01 Y02 Y03 Y0z
         go_wp2_with fail
         refine (K_apart.out _ Y1.xv).mono ?_
         rintro e v2 ⟨rfl, hv2⟩
         have Y2 := Y1.keep hv2
         obtain ⟨Y20, Y21, Y22, Y23⟩ := Y2.cells
         have Y2z := Y2.lt
         clear hv2 Y10 Y11 Y12 Y13 Y1z
         go_wp2_with fail
         refine (K_slots.out _ Y2.xv).mono ?_
         rintro e v3 ⟨rfl, hv3⟩
         have Y3 := Y2.keep hv3
         obtain ⟨Y30, Y31, Y32, Y33⟩ := Y3.cells
         have Y3z := Y3.lt
         clear hv3 Y20 Y21 Y22 Y23 Y2z
         go_wp2_with fail
         refine (K_bins.out _ Y3.xv).mono ?_
         rintro e v4 ⟨rfl, hv4⟩
         have Y4 := Y3.keep hv4
         obtain ⟨Y40, Y41, Y42, Y43⟩ := Y4.cells
         have Y4z := Y4.lt
         clear hv4 Y30 Y31 Y32 Y33 Y3z
         go_wp2_with fail
         refine (K_racks.out _ Y4.xv).mono ?_
         rintro e v5 ⟨rfl, hv5⟩
         have Y5 := Y4.keep hv5
         obtain ⟨Y50, Y51, Y52, Y53⟩ := Y5.cells
         have Y5z := Y5.lt
         clear hv5 Y40 Y41 Y42 Y43 Y4z
         go_wp2_with fail
         refine (K_loose.out _ Y5.xv).mono ?_
         rintro e v6 ⟨rfl, hv6⟩
         have Y6 := Y5.keep hv6
         obtain ⟨Y60, Y61, Y62, Y63⟩ := Y6.cells
         have Y6z := Y6.lt
         clear hv6 Y50 Y51 Y52 Y53 Y5z
         go_wp2_with fail
         refine (K_counts.out _ Y6.xv).mono ?_
         rintro e v7 ⟨rfl, hv7⟩
         have Y7 := Y6.keep hv7
         obtain ⟨Y70, Y71, Y72, Y73⟩ := Y7.cells
         have Y7z := Y7.lt
         clear hv7 Y60 Y61 Y62 Y63 Y6z
         go_wp2
         exact bodyPost_ret (v := .tuple #[.int .i64 9, .bool false]) (by simp [results, Tryz.results27, go_sem]) rfl ⟨rfl, bel2.trans (Y7.bel.mono bel2.size)⟩
        ·rw [h_counts] at C_counts
         have K_counts := Lib.hid C_counts
         clear C_counts
         cases h_roots : rootsF vs t p s
         ·have hR : r = (10, false) := by rw [← HR.out]; simp [chkF, h_tiles, h_feet, h_apart, h_slots, h_bins, h_racks, h_loose, h_counts, h_roots]
          subst hR
          rw [h_roots] at C_roots
          have K_roots := Lib.hid C_roots
          clear HR h_tiles h_feet h_apart h_slots h_bins h_racks h_loose h_counts h_roots C_roots 
          go_enter Tryz.func27, Tryz.ntmps27
          go_wp2_with fail
          refine (HH1.out _).mono ?_
          rintro e w1 ⟨rfl, ha⟩
          obtain ⟨hac, haf⟩ := bcell ha
          have haz0 : w.heap.size < w1.heap.size := by have := ha.size; first | omega | (simp at this; omega)
          go_wp2_with fail
          refine (HH2.out _).mono ?_
          rintro e w2 ⟨rfl, hb⟩
          obtain ⟨hbc, hbf⟩ := bcell hb
          have hbz0 : w1.heap.size ≤ w2.heap.size := by have := hb.size; first | omega | (simp at this; omega)
          have hbz1 : w.heap.size < w2.heap.size := by have := hb.size; first | omega | (simp at this; omega)
          have bel2 : Below w.heap.size w w2 := by (repeat (first | exact Below.refl _ _ | assumption | refine Below.setCell ?_ (by first | omega | (simp; done) | (simp; omega)) _ | refine Below.alloc ?_ (by first | omega | (simp; done) | (simp; omega)) _ | refine Below.drew ?_ | refine Below.trans ?_ (Below.mono ‹Below _ _ _› (by first | omega | (simp; done) | (simp; omega)))))
          have X0 := (HV.out.keep bel2).boxed c
          have X0z := X0.lt
          obtain ⟨X00, X01, X02, X03⟩ := X0.cells
          go_wp2_with fail
          refine (K_tiles.out _ X0.xv).mono ?_
          rintro e v0 ⟨rfl, hv0⟩
          have Y0 := X0.keep hv0
          obtain ⟨Y00, Y01, Y02, Y03⟩ := Y0.cells
          have Y0z := Y0.lt
          clear hv0 X00 X01 X02 X03 X0z
          go_wp2_with fail
          refine (K_feet.out _ Y0.xv hne).mono ?_
          rintro e v1 ⟨rfl, hv1⟩
          have Y1 := Y0.keep hv1
          obtain ⟨Y10, Y11, Y12, Y13⟩ := Y1.cells
          have Y1z := Y1.lt
          clear hv1 Y00 Y01 Y02 Y03 Y0z
          go_wp2_with fail
          refine (K_apart.out _ Y1.xv).mono ?_
          rintro e v2 ⟨rfl, hv2⟩
          have Y2 := Y1.keep hv2
          obtain ⟨Y20, Y21, Y22, Y23⟩ := Y2.cells
          have Y2z := Y2.lt
          clear hv2 Y10 Y11 Y12 Y13 Y1z
          go_wp2_with fail
          refine (K_slots.out _ Y2.xv).mono ?_
          rintro e v3 ⟨rfl, hv3⟩
          have Y3 := Y2.keep hv3
          obtain ⟨Y30, Y31, Y32, Y33⟩ := Y3.cells
          have Y3z := Y3.lt
          clear hv3 Y20 Y21 Y22 Y23 Y2z
          go_wp2_with fail
          refine (K_bins.out _ Y3.xv).mono ?_
          rintro e v4 ⟨rfl, hv4⟩
          have Y4 := Y3.keep hv4
          obtain ⟨Y40, Y41, Y42, Y43⟩ := Y4.cells
          have Y4z := Y4.lt
          clear hv4 Y30 Y31 Y32 Y33 Y3z
          go_wp2_with fail
          refine (K_racks.out _ Y4.xv).mono ?_
          rintro e v5 ⟨rfl, hv5⟩
          have Y5 := Y4.keep hv5
          obtain ⟨Y50, Y51, Y52, Y53⟩ := Y5.cells
          have Y5z := Y5.lt
          clear hv5 Y40 Y41 Y42 Y43 Y4z
          go_wp2_with fail
          refine (K_loose.out _ Y5.xv).mono ?_
          rintro e v6 ⟨rfl, hv6⟩
          have Y6 := Y5.keep hv6
          obtain ⟨Y60, Y61, Y62, Y63⟩ := Y6.cells
          have Y6z := Y6.lt
          clear hv6 Y50 Y51 Y52 Y53 Y5z
          go_wp2_with fail
          refine (K_counts.out _ Y6.xv).mono ?_
          rintro e v7 ⟨rfl, hv7⟩
          have Y7 := Y6.keep hv7
          obtain ⟨Y70, Y71, Y72, Y73⟩ := Y7.cells
          have Y7z := Y7.lt
          clear hv7 Y60 Y61 Y62 Y63 Y6z
          go_wp2_with fail
          refine (K_roots.out _ Y7.xv).mono ?_
          rintro e v8 ⟨rfl, hv8⟩
          have Y8 := Y7.keep hv8
          obtain ⟨Y80, Y81, Y82, Y83⟩ := Y8.cells
          have Y8z := Y8.lt
          clear hv8 Y70 Y71 Y72 Y73 Y7z
          go_wp2
          exact bodyPost_ret (v := .tuple #[.int .i64 10, .bool false]) (by simp [results, Tryz.results27, go_sem]) rfl ⟨rfl, bel2.trans (Y8.bel.mono bel2.size)⟩
         ·rw [h_roots] at C_roots
          have K_roots := Lib.hid C_roots
          clear C_roots
          have hR : r = (0, true) := by rw [← HR.out]; simp [chkF, h_tiles, h_feet, h_apart, h_slots, h_bins, h_racks, h_loose, h_counts, h_roots]
          subst hR
          clear HR h_tiles h_feet h_apart h_slots h_bins h_racks h_loose h_counts h_roots 
          go_enter Tryz.func27, Tryz.ntmps27
          go_wp2_with fail
          refine (HH1.out _).mono ?_
          rintro e w1 ⟨rfl, ha⟩
          obtain ⟨hac, haf⟩ := bcell ha
          have haz0 : w.heap.size < w1.heap.size := by have := ha.size; first | omega | (simp at this; omega)
          go_wp2_with fail
          refine (HH2.out _).mono ?_
          rintro e w2 ⟨rfl, hb⟩
          obtain ⟨hbc, hbf⟩ := bcell hb
          have hbz0 : w1.heap.size ≤ w2.heap.size := by have := hb.size; first | omega | (simp at this; omega)
          have hbz1 : w.heap.size < w2.heap.size := by have := hb.size; first | omega | (simp at this; omega)
          have bel2 : Below w.heap.size w w2 := by (repeat (first | exact Below.refl _ _ | assumption | refine Below.setCell ?_ (by first | omega | (simp; done) | (simp; omega)) _ | refine Below.alloc ?_ (by first | omega | (simp; done) | (simp; omega)) _ | refine Below.drew ?_ | refine Below.trans ?_ (Below.mono ‹Below _ _ _› (by first | omega | (simp; done) | (simp; omega)))))
          have X0 := (HV.out.keep bel2).boxed c
          have X0z := X0.lt
          obtain ⟨X00, X01, X02, X03⟩ := X0.cells
          go_wp2_with fail
          refine (K_tiles.out _ X0.xv).mono ?_
          rintro e v0 ⟨rfl, hv0⟩
          have Y0 := X0.keep hv0
          obtain ⟨Y00, Y01, Y02, Y03⟩ := Y0.cells
          have Y0z := Y0.lt
          clear hv0 X00 X01 X02 X03 X0z
          go_wp2_with fail
          refine (K_feet.out _ Y0.xv hne).mono ?_
          rintro e v1 ⟨rfl, hv1⟩
          have Y1 := Y0.keep hv1
          obtain ⟨Y10, Y11, Y12, Y13⟩ := Y1.cells
          have Y1z := Y1.lt
          clear hv1 Y00 Y01 Y02 Y03 Y0z
          go_wp2_with fail
          refine (K_apart.out _ Y1.xv).mono ?_
          rintro e v2 ⟨rfl, hv2⟩
          have Y2 := Y1.keep hv2
          obtain ⟨Y20, Y21, Y22, Y23⟩ := Y2.cells
          have Y2z := Y2.lt
          clear hv2 Y10 Y11 Y12 Y13 Y1z
          go_wp2_with fail
          refine (K_slots.out _ Y2.xv).mono ?_
          rintro e v3 ⟨rfl, hv3⟩
          have Y3 := Y2.keep hv3
          obtain ⟨Y30, Y31, Y32, Y33⟩ := Y3.cells
          have Y3z := Y3.lt
          clear hv3 Y20 Y21 Y22 Y23 Y2z
          go_wp2_with fail
          refine (K_bins.out _ Y3.xv).mono ?_
          rintro e v4 ⟨rfl, hv4⟩
          have Y4 := Y3.keep hv4
          obtain ⟨Y40, Y41, Y42, Y43⟩ := Y4.cells
          have Y4z := Y4.lt
          clear hv4 Y30 Y31 Y32 Y33 Y3z
          go_wp2_with fail
          refine (K_racks.out _ Y4.xv).mono ?_
          rintro e v5 ⟨rfl, hv5⟩
          have Y5 := Y4.keep hv5
          obtain ⟨Y50, Y51, Y52, Y53⟩ := Y5.cells
          have Y5z := Y5.lt
          clear hv5 Y40 Y41 Y42 Y43 Y4z
          go_wp2_with fail
          refine (K_loose.out _ Y5.xv).mono ?_
          rintro e v6 ⟨rfl, hv6⟩
          have Y6 := Y5.keep hv6
          obtain ⟨Y60, Y61, Y62, Y63⟩ := Y6.cells
          have Y6z := Y6.lt
          clear hv6 Y50 Y51 Y52 Y53 Y5z
          go_wp2_with fail
          refine (K_counts.out _ Y6.xv).mono ?_
          rintro e v7 ⟨rfl, hv7⟩
          have Y7 := Y6.keep hv7
          obtain ⟨Y70, Y71, Y72, Y73⟩ := Y7.cells
          have Y7z := Y7.lt
          clear hv7 Y60 Y61 Y62 Y63 Y6z
          go_wp2_with fail
          refine (K_roots.out _ Y7.xv).mono ?_
          rintro e v8 ⟨rfl, hv8⟩
          have Y8 := Y7.keep hv8
          obtain ⟨Y80, Y81, Y82, Y83⟩ := Y8.cells
          have Y8z := Y8.lt
          clear hv8 Y70 Y71 Y72 Y73 Y7z
          go_wp2
          exact bodyPost_ret (v := .tuple #[.int .i64 0, .bool true]) (by simp [results, Tryz.results27, go_sem]) rfl ⟨rfl, bel2.trans (Y8.bel.mono bel2.size)⟩

theorem rcheck_no (a : Option Addr) (m c : Nat) (w : World) (h : rightB t p s = false ∨ (m : Int) ≠ cellsN t p) :
 Calls Tryz.prog 27 #[.agg #[.int .i64 t, .int .i64 p, .int .i64 s], .slice a m c] w fun e w' => e = .returned (.tuple #[.int .i64 1, .bool false]) ∧ Below w.heap.size w w' := by
 have H1 := rright_any t p s
 have H2 := rcells_any t p s
 cases hr : rightB t p s
 ·rw [hr] at H1
  have HH1 := Lib.hid H1
  clear H1 H2 h hr
  go_enter Tryz.func27, Tryz.ntmps27
  go_wp2_with fail
  refine (HH1.out _).mono ?_
  rintro e w1 ⟨rfl, ha⟩
  obtain ⟨hac, haf⟩ := bcell ha
  have haz0 : w.heap.size < w1.heap.size := by have := ha.size; first | omega | (simp at this; omega)
  go_wp2
  refine bodyPost_ret (v := .tuple #[.int .i64 1, .bool false]) (by simp [results, Tryz.results27, go_sem]) rfl ⟨rfl, ?_⟩
  (repeat (first | exact Below.refl _ _ | assumption | refine Below.setCell ?_ (by first | omega | (simp; done) | (simp; omega)) _ | refine Below.alloc ?_ (by first | omega | (simp; done) | (simp; omega)) _ | refine Below.drew ?_ | refine Below.trans ?_ (Below.mono ‹Below _ _ _› (by first | omega | (simp; done) | (simp; omega)))))
 ·rw [hr] at H1
  have hcf : cellsF t p s = cellsN t p := by simp [cellsF, hr]
  rw [hcf] at H2
  have HH1 := Lib.hid H1
  have HH2 := Lib.hid H2
  have hm : (m : Int) ≠ cellsN t p := h.resolve_left (by rw [hr]; simp)
  generalize cellsN t p = z at *
  have hmb : ((m : Int) != z) = true := by simpa using hm
  clear H1 H2 h hr hcf hm
  go_enter Tryz.func27, Tryz.ntmps27
  go_wp2_with fail
  refine (HH1.out _).mono ?_
  rintro e w1 ⟨rfl, ha⟩
  obtain ⟨hac, haf⟩ := bcell ha
  have haz0 : w.heap.size < w1.heap.size := by have := ha.size; first | omega | (simp at this; omega)
  go_wp2_with fail
  refine (HH2.out _).mono ?_
  rintro e w2 ⟨rfl, hb⟩
  obtain ⟨hbc, hbf⟩ := bcell hb
  have hbz0 : w1.heap.size ≤ w2.heap.size := by have := hb.size; first | omega | (simp at this; omega)
  go_wp2
  refine bodyPost_ret (v := .tuple #[.int .i64 1, .bool false]) (by simp [results, Tryz.results27, go_sem]) rfl ⟨rfl, ?_⟩
  (repeat (first | exact Below.refl _ _ | assumption | refine Below.setCell ?_ (by first | omega | (simp; done) | (simp; omega)) _ | refine Below.alloc ?_ (by first | omega | (simp; done) | (simp; omega)) _ | refine Below.drew ?_ | refine Below.trans ?_ (Below.mono ‹Below _ _ _› (by first | omega | (simp; done) | (simp; omega)))))
end
end Go.Proofs.YtnagdljgeglceaaGreat
/- the plain law of tiles: the program's answer is the document's, and what it keeps is the infos of all pages. -/
set_option linter.unusedSimpArgs false
set_option linter.unusedVariables false
namespace Go.Proofs.YtnagdljgeglceaaGreat
open Go.RowKit
section
variable {vs : List Int} {t : Int} {P : Nat}
def infoQ (vs : List Int) (t : Int) (q : Nat) : Int × Int × Int := (iK (gv vs t q 0), iL (gv vs t q 0), iC (gv vs t q 0))
def infoL (vs : List Int) (t : Int) (P : Nat) : List (Int × Int × Int) := (List.range P).map (infoQ vs t)
end
end Go.Proofs.YtnagdljgeglceaaGreat
/- the program's audit: lists (bins, racks). -/
set_option linter.unusedSimpArgs false
set_option linter.unusedVariables false
namespace Go.Proofs.YtnagdljgeglceaaGreat
open Go.RowKit
section
variable {b : Nat} {t p s : Int} {ad : Addr} {n c : Nat} {vs : List Int} {mb : Nat}
def bnB (al : List (Int × Int × Int)) (k : Int) (q : Nat) : Bool := (al.getD q (0, 0, 0)).1 == 1 && logF (al.getD q (0, 0, 0)).2.1 == k
/-- what a page's info, as the look has it, offers. -/
theorem AtR.at {w0 W : World} {g P : Nat} {al : List (Int × Int × Int)} (hA : AtR w0 b mb g P al ad W) {q : Nat} (hq : q < P) : ∃ K L C, al[q]? = some (K, L, C) ∧ W.cell? ⟨g, q * 3, none⟩ = some (.int .i64 K) ∧ W.cell? ⟨g, q * 3 + 1, none⟩ = some (.int .i64 L) ∧ W.cell? ⟨g, q * 3 + 2, none⟩ = some (.int .i64 C) := by
 have hpl := hA.row.1
 have hal : q < al.length := by have := partCells_len al; omega
 obtain ⟨⟨K, L, C⟩, hx⟩ : ∃ x, al[q]? = some x := ⟨_, List.getElem?_eq_getElem hal⟩
 obtain ⟨p0, p1, p2⟩ := partCells_at al q _ hx
 exact ⟨K, L, C, hx, (hA.row.cellAt (q * 3) (by omega)).trans p0, (hA.row.cellAt (q * 3 + 1) (by omega)).trans p1, (hA.row.cellAt (q * 3 + 2) (by omega)).trans p2⟩
/-- the pages that are met on the way of a list: how many, whether all is well, and all that were met. -/
def plL (f : Nat → Bool) (vs : List Int) (t : Int) (P : Nat) : Nat → Int → Int → Nat → List Nat → Nat × Bool × List Nat
 | 0, _, _, _, vis => (0, false, vis)
 | m + 1, q, ah, k, vis => if q = 0 then (k, true, vis) else if (P : Int) ≤ q - 1 ∨ (q - 1).toNat ∈ vis ∨ f (q - 1).toNat = false ∨ gv vs t (q - 1) 3 ≠ ah then (0, false, vis)
  else plL f vs t P m (gv vs t (q - 1) 2) q (k + 1) (vis ++ [(q - 1).toNat])
def mlOf (vis : List Nat) : List (Int × Int) := vis.map fun (q : Nat) => ((q : Int), (1 : Int))
end
end Go.Proofs.YtnagdljgeglceaaGreat
/- the program's audit: racks. -/
set_option linter.unusedSimpArgs false
set_option linter.unusedVariables false
namespace Go.Proofs.YtnagdljgeglceaaGreat
open Go.RowKit
section
variable {b : Nat} {t p s : Int} {ad : Addr} {n c : Nat} {vs : List Int} {mb : Nat}
def rkB (vs : List Int) (t : Int) (al : List (Int × Int × Int)) (k : Int) (q : Nat) : Bool := (al.getD q (0, 0, 0)).1 == 3 && (al.getD q (0, 0, 0)).2.2 == k && !(gv vs t q 5 == 2 ^ (slotsF (al.getD q (0, 0, 0)).2.2).toNat - 1)
end
end Go.Proofs.YtnagdljgeglceaaGreat
/- the program's audit: bins and racks. -/
set_option linter.unusedSimpArgs false
set_option linter.unusedVariables false
namespace Go.Proofs.YtnagdljgeglceaaGreat
open Go.RowKit
section
variable {b : Nat} {t p s : Int} {ad : Addr} {n c : Nat} {vs : List Int} {mb : Nat}
/-- one list's way, from the pages that were met before. -/
def wayN (hd : Nat) (f : Nat → Nat → Bool) (vs : List Int) (t : Int) (P : Nat) (vis : List Nat) (k : Nat) : Nat × Bool × List Nat := plL (f k) vs t P (P + 1 - vis.length) (vs.getD (hd + k) 0) 0 0 vis
def visN (hd : Nat) (f : Nat → Nat → Bool) (vs : List Int) (t : Int) (P : Nat) (vis : List Nat) : Nat → List Nat
 | 0 => vis
 | k + 1 => (wayN hd f vs t P (visN hd f vs t P vis k) k).2.2
end
end Go.Proofs.YtnagdljgeglceaaGreat
/- the plain law of bins, racks and loose. -/
set_option linter.unusedSimpArgs false
set_option linter.unusedVariables false
namespace Go.Proofs.YtnagdljgeglceaaGreat
open Go.RowKit

section
variable {vs : List Int} {t : Int} {P hd : Nat} {F : Nat → Nat → Bool} {vis0 : List Nat}
end
section
variable {vs : List Int} {t : Int} {P : Nat}
abbrev bnF (vs : List Int) (t : Int) (P : Nat) : Nat → Nat → Bool := fun k => bnB (infoL vs t P) (k : Int)
abbrev rkF (vs : List Int) (t : Int) (P : Nat) : Nat → Nat → Bool := fun k => rkB vs t (infoL vs t P) (k : Int)
end
end Go.Proofs.YtnagdljgeglceaaGreat
/- regions that draw, in a round of a range over a function; the iterator over spans. -/
set_option linter.unusedSimpArgs false
set_option linter.unusedVariables false
namespace Go.Proofs.YtnagdljgeglceaaGreat
open Go.RowKit
attribute [local go_sem] Oper.semAt_some

/-- the post of a way on alone. -/
def Only (Q : Exit → Act → World → Prop) : Exit → Act → World → Prop
 | .normal, a, w => Q .normal a w
 | _, _, _ => False
theorem Only.normal {Q : Exit → Act → World → Prop} {a : Act} {w : World} (h : Q .normal a w) : Only Q .normal a w := h
theorem Only.imp {Q : Exit → Act → World → Prop} : ∀ (e : Exit) (a : Act) (w : World), Only Q e a w → Q e a w := fun e a w h => by
 cases e <;> first | exact h | exact (h : False).elim
section
variable {P : Program} {ops : Array Oper} {Q : Exit → Act → World → Prop} {md : Region.Mode} {l n : Nat}
end
/-- a body that calls keeps what is no cells. -/
theorem Below.from {W W' : World} (h : Below W.heap.size W W') (B : Nat) : KeepsFrom B W W' :=
 ⟨h.size, fun k o _ hk _ => (h.block k (Array.getElem?_eq_some_iff.1 hk).1).trans hk⟩

section
variable {P : Nat}
end
end Go.Proofs.YtnagdljgeglceaaGreat
/- the program's audit: apart. -/
set_option linter.unusedSimpArgs false
set_option linter.unusedVariables false
namespace Go.Proofs.YtnagdljgeglceaaGreat
open Go.RowKit
attribute [local go_sem] Oper.semAt_some

/-- the cells of a row of infos. -/
theorem AtR.cells {w0 : World} {b mb g P : Nat} {al : List (Int × Int × Int)} {ad : Addr} {W : World} (h : AtR w0 b mb g P al ad W) : ∀ k x, al[k]? = some x → W.cell? ⟨g, k * 3, none⟩ = some (.int .i64 x.1) ∧ W.cell? ⟨g, k * 3 + 1, none⟩ = some (.int .i64 x.2.1) ∧ W.cell? ⟨g, k * 3 + 2, none⟩ = some (.int .i64 x.2.2) := fun k x hx => by
 obtain ⟨p0, p1, p2⟩ := partCells_at al k x hx
 have hpl := h.row.1
 have hal : k < al.length := (List.getElem?_eq_some_iff.1 hx).1
 have hl := partCells_len al
 exact ⟨(h.row.cellAt (k * 3) (by omega)).trans p0, (h.row.cellAt (k * 3 + 1) (by omega)).trans p1, (h.row.cellAt (k * 3 + 2) (by omega)).trans p2⟩
theorem AtR.len {w0 : World} {b mb g P : Nat} {al : List (Int × Int × Int)} {ad : Addr} {W : World} (h : AtR w0 b mb g P al ad W) : al.length = P := by
 have hpl := h.row.1
 have hl := partCells_len al
 omega
/-- a loop variable's box. -/
def InfoAt (W : World) (B : Nat) (x : Nat × Int × Int × Int) : Prop := W.heap[B]? = some (.cells #[.int .i64 x.2.1, .int .i64 x.2.2.1, .int .i64 x.2.2.2] 73)
theorem InfoAt.own {n : Nat} {B : Nat} {x : Nat × Int × Int × Int} : OwnFrom n (fun (_ : Unit) W => InfoAt W B x) := fun _ X Y row hs hg hr => by
 refine (hg.block B (Array.getElem?_eq_some_iff.1 hs).1 (fun e => ?_)).trans hs
 obtain ⟨_, o, ho, hc⟩ := hr B e.symm
 rw [show X.heap[B]? = _ from hs] at ho
 cases ho
 cases hc
theorem InfoAt.cell {W : World} {B : Nat} {x : Nat × Int × Int × Int} (h : InfoAt W B x) : W.cell? ⟨B, 0, none⟩ = some (.int .i64 x.2.1) ∧ W.cell? ⟨B, 1, none⟩ = some (.int .i64 x.2.2.1) ∧ W.cell? ⟨B, 2, none⟩ = some (.int .i64 x.2.2.2) :=
 ⟨cell?_of_heap h, cell?_of_heap h, cell?_of_heap h⟩
section
variable {b : Nat} {t s : Int} {ad : Addr} {n c : Nat} {vs : List Int} {mb : Nat}
end
end Go.Proofs.YtnagdljgeglceaaGreat
/- the program's audit: feet. -/
set_option linter.unusedSimpArgs false
set_option linter.unusedVariables false
namespace Go.Proofs.YtnagdljgeglceaaGreat
open Go.RowKit
attribute [local go_sem] Oper.semAt_some

theorem made_u32 (N : Nat) : madeCells #[.int .u32 0] N = (uints (List.replicate N 0)).toArray := by
 apply Array.ext'
 simp [madeCells, uints, Nat.mod_one]
 exact List.eq_replicate_iff.2 ⟨by simp, by simp⟩
def WtAt (W : World) (g : Nat) (ws : List Int) : Prop := W.heap[g]? = some (.cells (uints ws).toArray 41)
theorem WtAt.own {β : Type} {n : Nat} {g : Nat} {f : β → List Int} : OwnFrom n (fun (x : β) W => WtAt W g (f x)) := fun x X Y row hs hg hr => by
 refine (hg.block g (Array.getElem?_eq_some_iff.1 hs).1 (fun e => ?_)).trans hs
 obtain ⟨_, o, ho, hc⟩ := hr g e.symm
 rw [show X.heap[g]? = _ from hs] at ho
 cases ho
 cases hc
theorem WtAt.lt {W : World} {g : Nat} {ws : List Int} (h : WtAt W g ws) : g < W.heap.size := (Array.getElem?_eq_some_iff.1 h).1
theorem WtAt.alloc {W : World} {g : Nat} {ws : List Int} (h : WtAt W g ws) (o : Obj) : WtAt (W.alloc o) g ws := (Below.heap_alloc _ _ _ h.lt).trans h
theorem WtAt.cell {W : World} {g : Nat} {ws : List Int} (h : WtAt W g ws) {k : Nat} (hk : k < ws.length) : W.cell? ⟨g, k, none⟩ = some (.int .u32 (ws.getD k 0)) := by
 refine (cell?_of_heap h).trans ?_
 rw [List.getElem?_toArray]
 unfold uints
 rw [List.getElem?_map, List.getElem?_eq_getElem hk, List.getD_eq_getElem?_getD, List.getElem?_eq_getElem hk]
 rfl
theorem WtAt.frozen {W : World} {g : Nat} {ws : List Int} (h : WtAt W g ws) (k : Nat) : W.frozen? ⟨g, k, none⟩ = false := frozen?_of_heap h
theorem WtAt.set {W : World} {g : Nat} {ws : List Int} (h : WtAt W g ws) (k : Nat) (x : Int) : WtAt (W.setCell ⟨g, k, none⟩ (.int .u32 x)) g (ws.set k x) := by
 refine (heap_setCell_same h).trans ?_
 unfold uints
 simp [List.map_set]
theorem WtAt.keep {W W' : World} {g : Nat} {ws : List Int} (h : WtAt W g ws) (hb : Below W.heap.size W W') : WtAt W' g ws := (hb.block g h.lt).trans h
section
variable {b : Nat} {t s : Int} {ad : Addr} {n c : Nat} {vs : List Int} {mb : Nat}
end
end Go.Proofs.YtnagdljgeglceaaGreat
/- the program's audit: counts. -/
set_option linter.unusedSimpArgs false
set_option linter.unusedVariables false
namespace Go.Proofs.YtnagdljgeglceaaGreat
open Go.RowKit
attribute [local go_sem] Oper.semAt_some

theorem Boxed.keepB {W W' : World} {B : Nat} {t : TypeId} {v : Value} (h : Boxed W B t v) (hb : Below W.heap.size W W') : Boxed W' B t v := (hb.block B h.lt).trans h
section
variable {b : Nat} {t s : Int} {ad : Addr} {n c : Nat} {vs : List Int} {mb : Nat}
end
end Go.Proofs.YtnagdljgeglceaaGreat
/- the program's audit: parts. -/
set_option linter.unusedSimpArgs false
set_option linter.unusedVariables false
namespace Go.Proofs.YtnagdljgeglceaaGreat
open Go.RowKit
attribute [local go_sem] Oper.semAt_some

/-- a box holds a row of parts of the call's own. -/
def OutIs (W : World) (n0 B : Nat) (l : List (Int × Int × Int)) : Prop := ∃ v, Boxed W B 87 v ∧ W.ownsRow 0 91 3 v l.length (partCells l) ∧ ∀ k, v.ownBlock = some k → n0 ≤ k
theorem row_isCells {w : World} {e sz n : Nat} {v : Value} {xs : List Value} (h : w.ownsRow 0 e sz v n xs) {k : Nat} (hk : v.ownBlock = some k) : ∃ o : Obj, w.heap[k]? = some o ∧ o.isCells = true := by
 rcases h.2 with ⟨rfl, -⟩ | ⟨g', cap, cur', rfl, -, hg', -⟩
 ·simp [Value.ownBlock] at hk
 ·simp [Value.ownBlock] at hk
  subst hk
  exact ⟨_, hg', rfl⟩
theorem row_other {X Y : World} {row : Option Nat} {e sz n : Nat} {v : Value} {xs : List Value} (h : X.ownsRow 0 e sz v n xs) (hg : X.grownBy Y row) (hr : ∀ r, row = some r → ∃ o : Obj, X.heap[r]? = some o ∧ o.isCells = false) : Y.ownsRow 0 e sz v n xs :=
 ownsRow_block h fun k hk => hg.block k (ownsRow_lt h hk) fun e => by
  obtain ⟨o, ho, hc⟩ := hr k e.symm
  obtain ⟨o', ho', hc'⟩ := row_isCells h hk
  rw [ho] at ho'
  cases ho'
  rw [hc] at hc'
  cases hc'
theorem OutIs.own {β : Type} {n n0 B : Nat} {f : β → List (Int × Int × Int)} : OwnFrom n (fun (x : β) W => OutIs W n0 B (f x)) := fun x X Y row hs hg hr => by
 obtain ⟨v, h1, h2, h3⟩ := hs
 refine ⟨v, ?_, row_other h2 hg (fun r e => (hr r e).2), h3⟩
 exact (Own.from (boxed_own B 87 (fun _ : Unit => v)) n) () X Y row h1 hg hr
theorem OutIs.lt {W : World} {n0 B : Nat} {l : List (Int × Int × Int)} (h : OutIs W n0 B l) : B < W.heap.size := by obtain ⟨v, h1, -⟩ := h; exact h1.lt
theorem OutIs.alloc {W : World} {n0 B : Nat} {l : List (Int × Int × Int)} (h : OutIs W n0 B l) (o : Obj) : OutIs (W.alloc o) n0 B l := by
 obtain ⟨v, h1, h2, h3⟩ := h
 exact ⟨v, h1.alloc _, h2.alloc o, h3⟩
section
variable {b : Nat} {t s : Int} {ad : Addr} {n c : Nat} {vs : List Int} {mb : Nat}
end
end Go.Proofs.YtnagdljgeglceaaGreat
/- the program's audit: see. -/
set_option linter.unusedSimpArgs false
set_option linter.unusedVariables false
namespace Go.Proofs.YtnagdljgeglceaaGreat
open Go.RowKit

/-- the rules, in their order. -/
def ruleB (vs : List Int) (t s : Int) (P : Nat) : Nat → Bool
 | 1 => tilesF vs t P
 | 2 => feetF vs t P
 | 3 => apartF vs t P
 | 4 => slotsAll vs t P
 | 5 => binsF vs t P
 | 6 => racksF vs t P
 | 7 => looseF vs t P
 | 8 => countsF vs t P
 | 9 => rootsF vs t P s
 | _ => true
/-- the pages that were met in lists. -/
def visK (vs : List Int) (t : Int) (P k : Nat) : List Nat :=
 if k ≤ 5 then [] else if k = 6 then visN 2 (bnF vs t P) vs t P [] 11 else visN 13 (rkF vs t P) vs t P (visN 2 (bnF vs t P) vs t P [] 11) 9
def fnC (b : Nat) : Array Value := #[.func (.func 131) #[.pointer (some ⟨b, 0, none⟩)] #[], .func (.func 132) #[.pointer (some ⟨b, 0, none⟩)] #[], .func (.func 133) #[.pointer (some ⟨b, 0, none⟩)] #[], .func (.func 134) #[.pointer (some ⟨b, 0, none⟩)] #[], .func (.func 135) #[.pointer (some ⟨b, 0, none⟩)] #[], .func (.func 136) #[.pointer (some ⟨b, 0, none⟩)] #[], .func (.func 137) #[.pointer (some ⟨b, 0, none⟩)] #[], .func (.func 138) #[.pointer (some ⟨b, 0, none⟩)] #[], .func (.func 139) #[.pointer (some ⟨b, 0, none⟩)] #[], .func (.func 140) #[.pointer (some ⟨b, 0, none⟩)] #[]]
/-- how things stand ahead of rule k + 1. -/
structure SeeSt (w : World) (b mb R : Nat) (t s : Int) (P : Nat) (ad : Addr) (n c : Nat) (vs : List Int) (k : Nat) (wr : World) : Prop where
 st : if k ≤ 1 then LS w b t P s ad n c vs (.slice none 0 0) mb [] wr else ∃ g, LS w b t P s ad n c vs (.slice (some ⟨g, 0, none⟩) P P) mb (mlOf (visK vs t P k)) wr ∧ AtR w b mb g P (infoL vs t P) ad wr
 fn : wr.heap[R]? = some (.cells (fnC b) 28)
 ok : allN (ruleB vs t s P) k = true
 n1 : R ≠ b
 n2 : R ≠ mb
 ge : w.heap.size ≤ R
 old : ad.block < w.heap.size
section
variable {w : World} {b mb R : Nat} {t s : Int} {P : Nat} {ad : Addr} {n c : Nat} {vs : List Int} {k : Nat} {wr W' : World}
theorem SeeSt.bel (h : SeeSt w b mb R t s P ad n c vs k wr) : Below w.heap.size w wr := by
 have h1 := h.st
 split at h1
 ·exact h1.bs.bel
 ·obtain ⟨g, h2, -⟩ := h1
  exact h2.bs.bel
theorem SeeSt.at (h : SeeSt w b mb R t s P ad n c vs k wr) (hk : 2 ≤ k) : ∃ g, LS w b t P s ad n c vs (.slice (some ⟨g, 0, none⟩) P P) mb (mlOf (visK vs t P k)) wr ∧ AtR w b mb g P (infoL vs t P) ad wr := by
 have h1 := h.st
 rw [if_neg (by omega)] at h1
 exact h1
end
end Go.Proofs.YtnagdljgeglceaaGreat
/- the program's audit: Check, Parts, Live. -/
set_option linter.unusedSimpArgs false
set_option linter.unusedVariables false
namespace Go.Proofs.YtnagdljgeglceaaGreat
open Go.RowKit
section
variable {w : World} {t p s : Int}
end
section
variable {w : World} {t s : Int} {P : Nat} {ad : Addr} {n : Nat} {vs : List Int}
theorem XV.old (h : XV w t P s ad n vs) : ad.block < w.heap.size := by
 have hn := h.bd
 have := World.block_lt_of_cell? _ _ (h.cells 0 (by omega))
 rwa [add_block] at this
end
end Go.Proofs.YtnagdljgeglceaaGreat
/- the document's audit: Sound, Live, Parts, State of values that are a heap. -/
set_option linter.unusedSimpArgs false
set_option linter.unusedVariables false
namespace Go.Proofs.YtnagdljgeglceaaGreat
open Go.RowKit
section
variable {t p s : Int} {ad : Addr} {n c : Nat} {vs : List Int}

theorem rsound_any (c : Nat) (w : World) (h : XV w t p s ad n vs) :
 Calls Tryz.prog 8 #[.agg #[.int .i64 t, .int .i64 p, .int .i64 s], .slice (some ad) n c] w fun e w' => e = .returned (.bool (chkF vs t p s).2) ∧ Below w.heap.size w w' := by
 have H := Lib.hid (fun w (h : XV w t p s ad n vs) => rcheck_any c w h)
 have h2 := h.keep ((Below.refl _ _).alloc (Nat.le_refl _) (.cells #[.int .i64 t, .int .i64 p, .int .i64 s] 23))
 have HV := Lib.hid h
 have HV2 := Lib.hid h2
 generalize chkF vs t p s = r at *
 clear h h2
 go_enter Tryz.func8, Tryz.ntmps8
 go_wp2_with fail
 refine (H.out _ (by first | exact HV.out | exact HV2.out)).mono ?_
 rintro e w1 ⟨rfl, hb⟩
 go_wp2
 go_ret
 refine ⟨rfl, ?_⟩
 (repeat (first | exact Below.refl _ _ | assumption | refine Below.setCell ?_ (by first | omega | (simp; done) | (simp; omega)) _ | refine Below.alloc ?_ (by first | omega | (simp; done) | (simp; omega)) _ | refine Below.drew ?_ | refine Below.trans ?_ (Below.mono ‹Below _ _ _› (by first | omega | (simp; done) | (simp; omega)))))

def rootV (vs : List Int) (k i : Nat) : Value := .int .i64 (if i < k then vs.getD (22 + i) 0 else 0)
def stateC (lv : Value) (vs : List Int) (k : Nat) : Array Value := #[lv, rootV vs k 0, rootV vs k 1, rootV vs k 2, rootV vs k 3, rootV vs k 4, rootV vs k 5, rootV vs k 6, rootV vs k 7]
structure StateR (w : World) (l : List (Int × Int)) (v : Value) (vs : List Int) (g : Nat) (wr : World) (k : Nat) : Prop where
 le : k ≤ 8
 box : BA w [w.heap.size + 1, w.heap.size] g (stateC v vs k) 36 wr
 res : wr.heap[w.heap.size + 1]? = some (.cells #[.slice none 0 0, .int .i64 0, .int .i64 0, .int .i64 0, .int .i64 0, .int .i64 0, .int .i64 0, .int .i64 0, .int .i64 0] 36)
 row : wr.ownsRow 0 86 2 v l.length (blockCells l)
 far : ∀ k, v.ownBlock = some k → w.heap.size + 2 ≤ k ∧ k < g
theorem StateR.below {w wr w' : World} {l : List (Int × Int)} {v : Value} {g k : Nat} (h : StateR w l v vs g wr k) (hb : Below wr.heap.size wr w') : StateR w l v vs g w' k := by
 obtain ⟨h1, h2, h3, h4, h5⟩ := h
 refine ⟨h1, ⟨h2.bs.below hb, (hb.block g (h2.bs.ls g (by simp)).1).trans h2.box, h2.ne⟩, (hb.block _ (h2.bs.ls (w.heap.size + 1) (by simp)).1).trans h3, ((BS.start _).below hb).row h4, h5⟩
theorem stateC_step (v : Value) (vs : List Int) (k : Nat) (hk : k < 8) : (stateC v vs k).setIfInBounds (1 + k) (.int .i64 (vs.getD (22 + k) 0)) = stateC v vs (k + 1) := by
 rcases (by omega : k = 0 ∨ k = 1 ∨ k = 2 ∨ k = 3 ∨ k = 4 ∨ k = 5 ∨ k = 6 ∨ k = 7) with rfl | rfl | rfl | rfl | rfl | rfl | rfl | rfl <;> simp [stateC, rootV]
theorem StateR.step {w wr : World} {l : List (Int × Int)} {v : Value} {g k : Nat} (h : StateR w l v vs g wr k) (hk : k < 8) : StateR w l v vs g (wr.setCell ⟨g, 1 + k, none⟩ (.int .i64 (vs.getD (22 + k) 0))) (k + 1) := by
 obtain ⟨h1, h2, h3, h4, h5⟩ := h
 refine ⟨by omega, ?_, h2.hloc (by simp) _ _ h3, ownsRow_block h4 (fun b hb => heap_setCell_other (by have := h5 b hb; omega)), h5⟩
 have := h2.set (1 + k) (.int .i64 (vs.getD (22 + k) 0))
 rwa [stateC_step v vs k hk] at this
end
end Go.Proofs.YtnagdljgeglceaaGreat
/- the laws of the audit: the page's example; Few; the same parts; values among the arguments. -/
set_option linter.unusedSimpArgs false
set_option linter.unusedVariables false
namespace Go.Proofs.YtnagdljgeglceaaGreat
open Go.ChangeShapes Go.RowKit

theorem few12_any (t p s : Int) (w : World) :
 Calls Tryz.prog 7 #[.agg #[.int .i64 t, .int .i64 p, .int .i64 s]] w fun e w' => e = .returned (.bool (decide (p ≤ 64))) ∧ Below w.heap.size w w' := by
 go_enter Tryz.func7, Tryz.ntmps7
 go_wp2
 go_ret
 refine ⟨rfl, ?_⟩
 (repeat (first | exact Below.refl _ _ | assumption | refine Below.setCell ?_ (by first | omega | (simp; done) | (simp; omega)) _ | refine Below.alloc ?_ (by first | omega | (simp; done) | (simp; omega)) _ | refine Below.drew ?_ | refine Below.trans ?_ (Below.mono ‹Below _ _ _› (by first | omega | (simp; done) | (simp; omega)))))
section
variable {H : Type} {enc : TypeId × Value → H} {w : World} {base : Nat} {spare : Nat → Bool} {held : Bool}
theorem rd12_u32 {fuel : Nat} {cs : List Value} {x : DataW H × List MemPlace} (h : DataW.trod enc Tryz.prog w base spare held fuel 24 cs = some x) :
 ∃ v vals, cs = [v] ∧ Rd w v 1 vals.length (uints vals) ∧ ∀ u ∈ vals, VS.U32 u := by
 rcases open_ints Tryz.underlying24 Tryz.underlying41 (by kernel_rfl) h with ⟨rfl, -⟩ | ⟨a, len, cap, zs, rfl, -, hl, -, hz, -, hc, hw⟩
 ·exact ⟨_, [], rfl, ⟨rfl, Or.inl ⟨rfl, rfl⟩⟩, by simp⟩
 ·have hle : len ≤ zs.length := by rw [hz]; split <;> omega
  have e : (zs.take len).length = len := by simp; omega
  refine ⟨_, zs.take len, rfl, ⟨by simp [uints], Or.inr ⟨a, cap, by rw [e], ?_⟩⟩, ?_⟩
  ·intro j u hj
   have hjl : j < len := by
    have := (List.getElem?_eq_some_iff.1 hj).1
    simp [uints] at this; omega
   rw [hc j (by omega), ← hj]
   simp [uints, hjl, show j < zs.length by omega]
  ·intro u hu
   have := hw u (List.mem_of_mem_take hu)
   simp [Lit.wf] at this
   have e1 : IntKind.u32.min = 0 := by decide
   have e2 : IntKind.u32.max = 4294967295 := by decide
   exact ⟨by omega, by omega⟩
end
theorem rd12_len {w : World} {v : Value} {sz n : Nat} {xs : List Value} (h : Rd w v sz n xs) : ∃ a c, v = .slice a n c := by
 rcases h.2 with ⟨rfl, rfl⟩ | ⟨ad, c, rfl, -⟩
 ·exact ⟨_, _, rfl⟩
 ·exact ⟨_, _, rfl⟩
theorem Rd.keepB {w w' : World} {v : Value} {sz n : Nat} {xs : List Value} (h : Rd w v sz n xs) (hb : Below w.heap.size w w') : Rd w' v sz n xs :=
 ⟨h.1, h.2.imp id fun ⟨ad, c, e, hc⟩ => ⟨ad, c, e, fun j u hj => (hb.cell (World.block_lt_of_cell? _ _ (hc j u hj))).trans (hc j u hj)⟩⟩
/-- values that are as many as there must be. -/
theorem Rd.xv {w : World} {v : Value} {vals : List Int} {t p s : Int} (h : Rd w v 1 vals.length (uints vals)) (hu : ∀ u ∈ vals, VS.U32 u) (hr : rightB t p s = true) (hp : p ≤ 64) (hn : (vals.length : Int) = cellsN t p) :
 ∃ ad c, v = .slice (some ad) vals.length c ∧ XV w t p s ad vals.length vals := by
 have bd := right_bd hr
 rcases h.2 with ⟨-, h0⟩ | ⟨ad, c, rfl, hc⟩
 ·unfold cellsN at hn; omega
 ·refine ⟨ad, c, rfl, hr, hp, rfl, by rw [hn]; rfl, hu, fun k hk => hc k _ ?_⟩
  simp [uints, hk]

end Go.Proofs.YtnagdljgeglceaaGreat
/- the document's view: Writes, Pairs, Same. -/
set_option linter.unusedSimpArgs false
set_option linter.unusedVariables false
namespace Go.Proofs.YtnagdljgeglceaaGreat
open Go.RowKit

theorem pairCells_take {l : List (Nat × Int)} {k i : Nat} {v : Int} (h : l[k]? = some (i, v)) : pairCells (l.take (k + 1)) = pairCells (l.take k) ++ [.int .i64 i, .int .u32 v] := by
 rw [List.take_add_one, h]
 simp [pairCells]

theorem wix_at : ∀ {l : List (Nat × Int)} {k i : Nat} {v : Int}, (l.map (·.1)).Nodup → l[k]? = some (i, v) → wix l i = some k := by
 intro l k i v hnd hk
 cases hw : wix l i with
 | none => exact absurd (List.mem_map.2 ⟨(i, v), List.mem_of_getElem? hk, rfl⟩) (wix_none.1 hw)
 | some j =>
  obtain ⟨h1, u, h2⟩ := wix_some hw
  have hk' : k < l.length := (List.getElem?_eq_some_iff.1 hk).1
  have e1 : (l.map (·.1))[j]'(by simpa using h1) = i := (List.getElem?_eq_some_iff.1 (show (l.map (·.1))[j]? = some i by simp [h2])).2
  have e2 : (l.map (·.1))[k]'(by simpa using hk') = i := (List.getElem?_eq_some_iff.1 (show (l.map (·.1))[k]? = some i by simp [hk])).2
  have hp := List.pairwise_iff_getElem.1 hnd
  rcases Nat.lt_trichotomy j k with hjk | hjk | hjk
  ·exact absurd (e1.trans e2.symm) (hp j k _ _ hjk)
  ·rw [hjk]
  ·exact absurd (e2.trans e1.symm) (hp k j _ _ hjk)

def WrRel (w : World) (s : VS) (v3 v4 : Value) (wr : World) : Prop := ∃ k : Nat, k ≤ s.writes.length ∧ v4 = .int .i64 k ∧ wr.ownsRow 0 84 2 v3 k (pairCells (s.writes.take k)) ∧ (∀ j, v3.ownBlock = some j → w.heap.size ≤ j) ∧ Below w.heap.size w wr

set_option maxRecDepth 100000 in
theorem rwrites_any (b : Nat) (w : World) (S : Nat → Prop) (s : VS) (h : RV w b S s) :
 Calls Tryz.prog 58 #[.pointer (some ⟨b, 0, none⟩)] w (CloneP w 84 2 s.writes.length (pairCells s.writes)) := by
 obtain ⟨kv, vv, iv, tv, rv, wv, all, hv⟩ := h
 have hlen := hv.inv.writes_le
 have hsm := hv.inv.small
 obtain ⟨pw, cw, rfl⟩ := row_shape hv.wr
 have h6 := hv.cell 6
 simp at h6
 have hb := World.block_lt_of_cell? w _ h6
 simp at hb
 have HV := Lib.hid hv
 obtain ⟨i0, hi0, hi1, hi2, hi3⟩ := info_parts infoPair
 have HI := Lib.hid (And.intro hi0 (And.intro hi1 (And.intro hi2 hi3)))
 clear hv hi0 hi1 hi2 hi3
 go_enter Tryz.func58, Tryz.ntmps58
 go_wp2_with fail
 go_loopw [3, 4] (fun v3 v4 wr => WrRel w s v3 v4 wr) (fun _ v4 _ => s.writes.length - (intOf v4).toNat)
 case atStart =>
  refine ⟨0, Nat.zero_le _, rfl, by simpa [pairCells] using row_empty w _ 2, ?_, (Below.refl _ _).alloc (Nat.le_refl _) _⟩
  intro j hj; simp [Value.ownBlock] at hj; omega
 case round =>
  obtain ⟨k, hk, rfl, hrow, hnew, hbel⟩ := hrel
  obtain ⟨pa, pc, rfl⟩ := row_shape hrow
  have hz := hbel.size
  have e6 := (hbel.cell (p := ⟨b, 6, none⟩) hb).trans h6
  have HR := Lib.hid hrow
  have HN := Lib.hid hnew
  have HB := Lib.hid hbel
  clear hrow hnew hbel
  by_cases hlt : k < s.writes.length
  ·have hv := HV.out
   obtain ⟨⟨i, v⟩, hiv⟩ : ∃ p, s.writes[k]? = some p := ⟨_, List.getElem?_eq_getElem hlt⟩
   have hin : i < s.n := hv.inv.wlt _ (List.mem_of_getElem? hiv)
   obtain ⟨gw, cw', hpw⟩ := Joins.ownsRow_form hv.wr (by omega)
   simp only [Value.slice.injEq] at hpw
   obtain ⟨rfl, -, rfl⟩ := hpw
   obtain ⟨gt, ct, rfl⟩ := Joins.ownsRow_form hv.tr (by omega)
   have q4 := hv.cell 4
   simp at q4
   have qw : w.cell? ⟨gw, k, none⟩ = some (.int .i64 i) := by rw [hv.wr.cellAt k (by omega)]; simp [intCells, hiv]
   have qt : w.cell? ⟨gt, i, none⟩ = some (.int .u32 v) := by
    rw [hv.tr.cellAt i (by omega), rowF_get _ hin]
    have : s.wr i = some v := by rw [VS.wr, wix_at hv.inv.wnd hiv]; simp [hiv]
    simp [toF, this]
   have F4 : ∀ w', Below w.heap.size w w' → w'.cell? ⟨b, 6, none⟩ = some (.slice (some ⟨gw, 0, none⟩) s.writes.length cw) ∧ w'.cell? ⟨gw, k, none⟩ = some (.int .i64 i) ∧ w'.cell? ⟨b, 4, none⟩ = some (.slice (some ⟨gt, 0, none⟩) s.n ct) ∧ w'.cell? ⟨gt, i, none⟩ = some (.int .u32 v) :=
    fun w' hb' => ⟨(hb'.cell (World.block_lt_of_cell? w _ h6)).trans h6, (hb'.cell (World.block_lt_of_cell? w _ qw)).trans qw, (hb'.cell (World.block_lt_of_cell? w _ q4)).trans q4, (hb'.cell (World.block_lt_of_cell? w _ qt)).trans qt⟩
   have H4 := Lib.hid F4
   have HP := Lib.hid hiv
   clear hv hiv F4 q4 qw qt
   go_wp2
   refine wp_region_noPanic ?_
   refine wp_region_held_drew (S := fun w' => w'.cell? ⟨b, 6, none⟩ = some (.slice (some ⟨gw, 0, none⟩) s.writes.length cw) ∧ w'.cell? ⟨gw, k, none⟩ = some (.int .i64 i) ∧ w'.cell? ⟨b, 4, none⟩ = some (.slice (some ⟨gt, 0, none⟩) s.n ct) ∧ w'.cell? ⟨gt, i, none⟩ = some (.int .u32 v)) (by kernel_rfl) ?_ (fun hHeld => ?_)
   ·exact H4.out _ HB.out.drew
   refine wpAnyH_take (i := 0) (oi := _) (v := ?_) rfl (by kernel_rfl) (by kernel_rfl) (by kernel_rfl) (fun _ _ _ h => h) (Or.inl ⟨by rfl, ?_⟩) (by assumption) ?_
   rotate_left
   ·intro w hSw; (try dsimp only at hSw); go_simp; try with_reducible rfl
   try simp only [Act.put, zA, zB, zD, zE, zF]
   refine wpAnyH_take (i := 1) (oi := _) (v := ?_) rfl (by kernel_rfl) (by kernel_rfl) (by kernel_rfl) (fun _ _ _ h => h) (Or.inl ⟨by rfl, ?_⟩) (by assumption) ?_
   rotate_left
   ·intro w hSw; (try dsimp only at hSw); go_simp; try with_reducible rfl
   try simp only [Act.put, zA, zB, zC, zD, zE, zF]
   refine wpAnyH_take (i := 2) (oi := _) (v := ?_) rfl (by kernel_rfl) (by kernel_rfl) (by kernel_rfl) (fun _ _ _ h => h) (Or.inl ⟨by rfl, ?_⟩) (by assumption) ?_
   rotate_left
   ·intro w hSw; (try dsimp only at hSw); go_simp; try with_reducible rfl
   try simp only [Act.put, zA, zB, zC, zD, zE, zF]
   refine wpAnyH_take (i := 3) (oi := _) (v := ?_) rfl (by kernel_rfl) (by kernel_rfl) (by kernel_rfl) (fun _ _ _ h => h) (Or.inl ⟨by rfl, ?_⟩) (by assumption) ?_
   rotate_left
   ·intro w hSw; (try dsimp only at hSw); go_simp; try with_reducible rfl
   try simp only [Act.put, zA, zB, zC, zD, zE, zF]
   refine wpAnyH_take (i := 4) (oi := _) (v := ?_) rfl (by kernel_rfl) (by kernel_rfl) (by kernel_rfl) (fun _ _ _ h => h) (Or.inl ⟨by rfl, ?_⟩) (by assumption) ?_
   rotate_left
   ·intro w hSw; (try dsimp only at hSw); go_simp; try with_reducible rfl
   try simp only [Act.put, zA, zB, zC, zD, zE, zF]
   refine wpAnyH_take (i := 5) (oi := _) (v := ?_) rfl (by kernel_rfl) (by kernel_rfl) (by kernel_rfl) (fun _ _ _ h => h) (Or.inl ⟨by rfl, ?_⟩) (by assumption) ?_
   rotate_left
   ·intro w hSw; (try dsimp only at hSw); go_simp; try with_reducible rfl
   try simp only [Act.put, zA, zB, zC, zD, zE, zF]
   refine wpAnyH_take (i := 6) (oi := _) (v := ?_) rfl (by kernel_rfl) (by kernel_rfl) (by kernel_rfl) (fun _ _ _ h => h) (Or.inl ⟨by rfl, ?_⟩) (by assumption) ?_
   rotate_left
   ·intro w hSw; (try dsimp only at hSw); go_simp; try with_reducible rfl
   try simp only [Act.put, zA, zB, zC, zD, zE, zF]
   refine wpAnyH_take (i := 7) (oi := _) (v := ?_) rfl (by kernel_rfl) (by kernel_rfl) (by kernel_rfl) (fun _ _ _ h => h) (Or.inl ⟨by rfl, ?_⟩) (by assumption) ?_
   rotate_left
   ·intro w hSw; (try dsimp only at hSw); go_simp; try with_reducible rfl
   try simp only [Act.put, zA, zB, zC, zD, zE, zF]
   refine wpAnyH_take (i := 8) (oi := _) (v := ?_) rfl (by kernel_rfl) (by kernel_rfl) (by kernel_rfl) (fun _ _ _ h => h) (Or.inl ⟨by rfl, ?_⟩) (by assumption) ?_
   rotate_left
   ·intro w hSw; (try dsimp only at hSw); go_simp; try with_reducible rfl
   try simp only [Act.put, zA, zB, zC, zD, zE, zF]
   refine wpAnyH_take (i := 9) (oi := _) (v := ?_) rfl (by kernel_rfl) (by kernel_rfl) (by kernel_rfl) (fun _ _ _ h => h) (Or.inl ⟨by rfl, ?_⟩) (by assumption) ?_
   rotate_left
   ·intro w hSw; (try dsimp only at hSw); go_simp; try with_reducible rfl
   try simp only [Act.put, zA, zB, zC, zD, zE, zF]
   refine wpAnyH_take (i := 10) (oi := _) (v := ?_) rfl (by kernel_rfl) (by kernel_rfl) (by kernel_rfl) (fun _ _ _ h => h) (Or.inl ⟨by rfl, ?_⟩) (by assumption) ?_
   rotate_left
   ·intro w hSw; (try dsimp only at hSw); go_simp; try with_reducible rfl
   try simp only [Act.put, zA, zB, zC, zD, zE, zF]
   refine wpAnyH_take (i := 11) (oi := _) (v := ?_) rfl (by kernel_rfl) (by kernel_rfl) (by kernel_rfl) (fun _ _ _ h => h) (Or.inl ⟨by rfl, ?_⟩) (by assumption) ?_
   rotate_left
   ·intro w hSw; (try dsimp only at hSw); go_simp; try with_reducible rfl
   try simp only [Act.put, zA, zB, zC, zD, zE, zF]
   refine wpAnyH_take (i := 12) (oi := _) (v := ?_) rfl (by kernel_rfl) (by kernel_rfl) (by kernel_rfl) (fun _ _ _ h => h) (Or.inl ⟨by rfl, ?_⟩) (by assumption) ?_
   rotate_left
   ·intro w hSw; (try dsimp only at hSw); go_simp; try with_reducible rfl
   try simp only [Act.put, zA, zB, zC, zD, zE, zF]
   refine wpAnyH_take (i := 13) (oi := _) (v := ?_) rfl (by kernel_rfl) (by kernel_rfl) (by kernel_rfl) (fun _ _ _ h => h) (Or.inl ⟨by rfl, ?_⟩) (by assumption) ?_
   rotate_left
   ·intro w hSw; (try dsimp only at hSw); go_simp; try with_reducible rfl
   try simp only [Act.put, zA, zB, zC, zD, zE, zF]
   refine wpAnyH_take (i := 14) (oi := _) (v := ?_) rfl (by kernel_rfl) (by kernel_rfl) (by kernel_rfl) (fun _ _ _ h => h) (Or.inl ⟨by rfl, ?_⟩) (by assumption) ?_
   rotate_left
   ·intro w hSw; (try dsimp only at hSw); go_simp; try with_reducible rfl
   try simp only [Act.put, zA, zB, zC, zD, zE, zF]
   refine wpAnyH_take (i := 15) (oi := _) (v := ?_) rfl (by kernel_rfl) (by kernel_rfl) (by kernel_rfl) (fun _ _ _ h => h) (Or.inl ⟨by rfl, ?_⟩) (by assumption) ?_
   rotate_left
   ·intro w hSw; (try dsimp only at hSw); go_simp; try with_reducible rfl
   try simp only [Act.put, zA, zB, zC, zD, zE, zF]
   refine wpAnyH_take (i := 16) (oi := _) (v := ?_) rfl (by kernel_rfl) (by kernel_rfl) (by kernel_rfl) (fun _ _ _ h => h) (Or.inl ⟨by rfl, ?_⟩) (by assumption) ?_
   rotate_left
   ·intro w hSw; (try dsimp only at hSw); go_simp; try with_reducible rfl
   try simp only [Act.put, zA, zB, zC, zD, zE, zF]
   refine wpAnyH_take (i := 17) (oi := _) (v := ?_) rfl (by kernel_rfl) (by kernel_rfl) (by kernel_rfl) (fun _ _ _ h => h) (Or.inl ⟨by rfl, ?_⟩) (by assumption) ?_
   rotate_left
   ·intro w hSw; (try dsimp only at hSw); go_simp; try with_reducible rfl
   try simp only [Act.put, zA, zB, zC, zD, zE, zF]
   refine wpAnyH_take (i := 18) (oi := _) (v := ?_) rfl (by kernel_rfl) (by kernel_rfl) (by kernel_rfl) (fun _ _ _ h => h) (Or.inl ⟨by rfl, ?_⟩) (by assumption) ?_
   rotate_left
   ·intro w hSw; (try dsimp only at hSw); go_simp; try with_reducible rfl
   try simp only [Act.put, zA, zB, zC, zD, zE, zF]
   refine wpAnyH_take (i := 19) (oi := _) (v := ?_) rfl (by kernel_rfl) (by kernel_rfl) (by kernel_rfl) (fun _ _ _ h => h) (Or.inl ⟨by rfl, ?_⟩) (by assumption) ?_
   rotate_left
   ·intro w hSw; (try dsimp only at hSw); go_simp; try with_reducible rfl
   try simp only [Act.put, zA, zB, zC, zD, zE, zF]
   refine wpAnyH_take (i := 20) (oi := _) (v := ?_) rfl (by kernel_rfl) (by kernel_rfl) (by kernel_rfl) (fun _ _ _ h => h) (Or.inl ⟨by rfl, ?_⟩) (by assumption) ?_
   rotate_left
   ·intro w hSw; (try dsimp only at hSw); go_simp; try with_reducible rfl
   try simp only [Act.put, zA, zB, zC, zD, zE, zF]
   refine wpAnyH_take (i := 21) (oi := _) (v := ?_) rfl (by kernel_rfl) (by kernel_rfl) (by kernel_rfl) (fun _ _ _ h => h) (Or.inl ⟨by rfl, ?_⟩) (by assumption) ?_
   rotate_left
   ·intro w hSw; (try dsimp only at hSw); go_simp; try with_reducible rfl
   try simp only [Act.put, zA, zB, zC, zD, zE, zF]
   refine wpAnyH_ready (rs := [22]) (by kernel_rfl) (by simp) ?_
   refine AllReadyH.cons (o := _) rfl (fun K hK => ?_) AllReadyH.nil
   go_simp
   refine hK.out _ _ ?_ (fun hHeld => ?_)
   ·exact H4.out _ (HB.out.drew.alloc (by simp; omega) _)
   clear hK K
   try simp only [Act.put, zA, zB, zC, zD, zE, zF]
   refine wpAnyH_ready (rs := [23]) (by kernel_rfl) (by simp) ?_
   refine AllReadyH.cons (o := _) rfl (fun K hK => ?_) AllReadyH.nil
   refine step_append_new rfl (.tmp 15) (.tmp 37) rfl 84 i0 (.agg #[.int .i64 0, .int .u32 0]) 2 16 Tryz.underlying45 HI.out.1 HI.out.2.1 HI.out.2.2.1 HI.out.2.2.2 rfl (by decide) (.slice pa k pc) k (pairCells (s.writes.take k)) rfl ((ownsRow_block (w' := wr.drew) HR.out (fun _ _ => rfl)).alloc _) ⟨_, 0, none⟩ 1 1 [.int .i64 i, .int .u32 v] rfl rfl (cell_two_at _ _ _ _ _ (by simp)) ?c1 ?c2 ?c3 ?_
   case c1 => (simp [Value.oneCell'])
   case c2 => (unfold maxLen; omega)
   case c3 => (omega)
   intro v' w5 hown5 hg5 hnew5 hnil5
   clear hnil5
   have bel5 : Below w.heap.size w w5 := (HB.out.drew.alloc (by simp; omega) _).grown hg5 (by simp; omega) (fun k hk => HN.out k hk)
   refine hK.out _ _ ?_ (fun hHeld => ?_)
   ·exact H4.out _ bel5
   clear hK K
   try simp only [Act.put, zA, zB, zC, zD, zE, zF]
   refine wpAnyH_take (i := 24) (oi := _) (v := ?_) rfl (by kernel_rfl) (by kernel_rfl) (by kernel_rfl) (fun _ _ _ h => h) (Or.inl ⟨by rfl, ?_⟩) (by assumption) ?_
   rotate_left
   ·intro w hSw; (try dsimp only at hSw); go_simp; try with_reducible rfl
   try simp only [Act.put, zA, zB, zC, zD, zE, zF]
   refine wpAnyH_done (by kernel_rfl) ?_ _
   refine NoPanic.normal ?_
   go_wp2
   go_roundw
   case rel =>
    refine ⟨k + 1, by omega, by go_num, ?_, ?_, bel5⟩
    ·rw [pairCells_take HP.out]; exact hown5
    ·intro j hj
     rcases hnew5 j hj with x | x
     ·exact HN.out j x
     ·simp at x; omega
   case measure => simp [intOf]; omega
  ·have e : k = s.writes.length := by omega
   subst e
   go_wp2
   go_ret
   refine ⟨_, rfl, ?_, HN.out, HB.out⟩
   simpa using HR.out

end Go.Proofs.YtnagdljgeglceaaGreat
/- the document's view: Pairs, Same. -/
set_option linter.unusedSimpArgs false
set_option linter.unusedVariables false
namespace Go.Proofs.YtnagdljgeglceaaGreat
open Go.RowKit

def PairRel (a b : List (Nat × Int)) (w : World) (i : Value) (wr : World) : Prop := ∃ k : Nat, k ≤ a.length ∧ i = .int .i64 k ∧ (∀ j, j < k → a[j]? = b[j]?) ∧ Below w.heap.size w wr

theorem row_pair {w : World} {l : List (Nat × Int)} {v : Value} (h : w.ownsRow 0 84 2 v l.length (pairCells l)) {k : Nat} (hk : k < l.length) :
 ∃ g c x y, v = .slice (some ⟨g, 0, none⟩) l.length c ∧ l[k]? = some (x, y) ∧ ∀ wr, Below w.heap.size w wr → wr.cell? ⟨g, k * 2, none⟩ = some (.int .i64 x) ∧ wr.cell? ⟨g, k * 2 + 1, none⟩ = some (.int .u32 y) := by
 obtain ⟨g, cap, rfl⟩ := Joins.ownsRow_form h (by omega)
 obtain ⟨⟨x, y⟩, hx⟩ : ∃ p, l[k]? = some p := ⟨_, List.getElem?_eq_getElem hk⟩
 obtain ⟨p1, p2⟩ := pair_cell hx
 refine ⟨g, cap, x, y, rfl, hx, fun wr hb => ?_⟩
 have q1 := (h.cellAt (k * 2) (by omega)).trans p1
 have q2 := (h.cellAt (k * 2 + 1) (by omega)).trans p2
 exact ⟨(hb.cell (World.block_lt_of_cell? w _ q1)).trans q1, (hb.cell (World.block_lt_of_cell? w _ q2)).trans q2⟩

set_option maxRecDepth 100000 in
theorem pairs_any (a b : List (Nat × Int)) (va vb : Value) (w : World) (ha : w.ownsRow 0 84 2 va a.length (pairCells a)) (hb : w.ownsRow 0 84 2 vb b.length (pairCells b)) (hna : a.length ≤ 4294967296) (hnb : b.length ≤ 4294967296) :
 Calls Tryz.prog 57 #[va, vb] w fun e w' => e = .returned (.bool (decide (a = b))) ∧ Below w.heap.size w w' := by
 have RA := fun k (hk : k < a.length) => row_pair ha hk
 have RB := fun k (hk : k < b.length) => row_pair hb hk
 obtain ⟨pa, ca, rfl⟩ := row_shape ha
 obtain ⟨pb, cb, rfl⟩ := row_shape hb
 clear ha hb
 generalize hr : decide (a = b) = r
 have HR := Lib.hid hr
 clear hr
 by_cases hl : a.length = b.length
 ·have hlb : ((a.length : Int) != (b.length : Int)) = false := by simp [hl]
  have HL := Lib.hid hl
  clear hl
  go_enter Tryz.func57, Tryz.ntmps57
  go_wp2
  go_loopw [5] (fun i wr => PairRel a b w i wr) (fun i _ => a.length - (intOf i).toNat)
  case atStart => exact ⟨0, by omega, rfl, by omega, Below.refl _ _⟩
  case round =>
   obtain ⟨k, hk, rfl, hno, hbw⟩ := hrel
   have HN := Lib.hid hno
   have HB := Lib.hid hbw
   clear hno hbw
   by_cases hlt : k < a.length
   ·have hltb : k < b.length := by have := HL.out; omega
    obtain ⟨g, c', x1, y1, hv, hx1, hc1⟩ := RA k hlt
    obtain ⟨g2, c2', x2, y2, hv2, hx2, hc2⟩ := RB k hltb
    simp only [Value.slice.injEq, true_and] at hv hv2
    obtain ⟨rfl, rfl⟩ := hv
    obtain ⟨rfl, rfl⟩ := hv2
    obtain ⟨c0, c1⟩ := hc1 _ HB.out
    obtain ⟨d0, d1⟩ := hc2 _ HB.out
    have HX := Lib.hid hx1
    have HX2 := Lib.hid hx2
    clear RA RB hc1 hc2 hx1 hx2
    by_cases hy : x1 = x2 ∧ y1 = y2
    ·obtain ⟨rfl, rfl⟩ := hy
     go_wp2
     refine wp_region_noPanic ?_
     refine wp_region_held_drew (S := fun w' => w'.cell? ⟨g, k * 2, none⟩ = some (.int .i64 x1) ∧ w'.cell? ⟨g, k * 2 + 1, none⟩ = some (.int .u32 y1) ∧ w'.cell? ⟨g2, k * 2, none⟩ = some (.int .i64 x1) ∧ w'.cell? ⟨g2, k * 2 + 1, none⟩ = some (.int .u32 y1)) (by kernel_rfl) ?_ (fun hHeld => ?_)
     ·exact ⟨c0, c1, d0, d1⟩
     refine wpAnyH_take (i := 0) (oi := _) (v := ?_) rfl (by kernel_rfl) (by kernel_rfl) (by kernel_rfl) (fun _ _ _ h => h) (Or.inl ⟨by rfl, ?_⟩) (by assumption) ?_
     rotate_left
     ·intro w hSw; (try dsimp only at hSw); go_simp; try with_reducible rfl
     try simp only [Act.put, zA, zB, zD, zE, zF]
     refine wpAnyH_take (i := 1) (oi := _) (v := ?_) rfl (by kernel_rfl) (by kernel_rfl) (by kernel_rfl) (fun _ _ _ h => h) (Or.inl ⟨by rfl, ?_⟩) (by assumption) ?_
     rotate_left
     ·intro w hSw; (try dsimp only at hSw); go_simp; try with_reducible rfl
     try simp only [Act.put, zA, zB, zC, zD, zE, zF]
     refine wpAnyH_take (i := 2) (oi := _) (v := ?_) rfl (by kernel_rfl) (by kernel_rfl) (by kernel_rfl) (fun _ _ _ h => h) (Or.inl ⟨by rfl, ?_⟩) (by assumption) ?_
     rotate_left
     ·intro w hSw; (try dsimp only at hSw); go_simp; try with_reducible rfl
     try simp only [Act.put, zA, zB, zC, zD, zE, zF]
     refine wpAnyH_take (i := 3) (oi := _) (v := ?_) rfl (by kernel_rfl) (by kernel_rfl) (by kernel_rfl) (fun _ _ _ h => h) (Or.inl ⟨by rfl, ?_⟩) (by assumption) ?_
     rotate_left
     ·intro w hSw; (try dsimp only at hSw); go_simp; try with_reducible rfl
     try simp only [Act.put, zA, zB, zC, zD, zE, zF]
     refine wpAnyH_take (i := 4) (oi := _) (v := ?_) rfl (by kernel_rfl) (by kernel_rfl) (by kernel_rfl) (fun _ _ _ h => h) (Or.inl ⟨by rfl, ?_⟩) (by assumption) ?_
     rotate_left
     ·intro w hSw; (try dsimp only at hSw); go_simp; try with_reducible rfl
     try simp only [Act.put, zA, zB, zC, zD, zE, zF]
     refine wpAnyH_take (i := 5) (oi := _) (v := ?_) rfl (by kernel_rfl) (by kernel_rfl) (by kernel_rfl) (fun _ _ _ h => h) (Or.inl ⟨by rfl, ?_⟩) (by assumption) ?_
     rotate_left
     ·intro w hSw; (try dsimp only at hSw); go_simp; try with_reducible rfl
     try simp only [Act.put, zA, zB, zC, zD, zE, zF]
     refine wpAnyH_take (i := 6) (oi := _) (v := ?_) rfl (by kernel_rfl) (by kernel_rfl) (by kernel_rfl) (fun _ _ _ h => h) (Or.inl ⟨by rfl, ?_⟩) (by assumption) ?_
     rotate_left
     ·intro w hSw; (try dsimp only at hSw); go_simp; try with_reducible rfl
     try simp only [Act.put, zA, zB, zC, zD, zE, zF]
     refine wpAnyH_take (i := 7) (oi := _) (v := ?_) rfl (by kernel_rfl) (by kernel_rfl) (by kernel_rfl) (fun _ _ _ h => h) (Or.inl ⟨by rfl, ?_⟩) (by assumption) ?_
     rotate_left
     ·intro w hSw; (try dsimp only at hSw); go_simp; try with_reducible rfl
     try simp only [Act.put, zA, zB, zC, zD, zE, zF]
     refine wpAnyH_take (i := 8) (oi := _) (v := ?_) rfl (by kernel_rfl) (by kernel_rfl) (by kernel_rfl) (fun _ _ _ h => h) (Or.inl ⟨by rfl, ?_⟩) (by assumption) ?_
     rotate_left
     ·intro w hSw; (try dsimp only at hSw); go_simp; try with_reducible rfl
     try simp only [Act.put, zA, zB, zC, zD, zE, zF]
     refine wpAnyH_done (by kernel_rfl) ?_ _
     refine NoPanic.normal ?_
     go_wp2
     go_roundw
     case rel =>
      refine ⟨k + 1, by omega, by go_num, fun j hj => ?_, HB.out.drew⟩
      by_cases e : j = k
      ·subst e; rw [HX.out, HX2.out]
      ·exact HN.out j (by omega)
     case measure => simp [intOf]; omega
    ·by_cases hx : x1 = x2
     ·subst hx
      have hyy : y1 ≠ y2 := fun e => hy ⟨rfl, e⟩
      have hb : (y1 == y2) = false := by simpa using hyy
      have HY := Lib.hid hyy
      clear hy hyy
      go_wp2
      refine wp_region_noPanic ?_
      refine wp_region_held_drew (S := fun w' => w'.cell? ⟨g, k * 2, none⟩ = some (.int .i64 x1) ∧ w'.cell? ⟨g, k * 2 + 1, none⟩ = some (.int .u32 y1) ∧ w'.cell? ⟨g2, k * 2, none⟩ = some (.int .i64 x1) ∧ w'.cell? ⟨g2, k * 2 + 1, none⟩ = some (.int .u32 y2)) (by kernel_rfl) ?_ (fun hHeld => ?_)
      ·exact ⟨c0, c1, d0, d1⟩
      refine wpAnyH_take (i := 0) (oi := _) (v := ?_) rfl (by kernel_rfl) (by kernel_rfl) (by kernel_rfl) (fun _ _ _ h => h) (Or.inl ⟨by rfl, ?_⟩) (by assumption) ?_
      rotate_left
      ·intro w hSw; (try dsimp only at hSw); go_simp; try with_reducible rfl
      try simp only [Act.put, zA, zB, zD, zE, zF]
      refine wpAnyH_take (i := 1) (oi := _) (v := ?_) rfl (by kernel_rfl) (by kernel_rfl) (by kernel_rfl) (fun _ _ _ h => h) (Or.inl ⟨by rfl, ?_⟩) (by assumption) ?_
      rotate_left
      ·intro w hSw; (try dsimp only at hSw); go_simp; try with_reducible rfl
      try simp only [Act.put, zA, zB, zC, zD, zE, zF]
      refine wpAnyH_take (i := 2) (oi := _) (v := ?_) rfl (by kernel_rfl) (by kernel_rfl) (by kernel_rfl) (fun _ _ _ h => h) (Or.inl ⟨by rfl, ?_⟩) (by assumption) ?_
      rotate_left
      ·intro w hSw; (try dsimp only at hSw); go_simp; try with_reducible rfl
      try simp only [Act.put, zA, zB, zC, zD, zE, zF]
      refine wpAnyH_take (i := 3) (oi := _) (v := ?_) rfl (by kernel_rfl) (by kernel_rfl) (by kernel_rfl) (fun _ _ _ h => h) (Or.inl ⟨by rfl, ?_⟩) (by assumption) ?_
      rotate_left
      ·intro w hSw; (try dsimp only at hSw); go_simp; try with_reducible rfl
      try simp only [Act.put, zA, zB, zC, zD, zE, zF]
      refine wpAnyH_take (i := 4) (oi := _) (v := ?_) rfl (by kernel_rfl) (by kernel_rfl) (by kernel_rfl) (fun _ _ _ h => h) (Or.inl ⟨by rfl, ?_⟩) (by assumption) ?_
      rotate_left
      ·intro w hSw; (try dsimp only at hSw); go_simp; try with_reducible rfl
      try simp only [Act.put, zA, zB, zC, zD, zE, zF]
      refine wpAnyH_take (i := 5) (oi := _) (v := ?_) rfl (by kernel_rfl) (by kernel_rfl) (by kernel_rfl) (fun _ _ _ h => h) (Or.inl ⟨by rfl, ?_⟩) (by assumption) ?_
      rotate_left
      ·intro w hSw; (try dsimp only at hSw); go_simp; try with_reducible rfl
      try simp only [Act.put, zA, zB, zC, zD, zE, zF]
      refine wpAnyH_take (i := 6) (oi := _) (v := ?_) rfl (by kernel_rfl) (by kernel_rfl) (by kernel_rfl) (fun _ _ _ h => h) (Or.inl ⟨by rfl, ?_⟩) (by assumption) ?_
      rotate_left
      ·intro w hSw; (try dsimp only at hSw); go_simp; try with_reducible rfl
      try simp only [Act.put, zA, zB, zC, zD, zE, zF]
      refine wpAnyH_take (i := 7) (oi := _) (v := ?_) rfl (by kernel_rfl) (by kernel_rfl) (by kernel_rfl) (fun _ _ _ h => h) (Or.inl ⟨by rfl, ?_⟩) (by assumption) ?_
      rotate_left
      ·intro w hSw; (try dsimp only at hSw); go_simp; try with_reducible rfl
      try simp only [Act.put, zA, zB, zC, zD, zE, zF]
      refine wpAnyH_take (i := 8) (oi := _) (v := ?_) rfl (by kernel_rfl) (by kernel_rfl) (by kernel_rfl) (fun _ _ _ h => h) (Or.inl ⟨by rfl, ?_⟩) (by assumption) ?_
      rotate_left
      ·intro w hSw; (try dsimp only at hSw); go_simp; try with_reducible rfl
      try simp only [Act.put, zA, zB, zC, zD, zE, zF]
      refine wpAnyH_done (by kernel_rfl) ?_ _
      refine NoPanic.normal ?_
      go_wp2
      go_ret
      refine ⟨ret_bool ?_, HB.out.drew⟩
      rw [← HR.out]
      symm
      simp only [decide_eq_false_iff_not]
      intro hm
      subst hm
      have := HX.out.symm.trans HX2.out
      simp at this
      exact HY.out (by omega)
     ·have hb : ((x1 : Int) == (x2 : Int)) = false := by simp; omega
      have HY := Lib.hid hx
      clear hy hx
      go_wp2
      refine wp_region_noPanic ?_
      refine wp_region_held_drew (S := fun w' => w'.cell? ⟨g, k * 2, none⟩ = some (.int .i64 x1) ∧ w'.cell? ⟨g, k * 2 + 1, none⟩ = some (.int .u32 y1) ∧ w'.cell? ⟨g2, k * 2, none⟩ = some (.int .i64 x2) ∧ w'.cell? ⟨g2, k * 2 + 1, none⟩ = some (.int .u32 y2)) (by kernel_rfl) ?_ (fun hHeld => ?_)
      ·exact ⟨c0, c1, d0, d1⟩
      refine wpAnyH_take (i := 0) (oi := _) (v := ?_) rfl (by kernel_rfl) (by kernel_rfl) (by kernel_rfl) (fun _ _ _ h => h) (Or.inl ⟨by rfl, ?_⟩) (by assumption) ?_
      rotate_left
      ·intro w hSw; (try dsimp only at hSw); go_simp; try with_reducible rfl
      try simp only [Act.put, zA, zB, zD, zE, zF]
      refine wpAnyH_take (i := 1) (oi := _) (v := ?_) rfl (by kernel_rfl) (by kernel_rfl) (by kernel_rfl) (fun _ _ _ h => h) (Or.inl ⟨by rfl, ?_⟩) (by assumption) ?_
      rotate_left
      ·intro w hSw; (try dsimp only at hSw); go_simp; try with_reducible rfl
      try simp only [Act.put, zA, zB, zC, zD, zE, zF]
      refine wpAnyH_take (i := 2) (oi := _) (v := ?_) rfl (by kernel_rfl) (by kernel_rfl) (by kernel_rfl) (fun _ _ _ h => h) (Or.inl ⟨by rfl, ?_⟩) (by assumption) ?_
      rotate_left
      ·intro w hSw; (try dsimp only at hSw); go_simp; try with_reducible rfl
      try simp only [Act.put, zA, zB, zC, zD, zE, zF]
      refine wpAnyH_take (i := 3) (oi := _) (v := ?_) rfl (by kernel_rfl) (by kernel_rfl) (by kernel_rfl) (fun _ _ _ h => h) (Or.inl ⟨by rfl, ?_⟩) (by assumption) ?_
      rotate_left
      ·intro w hSw; (try dsimp only at hSw); go_simp; try with_reducible rfl
      try simp only [Act.put, zA, zB, zC, zD, zE, zF]
      refine wpAnyH_take (i := 4) (oi := _) (v := ?_) rfl (by kernel_rfl) (by kernel_rfl) (by kernel_rfl) (fun _ _ _ h => h) (Or.inl ⟨by rfl, ?_⟩) (by assumption) ?_
      rotate_left
      ·intro w hSw; (try dsimp only at hSw); go_simp; try with_reducible rfl
      try simp only [Act.put, zA, zB, zC, zD, zE, zF]
      refine wpAnyH_take (i := 5) (oi := _) (v := ?_) rfl (by kernel_rfl) (by kernel_rfl) (by kernel_rfl) (fun _ _ _ h => h) (Or.inl ⟨by rfl, ?_⟩) (by assumption) ?_
      rotate_left
      ·intro w hSw; (try dsimp only at hSw); go_simp; try with_reducible rfl
      try simp only [Act.put, zA, zB, zC, zD, zE, zF]
      refine wpAnyH_take (i := 6) (oi := _) (v := ?_) rfl (by kernel_rfl) (by kernel_rfl) (by kernel_rfl) (fun _ _ _ h => h) (Or.inl ⟨by rfl, ?_⟩) (by assumption) ?_
      rotate_left
      ·intro w hSw; (try dsimp only at hSw); go_simp; try with_reducible rfl
      try simp only [Act.put, zA, zB, zC, zD, zE, zF]
      refine wpAnyH_take (i := 7) (oi := _) (v := ?_) rfl (by kernel_rfl) (by kernel_rfl) (by kernel_rfl) (fun _ _ _ h => h) (Or.inl ⟨by rfl, ?_⟩) (by assumption) ?_
      rotate_left
      ·intro w hSw; (try dsimp only at hSw); go_simp; try with_reducible rfl
      try simp only [Act.put, zA, zB, zC, zD, zE, zF]
      refine wpAnyH_take (i := 8) (oi := _) (v := ?_) rfl (by kernel_rfl) (by kernel_rfl) (by kernel_rfl) (fun _ _ _ h => h) (Or.inl ⟨by rfl, ?_⟩) (by assumption) ?_
      rotate_left
      ·intro w hSw; (try dsimp only at hSw); go_simp; try with_reducible rfl
      try simp only [Act.put, zA, zB, zC, zD, zE, zF]
      refine wpAnyH_done (by kernel_rfl) ?_ _
      refine NoPanic.normal ?_
      go_wp2
      go_ret
      refine ⟨ret_bool ?_, HB.out.drew⟩
      rw [← HR.out]
      symm
      simp only [decide_eq_false_iff_not]
      intro hm
      subst hm
      have := HX.out.symm.trans HX2.out
      simp at this
      exact HY.out (by omega)
   ·clear RA RB
    go_wp2
    go_ret
    refine ⟨ret_bool ?_, HB.out⟩
    rw [← HR.out]
    symm
    simp only [decide_eq_true_eq]
    apply List.ext_getElem?
    intro j
    by_cases hj : j < k
    ·exact HN.out j hj
    ·rw [List.getElem?_eq_none (by omega), List.getElem?_eq_none (by have := HL.out; omega)]
 ·have hlb : ((a.length : Int) != (b.length : Int)) = true := by simp; omega
  have HL := Lib.hid hl
  clear hl RA RB
  go_enter Tryz.func57, Tryz.ntmps57
  go_wp2
  go_ret
  refine ⟨ret_bool ?_, Below.refl _ _⟩
  rw [← HR.out]
  symm
  simp only [decide_eq_false_iff_not]
  intro hm
  exact HL.out (by rw [hm])

end Go.Proofs.YtnagdljgeglceaaGreat
/- the document's view: Same. -/
set_option linter.unusedSimpArgs false
set_option linter.unusedVariables false
namespace Go.Proofs.YtnagdljgeglceaaGreat
open Go.RowKit

theorem cast_inj : ∀ a b : List Nat, (a.map fun (n : Nat) => (n : Int)) = (b.map fun (n : Nat) => (n : Int)) → a = b
 | [], [], _ => rfl
 | [], _ :: _, h => by simp at h
 | _ :: _, [], h => by simp at h
 | x :: a, y :: b, h => by
  simp only [List.map_cons, List.cons.injEq] at h
  have h1 : x = y := by omega
  rw [h1, cast_inj a b h.2]

theorem nints_any (a b : List Nat) (va vb : Value) (w : World) (ha : w.ownsRow 0 3 1 va a.length (intCells a)) (hb : w.ownsRow 0 3 1 vb b.length (intCells b)) (hna : a.length ≤ 4294967296) (hnb : b.length ≤ 4294967296) :
 Calls Tryz.prog 56 #[va, vb] w fun e w' => e = .returned (.bool (decide (a = b))) ∧ Below w.heap.size w w' := by
 have e1 : ∀ l : List Nat, intCells l = ints (l.map fun (n : Nat) => (n : Int)) := fun l => by simp [intCells, ints]
 have e2 : decide (a = b) = decide ((a.map fun (n : Nat) => (n : Int)) = (b.map fun (n : Nat) => (n : Int))) := by
  rw [Bool.eq_iff_iff, decide_eq_true_eq, decide_eq_true_eq]
  constructor
  ·rintro rfl; rfl
  ·intro h
   exact cast_inj _ _ h
 rw [e2]
 rw [e1] at ha hb
 exact ints_any _ _ va vb w (by simpa using ha) (by simpa using hb) (by simpa using hna) (by simpa using hnb)

def sameB (r : List Nat) (p : List (Nat × Int)) (m : Int) (s : VS) : Bool := decide (r = s.reads) && decide (p = s.writes) && (m == missI s)

set_option maxRecDepth 100000 in
theorem same_any (b : Nat) (r : List Nat) (p : List (Nat × Int)) (m : Int) (vr vw : Value) (w : World) (S : Nat → Prop) (s : VS) (h : RV w b S s)
 (hr : w.ownsRow 0 3 1 vr r.length (intCells r)) (hp : w.ownsRow 0 84 2 vw p.length (pairCells p)) (hrl : r.length ≤ 4294967296) (hpl : p.length ≤ 4294967296) :
 Calls Tryz.prog 20 #[.pointer (some ⟨b, 0, none⟩), vr, vw, .int .i64 m] w fun e w' => e = .returned (.bool (sameB r p m s)) ∧ Below w.heap.size w w' := by
 have hi := keepsRV.inv h
 have hrl2 := hi.reads_le
 have hwl2 := hi.writes_le
 have hsm := hi.small
 have HR := Lib.hid h
 have HP := Lib.hid hp
 obtain ⟨kv, vv, iv, tv, rv, wv, all, hv⟩ := h
 have h5 := hv.cell 5
 have h7 := hv.cell 7
 simp at h5 h7
 have I := nints_any r s.reads vr rv w hr hv.rr hrl (by omega)
 generalize hq : sameB r p m s = q
 have HQ := Lib.hid hq
 clear hv hr hp hi hq
 by_cases h1 : r = s.reads
 ·have d1 : decide (r = s.reads) = true := by simpa using h1
  rw [d1] at I
  have HI := Lib.hid I
  clear I d1
  by_cases h2 : p = s.writes
  ·have d2 : decide (p = s.writes) = true := by simpa using h2
   have H12 := Lib.hid (And.intro h1 h2)
   have D2 := Lib.hid d2
   clear h1 h2 d2
   go_enter Tryz.func20, Tryz.ntmps20
   go_wp2_with fail
   refine HI.out.mono ?_
   rintro e w1 ⟨rfl, b1⟩
   have R1 : RV w1 b S s := keepsRV.keep (T := fun _ => False) HR.out (Fr.of_below b1) (fun _ _ x => x)
   have HR1 := Lib.hid R1
   have z1 := b1.size
   clear R1
   go_wp2_with fail
   refine (rwrites_any _ _ _ _ HR1.out).mono ?_
   rintro e w2 ⟨v2, rfl, o2, n2, b2⟩
   have z2 := b2.size
   have p2 := ownsRow_block (w' := w2) HP.out (fun k hk => (b2.block k (by have := ownsRow_lt HP.out hk; omega)).trans (b1.block k (ownsRow_lt HP.out hk)))
   have P2 := pairs_any p s.writes vw v2 w2 p2 o2 hpl (by omega)
   rw [D2.out] at P2
   have HP2 := Lib.hid P2
   clear p2 P2 o2 n2
   go_wp2_with fail
   refine HP2.out.mono ?_
   rintro e w3 ⟨rfl, b3⟩
   have l7 := World.block_lt_of_cell? w _ h7
   simp at l7
   have h73 : w3.cell? ⟨b, 7, none⟩ = some (.int .i64 (missI s)) := (b3.cell (p := ⟨b, 7, none⟩) (by simp; omega)).trans ((b2.cell (p := ⟨b, 7, none⟩) (by simp; omega)).trans ((b1.cell (p := ⟨b, 7, none⟩) l7).trans h7))
   go_wp2
   go_ret
   refine ⟨ret_bool ?_, b1.trans ((b2.trans (b3.mono z2)).mono z1)⟩
   rw [← HQ.out]
   simp [sameB, H12.out.1, H12.out.2]
  ·have d2 : decide (p = s.writes) = false := by simpa using h2
   have H2 := Lib.hid h2
   have D2 := Lib.hid d2
   clear h1 h2 d2
   go_enter Tryz.func20, Tryz.ntmps20
   go_wp2_with fail
   refine HI.out.mono ?_
   rintro e w1 ⟨rfl, b1⟩
   have R1 : RV w1 b S s := keepsRV.keep (T := fun _ => False) HR.out (Fr.of_below b1) (fun _ _ x => x)
   have HR1 := Lib.hid R1
   have z1 := b1.size
   clear R1
   go_wp2_with fail
   refine (rwrites_any _ _ _ _ HR1.out).mono ?_
   rintro e w2 ⟨v2, rfl, o2, n2, b2⟩
   have z2 := b2.size
   have p2 := ownsRow_block (w' := w2) HP.out (fun k hk => (b2.block k (by have := ownsRow_lt HP.out hk; omega)).trans (b1.block k (ownsRow_lt HP.out hk)))
   have P2 := pairs_any p s.writes vw v2 w2 p2 o2 hpl (by omega)
   rw [D2.out] at P2
   have HP2 := Lib.hid P2
   clear p2 P2 o2 n2
   go_wp2_with fail
   refine HP2.out.mono ?_
   rintro e w3 ⟨rfl, b3⟩
   go_wp2
   go_ret
   refine ⟨ret_bool ?_, b1.trans ((b2.trans (b3.mono z2)).mono z1)⟩
   rw [← HQ.out]
   simp [sameB, H2.out]
 ·have d1 : decide (r = s.reads) = false := by simpa using h1
  rw [d1] at I
  have HI := Lib.hid I
  have H1 := Lib.hid h1
  clear I d1 h1
  go_enter Tryz.func20, Tryz.ntmps20
  go_wp2_with fail
  refine HI.out.mono ?_
  rintro e w1 ⟨rfl, b1⟩
  go_wp2
  go_ret
  refine ⟨ret_bool ?_, b1⟩
  rw [← HQ.out]
  simp [sameB, H1.out]

end Go.Proofs.YtnagdljgeglceaaGreat
/- the program's view and the document's beside one another. -/
set_option linter.unusedSimpArgs false
set_option linter.unusedVariables false
namespace Go.Proofs.YtnagdljgeglceaaGreat
open Go.RowKit

/-- since w0 nothing that was there has turned; the program's view at b1 is s1, the document's at b2 is s2; the boxes Ls are none of theirs. -/
structure V2 (w0 : World) (b1 b2 : Nat) (Ls : List Nat) (s1 s2 : VS) (w : World) : Prop where
 ex : ∃ S1 S2, PV w b1 S1 s1 ∧ RV w b2 S2 s2 ∧ (∀ k, S1 k → w0.heap.size ≤ k) ∧ (∀ k, S2 k → w0.heap.size ≤ k) ∧ (∀ k, S1 k → ¬ S2 k) ∧ (∀ L ∈ Ls, ¬ S1 L ∧ ¬ S2 L)
 bel : Below w0.heap.size w0 w
 ls : ∀ L ∈ Ls, L < w.heap.size ∧ w0.heap.size ≤ L

section
variable {w0 w w' : World} {b1 b2 : Nat} {Ls : List Nat} {s1 s2 t1 t2 : VS} {P : Program} {f : FuncId} {args : Array Value} {val : Value}

theorem V2.below (h : V2 w0 b1 b2 Ls s1 s2 w) (hb : Below w.heap.size w w') : V2 w0 b1 b2 Ls s1 s2 w' := by
 obtain ⟨S1, S2, p1, p2, g1, g2, d, hl⟩ := h.ex
 exact ⟨⟨S1, S2, keepsPV.keep (T := fun _ => False) p1 (Fr.of_below hb) (fun _ _ x => x), keepsRV.keep (T := fun _ => False) p2 (Fr.of_below hb) (fun _ _ x => x), g1, g2, d, hl⟩, h.bel.trans (hb.mono h.bel.size), fun L hL => ⟨Nat.lt_of_lt_of_le (h.ls L hL).1 hb.size, (h.ls L hL).2⟩⟩
theorem V2.drew (h : V2 w0 b1 b2 Ls s1 s2 w) : V2 w0 b1 b2 Ls s1 s2 w.drew := h.below ((Below.refl _ _).drew)
theorem V2.sub (h : V2 w0 b1 b2 Ls s1 s2 w) (Ms : List Nat) (hM : ∀ L ∈ Ms, L ∈ Ls) : V2 w0 b1 b2 Ms s1 s2 w := by
 obtain ⟨S1, S2, p1, p2, g1, g2, d, hl⟩ := h.ex
 exact ⟨⟨S1, S2, p1, p2, g1, g2, d, fun L hL => hl L (hM L hL)⟩, h.bel, fun L hL => h.ls L (hM L hL)⟩

/-- a call of one of the two. -/
theorem V2.pv (h : V2 w0 b1 b2 Ls s1 s2 w) (hc : ∀ S1, PV w b1 S1 s1 → Calls P f args w fun e w' => e = .returned val ∧ (PV w' b1 (upd S1 w w') t1 ∧ Fr S1 w w')) :
 Calls P f args w fun e w' => e = .returned val ∧ V2 w0 b1 b2 Ls t1 s2 w' ∧ ∀ L ∈ Ls, w'.heap[L]? = w.heap[L]? := by
 obtain ⟨S1, S2, p1, p2, g1, g2, d, hl⟩ := h.ex
 have hz := h.bel.size
 refine (hc S1 p1).mono fun e w' ⟨he, q, F⟩ => ⟨he, ⟨⟨upd S1 w w', S2, q, keepsRV.keep p2 F (fun k hk x => d k x hk), ?_, g2, ?_, ?_⟩, h.bel.trans (F.below h.bel.size g1), fun L hL => ⟨Nat.lt_of_lt_of_le (h.ls L hL).1 F.size, (h.ls L hL).2⟩⟩, fun L hL => F.block L (h.ls L hL).1 (hl L hL).1⟩
 ·intro k hk
  rcases hk with hk | hk
  ·exact g1 k hk
  ·omega
 ·intro k hk x
  rcases hk with hk | hk
  ·exact d k hk x
  ·exact absurd (keepsRV.lt p2 k x) (by omega)
 ·intro L hL
  refine ⟨fun x => ?_, (hl L hL).2⟩
  rcases x with x | x
  ·exact (hl L hL).1 x
  ·have := (h.ls L hL).1; omega

theorem V2.rv (h : V2 w0 b1 b2 Ls s1 s2 w) (hc : ∀ S2, RV w b2 S2 s2 → Calls P f args w fun e w' => e = .returned val ∧ (RV w' b2 (upd S2 w w') t2 ∧ Fr S2 w w')) :
 Calls P f args w fun e w' => e = .returned val ∧ V2 w0 b1 b2 Ls s1 t2 w' ∧ ∀ L ∈ Ls, w'.heap[L]? = w.heap[L]? := by
 obtain ⟨S1, S2, p1, p2, g1, g2, d, hl⟩ := h.ex
 have hz := h.bel.size
 refine (hc S2 p2).mono fun e w' ⟨he, q, F⟩ => ⟨he, ⟨⟨S1, upd S2 w w', keepsPV.keep p1 F (fun k hk x => d k hk x), q, g1, ?_, ?_, ?_⟩, h.bel.trans (F.below h.bel.size g2), fun L hL => ⟨Nat.lt_of_lt_of_le (h.ls L hL).1 F.size, (h.ls L hL).2⟩⟩, fun L hL => F.block L (h.ls L hL).1 (hl L hL).2⟩
 ·intro k hk
  rcases hk with hk | hk
  ·exact g2 k hk
  ·omega
 ·intro k hk x
  rcases x with x | x
  ·exact d k hk x
  ·exact absurd (keepsPV.lt p1 k hk) (by omega)
 ·intro L hL
  refine ⟨(hl L hL).1, fun x => ?_⟩
  rcases x with x | x
  ·exact (hl L hL).2 x
  ·have := (h.ls L hL).1; omega

theorem V2.bl (h : V2 w0 b1 b2 Ls s1 s2 w) (hc : Calls P f args w fun e w' => e = .returned val ∧ Below w.heap.size w w') :
 Calls P f args w fun e w' => e = .returned val ∧ V2 w0 b1 b2 Ls s1 s2 w' ∧ ∀ L ∈ Ls, w'.heap[L]? = w.heap[L]? :=
 hc.mono fun _ _ ⟨he, hb⟩ => ⟨he, h.below hb, fun L hL => hb.block L (h.ls L hL).1⟩

end
end Go.Proofs.YtnagdljgeglceaaGreat
/- sweep: the page's example. -/
set_option linter.unusedSimpArgs false
set_option linter.unusedVariables false
namespace Go.Proofs.YtnagdljgeglceaaGreat
open Go.RowKit

def eiWs : List Int := ((((List.replicate 82 (0 : Int)).set 0 8).set 5 1).set 34 129).set 77 1
def evWs : List Int := ((((((((((eiWs.set 0 7).set 5 0).set 12 0).set 21 1).set 34 524307).set 35 1).set 39 1).set 40 113).set 77 2).set 4 2)
theorem ev_n : (sweepN 1 8 10 8 (wholeVS evWs)).1 = 1 := by decide +kernel
theorem ev_chk : chkF (setN evWs (sweepN 1 8 10 8 (wholeVS evWs)).2.writes (sweepN 1 8 10 8 (wholeVS evWs)).2.writes.length) 1 8 10 = (0, true) := by decide +kernel
theorem ev_get0 : ((sweepN 1 8 10 8 (wholeVS evWs)).2.get 0).1 = 8 := by decide +kernel
theorem ev_get21 : (((sweepN 1 8 10 8 (wholeVS evWs)).2.get 0).2.get 21).1 = 0 := by decide +kernel


theorem pull_nk (t p s h q : Int) (st : VS) : (pullF t p s h q st).n = st.n ∧ (pullF t p s h q st).known = st.known := by
 unfold pullF
 split
 ·dsimp only
  have h1 := get_nk st (ofF t p s q 2)
  have h2 := get_nk (st.get (ofF t p s q 2)).2 (ofF t p s q 3)
  generalize ((st.get (ofF t p s q 2)).2.get (ofF t p s q 3)) = f at *
  generalize (st.get (ofF t p s q 2)).1 = g at *
  rw [h1.1, h1.2] at h2
  have h3 : (if f.1 = 0 then f.2.put h g else f.2.put (ofF t p s (f.1 - 1) 2) g).n = st.n ∧ (if f.1 = 0 then f.2.put h g else f.2.put (ofF t p s (f.1 - 1) 2) g).known = st.known := by
   split <;> simp only [put_nk, h2, and_self]
  generalize (if f.1 = 0 then f.2.put h g else f.2.put (ofF t p s (f.1 - 1) 2) g) = s3 at *
  have h4 : (if g = 0 then s3 else s3.put (ofF t p s (g - 1) 3) f.1).n = st.n ∧ (if g = 0 then s3 else s3.put (ofF t p s (g - 1) 3) f.1).known = st.known := by
   split <;> simp only [put_nk, h3, and_self]
  generalize (if g = 0 then s3 else s3.put (ofF t p s (g - 1) 3) f.1) = s4 at *
  simp only [put_nk, h4, and_self]
 ·exact ⟨rfl, rfl⟩
theorem drop_nk (t p s q : Int) (st : VS) : (dropF t p s q st).2.n = st.n ∧ (dropF t p s q st).2.known = st.known := by
 unfold dropF freeAt
 split
 ·dsimp only
  split
  ·exact get_nk _ _
  ·simp only [pull_nk, get_nk, and_self]
 ·exact ⟨rfl, rfl⟩
theorem join_nk (t p s q b : Int) (st : VS) : (joinF t p s q b st).2.n = st.n ∧ (joinF t p s q b st).2.known = st.known := by
 unfold joinF; simp only [put_nk, drop_nk, and_self]
theorem addG_nk (t p s q n : Int) (st : VS) : (addG t p s q n st).n = st.n ∧ (addG t p s q n st).known = st.known := by
 unfold addG; split
 ·exact add_nk _ _ _ _ _ _
 ·exact ⟨rfl, rfl⟩
theorem freeAt_nk (t p s q : Int) (st : VS) : (freeAt t p s q st).2.n = st.n ∧ (freeAt t p s q st).2.known = st.known := by
 unfold freeAt; exact get_nk _ _
theorem ahead_nk (t p s q : Int) (st : VS) : (aheadF t p s q st).2.n = st.n ∧ (aheadF t p s q st).2.known = st.known := by
 unfold aheadF; split
 ·exact ⟨rfl, rfl⟩
 ·exact get_nk _ _
theorem back_nk (t p s q n : Int) (st : VS) : (backF t p s q n st).2.n = st.n ∧ (backF t p s q n st).2.known = st.known := by
 unfold backF
 dsimp only
 split
 ·exact ahead_nk _ _ _ _ _
 ·split
  ·simp only [freeAt_nk, ahead_nk, and_self]
  ·simp only [join_nk, freeAt_nk, ahead_nk, and_self]
theorem fore_nk (t p s r l : Int) (st : VS) : (foreF t p s r l st).2.n = st.n ∧ (foreF t p s r l st).2.known = st.known := by
 unfold foreF
 dsimp only
 split
 ·split
  ·exact freeAt_nk _ _ _ _ _
  ·simp only [join_nk, freeAt_nk, and_self]
 ·exact ⟨rfl, rfl⟩
theorem release_nk (t p s q n : Int) (st : VS) : (releaseF t p s q n st).n = st.n ∧ (releaseF t p s q n st).known = st.known := by
 unfold releaseF countF
 dsimp only
 simp only [put_nk, get_nk, addG_nk, fore_nk, back_nk, and_self]
theorem sweep_nk (t p s q : Int) (st : VS) : (sweepF t p s q st).2.n = st.n ∧ (sweepF t p s q st).2.known = st.known := by
 unfold sweepF
 dsimp only
 split
 ·split
  ·split
   ·simp only [get_nk, and_self]
   ·dsimp only
    split
    ·split <;> simp only [release_nk, pull_nk, put_nk, get_nk, and_self]
    ·split <;> simp only [push_nk, put_nk, get_nk, and_self]
  ·exact get_nk _ _
 ·exact ⟨rfl, rfl⟩
theorem sweepN_nk (t p s : Int) (st : VS) (k : Nat) : (sweepN t p s k st).2.n = st.n ∧ (sweepN t p s k st).2.known = st.known := by
 induction k with
 | zero => exact ⟨rfl, rfl⟩
 | succ k ih => unfold sweepN; dsimp only; simp only [sweep_nk, ih, and_self]

theorem ei_len : eiWs.length = 82 := by decide
def EightP (w : World) (e : Ending) (w' : World) : Prop := ∃ g : Nat, e = .returned (.tuple #[.agg #[.int .i64 1, .int .i64 8, .int .i64 10], .slice (some ⟨g, 0, none⟩) 82 82]) ∧ WtAt w' g eiWs ∧ w.heap.size ≤ g ∧ Below w.heap.size w w'
set_option maxHeartbeats 1000000 in
set_option maxRecDepth 100000 in
theorem eight_any (w : World) : Calls Tryz.prog 28 #[] w (EightP w) := by
 have hmk : ∀ w : World, (Instr.makeSlice 24 (.int .i64 82) (.int .i64 82)).run Tryz.prog w = .ok (.slice (some ⟨w.heap.size, 0, none⟩) 82 82) (w.alloc (.cells (madeCells #[.int .u32 0] 82) 41)) := run_make_row' (P := Tryz.prog) 24 41 (.int .u32 0) 4 Tryz.underlying24 infoU32 rfl .i64 .i64 82 (by omega) (by omega)
 simp only [made_u32] at hmk
 obtain ⟨A0, hA0⟩ : ∃ A, (uints (List.replicate 82 0)).toArray = A := ⟨_, rfl⟩
 rw [hA0] at hmk
 have hsz : A0.size = 82 := by rw [← hA0]; simp [uints]
 obtain ⟨z0, k0⟩ : ∃ z, A0[0]? = some z := ⟨_, Array.getElem?_eq_getElem (by omega)⟩
 obtain ⟨z5, k5⟩ : ∃ z, A0[5]? = some z := ⟨_, Array.getElem?_eq_getElem (by omega)⟩
 obtain ⟨z34, k34⟩ : ∃ z, A0[34]? = some z := ⟨_, Array.getElem?_eq_getElem (by omega)⟩
 obtain ⟨z77, k77⟩ : ∃ z, A0[77]? = some z := ⟨_, Array.getElem?_eq_getElem (by omega)⟩
 have hSet : (((A0.setIfInBounds 0 (.int .u32 8)).setIfInBounds 5 (.int .u32 1)).setIfInBounds 34 (.int .u32 129)).setIfInBounds 77 (.int .u32 1) = (uints eiWs).toArray := by rw [← hA0]; kernel_rfl
 have HSet := Lib.hid (fun _ : Unit => hSet)
 clear hSet hA0
 go_enter Tryz.func28, Tryz.ntmps28
 go_wp2
 rw [HSet.out ()]
 refine bodyPost_ret (v := .tuple #[.agg #[.int .i64 1, .int .i64 8, .int .i64 10], .slice (some ⟨w.heap.size + 1, 0, none⟩) 82 82]) (by simp [results, Tryz.results28, go_sem]) rfl ⟨_, rfl, ?_, by omega, ?_⟩
 ·exact hb_alloc _ _ _ (by simp)
 ·exact ((Below.refl _ _).alloc (Nat.le_refl _) _).alloc (by simp) _

theorem ev_len : evWs.length = 82 := by decide
theorem ev_u32 : ∀ v ∈ evWs, VS.U32 v := by unfold VS.U32; decide
theorem ev_xv {W : World} {ad : Addr} {vs : List Int} (hl : vs.length = 82) (hu : ∀ v ∈ vs, VS.U32 v) (hc : ∀ k, k < 82 → W.cell? (ad.add k) = some (.int .u32 (vs.getD k 0))) : XV W 1 8 10 ad 82 vs :=
 ⟨by decide, by decide, hl, by decide, hu, hc⟩

theorem wt_rd {W : World} {g : Nat} {ws : List Int} {n c : Nat} (h : WtAt W g ws) (hn : n = ws.length) : Rd W (.slice (some ⟨g, 0, none⟩) n c) 1 ws.length (uints ws) := by
 subst hn
 refine ⟨by simp [uints], Or.inr ⟨⟨g, 0, none⟩, c, rfl, fun j u hj => ?_⟩⟩
 have e : (⟨g, 0, none⟩ : Addr).add j = ⟨g, j, none⟩ := by unfold Addr.add; split <;> simp_all
 rw [e]
 exact (cell?_of_heap h).trans (by simpa using hj)
/-- the program's view, made in a call that has boxes. -/
theorem NewV.vst {w wz w2 : World} {b : Nat} {st : VS} {Ls : List Nat} (hB : BS w Ls wz) (h : PV w2 b (fun k => wz.heap.size ≤ k ∧ k < w2.heap.size) st) (hb : Below wz.heap.size wz w2) : VSt PV w b (fun _ => False) Ls st w2 := by
 refine ⟨⟨_, h, fun k hk => Or.inr (Nat.le_trans hB.bel.size hk.1), fun L hL x => by have := (hB.ls L hL).1; omega⟩, Fr.of_below (hB.bel.trans (hb.mono hB.bel.size)), fun L hL => ⟨Nat.lt_of_lt_of_le (hB.ls L hL).1 hb.size, (hB.ls L hL).2⟩, fun _ x => x.elim⟩
theorem VSt.bel {w w2 : World} {b : Nat} {st : VS} {Ls : List Nat} {R : World → Nat → (Nat → Prop) → VS → Prop} (h : VSt R w b (fun _ => False) Ls st w2) : Below w.heap.size w w2 := h.fr.below (Nat.le_refl _) (fun _ x => x.elim)
def evSt : VS := (sweepN 1 8 10 8 (wholeVS evWs)).2
theorem ev_nk : evSt.n = 82 ∧ evSt.known = fun i => evWs[i]? := by
 have h := sweepN_nk 1 8 10 (wholeVS evWs) 8
 unfold evSt
 rw [h.1, h.2]
 exact ⟨ev_len, rfl⟩
theorem ev_vals (vals : List Int) (h1 : vals.length = evSt.n) (h2 : ∀ i, i < evSt.n → evSt.known i = vals[i]?) : vals = evWs := by
 obtain ⟨hn, hk⟩ := ev_nk
 rw [hn] at h1 h2
 rw [hk] at h2
 apply List.ext_getElem?
 intro i
 by_cases hi : i < 82
 ·exact (h2 i hi).symm
 ·rw [List.getElem?_eq_none (by omega), List.getElem?_eq_none (by rw [ev_len]; omega)]

theorem ev_g0 : (evSt.get 0).1 = 8 := by unfold evSt; exact ev_get0
theorem ev_g21 : ((evSt.get 0).2.get 21).1 = 0 := by unfold evSt; exact ev_get21
theorem ev_out (s3 : VS) : sweepF 1 8 10 (-1) s3 = (false, s3) := by unfold sweepF; rw [if_neg (by decide)]
theorem calls_gen {P : Program} {f : FuncId} {args : Array Value} {Q : Ending → World → Prop} {W : World} (h : ∀ W', W' = W → Calls P f args W' Q) : Calls P f args W Q := h W rfl
theorem ev_all (b : Nat) (w : World) (S1 : Nat → Prop) (h1 : PV w b S1 (wholeVS evWs)) : Calls Tryz.prog 12 #[.pointer (some ⟨b, 0, none⟩), .agg #[.int .i64 1, .int .i64 8, .int .i64 10]] w fun e w' => e = .returned (.int .i64 1) ∧ Now w b S1 evSt w' := by
 have := sall_any b 1 8 10 w S1 _ h1 (by omega) (by omega)
 rw [show (8 : Int).toNat = 8 from rfl, ev_n] at this
 exact this
def evEnd : List Int := setN evWs evSt.writes evSt.writes.length
theorem ev_end_len : evEnd.length = 82 := by decide +kernel
theorem ev_end_u32 : ∀ v ∈ evEnd, VS.U32 v := by
 have h : ∀ v ∈ evEnd, 0 ≤ v ∧ v < 4294967296 := by decide +kernel
 exact h
theorem ev_valsC (b : Nat) (w : World) (S1 : Nat → Prop) (h1 : PV w b S1 evSt) : Calls Tryz.prog 14 #[.pointer (some ⟨b, 0, none⟩)] w (ValsP w evEnd) := by
 obtain ⟨vals, hl, hk, hc⟩ := vals_any b w S1 evSt h1 (by rw [ev_nk.1]; omega) (by rw [ev_nk.1]; omega)
 obtain rfl := ev_vals vals hl hk
 exact hc
theorem ev_check (g2 c2 : Nat) (w : World) (h : w.ownsRow 0 41 1 (.slice (some ⟨g2, 0, none⟩) 82 c2) 82 (uints evEnd)) : Calls Tryz.prog 27 #[.agg #[.int .i64 1, .int .i64 8, .int .i64 10], .slice (some ⟨g2, 0, none⟩) 82 c2] w fun e w' => e = .returned (.tuple #[.int .i64 0, .bool true]) ∧ Below w.heap.size w w' := by
 have hx : XV w 1 8 10 ⟨g2, 0, none⟩ 82 evEnd := ev_xv ev_end_len ev_end_u32 (fun k hk => by
  have e : (⟨g2, 0, none⟩ : Addr).add k = ⟨g2, k, none⟩ := by unfold Addr.add; split <;> simp_all
  have hl := ev_end_len
  rw [e]
  exact (h.cellAt k (by omega)).trans (by simp [uints, show k < evEnd.length by omega]))
 have := rcheck_any c2 w hx
 rw [show chkF evEnd 1 8 10 = (0, true) from (by unfold evEnd evSt; exact ev_chk)] at this
 exact this
set_option maxHeartbeats 4000000 in
set_option maxRecDepth 100000 in
theorem swlive_any (w : World) : Calls Tryz.prog 9 #[] w fun e w' => e = .returned (.bool true) ∧ Below w.heap.size w w' := by
 have H8 := Lib.hid (fun w => eight_any w)
 have HL := Lib.hid ei_len
 have hE : ((((((((((eiWs.set 0 7).set 5 0).set 12 0).set 21 1).set 34 524307).set 35 1).set 39 1).set 40 113).set 77 2).set 4 2) = evWs := rfl
 have HE := Lib.hid (fun _ : Unit => hE)
 clear hE
 unfold EightP at H8
 generalize eiWs = ws at *
 go_enter Tryz.func9, Tryz.ntmps9
 go_wp2_with fail
 refine (H8.out _).mono ?_
 rintro e w1 ⟨g, rfl, hg1, gl, r1⟩
 obtain ⟨z0, q0⟩ : ∃ z, w1.cell? ⟨g, 0, none⟩ = some z := ⟨_, hg1.cell (by rw [HL.out]; decide)⟩
 have f0 := hg1.frozen 0
 obtain ⟨z5, q5⟩ : ∃ z, w1.cell? ⟨g, 5, none⟩ = some z := ⟨_, hg1.cell (by rw [HL.out]; decide)⟩
 have f5 := hg1.frozen 5
 obtain ⟨z12, q12⟩ : ∃ z, w1.cell? ⟨g, 12, none⟩ = some z := ⟨_, hg1.cell (by rw [HL.out]; decide)⟩
 have f12 := hg1.frozen 12
 obtain ⟨z21, q21⟩ : ∃ z, w1.cell? ⟨g, 21, none⟩ = some z := ⟨_, hg1.cell (by rw [HL.out]; decide)⟩
 have f21 := hg1.frozen 21
 obtain ⟨z34, q34⟩ : ∃ z, w1.cell? ⟨g, 34, none⟩ = some z := ⟨_, hg1.cell (by rw [HL.out]; decide)⟩
 have f34 := hg1.frozen 34
 obtain ⟨z35, q35⟩ : ∃ z, w1.cell? ⟨g, 35, none⟩ = some z := ⟨_, hg1.cell (by rw [HL.out]; decide)⟩
 have f35 := hg1.frozen 35
 obtain ⟨z39, q39⟩ : ∃ z, w1.cell? ⟨g, 39, none⟩ = some z := ⟨_, hg1.cell (by rw [HL.out]; decide)⟩
 have f39 := hg1.frozen 39
 obtain ⟨z40, q40⟩ : ∃ z, w1.cell? ⟨g, 40, none⟩ = some z := ⟨_, hg1.cell (by rw [HL.out]; decide)⟩
 have f40 := hg1.frozen 40
 obtain ⟨z77, q77⟩ : ∃ z, w1.cell? ⟨g, 77, none⟩ = some z := ⟨_, hg1.cell (by rw [HL.out]; decide)⟩
 have f77 := hg1.frozen 77
 obtain ⟨z4, q4⟩ : ∃ z, w1.cell? ⟨g, 4, none⟩ = some z := ⟨_, hg1.cell (by rw [HL.out]; decide)⟩
 have f4 := hg1.frozen 4
 have HG := Lib.hid hg1
 have HR := Lib.hid r1
 have hgw := hg1.lt
 have hgw2 : g ≠ w1.heap.size := by omega
 clear hg1 r1 H8
 go_wp2_with fail
 have hWt := WtAt.alloc ((((((((((HG.out.set 0 7).set 5 0).set 12 0).set 21 1).set 34 524307).set 35 1).set 39 1).set 40 113).set 77 2).set 4 2) (.cells #[.int .i64 1, .int .i64 8, .int .i64 10] 23)
 rw [HE.out ()] at hWt
 refine calls_gen ?_
 intro wz hwz
 rw [← hwz] at hWt
 have hBel : Below w.heap.size w wz := by
  rw [hwz]
  have hR := HR.out
  have hRz := hR.size
  refine Below.alloc ?_ (by simpa using hRz) _
  iterate 10 refine Below.setCell ?_ (by exact gl) _
  exact hR
 have cz : ∀ o : Nat, wz.cell? ⟨w1.heap.size, o, none⟩ = (#[.int .i64 1, .int .i64 8, .int .i64 10] : Array Value)[o]? := by
  rw [hwz]; intro o
  exact cell?_of_heap (hb_alloc _ _ _ (by simp))
 have sz : wz.heap.size = w1.heap.size + 1 := by rw [hwz]; simp
 have hBS : BS w [w1.heap.size] wz := ⟨hBel, fun L hL => by simp at hL; subst hL; exact ⟨by omega, HR.out.size⟩⟩
 clear hwz hBel q0 f0 q5 f5 q12 f12 q21 f21 q34 f34 q35 f35 q39 f39 q40 f40 q77 f77 q4 f4 z0 z5 z12 z21 z34 z35 z39 z40 z77 z4
 have hRd := Lib.hid (wt_rd (n := 82) (c := 82) hWt ev_len.symm)
 have HU := Lib.hid ev_u32
 have HAll := Lib.hid ev_all
 have HVals := Lib.hid ev_valsC
 have HChk := Lib.hid ev_check
 have h82 := ev_len
 have e82 := ev_end_len
 have hg0 : (evSt.get 0).1 = 8 := ev_g0
 have hg1 : ((evSt.get 0).2.get 21).1 = 0 := ev_g21
 obtain ⟨v0, s2, hs2⟩ : ∃ v s, evSt.get 0 = (v, s) := ⟨_, _, rfl⟩
 rw [hs2] at hg0 hg1
 obtain ⟨v1, s3, hs3⟩ : ∃ v s, s2.get 21 = (v, s) := ⟨_, _, rfl⟩
 rw [show (v0, s2).2 = s2 from rfl, hs3] at hg1
 dsimp only at hg0 hg1
 subst hg0 hg1
 have G0 := fun b => Lib.hid (get_as (b := b) hs2)
 have G1 := fun b => Lib.hid (get_as (b := b) hs3)
 have HO := Lib.hid (fun (b : Nat) (w : World) (S1 : Nat → Prop) (h1 : PV w b S1 s3) => spage_out b 1 8 10 (-1) w S1 s3 h1 (by decide))
 rw [ev_out] at HO
 clear hs2 hs3
 generalize evSt = st1 at *
 generalize hE1 : evEnd = vE at *
 generalize evWs = vs at *
 clear hE1 HE
 refine (whole_any _ vs wz hRd.out (by omega) HU.out).mono ?_
 rintro e w2 ⟨b1, rfl, P2, B2⟩
 have hV := NewV.vst hBS P2 B2
 have c2 : ∀ o : Nat, w2.cell? ⟨w1.heap.size, o, none⟩ = (#[.int .i64 1, .int .i64 8, .int .i64 10] : Array Value)[o]? := fun o => (B2.cell (p := ⟨w1.heap.size, o, none⟩) (by show w1.heap.size < _; omega)).trans (cz o)
 clear P2 B2 hBS hRd hWt
 go_wp2_with fail
 refine (calls_st hV (HAll.out _ _)).mono ?_
 rintro e w3 ⟨rfl, hV3, hV3l⟩
 have c3 := loc_step hV3l (by simp) c2
 clear hV3l
 go_wp2_with fail
 have hX := hV3.drew keepsPV
 refine wp_region_noPanic ?_
 refine wp_region_held_drew (S := fun w' => (∀ o : Nat, w'.cell? ⟨w1.heap.size, o, none⟩ = (#[.int .i64 1, .int .i64 8, .int .i64 10] : Array Value)[o]?)) (by kernel_rfl) ?_ (fun hHeld => ?_)
 ·exact c3
 refine wpAnyH_take (i := 0) (oi := _) (v := ?_) rfl (by kernel_rfl) (by kernel_rfl) (by kernel_rfl) (fun _ _ _ h => h) (Or.inl ⟨by rfl, ?_⟩) (by assumption) ?_
 rotate_left
 ·intro w hSw; (try dsimp only at hSw); go_simp; try with_reducible rfl
 try simp only [Act.put, zA, zB, zD, zE, zF]
 refine wpAnyH_take (i := 1) (oi := _) (v := ?_) rfl (by kernel_rfl) (by kernel_rfl) (by kernel_rfl) (fun _ _ _ h => h) (Or.inl ⟨by rfl, ?_⟩) (by assumption) ?_
 rotate_left
 ·intro w hSw; (try dsimp only at hSw); go_simp; try with_reducible rfl
 try simp only [Act.put, zA, zB, zC, zD, zE, zF]
 refine wpAnyH_ready (rs := [2]) (by kernel_rfl) (by simp) ?_
 refine AllReadyH.cons (o := _) rfl (fun K hK => ?_) AllReadyH.nil
 go_simp
 obtain ⟨S1, p1, -, -⟩ := hX.ex
 refine (HVals.out _ _ _ p1).mono ?_
 rintro e w4 ⟨v4, rfl, o4, n4, B4⟩
 have hY := hX.below keepsPV B4
 have c4 := fun o => (B4.cell (p := ⟨w1.heap.size, o, none⟩) (hX.ls _ (by simp)).1).trans (hHeld o)
 rw [e82] at o4
 obtain ⟨g2, cp2, rfl⟩ := Joins.ownsRow_form o4 (by omega)
 clear n4 B4 p1
 dsimp only
 refine hK.out _ _ ?_ (fun hHeld => ?_)
 ·exact c4
 clear hK K
 try simp only [Act.put, zA, zB, zC, zD, zE, zF]
 refine wpAnyH_ready (rs := [3]) (by kernel_rfl) (by simp) ?_
 refine AllReadyH.cons (o := _) rfl (fun K hK => ?_) AllReadyH.nil
 go_simp
 refine (HChk.out _ _ _ o4).mono ?_
 rintro e w5 ⟨rfl, B5⟩
 have hZ := hY.below keepsPV B5
 have c5 := fun o => (B5.cell (p := ⟨w1.heap.size, o, none⟩) (hY.ls _ (by simp)).1).trans (hHeld o)
 dsimp only
 refine hK.out _ _ ?_ (fun hHeld => ?_)
 ·exact c5
 clear hK K
 try simp only [Act.put, zA, zB, zC, zD, zE, zF]
 refine wpAnyH_take (i := 4) (oi := _) (v := ?_) rfl (by kernel_rfl) (by kernel_rfl) (by kernel_rfl) (fun _ _ _ h => h) (Or.inl ⟨by rfl, ?_⟩) (by assumption) ?_
 rotate_left
 ·intro w hSw; (try dsimp only at hSw); go_simp; try with_reducible rfl
 try simp only [Act.put, zA, zB, zC, zD, zE, zF]
 refine wpAnyH_take (i := 5) (oi := _) (v := ?_) rfl (by kernel_rfl) (by kernel_rfl) (by kernel_rfl) (fun _ _ _ h => h) (Or.inl ⟨by rfl, ?_⟩) (by assumption) ?_
 rotate_left
 ·intro w hSw; (try dsimp only at hSw); go_simp; try with_reducible rfl
 try simp only [Act.put, zA, zB, zC, zD, zE, zF]
 refine wpAnyH_take (i := 6) (oi := _) (v := ?_) rfl (by kernel_rfl) (by kernel_rfl) (by kernel_rfl) (fun _ _ _ h => h) (Or.inl ⟨by rfl, ?_⟩) (by assumption) ?_
 rotate_left
 ·intro w hSw; (try dsimp only at hSw); go_simp; try with_reducible rfl
 try simp only [Act.put, zA, zB, zC, zD, zE, zF]
 refine wpAnyH_take (i := 7) (oi := _) (v := ?_) rfl (by kernel_rfl) (by kernel_rfl) (by kernel_rfl) (fun _ _ _ h => h) (Or.inl ⟨by rfl, ?_⟩) (by assumption) ?_
 rotate_left
 ·intro w hSw; (try dsimp only at hSw); go_simp; try with_reducible rfl
 try simp only [Act.put, zA, zB, zC, zD, zE, zF]
 refine wpAnyH_take (i := 8) (oi := _) (v := ?_) rfl (by kernel_rfl) (by kernel_rfl) (by kernel_rfl) (fun _ _ _ h => h) (Or.inl ⟨by rfl, ?_⟩) (by assumption) ?_
 rotate_left
 ·intro w hSw; (try dsimp only at hSw); go_simp; try with_reducible rfl
 try simp only [Act.put, zA, zB, zC, zD, zE, zF]
 refine wpAnyH_done (by kernel_rfl) ?_ _
 refine NoPanic.normal ?_
 clear hX hY hV3 c3 c4 o4
 go_wp2_with fail
 refine (calls_st hZ ((G0 b1).out _)).mono ?_
 rintro e w6 ⟨rfl, hV6, hV6l⟩
 have c6 := loc_step hV6l (by simp) c5
 clear hV6l
 go_wp2_with fail
 refine (calls_st hV6 ((G1 b1).out _)).mono ?_
 rintro e w7 ⟨rfl, hV7, hV7l⟩
 have c7 := loc_step hV7l (by simp) c6
 clear hV7l
 go_wp2_with fail
 refine (calls_st hV7 (HO.out _ _)).mono ?_
 rintro e w8 ⟨rfl, hV8, hV8l⟩
 have c8 := loc_step hV8l (by simp) c7
 clear hV8l
 go_wp2
 go_ret
 exact ⟨rfl, hV8.bel⟩
end Go.Proofs.YtnagdljgeglceaaGreat
/- the walk of AuditParts. -/
set_option linter.unusedSimpArgs false
set_option linter.unusedVariables false
namespace Go.Proofs.YtnagdljgeglceaaGreat
open Go.ChangeShapes Go.RowKit
/-- the document's Sound, of what is none. -/
theorem rsound_no {t p s : Int} (a : Option Addr) (m c : Nat) (w : World) (h : rightB t p s = false ∨ (m : Int) ≠ cellsN t p) :
 Calls Tryz.prog 8 #[.agg #[.int .i64 t, .int .i64 p, .int .i64 s], .slice a m c] w fun e w' => e = .returned (.bool false) ∧ Below w.heap.size w w' := by
 have H := Lib.hid (fun w => rcheck_no a m c w h)
 clear h
 go_enter Tryz.func8, Tryz.ntmps8
 go_wp2_with fail
 refine (H.out _).mono ?_
 rintro e w1 ⟨rfl, hb⟩
 go_wp2
 go_ret
 refine ⟨rfl, ?_⟩
 (repeat (first | exact Below.refl _ _ | assumption | refine Below.setCell ?_ (by first | omega | (simp; done) | (simp; omega)) _ | refine Below.alloc ?_ (by first | omega | (simp; done) | (simp; omega)) _ | refine Below.drew ?_ | refine Below.trans ?_ (Below.mono ‹Below _ _ _› (by first | omega | (simp; done) | (simp; omega)))))
end Go.Proofs.YtnagdljgeglceaaGreat
/- SweepPages: the law's walk. -/
set_option linter.unusedSimpArgs false
set_option linter.unusedVariables false
namespace Go.Proofs.YtnagdljgeglceaaGreat
open Go.RowKit

/-- what Sound answers, of any values. -/
theorem sound_ask (t p s : Int) (a : Option Addr) (m cp : Nat) (vals : List Int) (w : World) (hR : Rd w (.slice a m cp) 1 vals.length (uints vals)) (hm : m = vals.length) (hu : ∀ u ∈ vals, VS.U32 u) (hp : p ≤ 64) :
 ∃ r : Bool, (∀ W, Below w.heap.size w W → Calls Tryz.prog 8 #[.agg #[.int .i64 t, .int .i64 p, .int .i64 s], .slice a m cp] W fun e W' => e = .returned (.bool r) ∧ Below W.heap.size W W') ∧ (r = true → 4 ≤ p ∧ vals.length ≤ 1000) := by
 subst hm
 by_cases hx : rightB t p s = true ∧ (vals.length : Int) = cellsN t p
 ·obtain ⟨ad, c2, hv, hxv⟩ := hR.xv hu hx.1 hp hx.2
  simp only [Value.slice.injEq, true_and] at hv
  obtain ⟨rfl, rfl⟩ := hv
  refine ⟨(chkF vals t p s).2, fun W hW => rsound_any cp W (hxv.keep hW), fun _ => ?_⟩
  have := hxv.bd
  omega
 ·refine ⟨false, fun W _ => rsound_no a vals.length cp W ?_, fun h => by cases h⟩
  by_cases h1 : rightB t p s = true
  ·exact Or.inr (fun h2 => hx ⟨h1, h2⟩)
  ·exact Or.inl (by simpa using h1)

theorem swpages_few (t p s q : Int) (a : Option Addr) (m cp : Nat) (w : World) (hp : ¬ p ≤ 64) :
 Calls Tryz.prog 5 #[.agg #[.int .i64 t, .int .i64 p, .int .i64 s], .slice a m cp, .int .i64 q] w fun e W' => e = .returned (.bool true) ∧ Below w.heap.size w W' := by
 have hd : decide (p ≤ 64) = false := by simpa using hp
 have HF := Lib.hid (fun w => few12_any t p s w)
 rw [hd] at HF
 have HL := Lib.hid swlive_any
 have c0 := loc_alloc w #[.int .i64 t, .int .i64 p, .int .i64 s] 23
 have S0 := ((BS.start w).alloc (.cells #[.int .i64 t, .int .i64 p, .int .i64 s] 23))
 clear hd hp
 go_enter Tryz.func5, Tryz.ntmps5
 go_wp2_with fail
 refine (calls_b S0 (HF.out _)).mono ?_
 rintro e w1 ⟨rfl, S1, S1l⟩
 have c1 := loc_step S1l (by simp) c0
 clear S1l
 go_wp2_with fail
 refine (HL.out _).mono ?_
 rintro e w4 ⟨rfl, r4⟩
 go_wp2
 go_ret
 exact ⟨rfl, S1.bel.trans (r4.mono S1.bel.size)⟩

theorem swpages_bad (t p s q : Int) (a : Option Addr) (m cp : Nat) (w : World) (hp : p ≤ 64) (hS : ∀ W, Below w.heap.size w W → Calls Tryz.prog 8 #[.agg #[.int .i64 t, .int .i64 p, .int .i64 s], .slice a m cp] W fun e W' => e = .returned (.bool false) ∧ Below W.heap.size W W') :
 Calls Tryz.prog 5 #[.agg #[.int .i64 t, .int .i64 p, .int .i64 s], .slice a m cp, .int .i64 q] w fun e W' => e = .returned (.bool true) ∧ Below w.heap.size w W' := by
 have hd : decide (p ≤ 64) = true := by simpa using hp
 have HF := Lib.hid (fun w => few12_any t p s w)
 rw [hd] at HF
 have HL := Lib.hid swlive_any
 have HS := Lib.hid hS
 have c0 := loc_alloc w #[.int .i64 t, .int .i64 p, .int .i64 s] 23
 have S0 := ((BS.start w).alloc (.cells #[.int .i64 t, .int .i64 p, .int .i64 s] 23))
 clear hd hp hS
 go_enter Tryz.func5, Tryz.ntmps5
 go_wp2_with fail
 refine (calls_b S0 (HF.out _)).mono ?_
 rintro e w1 ⟨rfl, S1, S1l⟩
 have c1 := loc_step S1l (by simp) c0
 clear S1l
 go_wp2_with fail
 refine (calls_b S1 (HS.out _ S1.bel)).mono ?_
 rintro e w2 ⟨rfl, S2, S2l⟩
 have c2 := loc_step S2l (by simp) c1
 clear S2l
 go_wp2_with fail
 refine (HL.out _).mono ?_
 rintro e w4 ⟨rfl, r4⟩
 go_wp2
 go_ret
 exact ⟨rfl, S2.bel.trans (r4.mono S2.bel.size)⟩

/-- both views made one after the other. -/
theorem two_new {w w0 w2 w3 : World} {b1 b2 : Nat} {Ls : List Nat} {s1 s2 : VS} (hB : BS w Ls w0) (P1 : PV w2 b1 (fun k => w0.heap.size ≤ k ∧ k < w2.heap.size) s1) (B1 : Below w0.heap.size w0 w2) (P2 : RV w3 b2 (fun k => w2.heap.size ≤ k ∧ k < w3.heap.size) s2) (B2 : Below w2.heap.size w2 w3) : V2 w b1 b2 Ls s1 s2 w3 := by
 have z0 := hB.bel.size
 have z1 := B1.size
 have z2 := B2.size
 refine ⟨⟨_, _, keepsPV.keep (T := fun _ => False) P1 (Fr.of_below B2) (fun _ _ x => x), P2, fun k hk => by omega, fun k hk => by omega, fun k hk x => by omega, ?_⟩, hB.bel.trans ((B1.trans (B2.mono z1)).mono z0), ?_⟩
 ·intro L hL
  have := (hB.ls L hL).1
  exact ⟨fun x => by omega, fun x => by omega⟩
 ·intro L hL
  have := hB.ls L hL
  exact ⟨by omega, this.2⟩
end Go.Proofs.YtnagdljgeglceaaGreat
/- SweepPages: the law's walk, main. -/
set_option linter.unusedSimpArgs false
set_option linter.unusedVariables false
namespace Go.Proofs.YtnagdljgeglceaaGreat
open Go.RowKit

set_option maxHeartbeats 4000000 in
set_option maxRecDepth 100000 in
theorem swpages_main (t p s q : Int) (a : Option Addr) (m cp : Nat) (vals : List Int) (w : World) (hR : Rd w (.slice a m cp) 1 vals.length (uints vals)) (hm : m = vals.length) (hu : ∀ u ∈ vals, VS.U32 u) (hp : p ≤ 64) (hp4 : 4 ≤ p) (hn : vals.length ≤ 1000) (hS : ∀ W, Below w.heap.size w W → Calls Tryz.prog 8 #[.agg #[.int .i64 t, .int .i64 p, .int .i64 s], .slice a m cp] W fun e W' => e = .returned (.bool true) ∧ Below W.heap.size W W') :
 Calls Tryz.prog 5 #[.agg #[.int .i64 t, .int .i64 p, .int .i64 s], .slice a m cp, .int .i64 q] w fun e W' => e = .returned (.bool true) ∧ Below w.heap.size w W' := by
 have hd : decide (p ≤ 64) = true := by simpa using hp
 have HF := Lib.hid (fun w => few12_any t p s w)
 rw [hd] at HF
 have HL := Lib.hid swlive_any
 have HS := Lib.hid hS
 have HR := Lib.hid hR
 have HU := Lib.hid hu
 have HP := fun (b : Nat) (w : World) (S1 : Nat → Prop) (h1 : PV w b S1 (wholeVS vals)) => spage_any b t p s q w S1 _ h1 (by omega)
 have HX := fun (b : Nat) (w : World) (S1 : Nat → Prop) (h1 : RV w b S1 (wholeVS vals)) => xpage_any b t p s q w S1 _ h1 (by omega)
 obtain ⟨rb, y, hy⟩ : ∃ rb y, sweepF t p s q (wholeVS vals) = (rb, y) := ⟨_, _, rfl⟩
 rw [hy] at HP HX
 dsimp only at HP HX
 have HPH := Lib.hid HP
 have HXH := Lib.hid HX
 have HP := fun (b : Nat) (w : World) (S1 : Nat → Prop) (h1 : PV w b S1 (wholeVS vals)) => sall_any b t p s w S1 _ h1 (by omega) (by omega)
 have HX := fun (b : Nat) (w : World) (S1 : Nat → Prop) (h1 : RV w b S1 (wholeVS vals)) => xall_any b t p s w S1 _ h1 (by omega) (by omega)
 have hwl := wl_sweepN t p s (wholeVS vals) p.toNat
 have hnl := sweepN_le t p s (wholeVS vals) p.toNat
 obtain ⟨rn, y2, hy2⟩ : ∃ rb y, sweepN t p s p.toNat (wholeVS vals) = (rb, y) := ⟨_, _, rfl⟩
 rw [hy2] at HP HX hwl hnl
 dsimp only at HP HX hwl hnl
 have HPA := Lib.hid HP
 have HXA := Lib.hid HX
 have hw0 : (wholeVS vals).writes.length = 0 := rfl
 rw [hw0] at hwl
 have HWl := Lib.hid hwl
 have HNl := Lib.hid (show rn ≤ 64 by omega)
 have c0 := loc_alloc w #[.int .i64 t, .int .i64 p, .int .i64 s] 23
 have S0 := ((BS.start w).alloc (.cells #[.int .i64 t, .int .i64 p, .int .i64 s] 23))
 clear hd hp hS hR hu HP HX hy hy2 hwl hnl hw0 hp4 hm
 cases rb
 case false =>
  go_enter Tryz.func5, Tryz.ntmps5
  go_wp2_with fail
  refine (calls_b S0 (HF.out _)).mono ?_
  rintro e w1 ⟨rfl, S1, S1l⟩
  have c1 := loc_step S1l (by simp) c0
  clear S1l
  go_wp2_with fail
  refine (calls_b S1 (HS.out _ S1.bel)).mono ?_
  rintro e w2 ⟨rfl, S2, S2l⟩
  have c2 := loc_step S2l (by simp) c1
  clear S2l
  clear S0 S1 c0 c1
  go_wp2_with fail
  refine (whole_any _ vals w2 (HR.out.keepB S2.bel) (by omega) HU.out).mono ?_
  rintro e w2a ⟨b21, rfl, P21, B21⟩
  have T2 := S2.bel.trans (B21.mono S2.bel.size)
  go_wp2_with fail
  refine (rwhole_any _ vals w2a (HR.out.keepB T2) (by omega) HU.out).mono ?_
  rintro e w2b ⟨b22, rfl, P22, B22⟩
  have hV2 := two_new S2 P21 B21 P22 B22
  have d2 : ∀ o : Nat, w2b.cell? ⟨w.heap.size, o, none⟩ = (#[.int .i64 t, .int .i64 p, .int .i64 s] : Array Value)[o]? := fun o => (World.cell?_of_block (a := ⟨w.heap.size, o, none⟩) ((B22.block w.heap.size (Nat.lt_of_lt_of_le (S2.ls w.heap.size (by simp)).1 B21.size)).trans (B21.block w.heap.size (S2.ls w.heap.size (by simp)).1))).trans (c2 o)
  have hVd2 := hV2.drew
  clear P21 P22 B21 B22 T2 S2 c2 hV2
  go_wp2_with fail
  refine wp_region_noPanic ?_
  refine wp_region_held_drew (S := fun w' => (∀ o : Nat, w'.cell? ⟨w.heap.size, o, none⟩ = (#[.int .i64 t, .int .i64 p, .int .i64 s] : Array Value)[o]?)) (by kernel_rfl) ?_ (fun hHeld => ?_)
  ·exact d2
  refine wpAnyH_take (i := 0) (oi := _) (v := ?_) rfl (by kernel_rfl) (by kernel_rfl) (by kernel_rfl) (fun _ _ _ h => h) (Or.inl ⟨by rfl, ?_⟩) (by assumption) ?_
  rotate_left
  ·intro w hSw; (try dsimp only at hSw); go_simp; try with_reducible rfl
  try simp only [Act.put, zA, zB, zD, zE, zF]
  refine wpAnyH_take (i := 1) (oi := _) (v := ?_) rfl (by kernel_rfl) (by kernel_rfl) (by kernel_rfl) (fun _ _ _ h => h) (Or.inl ⟨by rfl, ?_⟩) (by assumption) ?_
  rotate_left
  ·intro w hSw; (try dsimp only at hSw); go_simp; try with_reducible rfl
  try simp only [Act.put, zA, zB, zC, zD, zE, zF]
  refine wpAnyH_take (i := 2) (oi := _) (v := ?_) rfl (by kernel_rfl) (by kernel_rfl) (by kernel_rfl) (fun _ _ _ h => h) (Or.inl ⟨by rfl, ?_⟩) (by assumption) ?_
  rotate_left
  ·intro w hSw; (try dsimp only at hSw); go_simp; try with_reducible rfl
  try simp only [Act.put, zA, zB, zC, zD, zE, zF]
  refine wpAnyH_take (i := 4) (oi := _) (v := ?_) rfl (by kernel_rfl) (by kernel_rfl) (by kernel_rfl) (fun _ _ _ h => h) (Or.inl ⟨by rfl, ?_⟩) (by assumption) ?_
  rotate_left
  ·intro w hSw; (try dsimp only at hSw); go_simp; try with_reducible rfl
  try simp only [Act.put, zA, zB, zC, zD, zE, zF]
  refine wpAnyH_take (i := 5) (oi := _) (v := ?_) rfl (by kernel_rfl) (by kernel_rfl) (by kernel_rfl) (fun _ _ _ h => h) (Or.inl ⟨by rfl, ?_⟩) (by assumption) ?_
  rotate_left
  ·intro w hSw; (try dsimp only at hSw); go_simp; try with_reducible rfl
  try simp only [Act.put, zA, zB, zC, zD, zE, zF]
  refine wpAnyH_take (i := 6) (oi := _) (v := ?_) rfl (by kernel_rfl) (by kernel_rfl) (by kernel_rfl) (fun _ _ _ h => h) (Or.inl ⟨by rfl, ?_⟩) (by assumption) ?_
  rotate_left
  ·intro w hSw; (try dsimp only at hSw); go_simp; try with_reducible rfl
  try simp only [Act.put, zA, zB, zC, zD, zE, zF]
  refine wpAnyH_ready (rs := [3]) (by kernel_rfl) (by simp) ?_
  refine AllReadyH.cons (o := _) rfl (fun K hK => ?_) AllReadyH.nil
  go_simp
  refine (V2.pv hVd2 (HPH.out _ _)).mono ?_
  rintro e w5 ⟨rfl, hV5, hV5l⟩
  have d5 := loc_step hV5l (by simp) hHeld
  clear hV5l
  dsimp only
  refine hK.out _ _ ?_ (fun hHeld => ?_)
  ·exact d5
  clear hK K
  try simp only [Act.put, zA, zB, zC, zD, zE, zF]
  refine wpAnyH_ready (rs := [7]) (by kernel_rfl) (by simp) ?_
  refine AllReadyH.cons (o := _) rfl (fun K hK => ?_) AllReadyH.nil
  go_simp
  refine (V2.rv hV5 (HXH.out _ _)).mono ?_
  rintro e w6 ⟨rfl, hV6, hV6l⟩
  have d6 := loc_step hV6l (by simp) d5
  clear hV6l
  dsimp only
  refine hK.out _ _ ?_ (fun hHeld => ?_)
  ·exact d6
  clear hK K
  try simp only [Act.put, zA, zB, zC, zD, zE, zF]
  refine wpAnyH_take (i := 8) (oi := _) (v := ?_) rfl (by kernel_rfl) (by kernel_rfl) (by kernel_rfl) (fun _ _ _ h => h) (Or.inl ⟨by rfl, ?_⟩) (by assumption) ?_
  rotate_left
  ·intro w hSw; (try dsimp only at hSw); go_simp; try with_reducible rfl
  try simp only [Act.put, zA, zB, zC, zD, zE, zF]
  refine wpAnyH_take (i := 9) (oi := _) (v := ?_) rfl (by kernel_rfl) (by kernel_rfl) (by kernel_rfl) (fun _ _ _ h => h) (Or.inl ⟨by rfl, ?_⟩) (by assumption) ?_
  rotate_left
  ·intro w hSw; (try dsimp only at hSw); go_simp; try with_reducible rfl
  try simp only [Act.put, zA, zB, zC, zD, zE, zF]
  refine wpAnyH_done (by kernel_rfl) ?_ _
  refine NoPanic.normal ?_
  obtain ⟨S3x, S3y, p31, p32, -, -, -, -⟩ := hV6.ex
  have HP31 := Lib.hid p31
  have HP32 := Lib.hid p32
  have HV3 := Lib.hid hV6
  have HD3 := Lib.hid d6
  have i31 := keepsPV.inv p31
  have i32 := i31.reads_le
  have i33 := i31.writes_le
  have i34 := i31.small
  clear p31 p32 hV6 d6 i31
  go_wp2_with fail
  refine (reads_any _ _ _ _ HP31.out).mono ?_
  rintro e w3r ⟨vr3, rfl, o3r, n3r, B3r⟩
  have z3r := B3r.size
  have HO3r := Lib.hid o3r
  have HQ31 := Lib.hid (keepsPV.keep (T := fun _ => False) HP31.out (Fr.of_below B3r) (fun _ _ x => x))
  clear o3r n3r
  go_wp2_with fail
  refine (writes_any _ _ _ _ HQ31.out).mono ?_
  rintro e w3w ⟨vw3, rfl, o3w, n3w, B3w⟩
  have z3w := B3w.size
  have HO3w := Lib.hid o3w
  have HQ32 := Lib.hid (keepsPV.keep (T := fun _ => False) HQ31.out (Fr.of_below B3w) (fun _ _ x => x))
  have B3rw := B3r.trans (B3w.mono z3r)
  have HQ33 := Lib.hid (keepsRV.keep (T := fun _ => False) HP32.out (Fr.of_below B3rw) (fun _ _ x => x))
  have HO3r' := Lib.hid (ownsRow_block (w' := w3w) HO3r.out (fun k hk => B3w.block k (ownsRow_lt HO3r.out hk)))
  clear o3w n3w
  go_wp2_with fail
  refine (missing_any _ _ _ _ HQ32.out).mono ?_
  rintro e w3m ⟨rfl, rfl⟩
  have hs3 := same_any b22 y.reads y.writes (missI y) vr3 vw3 w3w S3y y HQ33.out HO3r'.out HO3w.out (by omega) (by omega)
  have hsb3 : sameB y.reads y.writes (missI y) y = true := by simp [sameB]
  rw [hsb3] at hs3
  have HS3 := Lib.hid hs3
  clear hs3 hsb3
  go_wp2_with fail
  refine HS3.out.mono ?_
  rintro e w3s ⟨rfl, B3s⟩
  have z3s := B3s.size
  have BB3 := B3rw.trans (B3s.mono (Nat.le_trans z3r z3w))
  have U3 := HV3.out.bel.trans (BB3.mono HV3.out.bel.size)
  have hz3 := (HV3.out.ls w.heap.size (by simp)).1
  have S4 : BS w [w.heap.size] w3s := ⟨U3, fun L hL => by simp at hL; subst hL; exact ⟨Nat.lt_of_lt_of_le hz3 BB3.size, Nat.le_refl _⟩⟩
  have c4 : ∀ o : Nat, w3s.cell? ⟨w.heap.size, o, none⟩ = (#[.int .i64 t, .int .i64 p, .int .i64 s] : Array Value)[o]? := fun o => (World.cell?_of_block (a := ⟨w.heap.size, o, none⟩) (BB3.block w.heap.size hz3)).trans (HD3.out o)
  generalize w3s = w4 at *
  clear HV3 HD3 HP31 HP32 HO3r HQ31 HO3w HQ32 HQ33 HO3r' HS3 i32 i33 i34 z3r z3w B3r B3w B3rw B3s z3s BB3 U3 hz3
  go_wp2_with fail
  refine (whole_any _ vals w4 (HR.out.keepB S4.bel) (by omega) HU.out).mono ?_
  rintro e w4a ⟨b41, rfl, P41, B41⟩
  have T4 := S4.bel.trans (B41.mono S4.bel.size)
  go_wp2_with fail
  refine (rwhole_any _ vals w4a (HR.out.keepB T4) (by omega) HU.out).mono ?_
  rintro e w4b ⟨b42, rfl, P42, B42⟩
  have hV4 := two_new S4 P41 B41 P42 B42
  have d4 : ∀ o : Nat, w4b.cell? ⟨w.heap.size, o, none⟩ = (#[.int .i64 t, .int .i64 p, .int .i64 s] : Array Value)[o]? := fun o => (World.cell?_of_block (a := ⟨w.heap.size, o, none⟩) ((B42.block w.heap.size (Nat.lt_of_lt_of_le (S4.ls w.heap.size (by simp)).1 B41.size)).trans (B41.block w.heap.size (S4.ls w.heap.size (by simp)).1))).trans (c4 o)
  have hVd4 := hV4.drew
  clear P41 P42 B41 B42 T4 S4 c4 hV4
  go_wp2_with fail
  refine wp_region_noPanic ?_
  refine wp_region_held_drew (S := fun w' => (∀ o : Nat, w'.cell? ⟨w.heap.size, o, none⟩ = (#[.int .i64 t, .int .i64 p, .int .i64 s] : Array Value)[o]?)) (by kernel_rfl) ?_ (fun hHeld => ?_)
  ·exact d4
  refine wpAnyH_take (i := 0) (oi := _) (v := ?_) rfl (by kernel_rfl) (by kernel_rfl) (by kernel_rfl) (fun _ _ _ h => h) (Or.inl ⟨by rfl, ?_⟩) (by assumption) ?_
  rotate_left
  ·intro w hSw; (try dsimp only at hSw); go_simp; try with_reducible rfl
  try simp only [Act.put, zA, zB, zD, zE, zF]
  refine wpAnyH_take (i := 1) (oi := _) (v := ?_) rfl (by kernel_rfl) (by kernel_rfl) (by kernel_rfl) (fun _ _ _ h => h) (Or.inl ⟨by rfl, ?_⟩) (by assumption) ?_
  rotate_left
  ·intro w hSw; (try dsimp only at hSw); go_simp; try with_reducible rfl
  try simp only [Act.put, zA, zB, zC, zD, zE, zF]
  refine wpAnyH_take (i := 3) (oi := _) (v := ?_) rfl (by kernel_rfl) (by kernel_rfl) (by kernel_rfl) (fun _ _ _ h => h) (Or.inl ⟨by rfl, ?_⟩) (by assumption) ?_
  rotate_left
  ·intro w hSw; (try dsimp only at hSw); go_simp; try with_reducible rfl
  try simp only [Act.put, zA, zB, zC, zD, zE, zF]
  refine wpAnyH_take (i := 4) (oi := _) (v := ?_) rfl (by kernel_rfl) (by kernel_rfl) (by kernel_rfl) (fun _ _ _ h => h) (Or.inl ⟨by rfl, ?_⟩) (by assumption) ?_
  rotate_left
  ·intro w hSw; (try dsimp only at hSw); go_simp; try with_reducible rfl
  try simp only [Act.put, zA, zB, zC, zD, zE, zF]
  refine wpAnyH_ready (rs := [2]) (by kernel_rfl) (by simp) ?_
  refine AllReadyH.cons (o := _) rfl (fun K hK => ?_) AllReadyH.nil
  go_simp
  refine (V2.pv hVd4 (HPA.out _ _)).mono ?_
  rintro e w8 ⟨rfl, hV8, hV8l⟩
  have d8 := loc_step hV8l (by simp) hHeld
  clear hV8l
  dsimp only
  refine hK.out _ _ ?_ (fun hHeld => ?_)
  ·exact d8
  clear hK K
  try simp only [Act.put, zA, zB, zC, zD, zE, zF]
  refine wpAnyH_ready (rs := [5]) (by kernel_rfl) (by simp) ?_
  refine AllReadyH.cons (o := _) rfl (fun K hK => ?_) AllReadyH.nil
  go_simp
  refine (V2.rv hV8 (HXA.out _ _)).mono ?_
  rintro e w9 ⟨rfl, hV9, hV9l⟩
  have d9 := loc_step hV9l (by simp) d8
  clear hV9l
  dsimp only
  refine hK.out _ _ ?_ (fun hHeld => ?_)
  ·exact d9
  clear hK K
  try simp only [Act.put, zA, zB, zC, zD, zE, zF]
  refine wpAnyH_take (i := 6) (oi := _) (v := ?_) rfl (by kernel_rfl) (by kernel_rfl) (by kernel_rfl) (fun _ _ _ h => h) (Or.inl ⟨by rfl, ?_⟩) (by assumption) ?_
  rotate_left
  ·intro w hSw; (try dsimp only at hSw); go_simp; try with_reducible rfl
  try simp only [Act.put, zA, zB, zC, zD, zE, zF]
  refine wpAnyH_take (i := 7) (oi := _) (v := ?_) rfl (by kernel_rfl) (by kernel_rfl) (by kernel_rfl) (fun _ _ _ h => h) (Or.inl ⟨by rfl, ?_⟩) (by assumption) ?_
  rotate_left
  ·intro w hSw; (try dsimp only at hSw); go_simp; try with_reducible rfl
  try simp only [Act.put, zA, zB, zC, zD, zE, zF]
  refine wpAnyH_done (by kernel_rfl) ?_ _
  refine NoPanic.normal ?_
  obtain ⟨S5x, S5y, p51, p52, -, -, -, -⟩ := hV9.ex
  have HP51 := Lib.hid p51
  have HP52 := Lib.hid p52
  have HV5 := Lib.hid hV9
  have HD5 := Lib.hid d9
  have i51 := keepsPV.inv p51
  have i52 := i51.reads_le
  have i53 := i51.writes_le
  have i54 := i51.small
  clear p51 p52 hV9 d9 i51
  go_wp2_with fail
  refine (reads_any _ _ _ _ HP51.out).mono ?_
  rintro e w5r ⟨vr5, rfl, o5r, n5r, B5r⟩
  have z5r := B5r.size
  have HO5r := Lib.hid o5r
  have HQ51 := Lib.hid (keepsPV.keep (T := fun _ => False) HP51.out (Fr.of_below B5r) (fun _ _ x => x))
  clear o5r n5r
  go_wp2_with fail
  refine (writes_any _ _ _ _ HQ51.out).mono ?_
  rintro e w5w ⟨vw5, rfl, o5w, n5w, B5w⟩
  have z5w := B5w.size
  have HO5w := Lib.hid o5w
  have HQ52 := Lib.hid (keepsPV.keep (T := fun _ => False) HQ51.out (Fr.of_below B5w) (fun _ _ x => x))
  have B5rw := B5r.trans (B5w.mono z5r)
  have HQ53 := Lib.hid (keepsRV.keep (T := fun _ => False) HP52.out (Fr.of_below B5rw) (fun _ _ x => x))
  have HO5r' := Lib.hid (ownsRow_block (w' := w5w) HO5r.out (fun k hk => B5w.block k (ownsRow_lt HO5r.out hk)))
  clear o5w n5w
  go_wp2_with fail
  refine (missing_any _ _ _ _ HQ52.out).mono ?_
  rintro e w5m ⟨rfl, rfl⟩
  have hs5 := same_any b42 y2.reads y2.writes (missI y2) vr5 vw5 w5w S5y y2 HQ53.out HO5r'.out HO5w.out (by omega) (by omega)
  have hsb5 : sameB y2.reads y2.writes (missI y2) y2 = true := by simp [sameB]
  rw [hsb5] at hs5
  have HS5 := Lib.hid hs5
  clear hs5 hsb5
  go_wp2_with fail
  refine HS5.out.mono ?_
  rintro e w5s ⟨rfl, B5s⟩
  have z5s := B5s.size
  have BB5 := B5rw.trans (B5s.mono (Nat.le_trans z5r z5w))
  have HQ54 := Lib.hid (keepsPV.keep (T := fun _ => False) HQ52.out (Fr.of_below B5s) (fun _ _ x => x))
  go_wp2_with fail
  refine (writes_any _ _ _ _ HQ54.out).mono ?_
  rintro e wq ⟨vq, rfl, oq, -, Bq⟩
  obtain ⟨qa, qc, rfl⟩ := row_shape oq
  have BE := BB5.trans (Bq.mono BB5.size)
  have U5 := Lib.hid (HV5.out.bel.trans (BE.mono HV5.out.bel.size))
  have hle1 := HWl.out
  have hle2 := HNl.out
  clear oq
  go_wp2_with fail
  all_goals
   refine (HL.out _).mono ?_
   rintro e wl ⟨rfl, Bl⟩
   go_wp2
   go_ret
   exact ⟨rfl, U5.out.trans (Bl.mono U5.out.size)⟩
 case true =>
  go_enter Tryz.func5, Tryz.ntmps5
  go_wp2_with fail
  refine (calls_b S0 (HF.out _)).mono ?_
  rintro e w1 ⟨rfl, S1, S1l⟩
  have c1 := loc_step S1l (by simp) c0
  clear S1l
  go_wp2_with fail
  refine (calls_b S1 (HS.out _ S1.bel)).mono ?_
  rintro e w2 ⟨rfl, S2, S2l⟩
  have c2 := loc_step S2l (by simp) c1
  clear S2l
  clear S0 S1 c0 c1
  go_wp2_with fail
  refine (whole_any _ vals w2 (HR.out.keepB S2.bel) (by omega) HU.out).mono ?_
  rintro e w2a ⟨b21, rfl, P21, B21⟩
  have T2 := S2.bel.trans (B21.mono S2.bel.size)
  go_wp2_with fail
  refine (rwhole_any _ vals w2a (HR.out.keepB T2) (by omega) HU.out).mono ?_
  rintro e w2b ⟨b22, rfl, P22, B22⟩
  have hV2 := two_new S2 P21 B21 P22 B22
  have d2 : ∀ o : Nat, w2b.cell? ⟨w.heap.size, o, none⟩ = (#[.int .i64 t, .int .i64 p, .int .i64 s] : Array Value)[o]? := fun o => (World.cell?_of_block (a := ⟨w.heap.size, o, none⟩) ((B22.block w.heap.size (Nat.lt_of_lt_of_le (S2.ls w.heap.size (by simp)).1 B21.size)).trans (B21.block w.heap.size (S2.ls w.heap.size (by simp)).1))).trans (c2 o)
  have hVd2 := hV2.drew
  clear P21 P22 B21 B22 T2 S2 c2 hV2
  go_wp2_with fail
  refine wp_region_noPanic ?_
  refine wp_region_held_drew (S := fun w' => (∀ o : Nat, w'.cell? ⟨w.heap.size, o, none⟩ = (#[.int .i64 t, .int .i64 p, .int .i64 s] : Array Value)[o]?)) (by kernel_rfl) ?_ (fun hHeld => ?_)
  ·exact d2
  refine wpAnyH_take (i := 0) (oi := _) (v := ?_) rfl (by kernel_rfl) (by kernel_rfl) (by kernel_rfl) (fun _ _ _ h => h) (Or.inl ⟨by rfl, ?_⟩) (by assumption) ?_
  rotate_left
  ·intro w hSw; (try dsimp only at hSw); go_simp; try with_reducible rfl
  try simp only [Act.put, zA, zB, zD, zE, zF]
  refine wpAnyH_take (i := 1) (oi := _) (v := ?_) rfl (by kernel_rfl) (by kernel_rfl) (by kernel_rfl) (fun _ _ _ h => h) (Or.inl ⟨by rfl, ?_⟩) (by assumption) ?_
  rotate_left
  ·intro w hSw; (try dsimp only at hSw); go_simp; try with_reducible rfl
  try simp only [Act.put, zA, zB, zC, zD, zE, zF]
  refine wpAnyH_take (i := 2) (oi := _) (v := ?_) rfl (by kernel_rfl) (by kernel_rfl) (by kernel_rfl) (fun _ _ _ h => h) (Or.inl ⟨by rfl, ?_⟩) (by assumption) ?_
  rotate_left
  ·intro w hSw; (try dsimp only at hSw); go_simp; try with_reducible rfl
  try simp only [Act.put, zA, zB, zC, zD, zE, zF]
  refine wpAnyH_take (i := 4) (oi := _) (v := ?_) rfl (by kernel_rfl) (by kernel_rfl) (by kernel_rfl) (fun _ _ _ h => h) (Or.inl ⟨by rfl, ?_⟩) (by assumption) ?_
  rotate_left
  ·intro w hSw; (try dsimp only at hSw); go_simp; try with_reducible rfl
  try simp only [Act.put, zA, zB, zC, zD, zE, zF]
  refine wpAnyH_take (i := 5) (oi := _) (v := ?_) rfl (by kernel_rfl) (by kernel_rfl) (by kernel_rfl) (fun _ _ _ h => h) (Or.inl ⟨by rfl, ?_⟩) (by assumption) ?_
  rotate_left
  ·intro w hSw; (try dsimp only at hSw); go_simp; try with_reducible rfl
  try simp only [Act.put, zA, zB, zC, zD, zE, zF]
  refine wpAnyH_take (i := 6) (oi := _) (v := ?_) rfl (by kernel_rfl) (by kernel_rfl) (by kernel_rfl) (fun _ _ _ h => h) (Or.inl ⟨by rfl, ?_⟩) (by assumption) ?_
  rotate_left
  ·intro w hSw; (try dsimp only at hSw); go_simp; try with_reducible rfl
  try simp only [Act.put, zA, zB, zC, zD, zE, zF]
  refine wpAnyH_ready (rs := [3]) (by kernel_rfl) (by simp) ?_
  refine AllReadyH.cons (o := _) rfl (fun K hK => ?_) AllReadyH.nil
  go_simp
  refine (V2.pv hVd2 (HPH.out _ _)).mono ?_
  rintro e w5 ⟨rfl, hV5, hV5l⟩
  have d5 := loc_step hV5l (by simp) hHeld
  clear hV5l
  dsimp only
  refine hK.out _ _ ?_ (fun hHeld => ?_)
  ·exact d5
  clear hK K
  try simp only [Act.put, zA, zB, zC, zD, zE, zF]
  refine wpAnyH_ready (rs := [7]) (by kernel_rfl) (by simp) ?_
  refine AllReadyH.cons (o := _) rfl (fun K hK => ?_) AllReadyH.nil
  go_simp
  refine (V2.rv hV5 (HXH.out _ _)).mono ?_
  rintro e w6 ⟨rfl, hV6, hV6l⟩
  have d6 := loc_step hV6l (by simp) d5
  clear hV6l
  dsimp only
  refine hK.out _ _ ?_ (fun hHeld => ?_)
  ·exact d6
  clear hK K
  try simp only [Act.put, zA, zB, zC, zD, zE, zF]
  refine wpAnyH_take (i := 8) (oi := _) (v := ?_) rfl (by kernel_rfl) (by kernel_rfl) (by kernel_rfl) (fun _ _ _ h => h) (Or.inl ⟨by rfl, ?_⟩) (by assumption) ?_
  rotate_left
  ·intro w hSw; (try dsimp only at hSw); go_simp; try with_reducible rfl
  try simp only [Act.put, zA, zB, zC, zD, zE, zF]
  refine wpAnyH_take (i := 9) (oi := _) (v := ?_) rfl (by kernel_rfl) (by kernel_rfl) (by kernel_rfl) (fun _ _ _ h => h) (Or.inl ⟨by rfl, ?_⟩) (by assumption) ?_
  rotate_left
  ·intro w hSw; (try dsimp only at hSw); go_simp; try with_reducible rfl
  try simp only [Act.put, zA, zB, zC, zD, zE, zF]
  refine wpAnyH_done (by kernel_rfl) ?_ _
  refine NoPanic.normal ?_
  obtain ⟨S3x, S3y, p31, p32, -, -, -, -⟩ := hV6.ex
  have HP31 := Lib.hid p31
  have HP32 := Lib.hid p32
  have HV3 := Lib.hid hV6
  have HD3 := Lib.hid d6
  have i31 := keepsPV.inv p31
  have i32 := i31.reads_le
  have i33 := i31.writes_le
  have i34 := i31.small
  clear p31 p32 hV6 d6 i31
  go_wp2_with fail
  refine (reads_any _ _ _ _ HP31.out).mono ?_
  rintro e w3r ⟨vr3, rfl, o3r, n3r, B3r⟩
  have z3r := B3r.size
  have HO3r := Lib.hid o3r
  have HQ31 := Lib.hid (keepsPV.keep (T := fun _ => False) HP31.out (Fr.of_below B3r) (fun _ _ x => x))
  clear o3r n3r
  go_wp2_with fail
  refine (writes_any _ _ _ _ HQ31.out).mono ?_
  rintro e w3w ⟨vw3, rfl, o3w, n3w, B3w⟩
  have z3w := B3w.size
  have HO3w := Lib.hid o3w
  have HQ32 := Lib.hid (keepsPV.keep (T := fun _ => False) HQ31.out (Fr.of_below B3w) (fun _ _ x => x))
  have B3rw := B3r.trans (B3w.mono z3r)
  have HQ33 := Lib.hid (keepsRV.keep (T := fun _ => False) HP32.out (Fr.of_below B3rw) (fun _ _ x => x))
  have HO3r' := Lib.hid (ownsRow_block (w' := w3w) HO3r.out (fun k hk => B3w.block k (ownsRow_lt HO3r.out hk)))
  clear o3w n3w
  go_wp2_with fail
  refine (missing_any _ _ _ _ HQ32.out).mono ?_
  rintro e w3m ⟨rfl, rfl⟩
  have hs3 := same_any b22 y.reads y.writes (missI y) vr3 vw3 w3w S3y y HQ33.out HO3r'.out HO3w.out (by omega) (by omega)
  have hsb3 : sameB y.reads y.writes (missI y) y = true := by simp [sameB]
  rw [hsb3] at hs3
  have HS3 := Lib.hid hs3
  clear hs3 hsb3
  go_wp2_with fail
  refine HS3.out.mono ?_
  rintro e w3s ⟨rfl, B3s⟩
  have z3s := B3s.size
  have BB3 := B3rw.trans (B3s.mono (Nat.le_trans z3r z3w))
  have U3 := HV3.out.bel.trans (BB3.mono HV3.out.bel.size)
  have hz3 := (HV3.out.ls w.heap.size (by simp)).1
  have S4 : BS w [w.heap.size] w3s := ⟨U3, fun L hL => by simp at hL; subst hL; exact ⟨Nat.lt_of_lt_of_le hz3 BB3.size, Nat.le_refl _⟩⟩
  have c4 : ∀ o : Nat, w3s.cell? ⟨w.heap.size, o, none⟩ = (#[.int .i64 t, .int .i64 p, .int .i64 s] : Array Value)[o]? := fun o => (World.cell?_of_block (a := ⟨w.heap.size, o, none⟩) (BB3.block w.heap.size hz3)).trans (HD3.out o)
  generalize w3s = w4 at *
  clear HV3 HD3 HP31 HP32 HO3r HQ31 HO3w HQ32 HQ33 HO3r' HS3 i32 i33 i34 z3r z3w B3r B3w B3rw B3s z3s BB3 U3 hz3
  go_wp2_with fail
  refine (whole_any _ vals w4 (HR.out.keepB S4.bel) (by omega) HU.out).mono ?_
  rintro e w4a ⟨b41, rfl, P41, B41⟩
  have T4 := S4.bel.trans (B41.mono S4.bel.size)
  go_wp2_with fail
  refine (rwhole_any _ vals w4a (HR.out.keepB T4) (by omega) HU.out).mono ?_
  rintro e w4b ⟨b42, rfl, P42, B42⟩
  have hV4 := two_new S4 P41 B41 P42 B42
  have d4 : ∀ o : Nat, w4b.cell? ⟨w.heap.size, o, none⟩ = (#[.int .i64 t, .int .i64 p, .int .i64 s] : Array Value)[o]? := fun o => (World.cell?_of_block (a := ⟨w.heap.size, o, none⟩) ((B42.block w.heap.size (Nat.lt_of_lt_of_le (S4.ls w.heap.size (by simp)).1 B41.size)).trans (B41.block w.heap.size (S4.ls w.heap.size (by simp)).1))).trans (c4 o)
  have hVd4 := hV4.drew
  clear P41 P42 B41 B42 T4 S4 c4 hV4
  go_wp2_with fail
  refine wp_region_noPanic ?_
  refine wp_region_held_drew (S := fun w' => (∀ o : Nat, w'.cell? ⟨w.heap.size, o, none⟩ = (#[.int .i64 t, .int .i64 p, .int .i64 s] : Array Value)[o]?)) (by kernel_rfl) ?_ (fun hHeld => ?_)
  ·exact d4
  refine wpAnyH_take (i := 0) (oi := _) (v := ?_) rfl (by kernel_rfl) (by kernel_rfl) (by kernel_rfl) (fun _ _ _ h => h) (Or.inl ⟨by rfl, ?_⟩) (by assumption) ?_
  rotate_left
  ·intro w hSw; (try dsimp only at hSw); go_simp; try with_reducible rfl
  try simp only [Act.put, zA, zB, zD, zE, zF]
  refine wpAnyH_take (i := 1) (oi := _) (v := ?_) rfl (by kernel_rfl) (by kernel_rfl) (by kernel_rfl) (fun _ _ _ h => h) (Or.inl ⟨by rfl, ?_⟩) (by assumption) ?_
  rotate_left
  ·intro w hSw; (try dsimp only at hSw); go_simp; try with_reducible rfl
  try simp only [Act.put, zA, zB, zC, zD, zE, zF]
  refine wpAnyH_take (i := 3) (oi := _) (v := ?_) rfl (by kernel_rfl) (by kernel_rfl) (by kernel_rfl) (fun _ _ _ h => h) (Or.inl ⟨by rfl, ?_⟩) (by assumption) ?_
  rotate_left
  ·intro w hSw; (try dsimp only at hSw); go_simp; try with_reducible rfl
  try simp only [Act.put, zA, zB, zC, zD, zE, zF]
  refine wpAnyH_take (i := 4) (oi := _) (v := ?_) rfl (by kernel_rfl) (by kernel_rfl) (by kernel_rfl) (fun _ _ _ h => h) (Or.inl ⟨by rfl, ?_⟩) (by assumption) ?_
  rotate_left
  ·intro w hSw; (try dsimp only at hSw); go_simp; try with_reducible rfl
  try simp only [Act.put, zA, zB, zC, zD, zE, zF]
  refine wpAnyH_ready (rs := [2]) (by kernel_rfl) (by simp) ?_
  refine AllReadyH.cons (o := _) rfl (fun K hK => ?_) AllReadyH.nil
  go_simp
  refine (V2.pv hVd4 (HPA.out _ _)).mono ?_
  rintro e w8 ⟨rfl, hV8, hV8l⟩
  have d8 := loc_step hV8l (by simp) hHeld
  clear hV8l
  dsimp only
  refine hK.out _ _ ?_ (fun hHeld => ?_)
  ·exact d8
  clear hK K
  try simp only [Act.put, zA, zB, zC, zD, zE, zF]
  refine wpAnyH_ready (rs := [5]) (by kernel_rfl) (by simp) ?_
  refine AllReadyH.cons (o := _) rfl (fun K hK => ?_) AllReadyH.nil
  go_simp
  refine (V2.rv hV8 (HXA.out _ _)).mono ?_
  rintro e w9 ⟨rfl, hV9, hV9l⟩
  have d9 := loc_step hV9l (by simp) d8
  clear hV9l
  dsimp only
  refine hK.out _ _ ?_ (fun hHeld => ?_)
  ·exact d9
  clear hK K
  try simp only [Act.put, zA, zB, zC, zD, zE, zF]
  refine wpAnyH_take (i := 6) (oi := _) (v := ?_) rfl (by kernel_rfl) (by kernel_rfl) (by kernel_rfl) (fun _ _ _ h => h) (Or.inl ⟨by rfl, ?_⟩) (by assumption) ?_
  rotate_left
  ·intro w hSw; (try dsimp only at hSw); go_simp; try with_reducible rfl
  try simp only [Act.put, zA, zB, zC, zD, zE, zF]
  refine wpAnyH_take (i := 7) (oi := _) (v := ?_) rfl (by kernel_rfl) (by kernel_rfl) (by kernel_rfl) (fun _ _ _ h => h) (Or.inl ⟨by rfl, ?_⟩) (by assumption) ?_
  rotate_left
  ·intro w hSw; (try dsimp only at hSw); go_simp; try with_reducible rfl
  try simp only [Act.put, zA, zB, zC, zD, zE, zF]
  refine wpAnyH_done (by kernel_rfl) ?_ _
  refine NoPanic.normal ?_
  obtain ⟨S5x, S5y, p51, p52, -, -, -, -⟩ := hV9.ex
  have HP51 := Lib.hid p51
  have HP52 := Lib.hid p52
  have HV5 := Lib.hid hV9
  have HD5 := Lib.hid d9
  have i51 := keepsPV.inv p51
  have i52 := i51.reads_le
  have i53 := i51.writes_le
  have i54 := i51.small
  clear p51 p52 hV9 d9 i51
  go_wp2_with fail
  refine (reads_any _ _ _ _ HP51.out).mono ?_
  rintro e w5r ⟨vr5, rfl, o5r, n5r, B5r⟩
  have z5r := B5r.size
  have HO5r := Lib.hid o5r
  have HQ51 := Lib.hid (keepsPV.keep (T := fun _ => False) HP51.out (Fr.of_below B5r) (fun _ _ x => x))
  clear o5r n5r
  go_wp2_with fail
  refine (writes_any _ _ _ _ HQ51.out).mono ?_
  rintro e w5w ⟨vw5, rfl, o5w, n5w, B5w⟩
  have z5w := B5w.size
  have HO5w := Lib.hid o5w
  have HQ52 := Lib.hid (keepsPV.keep (T := fun _ => False) HQ51.out (Fr.of_below B5w) (fun _ _ x => x))
  have B5rw := B5r.trans (B5w.mono z5r)
  have HQ53 := Lib.hid (keepsRV.keep (T := fun _ => False) HP52.out (Fr.of_below B5rw) (fun _ _ x => x))
  have HO5r' := Lib.hid (ownsRow_block (w' := w5w) HO5r.out (fun k hk => B5w.block k (ownsRow_lt HO5r.out hk)))
  clear o5w n5w
  go_wp2_with fail
  refine (missing_any _ _ _ _ HQ52.out).mono ?_
  rintro e w5m ⟨rfl, rfl⟩
  have hs5 := same_any b42 y2.reads y2.writes (missI y2) vr5 vw5 w5w S5y y2 HQ53.out HO5r'.out HO5w.out (by omega) (by omega)
  have hsb5 : sameB y2.reads y2.writes (missI y2) y2 = true := by simp [sameB]
  rw [hsb5] at hs5
  have HS5 := Lib.hid hs5
  clear hs5 hsb5
  go_wp2_with fail
  refine HS5.out.mono ?_
  rintro e w5s ⟨rfl, B5s⟩
  have z5s := B5s.size
  have BB5 := B5rw.trans (B5s.mono (Nat.le_trans z5r z5w))
  have HQ54 := Lib.hid (keepsPV.keep (T := fun _ => False) HQ52.out (Fr.of_below B5s) (fun _ _ x => x))
  go_wp2_with fail
  refine (writes_any _ _ _ _ HQ54.out).mono ?_
  rintro e wq ⟨vq, rfl, oq, -, Bq⟩
  obtain ⟨qa, qc, rfl⟩ := row_shape oq
  have BE := BB5.trans (Bq.mono BB5.size)
  have U5 := Lib.hid (HV5.out.bel.trans (BE.mono HV5.out.bel.size))
  have hle1 := HWl.out
  have hle2 := HNl.out
  clear oq
  go_wp2_with fail
  all_goals
   refine (HL.out _).mono ?_
   rintro e wl ⟨rfl, Bl⟩
   go_wp2
   go_ret
   exact ⟨rfl, U5.out.trans (Bl.mono U5.out.size)⟩

theorem swpages_any (t p s q : Int) (sv : Value) (vals : List Int) (w : World) (hR : Rd w sv 1 vals.length (uints vals)) (hu : ∀ u ∈ vals, VS.U32 u) :
 Calls Tryz.prog 5 #[.agg #[.int .i64 t, .int .i64 p, .int .i64 s], sv, .int .i64 q] w fun e W' => e = .returned (.bool true) ∧ Below w.heap.size w W' := by
 obtain ⟨a, cp, rfl⟩ := rd12_len hR
 by_cases hp : p ≤ 64
 ·obtain ⟨r, hS, hr⟩ := sound_ask t p s a vals.length cp vals w hR rfl hu hp
  cases r
  ·exact swpages_bad t p s q a _ cp w hp hS
  ·exact swpages_main t p s q a _ cp vals w hR rfl hu hp (hr rfl).1 (hr rfl).2 hS
 ·exact swpages_few t p s q a _ cp w hp
end Go.Proofs.YtnagdljgeglceaaGreat
