/- parts of the proof, merged by a program. -/
import Derived.Test.YtcbikgafdclhaaaGreatMoc1
import Derived.Test.YtcbikgafdclhaaaGreatMoc2
import Derived.Test.YtcbikgafdclhaaaGreatMoc3
import Derived.Test.YtcbikgafdclhaaaGreatMoc5
import Derived.Test.YtcbikgafdclhaaaGreatMoc7
import Derived.ProofKit
import Derived.OpenShut
import Derived.Deep.Slices
import Derived.ChangeKeysEq
import Derived.Deep.Cut
set_option linter.unusedSimpArgs false
set_option linter.unusedVariables false
/- the program's audit: the parts of a span. -/
set_option linter.unusedSimpArgs false
set_option linter.unusedVariables false
namespace Go.Proofs.YtcbikgafdclhaaaGreat
open Go.RowKit

theorem row_three (w : World) (u1 u2 u3 : Value) (e : TypeId) : (w.alloc (.cells #[u1, u2, u3] e)).ownsRow 0 e 3 (.slice (some ⟨w.heap.size, 0, none⟩) 1 1) 1 [u1, u2, u3] :=
 ⟨by simp, Or.inr ⟨w.heap.size, 1, #[u1, u2, u3], rfl, Nat.zero_le _, heap_alloc_new w _, Nat.le_refl _, by unfold maxLen; omega, by simp, by simp⟩⟩
/-- what a span's bytes are. -/
def spanF (vs : List Int) (t s : Int) (x : Nat × Int × Int × Int) : List (Int × Int × Int) :=
 if x.2.1 = 1 then [(1, addrF s x.1 0, x.2.2.1 * pageF s)] else if x.2.1 = 2 then [(2, addrF s x.1 0, x.2.2.1 * pageF s)] else slabF vs t s x.1 x.2.2.2
theorem bit_and1 (v : Int) (b : Nat) (hb : b < 32) (h0 : 0 ≤ v) (h1 : v < 4294967296) : bits .and .u32 (v / 2 ^ b) 1 = if bitB v b then 1 else 0 := by
 have hd0 : 0 ≤ v / 2 ^ b := Int.ediv_nonneg h0 (Int.pow_nonneg (by omega))
 have hd1 : v / 2 ^ b ≤ v := Int.ediv_le_self _ h0
 have h : bits .and .u32 (v / 2 ^ b) 1 = (v / 2 ^ b) % 2 := bits_mask .u32 32 (by decide) wrapsA_u32 1 (by decide) (v / 2 ^ b) hd0 (by omega)
 rw [h]
 unfold bitB
 have e : decide (b < 32) = true := by simp [hb]
 rw [e, Bool.true_and]
 by_cases h2 : v / 2 ^ b % 2 = 1
 ·rw [h2]; rfl
 ·have : v / 2 ^ b % 2 = 0 := by omega
  rw [this]; rfl
section
variable {b : Nat} {t s : Int} {ad : Addr} {n c : Nat} {vs : List Int} {mb : Nat}
structure SpRel (w : World) (SL : Nat → List (Int × Int × Int)) (A z sl : Int) (v10 v14 v79 : Value) (wr : World) (b : Nat) : Prop where
 hb : v79 = .int .i64 b
 hat : v14 = .int .i64 (A + (b : Int) * z)
 le : (b : Int) ≤ sl
 row : wr.ownsRow 0 162 3 v10 b (partCells (SL b))
 bs : BS w v10.ownBlock.toList wr
def SpRelE (w : World) (SL : Nat → List (Int × Int × Int)) (A z sl : Int) (v10 v14 v79 : Value) (wr : World) : Prop := ∃ b, SpRel w SL A z sl v10 v14 v79 wr b
theorem held4g {w w' : World} {a0 a1 a2 a3 : Addr} {u0 u1 u2 u3 : Value} (hb : Below w.heap.size w w') (h : w.cell? a0 = some u0 ∧ w.cell? a1 = some u1 ∧ w.cell? a2 = some u2 ∧ w.cell? a3 = some u3) :
 w'.cell? a0 = some u0 ∧ w'.cell? a1 = some u1 ∧ w'.cell? a2 = some u2 ∧ w'.cell? a3 = some u3 := by
 have cc : ∀ {a : Addr} {v : Value}, w.cell? a = some v → w'.cell? a = some v := fun hc => (hb.cell (World.block_lt_of_cell? _ _ hc)).trans hc
 exact ⟨cc h.1, cc h.2.1, cc h.2.2.1, cc h.2.2.2⟩
theorem BS.append1 {w0 w w' : World} {v v' : Value} {ob : Obj} {e sz n : Nat} {xs : List Value} (h : BS w0 v.ownBlock.toList w) (hg : (w.alloc ob).grownBy w' v.ownBlock)
 (hnew : ∀ k, v'.ownBlock = some k → v.ownBlock = some k ∨ (w.alloc ob).heap.size ≤ k) (hown : w'.ownsRow 0 e sz v' n xs) : BS w0 v'.ownBlock.toList w' := by
 refine ((h.alloc ob).sub v.ownBlock.toList (fun L hL => List.mem_cons_of_mem _ hL)).grown hg (fun k hk => by simp [hk]) _ fun M hM => ?_
 simp at hM
 rcases hnew M hM with h1 | h1
 ·exact Or.inl (by simp [h1])
 ·exact Or.inr ⟨h1, ownsRow_lt hown hM⟩
theorem rowQ_one {w0 w : World} (h : BS w0 [] w) (x : Int × Int × Int) : RowQ w0 [x] (.slice (some ⟨w.heap.size, 0, none⟩) 1 1) (w.alloc (.cells #[.int .i64 x.1, .int .i64 x.2.1, .int .i64 x.2.2] 162)) :=
 ⟨row_three _ _ _ _ _, fun k hk => by simp [Value.ownBlock] at hk; subst hk; exact h.bel.size, h.bel.alloc h.bel.size _⟩
set_option maxHeartbeats 4000000 in
set_option maxRecDepth 100000 in
theorem pspan_any (w : World) (g P p : Nat) (K L C : Int) (h : LK b t P s ad n c vs (.slice (some ⟨g, 0, none⟩) P P) mb w) (hx : SpIn P (p, K, L, C)) :
 Calls Tryz.prog 161 #[.pointer (some ⟨b, 0, none⟩), .int .i64 p, .agg #[.int .i64 K, .int .i64 L, .int .i64 C]] w fun e w' => ∃ v, e = .returned v ∧ RowQ w (spanF vs t s (p, K, L, C)) v w' := by
 obtain ⟨⟨x1, x2⟩, ⟨x3, x4⟩, x5, x6⟩ := hx
 dsimp only at x1 x2 x3 x4 x5 x6
 have bd := h.xv.bd
 obtain ⟨b1, b2, b3, b4, b5, b6, b7⟩ := bd
 have hr := h.xv.right
 have hp := pageF_bd (s := s) (by omega)
 have hblt := h.lt
 have L0 := h.keep (W' := w.alloc (.cells #[.int .i64 K, .int .i64 L, .int .i64 C] 174)) ((Below.refl _ _).alloc (Nat.le_refl _) _)
 have I0 : InfoAt (w.alloc (.cells #[.int .i64 K, .int .i64 L, .int .i64 C] 174)) w.heap.size (p, K, L, C) := World.alloc_heap_new w _
 have S0 : BS w [] (w.alloc (.cells #[.int .i64 K, .int .i64 L, .int .i64 C] 174)) := ((BS.start w).alloc _).sub _ (by simp)
 have hw0 : w.heap.size < (w.alloc (.cells #[.int .i64 K, .int .i64 L, .int .i64 C] 174)).heap.size := by simp
 obtain ⟨⟨e0, e1, e2⟩, -, -, -⟩ := L0.cells
 have hHC := fun w => cpage_any t P s w hr
 have hHO := fun w => pof_any t P s p 0 w hr (by omega) (by omega) (by omega) (by omega)
 have hx4 := h.xv.cx (q := p) (part := 4) (by omega) (by omega) (by omega) (by omega)
 have hx5 := h.xv.cx (q := p) (part := 5) (by omega) (by omega) (by omega) (by omega)
 have H4 := Lib.hid (fun w => ppslots_any t P s p w)
 rw [hx4.2] at H4
 have H5 := Lib.hid (fun w => pptaken_any t P s p w)
 rw [hx5.2] at H5
 have G4 := fun (w : World) (h : LK b t P s ad n c vs (.slice (some ⟨g, 0, none⟩) P P) mb w) => pget_any (cix t p 4) w h hx4.1
 have G5 := fun (w : World) (h : LK b t P s ad n c vs (.slice (some ⟨g, 0, none⟩) P P) mb w) => pget_any (cix t p 5) w h hx5.1
 have hd4 : vs.getD (cix t p 4) 0 = gv vs t p 4 := rfl
 have hd5 : vs.getD (cix t p 5) 0 = gv vs t p 5 := rfl
 rw [hd4] at G4
 rw [hd5] at G5
 have g4 := h.xv.gu p 4
 have g5 := h.xv.gu p 5
 have HB4 := fun (b : Nat) (h : b < 32) => bit_and1 (gv vs t p 4) b h g4.1 g4.2
 have HB5 := fun (b : Nat) (h : b < 32) => bit_and1 (gv vs t p 5) b h g5.1 g5.2
 have hadd : addrF s p 0 = ((p : Int) + 1) * pageF s := by unfold addrF; omega
 have HSL : ∀ b : Nat, slabL vs t s p C (b + 1) = slabL vs t s p C b ++ [(kindF (bitB (gv vs t p 4) b) (bitB (gv vs t p 5) b), ((p : Int) + 1) * pageF s + (b : Int) * sizeF s C, sizeF s C)] := fun _ => rfl
 have HSL0 : slabL vs t s p C 0 = [] := rfl
 have HSLn := fun j => slabL_len vs t s p C j
 have hslab : slabF vs t s p C = slabL vs t s p C (slotsF C).toNat ++ if 0 < pageF s - sizeF s C * slotsF C then [(5, ((p : Int) + 1) * pageF s + sizeF s C * slotsF C, pageF s - sizeF s C * slotsF C)] else [] := by
  have e : pageF s - restF s C = sizeF s C * slotsF C := by unfold restF; omega
  unfold slabF
  rw [e]
  rfl
 have hspan : spanF vs t s (p, K, L, C) = if K = 1 then [(1, addrF s p 0, L * pageF s)] else if K = 2 then [(2, addrF s p 0, L * pageF s)] else slabF vs t s p C := rfl
 rw [hslab, hadd] at hspan
 rw [hadd] at hHO
 have hbS := slots_bd C
 have hk1 : (slotsF C ≠ 0) := by
  rcases (by omega : C = 0 ∨ C = 1 ∨ C = 2 ∨ C = 3 ∨ C = 4 ∨ C = 5 ∨ C = 6 ∨ C = 7 ∨ C = 8) with rfl | rfl | rfl | rfl | rfl | rfl | rfl | rfl | rfl <;> decide
 obtain ⟨z1, z2, z3, z4, z5⟩ := size_bd (s := s) (k := C) (by omega)
 have z4b := z4 hk1
 have hHZ := fun w => psize_any s C w (by omega)
 have hHN := fun w => pslots_any C w
 have ha0 : 0 ≤ ((p : Int) + 1) * pageF s := Int.mul_nonneg (by omega) (by omega)
 have ha1 : ((p : Int) + 1) * pageF s ≤ 1024 * 1048576 := Int.mul_le_mul (by omega) (by omega) (by omega) (by omega)
 have hm0 : 0 ≤ L * pageF s := Int.mul_nonneg (by omega) (by omega)
 have hm1 : L * pageF s ≤ 1024 * 1048576 := Int.mul_le_mul (by omega) (by omega) (by omega) (by omega)
 obtain ⟨i0, hi0, hi1, hi2, hi3⟩ := info_parts infoPart
 have HI := Lib.hid (And.intro hi0 (And.intro hi1 (And.intro hi2 hi3)))
 have HL0 := Lib.hid L0
 clear hi0 hi1 hi2 hi3 h L0 hadd hslab hx4 hx5 hd4 hd5 z5 z4 hr
 generalize spanF vs t s (p, K, L, C) = F at hspan ⊢
 generalize slabL vs t s p C = SL at *
 generalize gv vs t p 4 = a4 at *
 generalize gv vs t p 5 = a5 at *
 generalize sizeF s C = z at *
 generalize slotsF C = sl at *
 generalize ((p : Int) + 1) * pageF s = A at *
 generalize pageF s = pg at *
 have hmw : IntKind.i64.wrap (L * pg) = L * pg := wrap_in _ (by omega)
 have hAp : IntKind.i64.wrap (A + pg) = A + pg := wrap_in _ (by omega)
 have HSP := Lib.hid hspan
 have HC := Lib.hid hHC
 have HO := Lib.hid hHO
 have HZ := Lib.hid hHZ
 have HN := Lib.hid hHN
 have G4' := Lib.hid G4
 have G5' := Lib.hid G5
 have HB4' := Lib.hid HB4
 have HB5' := Lib.hid HB5
 have HSL' := Lib.hid HSL
 have HSLn' := Lib.hid HSLn
 clear hspan hHC hHO hHZ hHN G4 G5 HB4 HB5 HSL HSLn
 go_enter Tryz.func161, Tryz.ntmps161
 go_wp2_with fail
 refine (HC.out _).mono ?_
 rintro e w1 ⟨rfl, r1⟩
 have HL1 := Lib.hid (HL0.out.keep r1)
 have S1 := S0.below r1
 have I1 : InfoAt w1 w.heap.size (p, K, L, C) := (r1.block _ hw0).trans I0
 obtain ⟨⟨e10, e11, e12⟩, -, -, -⟩ := HL1.out.cells
 have hw1 := Nat.lt_of_lt_of_le hw0 r1.size
 clear e0 e1 e2
 go_wp2_with fail
 refine (HO.out _).mono ?_
 rintro e w2 ⟨rfl, r2⟩
 have HL2 := Lib.hid (HL1.out.keep r2)
 have S2 := S1.below r2
 have I2 : InfoAt w2 w.heap.size (p, K, L, C) := (r2.block _ hw1).trans I1
 obtain ⟨q0, q1, q2⟩ := I2.cell
 obtain ⟨⟨d0, d1, d2⟩, -, -, -⟩ := HL2.out.cells
 have hw2 := Nat.lt_of_lt_of_le hw1 r2.size
 have hb2 : b < w2.heap.size := HL2.out.lt
 clear e10 e11 e12 I0 I1 r1 r2 HC HO HL0 HL1 S0 S1 hw0 hw1
 dsimp only at q0 q1 q2
 by_cases hK1 : K = 1
 ·subst hK1
  have hF := HSP.out
  rw [if_pos rfl] at hF
  subst hF
  go_wp2
  go_ret
  exact ⟨_, rfl, rowQ_one S2 (1, A, L * pg)⟩
 ·by_cases hK2 : K = 2
  ·subst hK2
   have hF := HSP.out
   rw [if_neg (by omega), if_pos rfl] at hF
   subst hF
   go_wp2
   go_ret
   exact ⟨_, rfl, rowQ_one S2 (2, A, L * pg)⟩
  ·obtain rfl : K = 3 := by omega
   have hF := HSP.out
   rw [if_neg (by omega), if_neg (by omega)] at hF
   have HF := Lib.hid hF
   have HL3 := Lib.hid (HL2.out.keep (Below.refl _ _).drew)
   clear hF HSP
   go_wp2_with fail
   refine wp_region_noPanic ?_
   refine wp_region_held_drew (S := fun w' => w'.cell? ⟨w.heap.size, 2, none⟩ = some (.int .i64 C) ∧ w'.cell? ⟨b, 0, none⟩ = some (.int .i64 t) ∧ w'.cell? ⟨b, 1, none⟩ = some (.int .i64 P) ∧ w'.cell? ⟨b, 2, none⟩ = some (.int .i64 s)) (by kernel_rfl) ?_ (fun hHeld => ?_)
   ·exact ⟨q2, d0, d1, d2⟩
   refine wT 0 ?_
   refine wT 1 ?_
   refine wT 2 ?_
   refine wT 3 ?_
   refine wT 4 ?_
   refine wT 5 ?_
   refine wT 8 ?_
   refine wT 9 ?_
   refine wT 10 ?_
   refine wT 11 ?_
   refine wT 12 ?_
   refine wT 13 ?_
   refine wR 6 fun K hK => ?_
   go_simp
   refine (H4.out _).mono ?_
   rintro e w3 ⟨rfl, r3⟩
   have L3 := Lib.hid (HL3.out.keep r3)
   have k3 := held4g r3 hHeld
   refine hK.out _ _ ?_ (fun hHeld => ?_)
   ·exact k3
   clear hK K
   try simp only [Act.put, zA, zB, zC, zD, zE, zF]
   refine wR 7 fun K hK => ?_
   go_simp
   refine (G4'.out _ L3.out).mono ?_
   rintro e w4 ⟨rfl, r4⟩
   have L4 := Lib.hid (L3.out.keep r4)
   have k4 := held4g r4 hHeld
   refine hK.out _ _ ?_ (fun hHeld => ?_)
   ·exact k4
   clear hK K
   try simp only [Act.put, zA, zB, zC, zD, zE, zF]
   refine wR 14 fun K hK => ?_
   go_simp
   refine (H5.out _).mono ?_
   rintro e w5 ⟨rfl, r5⟩
   have L5 := Lib.hid (L4.out.keep r5)
   have k5 := held4g r5 hHeld
   refine hK.out _ _ ?_ (fun hHeld => ?_)
   ·exact k5
   clear hK K
   try simp only [Act.put, zA, zB, zC, zD, zE, zF]
   refine wR 15 fun K hK => ?_
   go_simp
   refine (G5'.out _ L5.out).mono ?_
   rintro e w6 ⟨rfl, r6⟩
   have k6 := held4g r6 hHeld
   refine hK.out _ _ ?_ (fun hHeld => ?_)
   ·exact k6
   clear hK K
   try simp only [Act.put, zA, zB, zC, zD, zE, zF]
   refine wT 16 ?_
   refine wT 17 ?_
   refine wpAnyH_done (by kernel_rfl) (NoPanic.normal ?_) _
   have S6 := S2.below ((Below.refl w2.heap.size w2).drew.trans (r3.trans ((r4.trans ((r5.trans (r6.mono r5.size)).mono r4.size)).mono r3.size)))
   obtain ⟨k60, k61, k62, k63⟩ := hHeld
   clear r3 r4 r5 r6 L3 L4 L5 k3 k4 k5 k6 H4 H5 G4' G5' HL3 HL2 S2 hw2 hb2 q0 q1 q2 d0 d1 d2 I2
   go_wp2_with fail
   refine wp_region_noPanic ?_
   refine wp_region_held_drew (S := fun w' => w'.cell? ⟨w.heap.size, 2, none⟩ = some (.int .i64 C) ∧ w'.cell? ⟨b, 0, none⟩ = some (.int .i64 t) ∧ w'.cell? ⟨b, 1, none⟩ = some (.int .i64 P) ∧ w'.cell? ⟨b, 2, none⟩ = some (.int .i64 s)) (by kernel_rfl) ?_ (fun hHeld => ?_)
   ·exact ⟨k60, k61, k62, k63⟩
   refine wT 0 ?_
   refine wT 1 ?_
   refine wT 2 ?_
   refine wT 3 ?_
   refine wT 4 ?_
   refine wT 5 ?_
   refine wT 6 ?_
   refine wR 7 fun K hK => ?_
   go_simp
   refine (HZ.out _).mono ?_
   rintro e w7 ⟨rfl, r7⟩
   have k7 := held4g r7 hHeld
   refine hK.out _ _ ?_ (fun hHeld => ?_)
   ·exact k7
   clear hK K
   try simp only [Act.put, zA, zB, zC, zD, zE, zF]
   refine wT 8 ?_
   refine wpAnyH_done (by kernel_rfl) (NoPanic.normal ?_) _
   have S7 := S6.below ((Below.refl w6.heap.size w6).drew.trans r7)
   obtain ⟨k70, k71, k72, k73⟩ := hHeld
   clear r7 k7 HZ S6 k60 k61 k62 k63
   go_wp2_with fail
   refine (HN.out _).mono ?_
   rintro e w8 ⟨rfl, r8⟩
   have S8 := S7.below r8
   clear r8 HN S7 k70 k71 k72 k73
   go_wp2_with fail
   go_loopw [10, 14, 15, 16, 79] (fun v10 v14 _ _ v79 wr => SpRelE w SL A z sl v10 v14 v79 wr) (fun _ _ _ _ v79 _ => 33 - (intOf v79).toNat)
   case atStart => exact ⟨0, rfl, by simp, by omega, by rw [HSL0]; exact World.ownsRow_nil _ _ _ _, S8.sub _ (by simp [Value.ownBlock])⟩
   case round =>
    obtain ⟨j, rfl, hat, hle, hrow, hbs⟩ := hrel
    obtain ⟨ar, har⟩ : ∃ ar, A + (j : Int) * z = ar := ⟨_, rfl⟩
    rw [har] at hat
    subst hat
    obtain ⟨pa, pc, rfl⟩ : ∃ a c, u10 = .slice a j c := by
     rcases hrow.2 with ⟨h5, h6⟩ | ⟨g', cap', cur, h5, -⟩
     ·exact ⟨_, _, by rw [h5, h6]⟩
     ·exact ⟨_, _, h5⟩
    have HB := Lib.hid hbs
    have HRow := Lib.hid hrow
    clear hbs hrow S8
    have hj0 : 0 ≤ (j : Int) * z := Int.mul_nonneg (by omega) (by omega)
    have hj1 : (j : Int) * z ≤ 32 * 1048576 := Int.mul_le_mul (by omega) (by omega) (by omega) (by omega)
    by_cases hlt : (j : Int) < sl
    ·have hj32 : j < 32 := by omega
     have hsb := HSL'.out j
     have hA4 := HB4'.out j hj32
     have hA5 := HB5'.out j hj32
     have hnx : A + ((j + 1 : Nat) : Int) * z = ar + z := by
      have : ((j + 1 : Nat) : Int) * z = (j : Int) * z + z := by rw [Int.natCast_add, Int.add_mul]; simp
      omega
     have hw1 : IntKind.i64.wrap (ar + z) = ar + z := wrap_in _ (by omega)
     rw [har] at hsb
     have HNX := Lib.hid hnx
     have HSB := Lib.hid hsb
     clear hsb hnx hj0 hj1 har
     generalize bitB a4 j = x at *
     generalize bitB a5 j = y at *
     cases x <;> cases y
     all_goals
      simp only [if_true, Bool.false_eq_true, if_false] at hA4 hA5
      go_wp2_with (at_builtin; go_must (refine wpL_append rfl _ _ rfl 162 i0 (.agg #[.int .i64 0, .int .i64 0, .int .i64 0]) 3 24 Tryz.underlying159 HI.out.1 HI.out.2.1 HI.out.2.2.1 HI.out.2.2.2 rfl (by decide) (.slice pa j pc) j (partCells (SL j)) rfl (HRow.out.alloc _) ⟨wr.heap.size, 0, none⟩ 1 1 [_, .int .i64 ar, .int .i64 z] rfl rfl (cell_three_new _ _ _ _ _) ?c1 ?c2 ?c3 ?_); go_must (case c1 => (simp [Value.oneCell'])); go_must (case c2 => (unfold maxLen; omega)); go_must (case c3 => (omega)); go_must (intro v' w9 hown9 hg9 hnew9 hnil9); clear hnil9; go_must (obtain ⟨g', cap', rfl⟩ := Joins.ownsRow_form hown9 (by omega)))
      go_roundw
      case rel =>
       refine ⟨j + 1, by go_num, by rw [HNX.out], by omega, ?_, HB.out.append1 hg9 hnew9 hown9⟩
       rw [HSB.out, partCells_app]; exact hown9
      case measure => simp [intOf]; omega
    ·have hbe : sl = j := by omega
     have hbt : sl.toNat = j := by omega
     have hres := HF.out
     rw [hbt, hbe] at hres
     have hmc : z * (j : Int) = (j : Int) * z := Int.mul_comm _ _
     rw [hmc, har] at hres
     have hm : (j : Int) * z ≤ pg := by rw [← hmc, ← hbe]; omega
     have hLn := HSLn'.out j
     have hj32 : j ≤ 32 := by omega
     have HRes := Lib.hid hres
     have hw2 : IntKind.i64.wrap (A + pg - ar) = pg - (j : Int) * z := by rw [← har]; rw [show A + pg - (A + (j : Int) * z) = pg - (j : Int) * z by omega]; exact wrap_in _ (by omega)
     clear HF hbt hmc hres
     by_cases hrest : 0 < pg - (j : Int) * z
     ·have hcmp : decide (ar < A + pg) = true := by simp; omega
      have hres := HRes.out
      rw [if_pos hrest] at hres
      have HRes2 := Lib.hid hres
      clear hres HRes har hm hj0 hj1 hrest
      generalize pg - (j : Int) * z = rz at *
      go_wp2_with (at_builtin; go_must (refine wpL_append rfl _ _ rfl 162 i0 (.agg #[.int .i64 0, .int .i64 0, .int .i64 0]) 3 24 Tryz.underlying159 HI.out.1 HI.out.2.1 HI.out.2.2.1 HI.out.2.2.2 rfl (by decide) (.slice pa j pc) j (partCells (SL j)) rfl (HRow.out.alloc _) ⟨wr.heap.size, 0, none⟩ 1 1 [.int .i64 5, .int .i64 ar, .int .i64 rz] rfl rfl (cell_three_new _ _ _ _ _) ?c1 ?c2 ?c3 ?_); go_must (case c1 => (simp [Value.oneCell'])); go_must (case c2 => (unfold maxLen; omega)); go_must (case c3 => (omega)); go_must (intro v' w9 hown9 hg9 hnew9 hnil9); clear hnil9; go_must (obtain ⟨g', cap', rfl⟩ := Joins.ownsRow_form hown9 (by omega)))
      go_ret
      have B9 := HB.out.append1 hg9 hnew9 hown9
      refine ⟨.slice (some ⟨g', 0, none⟩) (j + 1) cap', rfl, ?_, fun k hk => (B9.ls k (by rw [hk]; simp)).2, B9.bel⟩
      rw [HRes2.out, partCells_app, List.length_append, hLn]
      exact hown9
     ·have hcmp : decide (ar < A + pg) = false := by simp; omega
      have hres := HRes.out
      rw [if_neg hrest, List.append_nil] at hres
      have HRes2 := Lib.hid hres
      clear hres HRes har hm hj0 hj1 hrest hw2
      go_wp2
      go_ret
      refine ⟨.slice pa j pc, rfl, ?_, fun k hk => (HB.out.ls k (by rw [hk]; simp)).2, HB.out.bel⟩
      rw [HRes2.out, hLn]
      exact HRow.out
end
end Go.Proofs.YtcbikgafdclhaaaGreat
/- the program's audit: parts. -/
set_option linter.unusedSimpArgs false
set_option linter.unusedVariables false
namespace Go.Proofs.YtcbikgafdclhaaaGreat
open Go.RowKit
attribute [local go_sem] Oper.semAt_some

def paL (vs : List Int) (t s : Int) (pre : List (Nat × Int × Int × Int)) : List (Int × Int × Int) := pre.flatMap (spanF vs t s)
theorem paL_snoc (vs : List Int) (t s : Int) (pre : List (Nat × Int × Int × Int)) (x : Nat × Int × Int × Int) : paL vs t s (pre ++ [x]) = paL vs t s pre ++ spanF vs t s x := by simp [paL]
theorem spanF_len (vs : List Int) (t s : Int) (x : Nat × Int × Int × Int) : (spanF vs t s x).length ≤ 33 := by
 unfold spanF
 split
 ·simp
 ·split
  ·simp
  ·exact slabF_len _ _ _ _ _
theorem spanF_pos {P : Nat} (vs : List Int) (t s : Int) {x : Nat × Int × Int × Int} (h : SpIn P x) : 0 < (spanF vs t s x).length := by
 unfold spanF
 split
 ·simp
 ·split
  ·simp
  ·exact slabF_pos _ _ _ _ _ h.2.2.1 h.2.2.2
theorem paL_len (vs : List Int) (t s : Int) : ∀ (pre : List (Nat × Int × Int × Int)), (paL vs t s pre).length ≤ 33 * pre.length
 | [] => by simp [paL]
 | x :: l => by
  have h1 := paL_len vs t s l
  have h2 := spanF_len vs t s x
  have e : paL vs t s (x :: l) = spanF vs t s x ++ paL vs t s l := by simp [paL]
  rw [e, List.length_append, List.length_cons]
  omega
/-- a box holds a row of parts of the call's own. -/
def OutIs (W : World) (n0 B : Nat) (l : List (Int × Int × Int)) : Prop := ∃ v, Boxed W B 159 v ∧ W.ownsRow 0 162 3 v l.length (partCells l) ∧ ∀ k, v.ownBlock = some k → n0 ≤ k
theorem row_isCells {w : World} {e sz n : Nat} {v : Value} {xs : List Value} (h : w.ownsRow 0 e sz v n xs) {k : Nat} (hk : v.ownBlock = some k) : ∃ o : Obj, w.heap[k]? = some o ∧ o.isCells = true := by
 rcases h.2 with ⟨rfl, -⟩ | ⟨g', cap, cur', rfl, -, hg', -⟩
 ·simp [Value.ownBlock] at hk
 ·simp [Value.ownBlock] at hk
  subst hk
  exact ⟨_, hg', rfl⟩
theorem row_other {X Y : World} {row : Option Nat} {e sz n : Nat} {v : Value} {xs : List Value} (h : X.ownsRow 0 e sz v n xs) (hg : X.grownBy Y row) (hr : ∀ r, row = some r → ∃ o : Obj, X.heap[r]? = some o ∧ o.isCells = false) : Y.ownsRow 0 e sz v n xs :=
 ownsRow_block h fun k hk => hg.block k (ownsRow_lt h hk) fun e => by
  obtain ⟨o, ho, hc⟩ := hr k e.symm
  obtain ⟨o', ho', hc'⟩ := row_isCells h hk
  rw [ho] at ho'
  cases ho'
  rw [hc] at hc'
  cases hc'
theorem OutIs.own {β : Type} {n n0 B : Nat} {f : β → List (Int × Int × Int)} : OwnFrom n (fun (x : β) W => OutIs W n0 B (f x)) := fun x X Y row hs hg hr => by
 obtain ⟨v, h1, h2, h3⟩ := hs
 refine ⟨v, ?_, row_other h2 hg (fun r e => (hr r e).2), h3⟩
 exact (Own.from (boxed_own B 159 (fun _ : Unit => v)) n) () X Y row h1 hg hr
theorem OutIs.lt {W : World} {n0 B : Nat} {l : List (Int × Int × Int)} (h : OutIs W n0 B l) : B < W.heap.size := by obtain ⟨v, h1, -⟩ := h; exact h1.lt
theorem OutIs.alloc {W : World} {n0 B : Nat} {l : List (Int × Int × Int)} (h : OutIs W n0 B l) (o : Obj) : OutIs (W.alloc o) n0 B l := by
 obtain ⟨v, h1, h2, h3⟩ := h
 exact ⟨v, h1.alloc _, h2.alloc o, h3⟩
theorem RowQ.shape {w w' : World} {l : List (Int × Int × Int)} {v : Value} (h : RowQ w l v w') (hp : 0 < l.length) : ∃ g c, v = .slice (some ⟨g, 0, none⟩) l.length c := Joins.ownsRow_form h.1 hp
theorem partCells_one (l : List (Int × Int × Int)) : ∀ u ∈ partCells l, u.oneCell' = true := by
 intro u hu
 simp only [partCells, List.mem_flatMap] at hu
 obtain ⟨x, -, hx⟩ := hu
 simp at hx
 rcases hx with rfl | rfl | rfl <;> rfl
/-- behind an append to a row, what is no cells is as it was. -/
theorem keepsFrom_row {B : Nat} {W W' : World} {e sz n : Nat} {v : Value} {xs : List Value} (h : W.ownsRow 0 e sz v n xs) (hg : W.grownBy W' v.ownBlock) : KeepsFrom B W W' :=
 ⟨hg.size, fun k o _ hk ho => (hg.block k (Array.getElem?_eq_some_iff.1 hk).1 (fun e => by
  obtain ⟨o', ho', hc'⟩ := row_isCells h e.symm
  rw [hk] at ho'
  cases ho'
  rw [ho] at hc'
  cases hc')).trans hk⟩
theorem box_grown {W W' : World} {B : Nat} {t e : TypeId} {u : Value} {sz n : Nat} {v : Value} {xs : List Value} (h : W.heap[B]? = some (.cells #[u] t)) (hr : W.ownsRow 0 e sz v n xs) (hne : e ≠ t) (hg : W.grownBy W' v.ownBlock) : W'.heap[B]? = some (.cells #[u] t) :=
 (hg.block B (Array.getElem?_eq_some_iff.1 h).1 (fun e => ownsRow_elem hr h hne e.symm)).trans h
theorem held4p {w : World} {B b C : Nat} {u v0 v1 v2 x : Value} (h0 : B ≠ C) (h1 : b ≠ C)
 (h : w.cell? ⟨B, 0, none⟩ = some u ∧ w.cell? ⟨b, 0, none⟩ = some v0 ∧ w.cell? ⟨b, 1, none⟩ = some v1 ∧ w.cell? ⟨b, 2, none⟩ = some v2) :
 (w.setCell ⟨C, 0, none⟩ x).cell? ⟨B, 0, none⟩ = some u ∧ (w.setCell ⟨C, 0, none⟩ x).cell? ⟨b, 0, none⟩ = some v0 ∧ (w.setCell ⟨C, 0, none⟩ x).cell? ⟨b, 1, none⟩ = some v1 ∧ (w.setCell ⟨C, 0, none⟩ x).cell? ⟨b, 2, none⟩ = some v2 :=
 held4s h0 h1 h
section
variable {b : Nat} {t s : Int} {ad : Addr} {n c : Nat} {vs : List Int} {mb : Nat}
set_option maxHeartbeats 4000000 in
set_option maxRecDepth 100000 in
theorem pparts_any (w0 w : World) (ml : List (Int × Int)) (g P : Nat) (al : List (Int × Int × Int)) (h : LS w0 b t P s ad n c vs (.slice (some ⟨g, 0, none⟩) P P) mb ml w) (hA : AtR w0 b mb g P al ad w) (hsp : ∀ k x, al[k]? = some x → x.1 ≠ 0 → SpIn P (k, x)) :
 Calls Tryz.prog 112 #[.pointer (some ⟨b, 0, none⟩)] w fun e W' => ∃ v, e = .returned v ∧ RowQ w (paL vs t s (spN al P)) v W' := by
 obtain ⟨b1, b2, b3, b4, b5, b6, b7⟩ := h.lk.xv.bd
 have hblt := h.lk.lt
 have hglt : g < w.heap.size := ownsRow_lt hA.row rfl
 obtain ⟨⟨e0, e1, e2⟩, -, hc4, -⟩ := h.lk.cells
 have hcs := hA.cells
 have hal := hA.len
 have hP64 : P ≤ 1024 := by omega
 have HL := Lib.hid h.lk
 have HSP := Lib.hid (fun (w : World) (h : LK b t P s ad n c vs (.slice (some ⟨g, 0, none⟩) P P) mb w) (p : Nat) (K L C : Int) (hx : SpIn P (p, K, L, C)) => pspan_any w g P p K L C h hx)
 obtain ⟨i0, hi0, hi1, hi2, hi3⟩ := info_parts infoPart
 have HI := Lib.hid (And.intro hi0 (And.intro hi1 (And.intro hi2 hi3)))
 clear h hA hi0 hi1 hi2 hi3
 refine (callsIn_wide (n := 10)).1 ?_
 refine callsIn_of_wp_marks Tryz.func112 rfl trivial ?_ rfl
 simp only [Tryz.ntmps112, List.size_toArray, List.length_cons, List.length_nil, Nat.reduceAdd, Nat.reduceSub, Array.replicate_succ, Array.replicate_zero, List.push_toArray, List.append_toArray, List.nil_append, List.cons_append]
 gi_wp2_with (refine ⟨trivial, ?_⟩; gi_at_call 146; refine (callsIn_wide.2 (pspans_any _ b)).mono ?_; rintro e w' ⟨rfl, rfl⟩)
 have bB := ((Boxed.new w 106 (.pointer (some ⟨b, 0, none⟩))).alloc (.cells #[.slice none 0 0] 159)).alloc (.cells #[.pointer (some ⟨b, 0, none⟩)] 106)
 have bO := (Boxed.new (w.alloc (.cells #[.pointer (some ⟨b, 0, none⟩)] 106)) 159 (.slice none 0 0)).alloc (.cells #[.pointer (some ⟨b, 0, none⟩)] 106)
 have bL := Boxed.new ((w.alloc (.cells #[.pointer (some ⟨b, 0, none⟩)] 106)).alloc (.cells #[.slice none 0 0] 159)) 106 (.pointer (some ⟨b, 0, none⟩))
 simp only [World.size_alloc] at bO bL
 have hB0 : Below w.heap.size w (((w.alloc (.cells #[.pointer (some ⟨b, 0, none⟩)] 106)).alloc (.cells #[.slice none 0 0] 159)).alloc (.cells #[.pointer (some ⟨b, 0, none⟩)] 106)) := (((Below.refl _ w).alloc (Nat.le_refl _) _).alloc (by simp) _).alloc (by simp; omega) _
 have hsz : (((w.alloc (.cells #[.pointer (some ⟨b, 0, none⟩)] 106)).alloc (.cells #[.slice none 0 0] 159)).alloc (.cells #[.pointer (some ⟨b, 0, none⟩)] 106)).heap.size = w.heap.size + 3 := by simp
 obtain ⟨W0, hW0⟩ : ∃ W0, ((w.alloc (.cells #[.pointer (some ⟨b, 0, none⟩)] 106)).alloc (.cells #[.slice none 0 0] 159)).alloc (.cells #[.pointer (some ⟨b, 0, none⟩)] 106) = W0 := ⟨_, rfl⟩
 rw [hW0] at bB bO bL hB0 hsz ⊢
 clear hW0
 refine wpIn_rangeFunc_ownH rfl (by omega) (gf := 191) (lb := #[.pointer (some ⟨w.heap.size + 1 + 1, 0, none⟩)]) rfl trivial (enters_of Tryz.func191 (by kernel_rfl) rfl)
  (spans_stops _ (by omega) (w.heap.size + 1 + 1) w.heap.size b g al (P := P) (by omega) hal hsp W0 (by omega) (by omega) hglt hblt bL.cell ((hB0.cell (p := ⟨b, 4, none⟩) hblt).trans hc4)
   (fun k x hx => ⟨(hB0.cell (p := ⟨g, k * 3, none⟩) hglt).trans (hcs k x hx).1, (hB0.cell (p := ⟨g, k * 3 + 1, none⟩) hglt).trans (hcs k x hx).2.1, (hB0.cell (p := ⟨g, k * 3 + 2, none⟩) hglt).trans (hcs k x hx).2.2⟩))
  belowK_t (belowK_b (by omega)) (Below.refl _ _) (fun _ => rfl)
  (fun pre W => (Boxed W w.heap.size 106 (.pointer (some ⟨b, 0, none⟩)) ∧ OutIs W w.heap.size (w.heap.size + 1) (paL vs t s (raw pre))) ∧ Below w.heap.size w W)
  (fun _ _ _ => False)
  (OwnFrom.and (OwnFrom.and (Own.from (boxed_own _ _ _) _) OutIs.own) (ownFrom_below (Nat.le_refl _) (by omega)))
  (fun _ _ _ _ _ hs _ _ => hs)
  ⟨⟨bB, _, bO, World.ownsRow_nil _ _ _ _, by simp [Value.ownBlock]⟩, hB0⟩
  (fun x a' W => ∃ Bx, w.heap.size + 1 < Bx ∧ InfoAt W Bx x.1 ∧ a' = { tmps := #[.pointer (some ⟨b, 0, none⟩), .pointer (some ⟨w.heap.size, 0, none⟩), .slice none 0 0, .pointer (some ⟨w.heap.size + 1, 0, none⟩), .int .i64 (x.1.1 : Int), .pointer (some ⟨Bx, 0, none⟩), .pointer (some ⟨b, 0, none⟩), .func (.func 191) #[] #[.pointer (some ⟨w.heap.size + 1 + 1, 0, none⟩)], .int .i64 (x.1.1 : Int), .agg #[.int .i64 x.1.2.1, .int .i64 x.1.2.2.1, .int .i64 x.1.2.2.2], undef, undef, undef, undef, undef, undef, undef], defers := [] })
  (fun x a' _ X Y row hs hg hr => by obtain ⟨Bx, h1, h2, h3⟩ := hs; exact ⟨Bx, h1, InfoAt.own () X Y row h2 hg hr, h3⟩)
  ?assign ?body ?done ?stop
 case assign =>
  rintro l pre x W K ⟨⟨i1, i2⟩, iB⟩ hK
  have hszW := iB.size
  have hw3 := i2.lt
  dsimp only [spV]
  gi_wp2
  refine hK _ _ ((KeepsOthers.alloc _ _).from _) ((Below.refl _ W).alloc hszW _) ⟨⟨i1.alloc _, i2.alloc _⟩, iB.alloc hszW _⟩ ⟨W.heap.size, by omega, World.alloc_heap_new W _, rfl⟩
 case body =>
  rintro l pre x a' W hl _ ⟨⟨i1, v, i2, i3, i4⟩, iB⟩ ⟨Bx, hBx, hI, rfl⟩ hlt
  obtain ⟨q0, q1, q2⟩ := hI.cell
  have c1 := i1.cell
  have c2 := i2.cell
  have f2 := i2.frozen
  have hsn := paL_snoc vs t s (raw pre) x.1
  have hbd := paL_len vs t s (raw pre)
  have hrl : (raw pre).length = pre.length := by simp [raw]
  rw [← raw_snoc] at hsn
  have hLK := HL.out.keep iB
  have hxs := x.2
  have hpos := spanF_pos vs t s hxs
  have hsl := spanF_len vs t s x.1
  generalize pre ++ [x] = pn at *
  obtain ⟨⟨p, Kd, L, C⟩, hx⟩ := x
  dsimp only at hsn q0 q1 q2 hxs hpos hsl hI ⊢
  have H1 := Lib.hid (fun w h => HSP.out w h p Kd L C hx)
  generalize spanF vs t s (p, Kd, L, C) = sb at *
  generalize paL vs t s (raw pre) = L0 at *
  obtain ⟨pa, pc, rfl⟩ := row_shape i3
  have hLL : L0.length ≤ 33792 := by omega
  have HLK := Lib.hid (hLK.keep (Below.refl _ _).drew)
  have HRow := Lib.hid i3
  have HI2 := Lib.hid hI
  have HB1 := Lib.hid i1
  have HB2 := Lib.hid i2
  have HNL := Lib.hid (partCells_len sb)
  have HOne := Lib.hid (partCells_one sb)
  have hl1 := i1.lt
  have hl2 := i2.lt
  have hlx : Bx < W.heap.size := (Array.getElem?_eq_some_iff.1 hI).1
  clear hLK hbd hrl i3 hxs hx hI
  gi_wp2_with fail
  refine wpIn_region_held_drew (S := fun w' => w'.cell? ⟨w.heap.size, 0, none⟩ = some (.pointer (some ⟨b, 0, none⟩)) ∧ w'.cell? ⟨Bx, 0, none⟩ = some (.int .i64 Kd) ∧ w'.cell? ⟨Bx, 1, none⟩ = some (.int .i64 L) ∧ w'.cell? ⟨Bx, 2, none⟩ = some (.int .i64 C)) (by kernel_rfl) (by kernel_rfl) ?_ (fun hHeld => ?_)
  ·exact ⟨c1, q0, q1, q2⟩
  refine wT 1 ?_
  refine wT 2 ?_
  refine wT 3 ?_
  refine wpAnyH_ready (rs := [0, 4]) (by kernel_rfl) (by simp) ?_
  refine AllReadyH.cons (o := _) rfl (fun K hK => ?_) (AllReadyH.cons (o := _) rfl (fun K hK => ?_) AllReadyH.nil)
  ·go_simp
   refine hK.out _ _ ?_ (fun hHeld => ?_)
   ·exact hHeld
   clear hK K
   try simp only [Act.put, zA, zB, zD, zE, zF]
   refine wR 4 fun K hK => ?_
   go_simp
   refine (H1.out _ HLK.out).mono ?_
   rintro e w1 ⟨sv, rfl, hsv⟩
   obtain ⟨gs, cs, rfl⟩ := hsv.shape hpos
   have r1 := hsv.2.2
   have cl1 := (r1.cell (p := ⟨w.heap.size + 1, 0, none⟩) hl2).trans c2
   have R1 := ((BS.start W.drew).below r1).row (ownsRow_block (w' := W.drew) HRow.out (fun _ _ => rfl))
   have HNews := Lib.hid (hsv.1.cells (g := gs) rfl)
   clear hsv
   have k1 := held4g r1 hHeld
   refine hK.out _ _ ?_ (fun hHeld => ?_)
   ·exact k1
   clear hK K
   try simp only [Act.put, zA, zB, zC, zD, zE, zF]
   refine wR 5 fun K hK => ?_
   refine step_append_new rfl (.tmp 10) (.tmp 14) rfl 162 i0 (.agg #[.int .i64 0, .int .i64 0, .int .i64 0]) 3 24 Tryz.underlying159 HI.out.1 HI.out.2.1 HI.out.2.2.1 HI.out.2.2.2 rfl (by decide) (.slice pa L0.length pc) L0.length (partCells L0) rfl R1 ⟨gs, 0, none⟩ sb.length cs (partCells sb) rfl HNL.out HNews.out HOne.out (by unfold maxLen; omega) (by omega) ?_
   intro v2 w2 hown2 hg2 hnew2 hnil2
   clear hnil2
   have rD := (Below.refl W.heap.size W).drew.trans r1
   have B1 := box_grown (Boxed.keepB HB1.out rD) R1 (by decide) hg2
   have B2 := box_grown (Boxed.keepB HB2.out rD) R1 (by decide) hg2
   have BI2 : InfoAt w2 Bx (p, Kd, L, C) := (hg2.block Bx (Nat.lt_of_lt_of_le hlx rD.size) (fun e => ownsRow_elem R1 ((rD.block Bx hlx).trans HI2.out) (by decide) e.symm)).trans ((rD.block Bx hlx).trans HI2.out)
   have cB2 : w2.cell? ⟨w.heap.size + 1, 0, none⟩ = some (.slice pa L0.length pc) := cell?_of_heap (o := 0) B2
   have fB2 := frozen?_of_heap (o := 0) B2
   have k2 := And.intro (show w2.cell? ⟨w.heap.size, 0, none⟩ = some (.pointer (some ⟨b, 0, none⟩)) from cell?_of_heap (o := 0) B1) BI2.cell
   have hvb : ∀ k, v2.ownBlock = some k → w.heap.size ≤ k := (fun k hk => (hnew2 k hk).elim (i4 k) (fun h => Nat.le_trans (Nat.le_trans iB.size rD.size) h))
   have hne2 : ∀ k, v2.ownBlock = some k → k ≠ w.heap.size + 1 := (fun k hk e => ownsRow_elem hown2 B2 (by decide) (by rw [hk, e]))
   obtain ⟨g2, c2, rfl⟩ := Joins.ownsRow_form hown2 (by omega)
   refine hK.out _ _ ?_ (fun hHeld => ?_)
   ·exact k2
   clear hK K
   try simp only [Act.put, zA, zB, zC, zD, zE, zF]
   refine wR 6 fun K hK => ?_
   go_simp
   refine hK.out _ _ ?_ (fun hHeld => ?_)
   ·exact held4p (by omega) (by omega) hHeld
   clear hK K
   try simp only [Act.put, zA, zB, zC, zD, zE, zF]
   refine wpAnyH_done (by kernel_rfl) (NoPanic.normal ?_) _
   refine Only.normal ?_
   have hk2 := hg2.size
   have r1m := rD.mono iB.size
   have hb2 : Below w.heap.size W w2 := r1m.grown hg2 (Nat.le_trans iB.size rD.size) i4
   refine ⟨((Below.from rD _).trans (keepsFrom_row R1 hg2)).trans ((KeepsOthers.setCell _ _ _).from _), hb2.setCell (p := ⟨w.heap.size + 1, 0, none⟩) (by show w.heap.size ≤ w.heap.size + 1; omega) _, ⟨(show Boxed w2 w.heap.size _ _ from B1).other (by omega) _, _, (show Boxed w2 (w.heap.size + 1) _ _ from B2).set _, ?_, hvb⟩, (iB.trans hb2).setCell (p := ⟨w.heap.size + 1, 0, none⟩) (by show w.heap.size ≤ w.heap.size + 1; omega) _⟩
   rw [hsn, partCells_app, List.length_append]
   exact ownsRow_block hown2 fun k hk => heap_setCell_other (hne2 k hk)
  ·go_simp
   refine (H1.out _ HLK.out).mono ?_
   rintro e w1 ⟨sv, rfl, hsv⟩
   obtain ⟨gs, cs, rfl⟩ := hsv.shape hpos
   have r1 := hsv.2.2
   have cl1 := (r1.cell (p := ⟨w.heap.size + 1, 0, none⟩) hl2).trans c2
   have R1 := ((BS.start W.drew).below r1).row (ownsRow_block (w' := W.drew) HRow.out (fun _ _ => rfl))
   have HNews := Lib.hid (hsv.1.cells (g := gs) rfl)
   clear hsv
   have k1 := held4g r1 hHeld
   refine hK.out _ _ ?_ (fun hHeld => ?_)
   ·exact k1
   clear hK K
   try simp only [Act.put, zA, zB, zC, zD, zE, zF]
   refine wR 0 fun K hK => ?_
   go_simp
   refine hK.out _ _ ?_ (fun hHeld => ?_)
   ·exact hHeld
   clear hK K
   try simp only [Act.put, zA, zB, zD, zE, zF]
   refine wR 5 fun K hK => ?_
   refine step_append_new rfl (.tmp 10) (.tmp 14) rfl 162 i0 (.agg #[.int .i64 0, .int .i64 0, .int .i64 0]) 3 24 Tryz.underlying159 HI.out.1 HI.out.2.1 HI.out.2.2.1 HI.out.2.2.2 rfl (by decide) (.slice pa L0.length pc) L0.length (partCells L0) rfl R1 ⟨gs, 0, none⟩ sb.length cs (partCells sb) rfl HNL.out HNews.out HOne.out (by unfold maxLen; omega) (by omega) ?_
   intro v2 w2 hown2 hg2 hnew2 hnil2
   clear hnil2
   have rD := (Below.refl W.heap.size W).drew.trans r1
   have B1 := box_grown (Boxed.keepB HB1.out rD) R1 (by decide) hg2
   have B2 := box_grown (Boxed.keepB HB2.out rD) R1 (by decide) hg2
   have BI2 : InfoAt w2 Bx (p, Kd, L, C) := (hg2.block Bx (Nat.lt_of_lt_of_le hlx rD.size) (fun e => ownsRow_elem R1 ((rD.block Bx hlx).trans HI2.out) (by decide) e.symm)).trans ((rD.block Bx hlx).trans HI2.out)
   have cB2 : w2.cell? ⟨w.heap.size + 1, 0, none⟩ = some (.slice pa L0.length pc) := cell?_of_heap (o := 0) B2
   have fB2 := frozen?_of_heap (o := 0) B2
   have k2 := And.intro (show w2.cell? ⟨w.heap.size, 0, none⟩ = some (.pointer (some ⟨b, 0, none⟩)) from cell?_of_heap (o := 0) B1) BI2.cell
   have hvb : ∀ k, v2.ownBlock = some k → w.heap.size ≤ k := (fun k hk => (hnew2 k hk).elim (i4 k) (fun h => Nat.le_trans (Nat.le_trans iB.size rD.size) h))
   have hne2 : ∀ k, v2.ownBlock = some k → k ≠ w.heap.size + 1 := (fun k hk e => ownsRow_elem hown2 B2 (by decide) (by rw [hk, e]))
   obtain ⟨g2, c2, rfl⟩ := Joins.ownsRow_form hown2 (by omega)
   refine hK.out _ _ ?_ (fun hHeld => ?_)
   ·exact k2
   clear hK K
   try simp only [Act.put, zA, zB, zC, zD, zE, zF]
   refine wR 6 fun K hK => ?_
   go_simp
   refine hK.out _ _ ?_ (fun hHeld => ?_)
   ·exact held4p (by omega) (by omega) hHeld
   clear hK K
   try simp only [Act.put, zA, zB, zC, zD, zE, zF]
   refine wpAnyH_done (by kernel_rfl) (NoPanic.normal ?_) _
   refine Only.normal ?_
   have hk2 := hg2.size
   have r1m := rD.mono iB.size
   have hb2 : Below w.heap.size W w2 := r1m.grown hg2 (Nat.le_trans iB.size rD.size) i4
   refine ⟨((Below.from rD _).trans (keepsFrom_row R1 hg2)).trans ((KeepsOthers.setCell _ _ _).from _), hb2.setCell (p := ⟨w.heap.size + 1, 0, none⟩) (by show w.heap.size ≤ w.heap.size + 1; omega) _, ⟨(show Boxed w2 w.heap.size _ _ from B1).other (by omega) _, _, (show Boxed w2 (w.heap.size + 1) _ _ from B2).set _, ?_, hvb⟩, (iB.trans hb2).setCell (p := ⟨w.heap.size + 1, 0, none⟩) (by show w.heap.size ≤ w.heap.size + 1; omega) _⟩
   rw [hsn, partCells_app, List.length_append]
   exact ownsRow_block hown2 fun k hk => heap_setCell_other (hne2 k hk)
 case done =>
  rintro D ys W hD hys ⟨⟨i1, v, i2, i3, i4⟩, iB⟩ hK
  rw [hys] at i3
  have c2 := i2.cell
  gi_wp2
  refine ⟨by simp, .inl ⟨_, _, rfl, run_takeDeferred hK, ?_⟩⟩
  refine ⟨_, results_tmp rfl _ _ _, v, rfl, row_other i3 (grownBy_putObj' _ D (.deferred none)) (fun r e => by cases e; exact ⟨_, hK, rfl⟩), i4, iB.trans (belowK_b (w := w) (Nat.le_refl _) _ D _ _ (by omega) hK rfl rfl)⟩
 case stop =>
  rintro D cd pre W hD _ h _
  exact h.elim
end
end Go.Proofs.YtcbikgafdclhaaaGreat
/- the program's audit: blocks, roots. -/
set_option linter.unusedSimpArgs false
set_option linter.unusedVariables false
namespace Go.Proofs.YtcbikgafdclhaaaGreat
open Go.RowKit

structure PbRel (w : World) (l : List (Int × Int × Int)) (v3 v9 : Value) (wr : World) (k : Nat) : Prop where
 hk : v9 = .int .i64 k
 le : k ≤ l.length
 row : wr.ownsRow 0 80 2 v3 (liveL (l.take k)).length (blockCells (liveL (l.take k)))
 bs : BS w v3.ownBlock.toList wr
def PbRelE (w : World) (l : List (Int × Int × Int)) (v3 v9 : Value) (wr : World) : Prop := ∃ k, PbRel w l v3 v9 wr k
theorem BS.lift {w0 w wr : World} {Ls : List Nat} (h : BS w Ls wr) (hb : Below w0.heap.size w0 w) : BS w0 Ls wr :=
 ⟨hb.trans (h.bel.mono hb.size), fun L hL => ⟨(h.ls L hL).1, Nat.le_trans hb.size (h.ls L hL).2⟩⟩
section
variable {b : Nat} {t s : Int} {ad : Addr} {n c : Nat} {vs : List Int} {mb : Nat}
set_option maxHeartbeats 4000000 in
set_option maxRecDepth 100000 in
theorem pblocks_any (w0 w : World) (ml : List (Int × Int)) (g P : Nat) (al : List (Int × Int × Int)) (h : LS w0 b t P s ad n c vs (.slice (some ⟨g, 0, none⟩) P P) mb ml w) (hA : AtR w0 b mb g P al ad w) (hsp : ∀ k x, al[k]? = some x → x.1 ≠ 0 → SpIn P (k, x)) :
 Calls Tryz.prog 55 #[.pointer (some ⟨b, 0, none⟩)] w fun e W' => ∃ v, e = .returned v ∧ RowB w (liveL (paL vs t s (spN al P))) v W' := by
 have HP := Lib.hid (pparts_any w0 w ml g P al h hA hsp)
 have hll : (paL vs t s (spN al P)).length ≤ 33792 := by
  have h1 := paL_len vs t s (spN al P)
  have h2 := spN_len al P
  have h3 := h.lk.xv.bd
  omega
 obtain ⟨i0, hi0, hi1, hi2, hi3⟩ := info_parts infoBlock
 have HI := Lib.hid (And.intro hi0 (And.intro hi1 (And.intro hi2 hi3)))
 clear h hA hsp hi0 hi1 hi2 hi3
 generalize paL vs t s (spN al P) = l at *
 go_enter Tryz.func55, Tryz.ntmps55
 go_wp2_with fail
 refine HP.out.mono ?_
 rintro e w1 ⟨lv, rfl, hlv⟩
 obtain ⟨la, lc, rfl⟩ : ∃ a c, lv = .slice a l.length c := row_shape hlv.1
 have HLr := Lib.hid hlv.1
 have hB1 := hlv.2.2
 clear hlv HP
 go_wp2_with fail
 go_loopw [3, 5, 9] (fun v3 _ v9 wr => PbRelE w1 l v3 v9 wr) (fun _ _ v9 _ => l.length - (intOf v9).toNat)
 case atStart => exact ⟨0, rfl, by omega, World.ownsRow_nil _ _ _ _, (BS.start _).sub _ (by simp [Value.ownBlock])⟩
 case round =>
  obtain ⟨k, rfl, hle, hrow, hbs⟩ := hrel
  have hll2 := liveL_len (l.take k)
  have hll3 : (l.take k).length ≤ l.length := by simp; omega
  have HTk := Lib.hid (fun x (h : l[k]? = some x) => liveL_take h)
  have HTe := Lib.hid (fun (h : k = l.length) => (show liveL (l.take k) = liveL l by rw [h, List.take_length]))
  generalize liveL (l.take k) = o at *
  have hol : o.length ≤ 33792 := by omega
  obtain ⟨pa, pc, rfl⟩ : ∃ a c, u3 = .slice a o.length c := row_shape hrow
  have HB := Lib.hid hbs
  have HRow := Lib.hid hrow
  have HLw := Lib.hid (hbs.row HLr.out)
  clear hbs hrow hll2 hll3
  by_cases hlt : k < l.length
  ·obtain ⟨⟨y1, y2, y3⟩, hx⟩ : ∃ x, l[k]? = some x := ⟨_, List.getElem?_eq_getElem hlt⟩
   obtain ⟨g, cap, hg⟩ := Joins.ownsRow_form HLw.out (by omega)
   simp only [Value.slice.injEq, true_and] at hg
   obtain ⟨rfl, rfl⟩ := hg
   obtain ⟨p0, p1, p2⟩ := part_cell hx
   have q0 := (HLw.out.cellAt (k * 3) (by omega)).trans p0
   have q1 := (HLw.out.cellAt (k * 3 + 1) (by omega)).trans p1
   have q2 := (HLw.out.cellAt (k * 3 + 2) (by omega)).trans p2
   have ht := HTk.out _ hx
   simp only at ht q0 q1 q2
   have hkl : (k : Int) < l.length := by omega
   clear p0 p1 p2 hx HTk HTe
   by_cases hy : y1 = 2
   ·subst hy
    rw [if_pos rfl] at ht
    have HT := Lib.hid ht
    clear ht
    have B2 := (HB.out.alloc (.cells #[.int .i64 2, .int .i64 y2, .int .i64 y3] 162)).sub (Value.slice pa o.length pc).ownBlock.toList (fun L hL => List.mem_cons_of_mem _ hL)
    go_wp2_with (at_builtin; go_must (refine wpL_append rfl _ _ rfl 80 i0 (.agg #[.int .i64 0, .int .i64 0]) 2 16 Tryz.underlying35 HI.out.1 HI.out.2.1 HI.out.2.2.1 HI.out.2.2.2 rfl (by decide) (.slice pa o.length pc) o.length (blockCells o) rfl ((HRow.out.alloc _).alloc _) ⟨_, 0, none⟩ 1 1 [.int .i64 y2, .int .i64 y3] rfl rfl (cell_two_at _ _ _ _ _ (by simp)) ?c1 ?c2 ?c3 ?_); go_must (case c1 => (simp [Value.oneCell'])); go_must (case c2 => (unfold maxLen; omega)); go_must (case c3 => (omega)); go_must (intro v' w5 hown5 hg5 hnew5 hnil5); clear hnil5; go_must (obtain ⟨g', cap', rfl⟩ := Joins.ownsRow_form hown5 (by omega)))
    go_roundw
    case rel =>
     refine ⟨k + 1, by go_num, by omega, ?_, B2.append1 hg5 hnew5 hown5⟩
     rw [HT.out, blockCells_app, List.length_append]; exact hown5
    case measure => simp [intOf]; omega
   ·rw [if_neg hy, List.append_nil] at ht
    have HT := Lib.hid ht
    have hyb : (y1 == 2) = false := by simp [hy]
    have B2 := (HB.out.alloc (.cells #[.int .i64 y1, .int .i64 y2, .int .i64 y3] 162)).sub (Value.slice pa o.length pc).ownBlock.toList (fun L hL => List.mem_cons_of_mem _ hL)
    clear ht hy
    go_wp2_with fail
    go_roundw
    case rel =>
     refine ⟨k + 1, by go_num, by omega, ?_, B2⟩
     rw [HT.out]; exact HRow.out.alloc _
    case measure => simp [intOf]; omega
  ·have hkl : ¬ (k : Int) < l.length := by omega
   have hFo : liveL l = o := by rw [HTe.out (by omega)]
   have HFo := Lib.hid hFo
   clear hFo
   have B3 := HB.out.lift hB1
   clear HTk HTe
   go_wp2
   go_ret
   rw [HFo.out]
   refine ⟨.slice pa o.length pc, rfl, HRow.out, fun k hk => (B3.ls k ?_).2, B3.bel⟩
   rw [hk]; simp
/-- is it the address of a block? -/
theorem proots11_any (w : World) (x y a : Int) (ab : Nat) (ha : w.cell? ⟨ab, 0, none⟩ = some (.int .i64 a)) :
 Calls Tryz.prog 160 #[.agg #[.int .i64 x, .int .i64 y], .pointer (some ⟨ab, 0, none⟩)] w fun e w' => e = .returned (.bool (x == a)) ∧ Below w.heap.size w w' := by
 have hab := World.block_lt_of_cell? _ _ ha
 have ha2 := (World.cell?_alloc_lt (a := ⟨ab, 0, none⟩) (w := w) (.cells #[.int .i64 x, .int .i64 y] 80) hab).trans ha
 go_enter Tryz.func160, Tryz.ntmps160
 go_wp2
 go_ret
 exact ⟨rfl, (Below.refl _ _).alloc (Nat.le_refl _) _⟩
def IxRel (l : List (Int × Int)) (a : Int) (w : World) (i : Value) (wr : World) : Prop := ∃ k : Nat, k ≤ l.length ∧ i = .int .i64 k ∧ (∀ j x, j < k → l[j]? = some x → x.1 ≠ a) ∧ Below w.heap.size w wr
theorem hasB_no {l : List (Int × Int)} {a : Int} (h : ∀ j x, j < l.length → l[j]? = some x → x.1 ≠ a) : hasB l a = false := by
 unfold hasB
 rw [List.any_eq_false]
 intro x hx
 obtain ⟨j, hj, e⟩ := List.mem_iff_getElem.1 hx
 have := h j x hj (by rw [List.getElem?_eq_getElem hj, e])
 simpa using this
theorem hasB_yes {l : List (Int × Int)} {a : Int} {k : Nat} {x : Int × Int} (h : l[k]? = some x) (e : x.1 = a) : hasB l a = true := by
 unfold hasB
 rw [List.any_eq_true]
 exact ⟨x, List.mem_of_getElem? h, by simpa using e⟩
set_option maxHeartbeats 2000000 in
set_option maxRecDepth 100000 in
theorem pindex_any (w : World) (l : List (Int × Int)) (pa : Option Addr) (pc : Nat) (a : Int) (ab : Nat) (hl : l.length ≤ 33792) (hr : w.ownsRow 0 80 2 (.slice pa l.length pc) l.length (blockCells l)) (ha : w.cell? ⟨ab, 0, none⟩ = some (.int .i64 a)) :
 Calls Tryz.prog 201 #[.slice pa l.length pc, .func (.func 160) #[] #[.pointer (some ⟨ab, 0, none⟩)]] w fun e w' => (∃ i : Int, e = .returned (.int .i64 i) ∧ decide (0 ≤ i) = hasB l a) ∧ Below w.heap.size w w' := by
 have HR := Lib.hid hr
 have HA := Lib.hid ha
 clear hr ha
 go_enter Tryz.func201, Tryz.ntmps201
 go_wp2
 go_loopw [5, 8] (fun _ v8 wr => IxRel l a w v8 wr) (fun _ v8 _ => l.length - (intOf v8).toNat)
 case atStart => exact ⟨0, by omega, rfl, by omega, Below.refl _ _⟩
 case round =>
  obtain ⟨k, hk, rfl, hno, hb⟩ := hrel
  have HNo := Lib.hid hno
  clear hno
  by_cases hlt : k < l.length
  ·have hkl : (k : Int) < l.length := by omega
   obtain ⟨⟨y1, y2⟩, hx⟩ : ∃ x, l[k]? = some x := ⟨_, List.getElem?_eq_getElem hlt⟩
   have hrw := ((BS.start w).below hb).row HR.out
   obtain ⟨g, cap, hg⟩ := Joins.ownsRow_form hrw (by omega)
   simp only [Value.slice.injEq, true_and] at hg
   obtain ⟨rfl, rfl⟩ := hg
   obtain ⟨p0, p1⟩ := block_cell hx
   have hcl := blockCells_len l
   have q0 := (hrw.cellAt (k * 2) (by omega)).trans p0
   have q1 := (hrw.cellAt (k * 2 + 1) (by omega)).trans p1
   have H1 := Lib.hid (proots11_any wr y1 y2 a ab ((hb.cell (World.block_lt_of_cell? _ _ HA.out)).trans HA.out))
   have HYes := Lib.hid (fun (e : y1 = a) => hasB_yes hx e)
   have HNext := Lib.hid (fun (e : y1 ≠ a) j x (hj : j < k + 1) (hjx : l[j]? = some x) => (show x.1 ≠ a by
    by_cases hjk : j = k
    ·subst hjk; rw [hx] at hjx; cases hjx; exact e
    ·exact HNo.out j x (by omega) hjx))
   clear p0 p1 hx hrw
   dsimp only at q0 q1
   by_cases hy : y1 = a
   ·have hyb : (y1 == a) = true := by simpa using hy
    rw [hyb] at H1
    have HYY := Lib.hid (HYes.out hy)
    clear HYes HNext hy
    go_wp2_with fail
    refine H1.out.mono ?_
    rintro e w1 ⟨rfl, r1⟩
    go_wp2
    go_ret
    exact ⟨⟨k, rfl, by rw [HYY.out]; simp⟩, hb.trans (r1.mono hb.size)⟩
   ·have hyb : (y1 == a) = false := by simpa using hy
    rw [hyb] at H1
    have HNN := Lib.hid (HNext.out hy)
    clear HYes HNext hy
    go_wp2_with fail
    refine H1.out.mono ?_
    rintro e w1 ⟨rfl, r1⟩
    go_wp2_with fail
    go_roundw
    case rel => exact ⟨k + 1, by omega, by go_num, HNN.out, hb.trans (r1.mono hb.size)⟩
    case measure => simp [intOf]; omega
  ·have hkl : ¬ (k : Int) < l.length := by omega
   have hke : k = l.length := by omega
   rw [hke] at HNo
   have HHB := Lib.hid (hasB_no HNo.out)
   clear HNo hke
   go_wp2
   go_ret
   exact ⟨⟨-1, rfl, by rw [HHB.out]; rfl⟩, hb⟩
theorem pcontains_any (w : World) (l : List (Int × Int)) (pa : Option Addr) (pc : Nat) (a : Int) (ab : Nat) (hl : l.length ≤ 33792) (hr : w.ownsRow 0 80 2 (.slice pa l.length pc) l.length (blockCells l)) (ha : w.cell? ⟨ab, 0, none⟩ = some (.int .i64 a)) :
 Calls Tryz.prog 159 #[.slice pa l.length pc, .func (.func 160) #[] #[.pointer (some ⟨ab, 0, none⟩)]] w fun e w' => e = .returned (.bool (hasB l a)) ∧ Below w.heap.size w w' := by
 have H := Lib.hid (pindex_any w l pa pc a ab hl hr ha)
 clear hr ha
 generalize hasB l a = z at *
 go_enter Tryz.func159, Tryz.ntmps159
 go_wp2_with fail
 refine H.out.mono ?_
 rintro e w1 ⟨⟨i, rfl, hi⟩, r1⟩
 go_wp2
 go_ret
 exact ⟨rfl, r1⟩
set_option maxHeartbeats 2000000 in
set_option maxRecDepth 100000 in
theorem proots1_any (w : World) (g P kb bb i : Nat) (l : List (Int × Int)) (pa : Option Addr) (pc : Nat) (hl : l.length ≤ 33792) (h : LK b t P s ad n c vs (.slice (some ⟨g, 0, none⟩) P P) mb w) (hi : i < 8)
 (hk : w.cell? ⟨kb, 0, none⟩ = some (.pointer (some ⟨b, 0, none⟩))) (hbb : w.cell? ⟨bb, 0, none⟩ = some (.slice pa l.length pc)) (hr : w.ownsRow 0 80 2 (.slice pa l.length pc) l.length (blockCells l)) :
 Calls Tryz.prog 158 #[.int .i64 i, .pointer (some ⟨kb, 0, none⟩), .pointer (some ⟨bb, 0, none⟩)] w fun e w' => e = .returned (.bool (rootB vs l i)) ∧ Below w.heap.size w w' := by
 have H1 := Lib.hid (fun w => pproot_any i w hi)
 have bd := h.xv.bd
 have G1 := Lib.hid (fun (w : World) (h : LK b t P s ad n c vs (.slice (some ⟨g, 0, none⟩) P P) mb w) => pget_any (22 + i) w h (by omega))
 have hu := getD_u32 h.xv.u32 (22 + i)
 unfold VS.U32 at hu
 have HLK := Lib.hid h
 have HR := Lib.hid hr
 unfold rootB
 clear h hr
 generalize vs.getD (22 + i) 0 = a at *
 have hw : IntKind.i64.wrap a = a := wrap_in _ (by omega)
 have HC := Lib.hid (fun (w : World) (ab : Nat) hr ha => pcontains_any w l pa pc a ab hl hr ha)
 by_cases hz : a = 0
 ·subst hz
  go_enter Tryz.func158, Tryz.ntmps158
  go_wp2_with fail
  refine wp_region_noPanic ?_
  refine wp_region_held_drew (S := fun w' => BS w ([] : List Nat) w' ∧ w'.cell? ⟨kb, 0, none⟩ = some (.pointer (some ⟨b, 0, none⟩)) ∧ w'.cell? ⟨bb, 0, none⟩ = some (.slice pa l.length pc)) (by kernel_rfl) ?_ (fun hHeld => ?_)
  ·exact ⟨(BS.start w).drew, hk, hbb⟩
  refine wT 0 ?_
  refine wT 1 ?_
  refine wpAnyH_ready (rs := [2, 5]) (by kernel_rfl) (by simp) ?_
  refine AllReadyH.cons (o := _) rfl (fun K hK => ?_) (AllReadyH.cons (o := _) rfl (fun K hK => ?_) AllReadyH.nil)
  ·go_simp
   refine (calls_b hHeld.1 (H1.out _)).mono ?_
   rintro e wr1 ⟨rfl, hV, hVl⟩
   dsimp only
   refine hK.out _ _ ?_ (fun hHeld2 => ?_)
   ·exact ⟨hV, hV.old hk, hV.old hbb⟩
   clear hK K hV hVl hHeld
   have hHeld := hHeld2
   clear hHeld2
   try simp only [Act.put, zA, zB, zC, zD, zE, zF]
   refine wpAnyH_ready (rs := [3, 5]) (by kernel_rfl) (by simp) ?_
   refine AllReadyH.cons (o := _) rfl (fun K hK => ?_) (AllReadyH.cons (o := _) rfl (fun K hK => ?_) AllReadyH.nil)
   ·go_simp
    refine (calls_b hHeld.1 (G1.out _ (HLK.out.keep hHeld.1.bel))).mono ?_
    rintro e wr2 ⟨rfl, hV, hVl⟩
    dsimp only
    refine hK.out _ _ ?_ (fun hHeld2 => ?_)
    ·exact ⟨hV, hV.old hk, hV.old hbb⟩
    clear hK K hV hVl hHeld
    have hHeld := hHeld2
    clear hHeld2
    try simp only [Act.put, zA, zB, zC, zD, zE, zF]
    refine wT 4 ?_
    refine wR 5 fun K hK => ?_
    have hP := hHeld
    have hA := hHeld.1.allocd (#[.int .i64 0]) 2
    try simp only [World.size_drew] at hA
    try simp only [World.size_alloc] at hA
    go_simp
    refine hK.out _ _ ?_ (fun hHeld2 => ?_)
    ·exact ⟨hA.bs.sub _ (by simp), hA.bs.old hk, hA.bs.old hbb⟩
    clear hK K hHeld
    have hHeld := hHeld2
    clear hHeld2
    try simp only [Act.put, zA, zB, zC, zD, zE, zF]
    refine wR 6 fun K hK => ?_
    go_simp
    have hA2 := (hP.1).allocd (#[.int .i64 0]) 2
    refine hK.out _ _ ?_ (fun hHeld2 => ?_)
    try simp only [World.size_drew] at hA2
    try simp only [World.size_alloc] at hA2
    ·exact ⟨hA2.bs.sub _ (by simp), hA2.bs.old hk, hA2.bs.old hbb⟩
    clear hA hP
    have hA := hA2
    clear hA2 hHeld
    have hHeld := hHeld2
    clear hHeld2
    clear hK K
    try simp only [Act.put, zA, zB, zC, zD, zE, zF]
    refine wpAnyH_done (by kernel_rfl) (NoPanic.normal ?_) _
    refine world_gen ?_
    intro wz hwz
    rw [← hwz] at hHeld hA
    clear hwz
    have ca := cell?_of_heap (o := 0) hA.box
    simp at ca
    have hB := hA.bs.bel
    clear hA hHeld
    go_wp2
    go_ret
    exact ⟨ret_bool (by simp), hB⟩
   ·have hP := hHeld
    have hA := hHeld.1.allocd (#[.int .i64 0]) 2
    try simp only [World.size_drew] at hA
    try simp only [World.size_alloc] at hA
    go_simp
    refine hK.out _ _ ?_ (fun hHeld2 => ?_)
    ·exact ⟨hA.bs.sub _ (by simp), hA.bs.old hk, hA.bs.old hbb⟩
    clear hK K hHeld
    have hHeld := hHeld2
    clear hHeld2
    try simp only [Act.put, zA, zB, zC, zD, zE, zF]
    refine wR 3 fun K hK => ?_
    go_simp
    refine (calls_b hA.bs (G1.out _ (HLK.out.keep hHeld.1.bel))).mono ?_
    rintro e wr3 ⟨rfl, hV, hVl⟩
    have hAn := hA.step hV hVl
    dsimp only
    refine hK.out _ _ ?_ (fun hHeld2 => ?_)
    ·exact ⟨hV.sub _ (by simp), hV.old hk, hV.old hbb⟩
    clear hK K hV hVl hHeld hA hP
    have hA := hAn
    have hP := trivial
    clear hAn
    have hHeld := hHeld2
    clear hHeld2
    try simp only [Act.put, zA, zB, zC, zD, zE, zF]
    refine wT 4 ?_
    refine wR 6 fun K hK => ?_
    have kc0 := (cell?_of_heap (o := 0) hA.box)
    simp at kc0
    have kf0 := frozen?_of_heap (o := 0) hA.box
    go_simp
    refine hK.out _ _ ?_ (fun hHeld2 => ?_)
    ·exact ⟨(hA.set 0 _).bs.sub _ (by simp), (hA.set 0 _).bs.old hk, (hA.set 0 _).bs.old hbb⟩
    have hA2 : BA w ([] : List Nat) _ (#[.int .i64 0]) 2 _ := (hA.set 0 (.int .i64 0))
    clear kc0 kf0 hA hP
    have hA := hA2
    clear hA2 hHeld
    have hHeld := hHeld2
    clear hHeld2
    clear hK K
    try simp only [Act.put, zA, zB, zC, zD, zE, zF]
    refine wpAnyH_done (by kernel_rfl) (NoPanic.normal ?_) _
    refine world_gen ?_
    intro wz hwz
    rw [← hwz] at hHeld hA
    clear hwz
    have ca := cell?_of_heap (o := 0) hA.box
    simp at ca
    have hB := hA.bs.bel
    clear hA hHeld
    go_wp2
    go_ret
    exact ⟨ret_bool (by simp), hB⟩
  ·have hP := hHeld
   have hA := hHeld.1.allocd (#[.int .i64 0]) 2
   try simp only [World.size_drew] at hA
   try simp only [World.size_alloc] at hA
   go_simp
   refine hK.out _ _ ?_ (fun hHeld2 => ?_)
   ·exact ⟨hA.bs.sub _ (by simp), hA.bs.old hk, hA.bs.old hbb⟩
   clear hK K hHeld
   have hHeld := hHeld2
   clear hHeld2
   try simp only [Act.put, zA, zB, zC, zD, zE, zF]
   refine wR 2 fun K hK => ?_
   go_simp
   refine (calls_b hA.bs (H1.out _)).mono ?_
   rintro e wr4 ⟨rfl, hV, hVl⟩
   have hAn := hA.step hV hVl
   dsimp only
   refine hK.out _ _ ?_ (fun hHeld2 => ?_)
   ·exact ⟨hV.sub _ (by simp), hV.old hk, hV.old hbb⟩
   clear hK K hV hVl hHeld hA hP
   have hA := hAn
   have hP := trivial
   clear hAn
   have hHeld := hHeld2
   clear hHeld2
   try simp only [Act.put, zA, zB, zC, zD, zE, zF]
   refine wR 3 fun K hK => ?_
   go_simp
   refine (calls_b hA.bs (G1.out _ (HLK.out.keep hHeld.1.bel))).mono ?_
   rintro e wr5 ⟨rfl, hV, hVl⟩
   have hAn := hA.step hV hVl
   dsimp only
   refine hK.out _ _ ?_ (fun hHeld2 => ?_)
   ·exact ⟨hV.sub _ (by simp), hV.old hk, hV.old hbb⟩
   clear hK K hV hVl hHeld hA hP
   have hA := hAn
   have hP := trivial
   clear hAn
   have hHeld := hHeld2
   clear hHeld2
   try simp only [Act.put, zA, zB, zC, zD, zE, zF]
   refine wT 4 ?_
   refine wR 6 fun K hK => ?_
   have kc0 := (cell?_of_heap (o := 0) hA.box)
   simp at kc0
   have kf0 := frozen?_of_heap (o := 0) hA.box
   go_simp
   refine hK.out _ _ ?_ (fun hHeld2 => ?_)
   ·exact ⟨(hA.set 0 _).bs.sub _ (by simp), (hA.set 0 _).bs.old hk, (hA.set 0 _).bs.old hbb⟩
   have hA2 : BA w ([] : List Nat) _ (#[.int .i64 0]) 2 _ := (hA.set 0 (.int .i64 0))
   clear kc0 kf0 hA hP
   have hA := hA2
   clear hA2 hHeld
   have hHeld := hHeld2
   clear hHeld2
   clear hK K
   try simp only [Act.put, zA, zB, zC, zD, zE, zF]
   refine wpAnyH_done (by kernel_rfl) (NoPanic.normal ?_) _
   refine world_gen ?_
   intro wz hwz
   rw [← hwz] at hHeld hA
   clear hwz
   have ca := cell?_of_heap (o := 0) hA.box
   simp at ca
   have hB := hA.bs.bel
   clear hA hHeld
   go_wp2
   go_ret
   exact ⟨ret_bool (by simp), hB⟩
 ·have hzb : (a == 0) = false := by simpa using hz
  clear hz
  generalize hasB l a = z at *
  go_enter Tryz.func158, Tryz.ntmps158
  go_wp2_with fail
  refine wp_region_noPanic ?_
  refine wp_region_held_drew (S := fun w' => BS w ([] : List Nat) w' ∧ w'.cell? ⟨kb, 0, none⟩ = some (.pointer (some ⟨b, 0, none⟩)) ∧ w'.cell? ⟨bb, 0, none⟩ = some (.slice pa l.length pc)) (by kernel_rfl) ?_ (fun hHeld => ?_)
  ·exact ⟨(BS.start w).drew, hk, hbb⟩
  refine wT 0 ?_
  refine wT 1 ?_
  refine wpAnyH_ready (rs := [2, 5]) (by kernel_rfl) (by simp) ?_
  refine AllReadyH.cons (o := _) rfl (fun K hK => ?_) (AllReadyH.cons (o := _) rfl (fun K hK => ?_) AllReadyH.nil)
  ·go_simp
   refine (calls_b hHeld.1 (H1.out _)).mono ?_
   rintro e wr1 ⟨rfl, hV, hVl⟩
   dsimp only
   refine hK.out _ _ ?_ (fun hHeld2 => ?_)
   ·exact ⟨hV, hV.old hk, hV.old hbb⟩
   clear hK K hV hVl hHeld
   have hHeld := hHeld2
   clear hHeld2
   try simp only [Act.put, zA, zB, zC, zD, zE, zF]
   refine wpAnyH_ready (rs := [3, 5]) (by kernel_rfl) (by simp) ?_
   refine AllReadyH.cons (o := _) rfl (fun K hK => ?_) (AllReadyH.cons (o := _) rfl (fun K hK => ?_) AllReadyH.nil)
   ·go_simp
    refine (calls_b hHeld.1 (G1.out _ (HLK.out.keep hHeld.1.bel))).mono ?_
    rintro e wr2 ⟨rfl, hV, hVl⟩
    dsimp only
    refine hK.out _ _ ?_ (fun hHeld2 => ?_)
    ·exact ⟨hV, hV.old hk, hV.old hbb⟩
    clear hK K hV hVl hHeld
    have hHeld := hHeld2
    clear hHeld2
    try simp only [Act.put, zA, zB, zC, zD, zE, zF]
    refine wT 4 ?_
    refine wR 5 fun K hK => ?_
    have hP := hHeld
    have hA := hHeld.1.allocd (#[.int .i64 0]) 2
    try simp only [World.size_drew] at hA
    try simp only [World.size_alloc] at hA
    go_simp
    refine hK.out _ _ ?_ (fun hHeld2 => ?_)
    ·exact ⟨hA.bs.sub _ (by simp), hA.bs.old hk, hA.bs.old hbb⟩
    clear hK K hHeld
    have hHeld := hHeld2
    clear hHeld2
    try simp only [Act.put, zA, zB, zC, zD, zE, zF]
    refine wR 6 fun K hK => ?_
    go_simp
    have hA2 := (hP.1).allocd (#[.int .i64 a]) 2
    refine hK.out _ _ ?_ (fun hHeld2 => ?_)
    try simp only [World.size_drew] at hA2
    try simp only [World.size_alloc] at hA2
    ·exact ⟨hA2.bs.sub _ (by simp), hA2.bs.old hk, hA2.bs.old hbb⟩
    clear hA hP
    have hA := hA2
    clear hA2 hHeld
    have hHeld := hHeld2
    clear hHeld2
    clear hK K
    try simp only [Act.put, zA, zB, zC, zD, zE, zF]
    refine wpAnyH_done (by kernel_rfl) (NoPanic.normal ?_) _
    refine world_gen ?_
    intro wz hwz
    rw [← hwz] at hHeld hA
    clear hwz
    have ca := cell?_of_heap (o := 0) hA.box
    simp at ca
    have hB := hA.bs.bel
    have cb := hHeld.2.2
    have HC2 := Lib.hid (HC.out wz _ (hHeld.1.row HR.out) ca)
    clear hA hHeld HC
    go_wp2_with fail
    refine HC2.out.mono ?_
    rintro e w9 ⟨rfl, r9⟩
    go_wp2
    go_ret
    exact ⟨ret_bool (by simp [hzb]), hB.trans (r9.mono hB.size)⟩
   ·have hP := hHeld
    have hA := hHeld.1.allocd (#[.int .i64 0]) 2
    try simp only [World.size_drew] at hA
    try simp only [World.size_alloc] at hA
    go_simp
    refine hK.out _ _ ?_ (fun hHeld2 => ?_)
    ·exact ⟨hA.bs.sub _ (by simp), hA.bs.old hk, hA.bs.old hbb⟩
    clear hK K hHeld
    have hHeld := hHeld2
    clear hHeld2
    try simp only [Act.put, zA, zB, zC, zD, zE, zF]
    refine wR 3 fun K hK => ?_
    go_simp
    refine (calls_b hA.bs (G1.out _ (HLK.out.keep hHeld.1.bel))).mono ?_
    rintro e wr3 ⟨rfl, hV, hVl⟩
    have hAn := hA.step hV hVl
    dsimp only
    refine hK.out _ _ ?_ (fun hHeld2 => ?_)
    ·exact ⟨hV.sub _ (by simp), hV.old hk, hV.old hbb⟩
    clear hK K hV hVl hHeld hA hP
    have hA := hAn
    have hP := trivial
    clear hAn
    have hHeld := hHeld2
    clear hHeld2
    try simp only [Act.put, zA, zB, zC, zD, zE, zF]
    refine wT 4 ?_
    refine wR 6 fun K hK => ?_
    have kc0 := (cell?_of_heap (o := 0) hA.box)
    simp at kc0
    have kf0 := frozen?_of_heap (o := 0) hA.box
    go_simp
    refine hK.out _ _ ?_ (fun hHeld2 => ?_)
    ·exact ⟨(hA.set 0 _).bs.sub _ (by simp), (hA.set 0 _).bs.old hk, (hA.set 0 _).bs.old hbb⟩
    have hA2 : BA w ([] : List Nat) _ (#[.int .i64 a]) 2 _ := (hA.set 0 (.int .i64 a))
    clear kc0 kf0 hA hP
    have hA := hA2
    clear hA2 hHeld
    have hHeld := hHeld2
    clear hHeld2
    clear hK K
    try simp only [Act.put, zA, zB, zC, zD, zE, zF]
    refine wpAnyH_done (by kernel_rfl) (NoPanic.normal ?_) _
    refine world_gen ?_
    intro wz hwz
    rw [← hwz] at hHeld hA
    clear hwz
    have ca := cell?_of_heap (o := 0) hA.box
    simp at ca
    have hB := hA.bs.bel
    have cb := hHeld.2.2
    have HC2 := Lib.hid (HC.out wz _ (hHeld.1.row HR.out) ca)
    clear hA hHeld HC
    go_wp2_with fail
    refine HC2.out.mono ?_
    rintro e w9 ⟨rfl, r9⟩
    go_wp2
    go_ret
    exact ⟨ret_bool (by simp [hzb]), hB.trans (r9.mono hB.size)⟩
  ·have hP := hHeld
   have hA := hHeld.1.allocd (#[.int .i64 0]) 2
   try simp only [World.size_drew] at hA
   try simp only [World.size_alloc] at hA
   go_simp
   refine hK.out _ _ ?_ (fun hHeld2 => ?_)
   ·exact ⟨hA.bs.sub _ (by simp), hA.bs.old hk, hA.bs.old hbb⟩
   clear hK K hHeld
   have hHeld := hHeld2
   clear hHeld2
   try simp only [Act.put, zA, zB, zC, zD, zE, zF]
   refine wR 2 fun K hK => ?_
   go_simp
   refine (calls_b hA.bs (H1.out _)).mono ?_
   rintro e wr4 ⟨rfl, hV, hVl⟩
   have hAn := hA.step hV hVl
   dsimp only
   refine hK.out _ _ ?_ (fun hHeld2 => ?_)
   ·exact ⟨hV.sub _ (by simp), hV.old hk, hV.old hbb⟩
   clear hK K hV hVl hHeld hA hP
   have hA := hAn
   have hP := trivial
   clear hAn
   have hHeld := hHeld2
   clear hHeld2
   try simp only [Act.put, zA, zB, zC, zD, zE, zF]
   refine wR 3 fun K hK => ?_
   go_simp
   refine (calls_b hA.bs (G1.out _ (HLK.out.keep hHeld.1.bel))).mono ?_
   rintro e wr5 ⟨rfl, hV, hVl⟩
   have hAn := hA.step hV hVl
   dsimp only
   refine hK.out _ _ ?_ (fun hHeld2 => ?_)
   ·exact ⟨hV.sub _ (by simp), hV.old hk, hV.old hbb⟩
   clear hK K hV hVl hHeld hA hP
   have hA := hAn
   have hP := trivial
   clear hAn
   have hHeld := hHeld2
   clear hHeld2
   try simp only [Act.put, zA, zB, zC, zD, zE, zF]
   refine wT 4 ?_
   refine wR 6 fun K hK => ?_
   have kc0 := (cell?_of_heap (o := 0) hA.box)
   simp at kc0
   have kf0 := frozen?_of_heap (o := 0) hA.box
   go_simp
   refine hK.out _ _ ?_ (fun hHeld2 => ?_)
   ·exact ⟨(hA.set 0 _).bs.sub _ (by simp), (hA.set 0 _).bs.old hk, (hA.set 0 _).bs.old hbb⟩
   have hA2 : BA w ([] : List Nat) _ (#[.int .i64 a]) 2 _ := (hA.set 0 (.int .i64 a))
   clear kc0 kf0 hA hP
   have hA := hA2
   clear hA2 hHeld
   have hHeld := hHeld2
   clear hHeld2
   clear hK K
   try simp only [Act.put, zA, zB, zC, zD, zE, zF]
   refine wpAnyH_done (by kernel_rfl) (NoPanic.normal ?_) _
   refine world_gen ?_
   intro wz hwz
   rw [← hwz] at hHeld hA
   clear hwz
   have ca := cell?_of_heap (o := 0) hA.box
   simp at ca
   have hB := hA.bs.bel
   have cb := hHeld.2.2
   have HC2 := Lib.hid (HC.out wz _ (hHeld.1.row HR.out) ca)
   clear hA hHeld HC
   go_wp2_with fail
   refine HC2.out.mono ?_
   rintro e w9 ⟨rfl, r9⟩
   go_wp2
   go_ret
   exact ⟨ret_bool (by simp [hzb]), hB.trans (r9.mono hB.size)⟩
set_option maxRecDepth 100000 in
theorem proots_any (w0 w : World) (ml : List (Int × Int)) (g P : Nat) (al : List (Int × Int × Int)) (h : LS w0 b t P s ad n c vs (.slice (some ⟨g, 0, none⟩) P P) mb ml w) (hA : AtR w0 b mb g P al ad w) (hsp : ∀ k x, al[k]? = some x → x.1 ≠ 0 → SpIn P (k, x)) :
 Calls Tryz.prog 111 #[.pointer (some ⟨b, 0, none⟩)] w fun e W' => e = .returned (.bool (allN (rootB vs (liveL (paL vs t s (spN al P)))) 8)) ∧ Below w.heap.size w W' := by
 have hb0 : Below w.heap.size w (w.alloc (.cells #[.pointer (some ⟨b, 0, none⟩)] 106)) := (Below.refl _ _).alloc (Nat.le_refl _) _
 have x0 : (w.alloc (.cells #[.pointer (some ⟨b, 0, none⟩)] 106)).cell? ⟨w.heap.size, 0, none⟩ = some (.pointer (some ⟨b, 0, none⟩)) := loc_alloc w #[.pointer (some ⟨b, 0, none⟩)] 106 0
 have HB := Lib.hid (pblocks_any w0 _ ml g P al (h.keep hb0) (hA.keep hb0) hsp)
 have hll : (liveL (paL vs t s (spN al P))).length ≤ 33792 := by
  have h1 := paL_len vs t s (spN al P)
  have h2 := spN_len al P
  have h3 := h.lk.xv.bd
  have h4 := liveL_len (paL vs t s (spN al P))
  omega
 have HLK := Lib.hid (h.lk.keep hb0)
 clear h hA hsp
 generalize liveL (paL vs t s (spN al P)) = l at *
 go_enter Tryz.func111, Tryz.ntmps111
 go_wp2_with fail
 refine HB.out.mono ?_
 rintro e w1 ⟨lv, rfl, hlv⟩
 obtain ⟨la, lc, rfl⟩ : ∃ a c, lv = .slice a l.length c := row_shape hlv.1
 have hb1 := hlv.2.2
 have hb2 : Below w1.heap.size w1 (w1.alloc (.cells #[.slice la l.length lc] 35)) := (Below.refl _ _).alloc (Nat.le_refl _) _
 have y0 : (w1.alloc (.cells #[.slice la l.length lc] 35)).cell? ⟨w1.heap.size, 0, none⟩ = some (.slice la l.length lc) := loc_alloc w1 #[.slice la l.length lc] 35 0
 have hx1 := (hb1.cell (World.block_lt_of_cell? _ _ x0)).trans x0
 have hx2 := (hb2.cell (World.block_lt_of_cell? _ _ hx1)).trans hx1
 have H := pallRt 8 (by omega) (.pointer (some ⟨w.heap.size, 0, none⟩)) (.pointer (some ⟨w1.heap.size, 0, none⟩)) (rootB vs l)
  (fun _ W => (LK b t P s ad n c vs (.slice (some ⟨g, 0, none⟩) P P) mb W ∧ W.cell? ⟨w.heap.size, 0, none⟩ = some (.pointer (some ⟨b, 0, none⟩)) ∧ W.cell? ⟨w1.heap.size, 0, none⟩ = some (.slice la l.length lc)) ∧ W.ownsRow 0 80 2 (.slice la l.length lc) l.length (blockCells l) ∧ Below w1.heap.size w1 W)
  (w1.alloc (.cells #[.slice la l.length lc] 35)) ⟨⟨(HLK.out.keep hb1).keep hb2, hx2, y0⟩, ((BS.start _).below hb2).row hlv.1, hb2⟩ (fun k W hk _ hI => by
   obtain ⟨⟨i1, i2, i3⟩, i4, i5⟩ := hI
   refine (proots1_any W g P w.heap.size w1.heap.size k l la lc hll i1 hk i2 i3 i4).mono ?_
   rintro e W' ⟨e1, e2⟩
   exact ⟨e1, ⟨i1.keep e2, (e2.cell (World.block_lt_of_cell? _ _ i2)).trans i2, (e2.cell (World.block_lt_of_cell? _ _ i3)).trans i3⟩, ((BS.start _).below e2).row i4, i5.trans (e2.mono i5.size)⟩)
 have HH := Lib.hid H
 clear H hlv x0 y0 hx1 hx2 HLK HB
 go_wp2_with fail
 refine HH.out.mono ?_
 rintro e w2 ⟨rfl, k, -, -, -, -, hx⟩
 have HX := Lib.hid (hb0.trans ((hb1.mono (by simp)).trans (hx.mono (Nat.le_trans (by simp) hb1.size))))
 clear hx
 go_wp2
 go_ret
 exact ⟨rfl, HX.out⟩
end
end Go.Proofs.YtcbikgafdclhaaaGreat
/- the plain law of parts and roots. -/
set_option linter.unusedSimpArgs false
set_option linter.unusedVariables false
namespace Go.Proofs.YtcbikgafdclhaaaGreat
open Go.RowKit
section
variable {vs : List Int} {t s : Int} {P : Nat}
theorem parts_at (h : allN (pgB vs t P) P = true) : ∀ k, k ≤ P → paL vs t s (spN (infoL vs t P) k) = partsL vs t s k
 | 0, _ => rfl
 | k + 1, hk => by
  have ih := parts_at h k (by omega)
  have hK := st_kind h (show k < P by omega)
  have hb := inf_bd (gv vs t k 0)
  rw [spN_step h (by omega), partsL]
  by_cases hs : stB vs t k = true
  ·have hK0 := hK.1 hs
   rw [if_pos hs, paL_snoc, ih]
   congr 1
   show (if iK (gv vs t k 0) = 1 then _ else if iK (gv vs t k 0) = 2 then _ else _) = partQ vs t s k
   unfold partQ
   by_cases h1 : iK (gv vs t k 0) = 1
   ·rw [if_pos h1, if_pos (Or.inl h1), h1]
    rfl
   ·rw [if_neg h1]
    by_cases h2 : iK (gv vs t k 0) = 2
    ·rw [if_pos h2, if_pos (Or.inr h2), h2]
     rfl
    ·rw [if_neg h2, if_neg (by omega), if_pos (by omega)]
     rfl
  ·have hK0 : iK (gv vs t k 0) = 0 := Classical.byContradiction fun hn => hs (hK.2 hn)
   rw [if_neg hs, ih]
   unfold partQ
   rw [if_neg (by omega), if_neg (by omega), List.append_nil]
theorem parts_law (h : tilesF vs t P = true) : paL vs t s (spN (infoL vs t P) P) = partsF vs t P s := by
 unfold partsF
 rw [Int.toNat_natCast]
 exact parts_at (tiles_pg h) P (Nat.le_refl _)
theorem roots_law (h : tilesF vs t P = true) : allN (rootB vs (liveL (paL vs t s (spN (infoL vs t P) P)))) 8 = rootsF vs t P s := by
 rw [parts_law h]
 rfl
end
end Go.Proofs.YtcbikgafdclhaaaGreat
/- the program's audit: see. -/
set_option linter.unusedSimpArgs false
set_option linter.unusedVariables false
namespace Go.Proofs.YtcbikgafdclhaaaGreat
open Go.RowKit

/-- the rules, in their order. -/
def ruleB (vs : List Int) (t s : Int) (P : Nat) : Nat → Bool
 | 1 => tilesF vs t P
 | 2 => feetF vs t P
 | 3 => apartF vs t P
 | 4 => slotsAll vs t P
 | 5 => binsF vs t P
 | 6 => racksF vs t P
 | 7 => looseF vs t P
 | 8 => countsF vs t P
 | 9 => rootsF vs t P s
 | _ => true
theorem chk_first {vs : List Int} {t s : Int} {P k : Nat} (hk : k < 10) (h : allN (ruleB vs t s P) k = true) (hf : ruleB vs t s P k = false) : chkF vs t P s = ((k : Int) + 1, false) := by
 rw [allN_iff] at h
 have h1 := h 1
 have h2 := h 2
 have h3 := h 3
 have h4 := h 4
 have h5 := h 5
 have h6 := h 6
 have h7 := h 7
 have h8 := h 8
 clear h
 rcases (by omega : k = 0 ∨ k = 1 ∨ k = 2 ∨ k = 3 ∨ k = 4 ∨ k = 5 ∨ k = 6 ∨ k = 7 ∨ k = 8 ∨ k = 9) with rfl | rfl | rfl | rfl | rfl | rfl | rfl | rfl | rfl | rfl <;> simp [ruleB] at * <;> simp [chkF, *]
theorem chk_all {vs : List Int} {t s : Int} {P : Nat} (h : allN (ruleB vs t s P) 10 = true) : chkF vs t P s = (0, true) := by
 rw [allN_iff] at h
 have h1 := h 1
 have h2 := h 2
 have h3 := h 3
 have h4 := h 4
 have h5 := h 5
 have h6 := h 6
 have h7 := h 7
 have h8 := h 8
 have h9 := h 9
 clear h
 simp [ruleB] at *
 simp [chkF, *]
/-- the pages that were met in lists. -/
def visK (vs : List Int) (t : Int) (P k : Nat) : List Nat :=
 if k ≤ 5 then [] else if k = 6 then visN 2 (bnF vs t P) vs t P [] 11 else visN 13 (rkF vs t P) vs t P (visN 2 (bnF vs t P) vs t P [] 11) 9
def fnC (b : Nat) : Array Value := #[.func (.func 102) #[.pointer (some ⟨b, 0, none⟩)] #[], .func (.func 103) #[.pointer (some ⟨b, 0, none⟩)] #[], .func (.func 104) #[.pointer (some ⟨b, 0, none⟩)] #[], .func (.func 105) #[.pointer (some ⟨b, 0, none⟩)] #[], .func (.func 106) #[.pointer (some ⟨b, 0, none⟩)] #[], .func (.func 107) #[.pointer (some ⟨b, 0, none⟩)] #[], .func (.func 108) #[.pointer (some ⟨b, 0, none⟩)] #[], .func (.func 109) #[.pointer (some ⟨b, 0, none⟩)] #[], .func (.func 110) #[.pointer (some ⟨b, 0, none⟩)] #[], .func (.func 111) #[.pointer (some ⟨b, 0, none⟩)] #[]]
/-- how things stand ahead of rule k + 1. -/
structure SeeSt (w : World) (b mb R : Nat) (t s : Int) (P : Nat) (ad : Addr) (n c : Nat) (vs : List Int) (k : Nat) (wr : World) : Prop where
 st : if k ≤ 1 then LS w b t P s ad n c vs (.slice none 0 0) mb [] wr else ∃ g, LS w b t P s ad n c vs (.slice (some ⟨g, 0, none⟩) P P) mb (mlOf (visK vs t P k)) wr ∧ AtR w b mb g P (infoL vs t P) ad wr
 fn : wr.heap[R]? = some (.cells (fnC b) 24)
 ok : allN (ruleB vs t s P) k = true
 n1 : R ≠ b
 n2 : R ≠ mb
 ge : w.heap.size ≤ R
 old : ad.block < w.heap.size
section
variable {w : World} {b mb R : Nat} {t s : Int} {P : Nat} {ad : Addr} {n c : Nat} {vs : List Int} {k : Nat} {wr W' : World}
theorem SeeSt.fnlt (h : SeeSt w b mb R t s P ad n c vs k wr) : R < wr.heap.size := (Array.getElem?_eq_some_iff.1 h.fn).1
theorem SeeSt.bel (h : SeeSt w b mb R t s P ad n c vs k wr) : Below w.heap.size w wr := by
 have h1 := h.st
 split at h1
 ·exact h1.bs.bel
 ·obtain ⟨g, h2, -⟩ := h1
  exact h2.bs.bel
theorem SeeSt.at (h : SeeSt w b mb R t s P ad n c vs k wr) (hk : 2 ≤ k) : ∃ g, LS w b t P s ad n c vs (.slice (some ⟨g, 0, none⟩) P P) mb (mlOf (visK vs t P k)) wr ∧ AtR w b mb g P (infoL vs t P) ad wr := by
 have h1 := h.st
 rw [if_neg (by omega)] at h1
 exact h1
theorem SeeSt.rule (h : SeeSt w b mb R t s P ad n c vs k wr) {j : Nat} (hj : j < k) : ruleB vs t s P j = true := allN_at h.ok hj
/-- behind a rule that turns nothing. -/
theorem SeeSt.pure (h : SeeSt w b mb R t s P ad n c vs k wr) (hk : k ≠ 1 ∧ k ≠ 5 ∧ k ≠ 6) (hb : Below wr.heap.size wr W') (hr : ruleB vs t s P k = true) : SeeSt w b mb R t s P ad n c vs (k + 1) W' := by
 refine ⟨?_, (hb.block R h.fnlt).trans h.fn, by show (allN _ k && _) = true; rw [h.ok, hr]; rfl, h.n1, h.n2, h.ge, h.old⟩
 have h1 := h.st
 by_cases h0 : k = 0
 ·subst h0
  simp only [Nat.zero_le, if_true] at h1
  simp only [Nat.zero_add, Nat.le_refl, if_true]
  exact h1.keep hb
 ·rw [if_neg (by omega)] at h1
  rw [if_neg (by omega)]
  obtain ⟨g, h2, h3⟩ := h1
  refine ⟨g, ?_, h3.keep hb⟩
  have hv : visK vs t P (k + 1) = visK vs t P k := by
   unfold visK
   by_cases h5 : k ≤ 5
   ·rw [if_pos h5, if_pos (by omega)]
   ·rw [if_neg h5, if_neg (by omega), if_neg (by omega), if_neg (by omega)]
  rw [hv]
  exact h2.keep hb
def SeeN (w : World) (b mb R : Nat) (t s : Int) (P : Nat) (ad : Addr) (n c : Nat) (vs : List Int) (k : Nat) (e : Ending) (W' : World) : Prop :=
 e = .returned (.bool (ruleB vs t s P k)) ∧ Below w.heap.size w W' ∧ (ruleB vs t s P k = true → SeeSt w b mb R t s P ad n c vs (k + 1) W')
theorem SeeSt.next (h : SeeSt w b mb R t s P ad n c vs k wr) (hk : k ≠ 1 ∧ k ≠ 5 ∧ k ≠ 6) {x : Bool} (hx : x = ruleB vs t s P k) {e : Ending} (he : e = .returned (.bool x)) (hb : Below wr.heap.size wr W') : SeeN w b mb R t s P ad n c vs k e W' := by
 subst hx
 exact ⟨he, h.bel.trans (hb.mono h.bel.size), fun hr => h.pure hk hb hr⟩
theorem see0 (h : SeeSt w b mb R t s P ad n c vs 0 wr) : Calls Tryz.prog 102 #[.pointer (some ⟨b, 0, none⟩)] wr (SeeN w b mb R t s P ad n c vs 0) := by
 have h1 := h.st
 simp only [Nat.zero_le, if_true] at h1
 refine (plsize_any wr h1.lk).mono ?_
 rintro e W' ⟨he, hb⟩
 exact h.next (by decide) rfl he hb
theorem see1 (h : SeeSt w b mb R t s P ad n c vs 1 wr) : Calls Tryz.prog 103 #[.pointer (some ⟨b, 0, none⟩)] wr (SeeN w b mb R t s P ad n c vs 1) := by
 have h1 := h.st
 simp only [Nat.le_refl, if_true] at h1
 refine (ptiles_any w wr [] h1 h.old).mono ?_
 rintro e W' ⟨he, h2, h3, h4, h5⟩
 rw [Int.toNat_natCast, tiles_law] at he
 refine ⟨he, h3, fun hr => ⟨?_, (h4 R h.n1 h.fnlt).trans h.fn, by show (allN _ 1 && _) = true; rw [h.ok, hr]; rfl, h.n1, h.n2, h.ge, h.old⟩⟩
 rw [if_neg (by omega)]
 have hr2 : tilesF vs t P = true := hr
 rw [← tiles_law] at hr2
 obtain ⟨st, hst⟩ := Option.isSome_iff_exists.1 hr2
 rw [Int.toNat_natCast] at h2
 obtain ⟨g, a, b⟩ := h2 st hst
 rw [tlN_info hst] at b
 exact ⟨g, a, b⟩
theorem see2 (h : SeeSt w b mb R t s P ad n c vs 2 wr) : Calls Tryz.prog 104 #[.pointer (some ⟨b, 0, none⟩)] wr (SeeN w b mb R t s P ad n c vs 2) := by
 obtain ⟨g, h1, h2⟩ := h.at (by omega)
 have ht : tilesF vs t P = true := h.rule (j := 1) (by omega)
 refine (pfeet_any w wr _ g P _ h1 h2 (sp_in ht)).mono ?_
 rintro e W' ⟨he, hb⟩
 exact h.next (by decide) (feet_law ht) he (hb)
theorem see3 (h : SeeSt w b mb R t s P ad n c vs 3 wr) : Calls Tryz.prog 105 #[.pointer (some ⟨b, 0, none⟩)] wr (SeeN w b mb R t s P ad n c vs 3) := by
 obtain ⟨g, h1, h2⟩ := h.at (by omega)
 have ht : tilesF vs t P = true := h.rule (j := 1) (by omega)
 refine (papart_any w wr _ g P _ h1 h2 (sp_in ht)).mono ?_
 rintro e W' ⟨he, hb⟩
 exact h.next (by decide) (apart_law ht) he (hb)
theorem see4 (h : SeeSt w b mb R t s P ad n c vs 4 wr) : Calls Tryz.prog 106 #[.pointer (some ⟨b, 0, none⟩)] wr (SeeN w b mb R t s P ad n c vs 4) := by
 obtain ⟨g, h1, h2⟩ := h.at (by omega)
 refine (pslotsr_any w wr _ g P _ h1 h2 rfl).mono ?_
 rintro e W' ⟨he, hb⟩
 exact h.next (by decide) (slots_law h1.lk.xv.u32) he (hb)
theorem see5 (h : SeeSt w b mb R t s P ad n c vs 5 wr) : Calls Tryz.prog 107 #[.pointer (some ⟨b, 0, none⟩)] wr (SeeN w b mb R t s P ad n c vs 5) := by
 obtain ⟨g, h1, h2⟩ := h.at (by omega)
 have hg : ∀ k, 0 ≤ vs.getD k 0 := fun k => (getD_u32 h1.lk.xv.u32 k).1
 have hv5 : visK vs t P 5 = [] := by unfold visK; rw [if_pos (by omega)]
 have hv6 : visK vs t P (5 + 1) = visN 2 (bnF vs t P) vs t P [] 11 := by unfold visK; rw [if_neg (by omega), if_pos rfl]
 rw [hv5] at h1
 refine (pbins_any w wr g P [] (infoL vs t P) h1 h2 infoL_len h.old List.nodup_nil (by simp)).mono ?_
 rintro e W' ⟨he, k, hk, hk2, h3, h4, h5, h6⟩
 have hl := bins_law (P := P) (t := t) hg
 have he2 : e = .returned (.bool (binsF vs t P)) := by rw [← hl.1]; exact he
 refine ⟨he2, h3.bs.bel, fun hr => ⟨?_, (h5 R h.n2 h.fnlt).trans h.fn, by show (allN _ 5 && _) = true; rw [h.ok, hr]; rfl, h.n1, h.n2, h.ge, h.old⟩⟩
 rw [if_neg (by omega)]
 have hk3 := hk2 (hl.1.trans hr)
 subst hk3
 rw [hv6]
 exact ⟨g, h3, h4⟩
theorem see6 (h : SeeSt w b mb R t s P ad n c vs 6 wr) : Calls Tryz.prog 108 #[.pointer (some ⟨b, 0, none⟩)] wr (SeeN w b mb R t s P ad n c vs 6) := by
 obtain ⟨g, h1, h2⟩ := h.at (by omega)
 have hu := h1.lk.xv.u32
 have hg : ∀ k, 0 ≤ vs.getD k 0 := fun k => (getD_u32 hu k).1
 have hb : binsF vs t P = true := h.rule (j := 5) (by omega)
 have hs : slotsAll vs t P = true := h.rule (j := 4) (by omega)
 obtain ⟨v1, v2⟩ := (bins_law (P := P) (t := t) hg).2 hb
 have hv5 : visK vs t P 6 = visN 2 (bnF vs t P) vs t P [] 11 := by unfold visK; rw [if_neg (by omega), if_pos rfl]
 have hv6 : visK vs t P (6 + 1) = visN 13 (rkF vs t P) vs t P (visN 2 (bnF vs t P) vs t P [] 11) 9 := by unfold visK; rw [if_neg (by omega), if_neg (by omega)]
 rw [hv5] at h1
 refine (pracks_any w wr g P (visN 2 (bnF vs t P) vs t P [] 11) (infoL vs t P) h1 h2 h.old v1 (fun y hy => ((v2 y).1 hy).1)).mono ?_
 rintro e W' ⟨he, k, hk, hk2, h3, h4, h5, h6⟩
 have hl := racks_law (P := P) (t := t) hg hu hs hb
 have he2 : e = .returned (.bool (racksF vs t P)) := by rw [← hl.1]; exact he
 refine ⟨he2, h3.bs.bel, fun hr => ⟨?_, (h5 R h.n2 h.fnlt).trans h.fn, by show (allN _ 6 && _) = true; rw [h.ok, hr]; rfl, h.n1, h.n2, h.ge, h.old⟩⟩
 rw [if_neg (by omega)]
 have hk3 := hk2 (hl.1.trans hr)
 subst hk3
 rw [hv6]
 exact ⟨g, h3, h4⟩
theorem see7 (h : SeeSt w b mb R t s P ad n c vs 7 wr) : Calls Tryz.prog 109 #[.pointer (some ⟨b, 0, none⟩)] wr (SeeN w b mb R t s P ad n c vs 7) := by
 obtain ⟨g, h1, h2⟩ := h.at (by omega)
 have hu := h1.lk.xv.u32
 have hg : ∀ k, 0 ≤ vs.getD k 0 := fun k => (getD_u32 hu k).1
 have hb : binsF vs t P = true := h.rule (j := 5) (by omega)
 have hs : slotsAll vs t P = true := h.rule (j := 4) (by omega)
 have hrk : racksF vs t P = true := h.rule (j := 6) (by omega)
 refine (ploose_any w wr g P _ h1).mono ?_
 rintro e W' ⟨he, hb2⟩
 exact h.next (by decide) (loose_law ((racks_law hg hu hs hb).2 hrk)) he hb2
theorem see8 (h : SeeSt w b mb R t s P ad n c vs 8 wr) : Calls Tryz.prog 110 #[.pointer (some ⟨b, 0, none⟩)] wr (SeeN w b mb R t s P ad n c vs 8) := by
 obtain ⟨g, h1, h2⟩ := h.at (by omega)
 have ht : tilesF vs t P = true := h.rule (j := 1) (by omega)
 have hs : slotsAll vs t P = true := h.rule (j := 4) (by omega)
 refine (pcounts_any w wr _ g P _ h1 h2 (sp_in ht)).mono ?_
 rintro e W' ⟨he, hb⟩
 exact h.next (by decide) (counts_law ht h1.lk.xv.u32 hs) he (hb)
theorem see9 (h : SeeSt w b mb R t s P ad n c vs 9 wr) : Calls Tryz.prog 111 #[.pointer (some ⟨b, 0, none⟩)] wr (SeeN w b mb R t s P ad n c vs 9) := by
 obtain ⟨g, h1, h2⟩ := h.at (by omega)
 have ht : tilesF vs t P = true := h.rule (j := 1) (by omega)
 refine (proots_any w wr _ g P _ h1 h2 (sp_in ht)).mono ?_
 rintro e W' ⟨he, hb⟩
 exact h.next (by decide) (roots_law ht) he (hb)
/-- what see answers of values as many as there must be. -/
def SeeP (w : World) (t s : Int) (P : Nat) (ad : Addr) (n c : Nat) (vs : List Int) (e : Ending) (W' : World) : Prop :=
 ∃ b mb, e = .returned (.tuple #[.pointer (some ⟨b, 0, none⟩), .int .i64 (chkF vs t P s).1]) ∧ Below w.heap.size w W' ∧ ((chkF vs t P s).2 = true → ∃ g ml, LS w b t P s ad n c vs (.slice (some ⟨g, 0, none⟩) P P) mb ml W' ∧ AtR w b mb g P (infoL vs t P) ad W')
def SeeRel (w : World) (b mb R : Nat) (t s : Int) (P : Nat) (ad : Addr) (n c : Nat) (vs : List Int) (v : Value) (wr : World) : Prop := ∃ k : Nat, k ≤ 10 ∧ v = .int .i64 k ∧ SeeSt w b mb R t s P ad n c vs k wr
set_option maxHeartbeats 4000000 in
set_option maxRecDepth 100000 in
theorem psee_any (h : XV w t P s ad n vs) (c : Nat) (hold : ad.block < w.heap.size) : Calls Tryz.prog 54 #[.agg #[.int .i64 t, .int .i64 P, .int .i64 s], .slice (some ad) n c] w (SeeP w t s P ad n c vs) := by
 have h0 : SeeSt w (w.heap.size + 1 + 1) (w.heap.size + 1) (w.heap.size + 1 + 1 + 1) t s P ad n c vs 0 ((((w.alloc (.cells #[.int .i64 t, .int .i64 P, .int .i64 s] 44)).alloc (.map #[] 0)).alloc (.cells #[.int .i64 t, .int .i64 P, .int .i64 s, .slice (some ad) n c, .slice none 0 0, .map (some (w.heap.size + 1))] 157)).alloc (.cells (fnC (w.heap.size + 1 + 1)) 24)) := by
  have S := (((BS.start w).alloc (.cells #[.int .i64 t, .int .i64 P, .int .i64 s] 44)).alloc (.map #[] 0)).alloc (.cells #[.int .i64 t, .int .i64 P, .int .i64 s, .slice (some ad) n c, .slice none 0 0, .map (some (w.heap.size + 1))] 157)
  have S2 := S.alloc (.cells (fnC (w.heap.size + 1 + 1)) 24)
  simp only [World.size_alloc] at S S2
  refine ⟨?_, hb_alloc _ _ _ (by simp), rfl, by omega, by omega, by omega, hold⟩
  simp only [Nat.zero_le, if_true]
  refine ⟨⟨(heap_alloc_old _ _ (by simp)).trans (hb_alloc _ _ _ (by simp)), h.keep S2.bel⟩, S2.sub _ (by simp), by omega, #[], 0, ?_, rfl⟩
  exact (heap_alloc_old _ _ (by simp)).trans ((heap_alloc_old _ _ (by simp)).trans (hb_alloc _ _ _ (by simp)))
 have hmm := @run_makeMap Tryz.prog
 have H0 := Lib.hid h0
 clear h0 h
 go_enter Tryz.func54, Tryz.ntmps54
 go_wp2_with fail
 go_loopw [7, 8, 36] (fun _ _ v36 wr => SeeRel w (w.heap.size + 1 + 1) (w.heap.size + 1) (w.heap.size + 1 + 1 + 1) t s P ad n c vs v36 wr) (fun _ _ v36 _ => 10 - (intOf v36).toNat)
 case atStart => exact ⟨0, by omega, rfl, H0.out⟩
 case round =>
  obtain ⟨k, hk, rfl, hst⟩ := hrel
  clear H0
  have hfn := fun o => cell?_of_heap (o := o) hst.fn
  have HSt := Lib.hid hst
  have HFn := Lib.hid hfn
  clear hst hfn
  rcases (by omega : k = 0 ∨ k = 1 ∨ k = 2 ∨ k = 3 ∨ k = 4 ∨ k = 5 ∨ k = 6 ∨ k = 7 ∨ k = 8 ∨ k = 9 ∨ k = 10) with rfl | rfl | rfl | rfl | rfl | rfl | rfl | rfl | rfl | rfl | rfl
  ·have c := HFn.out 0
   simp only [fnC, List.getElem?_toArray, List.getElem?_cons_zero, List.getElem?_cons_succ] at c
   have HR := Lib.hid (see0 HSt.out)
   go_wp2_with fail
   refine HR.out.mono ?_
   rintro e w2 ⟨he, hbel, hnx⟩
   cases hb : ruleB vs t s P 0
   ·rw [hb] at he
    subst he
    have HCk := Lib.hid (chk_first (by omega) HSt.out.ok hb)
    have HBe := Lib.hid hbel
    clear hnx hb hbel HR HSt HFn c
    go_wp2
    refine bodyPost_ret (v := .tuple #[.pointer (some ⟨w.heap.size + 1 + 1, 0, none⟩), .int .i64 1]) (by simp [results, Tryz.results54, go_sem]) rfl ?_
    exact ⟨_, w.heap.size + 1, by rw [HCk.out]; rfl, HBe.out, fun h => by rw [HCk.out] at h; simp at h⟩
   ·rw [hb] at he
    subst he
    have HNx := Lib.hid (hnx hb)
    clear hnx hb hbel HR HSt HFn c
    go_wp2
    go_roundw
    case rel => exact ⟨1, by omega, by go_num, HNx.out⟩
    case measure => simp [intOf]
  ·have c := HFn.out 1
   simp only [fnC, List.getElem?_toArray, List.getElem?_cons_zero, List.getElem?_cons_succ] at c
   have HR := Lib.hid (see1 HSt.out)
   go_wp2_with fail
   refine HR.out.mono ?_
   rintro e w2 ⟨he, hbel, hnx⟩
   cases hb : ruleB vs t s P 1
   ·rw [hb] at he
    subst he
    have HCk := Lib.hid (chk_first (by omega) HSt.out.ok hb)
    have HBe := Lib.hid hbel
    clear hnx hb hbel HR HSt HFn c
    go_wp2
    refine bodyPost_ret (v := .tuple #[.pointer (some ⟨w.heap.size + 1 + 1, 0, none⟩), .int .i64 2]) (by simp [results, Tryz.results54, go_sem]) rfl ?_
    exact ⟨_, w.heap.size + 1, by rw [HCk.out]; rfl, HBe.out, fun h => by rw [HCk.out] at h; simp at h⟩
   ·rw [hb] at he
    subst he
    have HNx := Lib.hid (hnx hb)
    clear hnx hb hbel HR HSt HFn c
    go_wp2
    go_roundw
    case rel => exact ⟨2, by omega, by go_num, HNx.out⟩
    case measure => simp [intOf]
  ·have c := HFn.out 2
   simp only [fnC, List.getElem?_toArray, List.getElem?_cons_zero, List.getElem?_cons_succ] at c
   have HR := Lib.hid (see2 HSt.out)
   go_wp2_with fail
   refine HR.out.mono ?_
   rintro e w2 ⟨he, hbel, hnx⟩
   cases hb : ruleB vs t s P 2
   ·rw [hb] at he
    subst he
    have HCk := Lib.hid (chk_first (by omega) HSt.out.ok hb)
    have HBe := Lib.hid hbel
    clear hnx hb hbel HR HSt HFn c
    go_wp2
    refine bodyPost_ret (v := .tuple #[.pointer (some ⟨w.heap.size + 1 + 1, 0, none⟩), .int .i64 3]) (by simp [results, Tryz.results54, go_sem]) rfl ?_
    exact ⟨_, w.heap.size + 1, by rw [HCk.out]; rfl, HBe.out, fun h => by rw [HCk.out] at h; simp at h⟩
   ·rw [hb] at he
    subst he
    have HNx := Lib.hid (hnx hb)
    clear hnx hb hbel HR HSt HFn c
    go_wp2
    go_roundw
    case rel => exact ⟨3, by omega, by go_num, HNx.out⟩
    case measure => simp [intOf]
  ·have c := HFn.out 3
   simp only [fnC, List.getElem?_toArray, List.getElem?_cons_zero, List.getElem?_cons_succ] at c
   have HR := Lib.hid (see3 HSt.out)
   go_wp2_with fail
   refine HR.out.mono ?_
   rintro e w2 ⟨he, hbel, hnx⟩
   cases hb : ruleB vs t s P 3
   ·rw [hb] at he
    subst he
    have HCk := Lib.hid (chk_first (by omega) HSt.out.ok hb)
    have HBe := Lib.hid hbel
    clear hnx hb hbel HR HSt HFn c
    go_wp2
    refine bodyPost_ret (v := .tuple #[.pointer (some ⟨w.heap.size + 1 + 1, 0, none⟩), .int .i64 4]) (by simp [results, Tryz.results54, go_sem]) rfl ?_
    exact ⟨_, w.heap.size + 1, by rw [HCk.out]; rfl, HBe.out, fun h => by rw [HCk.out] at h; simp at h⟩
   ·rw [hb] at he
    subst he
    have HNx := Lib.hid (hnx hb)
    clear hnx hb hbel HR HSt HFn c
    go_wp2
    go_roundw
    case rel => exact ⟨4, by omega, by go_num, HNx.out⟩
    case measure => simp [intOf]
  ·have c := HFn.out 4
   simp only [fnC, List.getElem?_toArray, List.getElem?_cons_zero, List.getElem?_cons_succ] at c
   have HR := Lib.hid (see4 HSt.out)
   go_wp2_with fail
   refine HR.out.mono ?_
   rintro e w2 ⟨he, hbel, hnx⟩
   cases hb : ruleB vs t s P 4
   ·rw [hb] at he
    subst he
    have HCk := Lib.hid (chk_first (by omega) HSt.out.ok hb)
    have HBe := Lib.hid hbel
    clear hnx hb hbel HR HSt HFn c
    go_wp2
    refine bodyPost_ret (v := .tuple #[.pointer (some ⟨w.heap.size + 1 + 1, 0, none⟩), .int .i64 5]) (by simp [results, Tryz.results54, go_sem]) rfl ?_
    exact ⟨_, w.heap.size + 1, by rw [HCk.out]; rfl, HBe.out, fun h => by rw [HCk.out] at h; simp at h⟩
   ·rw [hb] at he
    subst he
    have HNx := Lib.hid (hnx hb)
    clear hnx hb hbel HR HSt HFn c
    go_wp2
    go_roundw
    case rel => exact ⟨5, by omega, by go_num, HNx.out⟩
    case measure => simp [intOf]
  ·have c := HFn.out 5
   simp only [fnC, List.getElem?_toArray, List.getElem?_cons_zero, List.getElem?_cons_succ] at c
   have HR := Lib.hid (see5 HSt.out)
   go_wp2_with fail
   refine HR.out.mono ?_
   rintro e w2 ⟨he, hbel, hnx⟩
   cases hb : ruleB vs t s P 5
   ·rw [hb] at he
    subst he
    have HCk := Lib.hid (chk_first (by omega) HSt.out.ok hb)
    have HBe := Lib.hid hbel
    clear hnx hb hbel HR HSt HFn c
    go_wp2
    refine bodyPost_ret (v := .tuple #[.pointer (some ⟨w.heap.size + 1 + 1, 0, none⟩), .int .i64 6]) (by simp [results, Tryz.results54, go_sem]) rfl ?_
    exact ⟨_, w.heap.size + 1, by rw [HCk.out]; rfl, HBe.out, fun h => by rw [HCk.out] at h; simp at h⟩
   ·rw [hb] at he
    subst he
    have HNx := Lib.hid (hnx hb)
    clear hnx hb hbel HR HSt HFn c
    go_wp2
    go_roundw
    case rel => exact ⟨6, by omega, by go_num, HNx.out⟩
    case measure => simp [intOf]
  ·have c := HFn.out 6
   simp only [fnC, List.getElem?_toArray, List.getElem?_cons_zero, List.getElem?_cons_succ] at c
   have HR := Lib.hid (see6 HSt.out)
   go_wp2_with fail
   refine HR.out.mono ?_
   rintro e w2 ⟨he, hbel, hnx⟩
   cases hb : ruleB vs t s P 6
   ·rw [hb] at he
    subst he
    have HCk := Lib.hid (chk_first (by omega) HSt.out.ok hb)
    have HBe := Lib.hid hbel
    clear hnx hb hbel HR HSt HFn c
    go_wp2
    refine bodyPost_ret (v := .tuple #[.pointer (some ⟨w.heap.size + 1 + 1, 0, none⟩), .int .i64 7]) (by simp [results, Tryz.results54, go_sem]) rfl ?_
    exact ⟨_, w.heap.size + 1, by rw [HCk.out]; rfl, HBe.out, fun h => by rw [HCk.out] at h; simp at h⟩
   ·rw [hb] at he
    subst he
    have HNx := Lib.hid (hnx hb)
    clear hnx hb hbel HR HSt HFn c
    go_wp2
    go_roundw
    case rel => exact ⟨7, by omega, by go_num, HNx.out⟩
    case measure => simp [intOf]
  ·have c := HFn.out 7
   simp only [fnC, List.getElem?_toArray, List.getElem?_cons_zero, List.getElem?_cons_succ] at c
   have HR := Lib.hid (see7 HSt.out)
   go_wp2_with fail
   refine HR.out.mono ?_
   rintro e w2 ⟨he, hbel, hnx⟩
   cases hb : ruleB vs t s P 7
   ·rw [hb] at he
    subst he
    have HCk := Lib.hid (chk_first (by omega) HSt.out.ok hb)
    have HBe := Lib.hid hbel
    clear hnx hb hbel HR HSt HFn c
    go_wp2
    refine bodyPost_ret (v := .tuple #[.pointer (some ⟨w.heap.size + 1 + 1, 0, none⟩), .int .i64 8]) (by simp [results, Tryz.results54, go_sem]) rfl ?_
    exact ⟨_, w.heap.size + 1, by rw [HCk.out]; rfl, HBe.out, fun h => by rw [HCk.out] at h; simp at h⟩
   ·rw [hb] at he
    subst he
    have HNx := Lib.hid (hnx hb)
    clear hnx hb hbel HR HSt HFn c
    go_wp2
    go_roundw
    case rel => exact ⟨8, by omega, by go_num, HNx.out⟩
    case measure => simp [intOf]
  ·have c := HFn.out 8
   simp only [fnC, List.getElem?_toArray, List.getElem?_cons_zero, List.getElem?_cons_succ] at c
   have HR := Lib.hid (see8 HSt.out)
   go_wp2_with fail
   refine HR.out.mono ?_
   rintro e w2 ⟨he, hbel, hnx⟩
   cases hb : ruleB vs t s P 8
   ·rw [hb] at he
    subst he
    have HCk := Lib.hid (chk_first (by omega) HSt.out.ok hb)
    have HBe := Lib.hid hbel
    clear hnx hb hbel HR HSt HFn c
    go_wp2
    refine bodyPost_ret (v := .tuple #[.pointer (some ⟨w.heap.size + 1 + 1, 0, none⟩), .int .i64 9]) (by simp [results, Tryz.results54, go_sem]) rfl ?_
    exact ⟨_, w.heap.size + 1, by rw [HCk.out]; rfl, HBe.out, fun h => by rw [HCk.out] at h; simp at h⟩
   ·rw [hb] at he
    subst he
    have HNx := Lib.hid (hnx hb)
    clear hnx hb hbel HR HSt HFn c
    go_wp2
    go_roundw
    case rel => exact ⟨9, by omega, by go_num, HNx.out⟩
    case measure => simp [intOf]
  ·have c := HFn.out 9
   simp only [fnC, List.getElem?_toArray, List.getElem?_cons_zero, List.getElem?_cons_succ] at c
   have HR := Lib.hid (see9 HSt.out)
   go_wp2_with fail
   refine HR.out.mono ?_
   rintro e w2 ⟨he, hbel, hnx⟩
   cases hb : ruleB vs t s P 9
   ·rw [hb] at he
    subst he
    have HCk := Lib.hid (chk_first (by omega) HSt.out.ok hb)
    have HBe := Lib.hid hbel
    clear hnx hb hbel HR HSt HFn c
    go_wp2
    refine bodyPost_ret (v := .tuple #[.pointer (some ⟨w.heap.size + 1 + 1, 0, none⟩), .int .i64 10]) (by simp [results, Tryz.results54, go_sem]) rfl ?_
    exact ⟨_, w.heap.size + 1, by rw [HCk.out]; rfl, HBe.out, fun h => by rw [HCk.out] at h; simp at h⟩
   ·rw [hb] at he
    subst he
    have HNx := Lib.hid (hnx hb)
    clear hnx hb hbel HR HSt HFn c
    go_wp2
    go_roundw
    case rel => exact ⟨10, by omega, by go_num, HNx.out⟩
    case measure => simp [intOf]
  ·have HCk := Lib.hid (chk_all HSt.out.ok)
   have HBe := Lib.hid HSt.out.bel
   have HAt := Lib.hid (HSt.out.at (by omega))
   clear HSt HFn
   go_wp2
   refine bodyPost_ret (v := .tuple #[.pointer (some ⟨w.heap.size + 1 + 1, 0, none⟩), .int .i64 0]) (by simp [results, Tryz.results54, go_sem]) rfl ?_
   refine ⟨_, w.heap.size + 1, by rw [HCk.out], HBe.out, fun _ => ?_⟩
   obtain ⟨g, a1, a2⟩ := HAt.out
   exact ⟨g, _, a1, a2⟩
end
end Go.Proofs.YtcbikgafdclhaaaGreat
/- the program's audit: Check, Parts, Live. -/
set_option linter.unusedSimpArgs false
set_option linter.unusedVariables false
namespace Go.Proofs.YtcbikgafdclhaaaGreat
open Go.RowKit
theorem chk_eq (vs : List Int) (t p s : Int) : ((chkF vs t p s).1 == 0) = (chkF vs t p s).2 ∧ 0 ≤ (chkF vs t p s).1 ∧ ((chkF vs t p s).2 = false → 0 < (chkF vs t p s).1) ∧ ((chkF vs t p s).2 = true → (chkF vs t p s).1 = 0) := by
 unfold chkF
 repeat' split
 all_goals simp
section
variable {w : World} {t p s : Int}
end
section
variable {w : World} {t s : Int} {P : Nat} {ad : Addr} {n : Nat} {vs : List Int}
theorem XV.old (h : XV w t P s ad n vs) : ad.block < w.heap.size := by
 have hn := h.bd
 have := World.block_lt_of_cell? _ _ (h.cells 0 (by omega))
 rwa [add_block] at this
theorem pcheck_any (h : XV w t P s ad n vs) (c : Nat) : Calls Tryz.prog 83 #[.agg #[.int .i64 t, .int .i64 P, .int .i64 s], .slice (some ad) n c] w fun e W' => e = .returned (.tuple #[.int .i64 (chkF vs t P s).1, .bool (chkF vs t P s).2]) ∧ Below w.heap.size w W' := by
 have hb := (Below.refl w.heap.size w).alloc (Nat.le_refl _) (.cells #[.int .i64 t, .int .i64 P, .int .i64 s] 44)
 have H := Lib.hid (psee_any (h.keep hb) c (h.keep hb).old)
 have HE := Lib.hid (chk_eq vs t P s).1
 unfold SeeP at H
 clear h
 generalize chkF vs t P s = r at *
 go_enter Tryz.func83, Tryz.ntmps83
 go_wp2_with fail
 refine H.out.mono ?_
 rintro e w1 ⟨b, mb, rfl, r1, -⟩
 go_wp2
 refine bodyPost_ret (v := .tuple #[.int .i64 r.1, .bool (r.1 == 0)]) (by simp [results, Tryz.results83, go_sem]) rfl ⟨by rw [HE.out], ?_⟩
 exact hb.trans (r1.mono hb.size)
theorem chk_tiles (hs : (chkF vs t P s).2 = true) : tilesF vs t P = true := by
 unfold chkF at hs
 split at hs
 ·simp at hs
 ·rename_i h
  simpa using h
end
end Go.Proofs.YtcbikgafdclhaaaGreat
/- the document's audit: Sound, Live, Parts, State of values that are a heap. -/
set_option linter.unusedSimpArgs false
set_option linter.unusedVariables false
namespace Go.Proofs.YtcbikgafdclhaaaGreat
open Go.RowKit
section
variable {t p s : Int} {ad : Addr} {n c : Nat} {vs : List Int}

theorem rsound_any (c : Nat) (w : World) (h : XV w t p s ad n vs) :
 Calls Tryz.prog 60 #[.agg #[.int .i64 t, .int .i64 p, .int .i64 s], .slice (some ad) n c] w fun e w' => e = .returned (.bool (chkF vs t p s).2) ∧ Below w.heap.size w w' := by
 have H := Lib.hid (fun w (h : XV w t p s ad n vs) => rcheck_any c w h)
 have h2 := h.keep ((Below.refl _ _).alloc (Nat.le_refl _) (.cells #[.int .i64 t, .int .i64 p, .int .i64 s] 44))
 have HV := Lib.hid h
 have HV2 := Lib.hid h2
 generalize chkF vs t p s = r at *
 clear h h2
 go_enter Tryz.func60, Tryz.ntmps60
 go_wp2_with fail
 refine (H.out _ (by first | exact HV.out | exact HV2.out)).mono ?_
 rintro e w1 ⟨rfl, hb⟩
 go_wp2
 go_ret
 refine ⟨rfl, ?_⟩
 (repeat (first | exact Below.refl _ _ | assumption | refine Below.setCell ?_ (by first | omega | (simp; done) | (simp; omega)) _ | refine Below.alloc ?_ (by first | omega | (simp; done) | (simp; omega)) _ | refine Below.drew ?_ | refine Below.trans ?_ (Below.mono ‹Below _ _ _› (by first | omega | (simp; done) | (simp; omega)))))

theorem rlive_any (c : Nat) (w : World) (h : XV w t p s ad n vs) (hs : (chkF vs t p s).2 = true) :
 Calls Tryz.prog 61 #[.agg #[.int .i64 t, .int .i64 p, .int .i64 s], .slice (some ad) n c] w fun e w' => ∃ v, e = .returned v ∧ RowB w (blocksF vs t p s) v w' := by
 have H := Lib.hid (fun w (h : XV w t p s ad n vs) => rsound_any c w h)
 rw [hs] at H
 have HB := Lib.hid (fun w (h : XV w t p s ad n vs) => blocks_any c w h)
 have h2 := h.keep ((Below.refl _ _).alloc (Nat.le_refl _) (.cells #[.int .i64 t, .int .i64 p, .int .i64 s] 44))
 have HV2 := Lib.hid h2
 generalize blocksF vs t p s = l at *
 have c0 := loc_alloc w #[.int .i64 t, .int .i64 p, .int .i64 s] 44
 have S0 := ((BS.start w).alloc (.cells #[.int .i64 t, .int .i64 p, .int .i64 s] 44))
 have HV := Lib.hid h
 clear h hs h2
 go_enter Tryz.func61, Tryz.ntmps61
 go_wp2_with fail
 refine (calls_b S0 (H.out _ HV2.out)).mono ?_
 rintro e w1 ⟨rfl, S1, S1l⟩
 have c1 := loc_step S1l (by simp) c0
 clear S1l
 have HVa := Lib.hid ((HV.out.keep S1.bel).keep ((Below.refl _ _).alloc (Nat.le_refl _) (.cells #[.int .i64 t, .int .i64 p, .int .i64 s, .slice (some ad) n c] 169)))
 have S2 := S1.alloc (.cells #[.int .i64 t, .int .i64 p, .int .i64 s, .slice (some ad) n c] 169)
 go_wp2_with fail
 refine (HB.out _ HVa.out).mono ?_
 rintro e w2 ⟨v, rfl, hr, hf, hb⟩
 go_wp2
 go_ret
 exact ⟨v, rfl, hr, fun k hk => Nat.le_trans S2.bel.size (hf k hk), S2.bel.trans (hb.mono S2.bel.size)⟩

def rootV (vs : List Int) (k i : Nat) : Value := .int .i64 (if i < k then vs.getD (22 + i) 0 else 0)
def stateC (lv : Value) (vs : List Int) (k : Nat) : Array Value := #[lv, rootV vs k 0, rootV vs k 1, rootV vs k 2, rootV vs k 3, rootV vs k 4, rootV vs k 5, rootV vs k 6, rootV vs k 7]
structure StateR (w : World) (l : List (Int × Int)) (v : Value) (vs : List Int) (g : Nat) (wr : World) (k : Nat) : Prop where
 le : k ≤ 8
 box : BA w [w.heap.size + 1, w.heap.size] g (stateC v vs k) 38 wr
 res : wr.heap[w.heap.size + 1]? = some (.cells #[.slice none 0 0, .int .i64 0, .int .i64 0, .int .i64 0, .int .i64 0, .int .i64 0, .int .i64 0, .int .i64 0, .int .i64 0] 38)
 row : wr.ownsRow 0 80 2 v l.length (blockCells l)
 far : ∀ k, v.ownBlock = some k → w.heap.size + 2 ≤ k ∧ k < g
theorem StateR.below {w wr w' : World} {l : List (Int × Int)} {v : Value} {g k : Nat} (h : StateR w l v vs g wr k) (hb : Below wr.heap.size wr w') : StateR w l v vs g w' k := by
 obtain ⟨h1, h2, h3, h4, h5⟩ := h
 refine ⟨h1, ⟨h2.bs.below hb, (hb.block g (h2.bs.ls g (by simp)).1).trans h2.box, h2.ne⟩, (hb.block _ (h2.bs.ls (w.heap.size + 1) (by simp)).1).trans h3, ((BS.start _).below hb).row h4, h5⟩
theorem stateC_step (v : Value) (vs : List Int) (k : Nat) (hk : k < 8) : (stateC v vs k).setIfInBounds (1 + k) (.int .i64 (vs.getD (22 + k) 0)) = stateC v vs (k + 1) := by
 rcases (by omega : k = 0 ∨ k = 1 ∨ k = 2 ∨ k = 3 ∨ k = 4 ∨ k = 5 ∨ k = 6 ∨ k = 7) with rfl | rfl | rfl | rfl | rfl | rfl | rfl | rfl <;> simp [stateC, rootV]
theorem StateR.step {w wr : World} {l : List (Int × Int)} {v : Value} {g k : Nat} (h : StateR w l v vs g wr k) (hk : k < 8) : StateR w l v vs g (wr.setCell ⟨g, 1 + k, none⟩ (.int .i64 (vs.getD (22 + k) 0))) (k + 1) := by
 obtain ⟨h1, h2, h3, h4, h5⟩ := h
 refine ⟨by omega, ?_, h2.hloc (by simp) _ _ h3, ownsRow_block h4 (fun b hb => heap_setCell_other (by have := h5 b hb; omega)), h5⟩
 have := h2.set (1 + k) (.int .i64 (vs.getD (22 + k) 0))
 rwa [stateC_step v vs k hk] at this
theorem stateC_at (v : Value) (vs : List Int) (k : Nat) (hk : k < 8) : ∃ z, (stateC v vs k)[1 + k]? = some z := by
 rcases (by omega : k = 0 ∨ k = 1 ∨ k = 2 ∨ k = 3 ∨ k = 4 ∨ k = 5 ∨ k = 6 ∨ k = 7) with rfl | rfl | rfl | rfl | rfl | rfl | rfl | rfl <;> exact ⟨_, rfl⟩
def StateRel (w : World) (l : List (Int × Int)) (v : Value) (vs : List Int) (g : Nat) (i : Value) (wr : World) : Prop := ∃ k : Nat, i = .int .i64 k ∧ StateR w l v vs g wr k
theorem rstate_any (c : Nat) (w : World) (h : XV w t p s ad n vs) (hs : (chkF vs t p s).2 = true) :
 Calls Tryz.prog 32 #[.agg #[.int .i64 t, .int .i64 p, .int .i64 s], .slice (some ad) n c] w fun e w' => ∃ v, e = .returned (.tuple #[.agg (stateC v vs 8), .bool true]) ∧ RowB w (blocksF vs t p s) v w' := by
 have H := Lib.hid (fun w (h : XV w t p s ad n vs) => rsound_any c w h)
 rw [hs] at H
 have HB := Lib.hid (fun w (h : XV w t p s ad n vs) => rlive_any c w h hs)
 have HRo := Lib.hid (fun (k : Nat) w (h : k < 8) => rroot_any k w h)
 generalize blocksF vs t p s = l at *
 have c0 := loc_old (.cells (stateC (.slice none 0 0) vs 0) 38) (by simp) (loc_alloc w #[.int .i64 t, .int .i64 p, .int .i64 s] 44)
 have S0 := ((BS.start w).alloc (.cells #[.int .i64 t, .int .i64 p, .int .i64 s] 44)).alloc (.cells (stateC (.slice none 0 0) vs 0) 38)
 have HV2 := Lib.hid (h.keep S0.bel)
 have HV := Lib.hid h
 clear h hs
 have hz : stateC (.slice none 0 0) vs 0 = #[.slice none 0 0, .int .i64 0, .int .i64 0, .int .i64 0, .int .i64 0, .int .i64 0, .int .i64 0, .int .i64 0, .int .i64 0] := by simp [stateC, rootV]
 rw [hz] at c0 S0 HV2
 simp only [World.size_alloc] at S0
 go_enter Tryz.func32, Tryz.ntmps32
 go_wp2_with fail
 refine (calls_b S0 (H.out _ HV2.out)).mono ?_
 rintro e w1 ⟨rfl, S1, S1k⟩
 have c1 := loc_step S1k (by simp) c0
 have HVa := Lib.hid (HV.out.keep S1.bel)
 have r1 : w1.heap[w.heap.size + 1]? = some (.cells #[.slice none 0 0, .int .i64 0, .int .i64 0, .int .i64 0, .int .i64 0, .int .i64 0, .int .i64 0, .int .i64 0, .int .i64 0] 38) := by
  rw [S1k (w.heap.size + 1) (by simp), ← hz]
  exact hb_alloc _ _ _ (by simp)
 clear S0 c0 HV2 S1k
 go_wp2_with fail
 refine (HB.out _ HVa.out).mono ?_
 rintro e w2 ⟨v, rfl, hr, hf, hb⟩
 obtain ⟨va, vc, rfl⟩ := row_shape hr
 have S2 := S1.below hb
 have r2 := (hb.block (w.heap.size + 1) (S1.ls (w.heap.size + 1) (by simp)).1).trans r1
 have A2 := S2.allocd (stateC (.slice va l.length vc) vs 0) 38
 have HR : StateR w l (.slice va l.length vc) vs w2.heap.size (w2.alloc (.cells (stateC (.slice va l.length vc) vs 0) 38)) 0 := by
  refine ⟨by omega, A2, (heap_alloc_old _ _ (S2.ls (w.heap.size + 1) (by simp)).1).trans r2, hr.alloc _, fun k hk => ⟨?_, ownsRow_lt hr hk⟩⟩
  have := hf k hk
  have := (S1.ls (w.heap.size + 1) (by simp)).1
  omega
 have hz2 : stateC (.slice va l.length vc) vs 0 = #[.slice va l.length vc, .int .i64 0, .int .i64 0, .int .i64 0, .int .i64 0, .int .i64 0, .int .i64 0, .int .i64 0, .int .i64 0] := by simp [stateC, rootV]
 have HVb := Lib.hid (HVa.out.keep hb)
 have hbw2 := S2.bel.size
 have HRs : StateRel w l (.slice va l.length vc) vs w2.heap.size (.int .i64 0) (w2.alloc (.cells (stateC (.slice va l.length vc) vs 0) 38)) := ⟨0, rfl, HR⟩
 rw [hz2] at HRs
 have hg1 : w.heap.size + 1 < w2.heap.size := (S2.ls (w.heap.size + 1) (by simp)).1
 clear r1 r2 A2 hr hf hb S1 S2 HR
 go_wp2
 go_loopw [7] (fun i wr => StateRel w l (.slice va l.length vc) vs w2.heap.size i wr) (fun i _ => 8 - (intOf i).toNat)
 case atStart => exact HRs
 case round =>
  clear HRs
  obtain ⟨k, rfl, hR⟩ := hrel
  have HX := Lib.hid hR
  have hle := hR.le
  clear hR
  by_cases hlt : k < 8
  ·go_wp2_with fail
   refine (HRo.out k _ hlt).mono ?_
   rintro e w3 ⟨rfl, b3⟩
   have hR3 := HX.out.below b3
   obtain ⟨z, hz3⟩ := stateC_at (.slice va l.length vc) vs k hlt
   have q3 : w3.cell? ⟨w2.heap.size, 1 + k, none⟩ = some z := (cell?_of_heap hR3.box.box).trans hz3
   have f3 : w3.frozen? ⟨w2.heap.size, 1 + k, none⟩ = false := frozen?_of_heap hR3.box.box
   have hx3 := HV.out.keep hR3.box.bs.bel
   have hnum := hx3.num
   have hbd := hx3.bd
   have c3 := hx3.cells (22 + k) (by omega)
   have hlt2 : ((22 + k : Nat) : Int) < n := by omega
   have hub := getD_u32 hx3.u32 (22 + k)
   unfold VS.U32 at hub
   have hw : IntKind.i64.wrap (vs.getD (22 + k) 0) = vs.getD (22 + k) 0 := wrap_in _ (by omega)
   have HS3 := Lib.hid (hR3.step hlt)
   clear hR3 hz3 hx3 hnum hbd b3
   generalize vs.getD (22 + k) 0 = x at *
   generalize 22 + k = m at *
   go_wp2
   go_roundw
   case rel => exact ⟨k + 1, by go_num, HS3.out⟩
   case measure => simp [intOf]; omega
  ·have h8 : k = 8 := by omega
   have hB := HX.out.box
   have h0 := HX.out.res
   rw [h8] at hB
   have hS8 : stateC (.slice va l.length vc) vs 8 = #[.slice va l.length vc, rootV vs 8 0, rootV vs 8 1, rootV vs 8 2, rootV vs 8 3, rootV vs 8 4, rootV vs 8 5, rootV vs 8 6, rootV vs 8 7] := rfl
   have hrow := HX.out.row
   have hfar := HX.out.far
   have hne : w.heap.size + 1 ≠ w2.heap.size := by omega
   have HS8 := Lib.hid hS8
   rw [hS8] at hB
   have hroot : ∀ i, ∃ y, rootV vs 8 i = .int .i64 y := fun i => ⟨_, rfl⟩
   obtain ⟨y0, e0⟩ := hroot 0
   obtain ⟨y1, e1⟩ := hroot 1
   obtain ⟨y2, e2⟩ := hroot 2
   obtain ⟨y3, e3⟩ := hroot 3
   obtain ⟨y4, e4⟩ := hroot 4
   obtain ⟨y5, e5⟩ := hroot 5
   obtain ⟨y6, e6⟩ := hroot 6
   obtain ⟨y7, e7⟩ := hroot 7
   rw [e0, e1, e2, e3, e4, e5, e6, e7] at hB
   rw [e0, e1, e2, e3, e4, e5, e6, e7] at HS8
   have a0 := cell?_of_heap (o := 0) hB.box
   have a1 := cell?_of_heap (o := 1) hB.box
   have a2 := cell?_of_heap (o := 2) hB.box
   have a3 := cell?_of_heap (o := 3) hB.box
   have a4 := cell?_of_heap (o := 4) hB.box
   have a5 := cell?_of_heap (o := 5) hB.box
   have a6 := cell?_of_heap (o := 6) hB.box
   have a7 := cell?_of_heap (o := 7) hB.box
   have a8 := cell?_of_heap (o := 8) hB.box
   have d0 := cell?_of_heap (o := 0) h0
   have d1 := cell?_of_heap (o := 1) h0
   have d2 := cell?_of_heap (o := 2) h0
   have d3 := cell?_of_heap (o := 3) h0
   have d4 := cell?_of_heap (o := 4) h0
   have d5 := cell?_of_heap (o := 5) h0
   have d6 := cell?_of_heap (o := 6) h0
   have d7 := cell?_of_heap (o := 7) h0
   have d8 := cell?_of_heap (o := 8) h0
   have j0 := frozen?_of_heap (o := 0) h0
   have j1 := frozen?_of_heap (o := 1) h0
   have j2 := frozen?_of_heap (o := 2) h0
   have j3 := frozen?_of_heap (o := 3) h0
   have j4 := frozen?_of_heap (o := 4) h0
   have j5 := frozen?_of_heap (o := 5) h0
   have j6 := frozen?_of_heap (o := 6) h0
   have j7 := frozen?_of_heap (o := 7) h0
   have j8 := frozen?_of_heap (o := 8) h0
   simp at a0 a1 a2 a3 a4 a5 a6 a7 a8 d0 d1 d2 d3 d4 d5 d6 d7 d8
   have HBs := Lib.hid hB.bs
   have HRow := Lib.hid hrow
   have HFar := Lib.hid hfar
   clear hB h0 hrow hfar hS8 hroot e0 e1 e2 e3 e4 e5 e6 e7
   go_wp2
   refine bodyPost_ret (v := .tuple #[.agg #[.slice va l.length vc, .int .i64 y0, .int .i64 y1, .int .i64 y2, .int .i64 y3, .int .i64 y4, .int .i64 y5, .int .i64 y6, .int .i64 y7], .bool true]) (by simp [results, Tryz.results32, go_sem, *]) rfl ⟨_, by rw [HS8.out], ownsRow_block HRow.out (fun b hb => ?_), fun b hb => by have := HFar.out b hb; omega, ?_⟩
   ·have hnb : b ≠ w.heap.size + 1 := by have := HFar.out b hb; omega
    repeat rw [heap_setCell_other hnb]
   ·have hm : w.heap.size + 1 ∈ [w2.heap.size, w.heap.size + 1, w.heap.size] := by simp
    exact (((((((((HBs.out.setCell hm 0 _).setCell hm 1 _).setCell hm 2 _).setCell hm 3 _).setCell hm 4 _).setCell hm 5 _).setCell hm 6 _).setCell hm 7 _).setCell hm 8 _).bel
end
end Go.Proofs.YtcbikgafdclhaaaGreat
/- the laws of the audit: the page's example; Few; the same parts; values among the arguments. -/
set_option linter.unusedSimpArgs false
set_option linter.unusedVariables false
namespace Go.Proofs.YtcbikgafdclhaaaGreat
open Go.ChangeShapes Go.RowKit

theorem few12_any (t p s : Int) (w : World) :
 Calls Tryz.prog 26 #[.agg #[.int .i64 t, .int .i64 p, .int .i64 s]] w fun e w' => e = .returned (.bool (decide (p ≤ 64))) ∧ Below w.heap.size w w' := by
 go_enter Tryz.func26, Tryz.ntmps26
 go_wp2
 go_ret
 refine ⟨rfl, ?_⟩
 (repeat (first | exact Below.refl _ _ | assumption | refine Below.setCell ?_ (by first | omega | (simp; done) | (simp; omega)) _ | refine Below.alloc ?_ (by first | omega | (simp; done) | (simp; omega)) _ | refine Below.drew ?_ | refine Below.trans ?_ (Below.mono ‹Below _ _ _› (by first | omega | (simp; done) | (simp; omega)))))
section
variable {H : Type} {enc : TypeId × Value → H} {w : World} {base : Nat} {spare : Nat → Bool} {held : Bool}
end
theorem Rd.keepB {w w' : World} {v : Value} {sz n : Nat} {xs : List Value} (h : Rd w v sz n xs) (hb : Below w.heap.size w w') : Rd w' v sz n xs :=
 ⟨h.1, h.2.imp id fun ⟨ad, c, e, hc⟩ => ⟨ad, c, e, fun j u hj => (hb.cell (World.block_lt_of_cell? _ _ (hc j u hj))).trans (hc j u hj)⟩⟩
/-- values that are as many as there must be. -/
theorem Rd.xv {w : World} {v : Value} {vals : List Int} {t p s : Int} (h : Rd w v 1 vals.length (uints vals)) (hu : ∀ u ∈ vals, VS.U32 u) (hr : rightB t p s = true) (hp : p ≤ 1024) (hn : (vals.length : Int) = cellsN t p) :
 ∃ ad c, v = .slice (some ad) vals.length c ∧ XV w t p s ad vals.length vals := by
 have bd := right_bd hr
 rcases h.2 with ⟨-, h0⟩ | ⟨ad, c, rfl, hc⟩
 ·unfold cellsN at hn; omega
 ·refine ⟨ad, c, rfl, hr, hp, rfl, by rw [hn]; rfl, hu, fun k hk => hc k _ ?_⟩
  simp [uints, hk]

end Go.Proofs.YtcbikgafdclhaaaGreat
/- world: which words are a heap's memory: the program's. -/
set_option linter.unusedSimpArgs false
set_option linter.unusedVariables false
namespace Go.Proofs.YtcbikgafdclhaaaGreat
open Go.RowKit

def EqsRel (w : World) (N : Nat) (v : Value) (wr : World) : Prop := ∃ k : Nat, k ≤ N ∧ v = .int .i64 k ∧ Below w.heap.size w wr
theorem pequal64_same (l : List Int) (va vb : Value) (w : World) (ha : w.ownsRow 0 61 1 va l.length (ulongs l)) (hb : w.ownsRow 0 61 1 vb l.length (ulongs l)) (hn : l.length ≤ 100000) :
 Calls Tryz.prog 81 #[va, vb] w fun e w' => e = .returned (.bool true) ∧ Below w.heap.size w w' := by
 have HA := Lib.hid (show ∀ k, k < l.length → ∃ g c, va = .slice (some ⟨g, 0, none⟩) l.length c ∧ ∀ W, Below w.heap.size w W → W.cell? ⟨g, k, none⟩ = some (.int .u64 (l.getD k 0)) from fun k hk => by
  obtain ⟨g, c, rfl⟩ := Joins.ownsRow_form ha (by omega)
  refine ⟨g, c, rfl, fun W hb => ?_⟩
  exact ((((BS.start _).below hb).row ha).cellAt k (by omega)).trans (by simp [ulongs, hk]))
 have HB := Lib.hid (show ∀ k, k < l.length → ∃ g c, vb = .slice (some ⟨g, 0, none⟩) l.length c ∧ ∀ W, Below w.heap.size w W → W.cell? ⟨g, k, none⟩ = some (.int .u64 (l.getD k 0)) from fun k hk => by
  obtain ⟨g, c, rfl⟩ := Joins.ownsRow_form hb (by omega)
  refine ⟨g, c, rfl, fun W hw => ?_⟩
  exact ((((BS.start _).below hw).row hb).cellAt k (by omega)).trans (by simp [ulongs, hk]))
 obtain ⟨pa, ca, rfl⟩ := row_shape ha
 obtain ⟨pb, cb, rfl⟩ := row_shape hb
 clear ha hb
 have hll : ((l.length : Int) != l.length) = false := by simp
 go_enter Tryz.func81, Tryz.ntmps81
 go_wp2
 go_loopw [5, 13] (fun _ v wr => EqsRel w l.length v wr) (fun _ v _ => l.length - (intOf v).toNat)
 case atStart => exact ⟨0, by omega, rfl, Below.refl _ _⟩
 case round =>
  obtain ⟨k, hk, rfl, hb⟩ := hrel
  by_cases hlt : k < l.length
  ·have hkl : (k : Int) < l.length := by omega
   obtain ⟨g, c, hv, q⟩ := HA.out k hlt
   obtain ⟨g2, c2, hv2, q2⟩ := HB.out k hlt
   simp only [Value.slice.injEq] at hv hv2
   obtain ⟨rfl, -, rfl⟩ := hv
   obtain ⟨rfl, -, rfl⟩ := hv2
   have c0 := q _ hb
   have c1 := q2 _ hb
   have HBw := Lib.hid hb
   clear q q2 hb HA HB
   generalize l.getD k 0 = y at *
   have hyy : (y != y) = false := by simp
   go_wp2_with fail
   refine wp_region_noPanic ?_
   refine wp_region_held_drew (S := fun w' => w'.cell? ⟨g, k, none⟩ = some (.int .u64 y) ∧ w'.cell? ⟨g2, k, none⟩ = some (.int .u64 y)) (by kernel_rfl) ?_ (fun hHeld => ?_)
   ·exact ⟨c0, c1⟩
   refine wT 0 ?_
   refine wT 1 ?_
   refine wT 2 ?_
   refine wT 3 ?_
   refine wT 4 ?_
   refine wT 5 ?_
   refine wT 6 ?_
   refine wT 7 ?_
   refine wT 8 ?_
   refine wpAnyH_done (by kernel_rfl) (NoPanic.normal ?_) _
   go_wp2
   go_roundw
   case rel => exact ⟨k + 1, by omega, by go_num, HBw.out.drew⟩
   case measure => simp [intOf]; omega
  ·go_wp2
   go_ret
   exact ⟨rfl, hb⟩
end Go.Proofs.YtcbikgafdclhaaaGreat
/- world: which words are a heap's memory: the program's. -/
set_option linter.unusedSimpArgs false
set_option linter.unusedVariables false
namespace Go.Proofs.YtcbikgafdclhaaaGreat
open Go.RowKit

def memB (t p s : Int) (ws : List Int) : Bool := decide ((ws.length : Int) = wordsN t p) && match tipW (ws.getD 8 0) with
 | some (st, _) => decide (1 ≤ st) && (decide (st ≤ 2147483647) && match settleF t p s ws with
  | some vs => (chkF vs t p s).2
  | none => false)
 | none => false
theorem settle_vals {t p s : Int} {ws vs : List Int} (h : settleF t p s ws = some vs) : rightB t p s = true ∧ (vs.length : Int) = cellsN t p ∧ ∀ v ∈ vs, VS.U32 v := by
 unfold settleF at h
 split at h
 ·rename_i hr
  unfold rightW at hr
  simp only [Bool.and_eq_true] at hr
  obtain ⟨x, -, rfl⟩ := Option.map_eq_some_iff.1 h
  refine ⟨hr.1, ?_, fun v hv => ?_⟩
  ·rw [valsW_len]
   have := makers_bd hr.1
   omega
  ·exact valsW_u32 _ _ v hv
 ·cases h
section
variable {w : World} {g n c : Nat} {ws : List Int} {t p s : Int}
set_option maxHeartbeats 2000000 in
set_option maxRecDepth 100000 in
theorem pmemory_any (hr : rightB t p s = true) (hh : headX t p s = ws.take 8) (R : w.ownsRow 0 61 1 (.slice (some ⟨g, 0, none⟩) n c) n (ulongs ws)) (hu : ∀ v ∈ ws, U64 v) (h8 : 8 ≤ n) :
 Calls Tryz.prog 47 #[.agg #[.int .i64 t, .int .i64 p, .int .i64 s], .slice (some ⟨g, 0, none⟩) n c] w fun e w' => e = .returned (.bool (memB t p s ws)) ∧ Below w.heap.size w w' := by
 obtain ⟨hz, hcn⟩ := row_wz R hu
 have hlen := hz.len
 have HC := Lib.hid (fun w => check_right t p s w hr)
 have HW := Lib.hid (fun w => words_any t p s w)
 rw [show wordsF t p s = wordsN t p by simp [wordsF, hr]] at HW
 have hNb := makers_bd hr
 have hrb := right_bd hr
 have hpos : 0 ≤ wordsN t p ∧ wordsN t p ≤ 100000 := by omega
 have hn8 : (8 : Int) ≤ n := by omega
 have c0 := loc_alloc w #[.int .i64 t, .int .i64 p, .int .i64 s] 44
 have S0 := ((BS.start w).alloc (.cells #[.int .i64 t, .int .i64 p, .int .i64 s] 44))
 by_cases hn : (n : Int) = wordsN t p
 ·have HX := Lib.hid (hz.wx hr hn)
  have HE := Lib.hid (fun w => encodeX hr w)
  have HT := Lib.hid (show ∀ W, Below w.heap.size w W → W.ownsRow 0 61 1 (.slice (some ⟨g, 0, none⟩) 8 c) (headX t p s).length (ulongs (headX t p s)) from fun W hb => by
   have h1 := row_take (((BS.start _).below hb).row R) (m := 8) h8
   rw [ulongs_take, ← hh] at h1
   exact h1)
  have hsl := fun W => slice8_64 W ⟨g, 0, none⟩ n c (by omega)
  have hxl := headX_len t p s
  have HQ := Lib.hid (fun va vb (W : World) (ha : W.ownsRow 0 61 1 va (headX t p s).length (ulongs (headX t p s))) (hb : W.ownsRow 0 61 1 vb (headX t p s).length (ulongs (headX t p s))) => pequal64_same (headX t p s) va vb W ha hb (by rw [hxl]; omega))
  have hn16 : (8 : Int) < n := by omega
  have H8 := Lib.hid (show ∀ W, Below w.heap.size w W → W.cell? ⟨g, 8, none⟩ = some (.int .u64 (ws.getD 8 0)) from fun W hb => by
   have := (hz.keep hb).cells 8 (by omega)
   rwa [show (⟨g, 0, none⟩ : Addr).add 8 = ⟨g, 8, none⟩ by simp [Addr.add]] at this)
  have hu8 := getD_u64 hu 8
  have HS := Lib.hid (fun W (hb : Below w.heap.size w W) => psettle_any (HX.out.keep hb) c hcn)
  have hmem : memB t p s ws = match tipW (ws.getD 8 0) with
   | some (st, _) => decide (1 ≤ st) && (decide (st ≤ 2147483647) && match settleF t p s ws with
    | some vs => (chkF vs t p s).2
    | none => false)
   | none => false := by
   unfold memB
   rw [hlen, show decide ((n : Int) = wordsN t p) = true by simpa using hn, Bool.true_and]
  rw [hmem]
  have hsv := fun vs (h : settleF t p s ws = some vs) => settle_vals h
  have hnb : ((n : Int) != wordsN t p) = false := by simp [hn]
  generalize settleF t p s ws = sr at *
  generalize headX t p s = hd at *
  generalize ws.getD 8 0 = x8 at *
  obtain ⟨r, hres⟩ : ∃ r, (match tipW x8 with
   | some (st, _) => decide (1 ≤ st) && (decide (st ≤ 2147483647) && match sr with
    | some vs => (chkF vs t p s).2
    | none => false)
   | none => false) = r := ⟨_, rfl⟩
  rw [hres]
  have HRes := Lib.hid hres
  have HU8 := Lib.hid hu8
  have HNb := Lib.hid hNb
  clear hmem hres hn hz R hu hh hlen hxl hr hu8 hNb
  generalize wordsN t p = WN at *
  go_enter Tryz.func47, Tryz.ntmps47
  go_wp2_with fail
  refine wp_region_noPanic ?_
  refine wp_region_held_drew (S := fun w' => (∀ o : Nat, w'.cell? ⟨w.heap.size, o, none⟩ = (#[.int .i64 t, .int .i64 p, .int .i64 s] : Array Value)[o]?)) (by kernel_rfl) ?_ (fun hHeld => ?_)
  ·exact c0
  refine wT 0 ?_
  refine wR 1 fun K hK => ?_
  go_simp
  refine (calls_b S0.drew (HC.out _)).mono ?_
  rintro e w1 ⟨rfl, S1, S1l⟩
  have c1 := loc_step S1l (by simp) hHeld
  clear S1l
  dsimp only
  refine hK.out _ _ ?_ (fun hHeld => ?_)
  ·exact c1
  clear hK K
  try simp only [Act.put, zA, zB, zC, zD, zE, zF]
  refine wT 2 ?_
  refine wT 3 ?_
  refine wT 4 ?_
  refine wT 5 ?_
  refine wT 6 ?_
  refine wR 7 fun K hK => ?_
  go_simp
  refine (calls_b S1 (HW.out _)).mono ?_
  rintro e w2 ⟨rfl, S2, S2l⟩
  have c2 := loc_step S2l (by simp) c1
  clear S2l
  dsimp only
  refine hK.out _ _ ?_ (fun hHeld => ?_)
  ·exact c2
  clear hK K
  try simp only [Act.put, zA, zB, zC, zD, zE, zF]
  refine wT 8 ?_
  refine wT 9 ?_
  refine wT 10 ?_
  refine wT 11 ?_
  refine wT 12 ?_
  refine wT 13 ?_
  refine wR 14 fun K hK => ?_
  go_simp
  refine (HE.out _).mono ?_
  rintro e w3 ⟨v3, rfl, o3, f3, b3⟩
  have S3 := S2.below b3
  have c3 := ((BS.start _).below b3).oldbox c2 (S2.ls w.heap.size (by simp)).1
  refine hK.out _ _ ?_ (fun hHeld => ?_)
  ·exact c3
  clear hK K
  try simp only [Act.put, zA, zB, zC, zD, zE, zF]
  refine wR 15 fun K hK => ?_
  go_simp
  refine (HQ.out _ _ _ (HT.out _ S3.bel) o3).mono ?_
  rintro e w4 ⟨rfl, b4⟩
  have S4 := S3.below b4
  have c4 := ((BS.start _).below b4).oldbox c3 (S3.ls w.heap.size (by simp)).1
  refine hK.out _ _ ?_ (fun hHeld => ?_)
  ·exact c4
  clear hK K
  try simp only [Act.put, zA, zB, zC, zD, zE, zF]
  refine wT 16 ?_
  refine wT 17 ?_
  refine wpAnyH_done (by kernel_rfl) (NoPanic.normal ?_) _
  have e8 := H8.out _ S4.bel
  cases ht : tipW x8 with
  | none =>
   have HT1 := Lib.hid (fun w => motip_no _ w HU8.out ht)
   have hr0 := HRes.out
   rw [ht] at hr0
   dsimp only at hr0
   subst hr0
   clear HRes ht
   go_wp2_with fail
   refine (calls_b S4 (HT1.out _)).mono ?_
   rintro e w5 ⟨rfl, S5, S5l⟩
   have c5 := loc_step S5l (by simp) c4
   clear S5l
   go_wp2
   go_ret
   exact ⟨rfl, S5.bel⟩
  | some q =>
   obtain ⟨st, u⟩ := q
   have HT1 := Lib.hid (fun w => motip_yes _ st u w HU8.out ht)
   have hr0 := HRes.out
   rw [ht] at hr0
   dsimp only at hr0
   clear HRes ht
   by_cases h1 : 1 ≤ st
   ·rw [show decide (1 ≤ st) = true by simpa using h1, Bool.true_and] at hr0
    by_cases h2 : st ≤ 2147483647
    ·rw [show decide (st ≤ 2147483647) = true by simpa using h2, Bool.true_and] at hr0
     cases sr with
     | none =>
      dsimp only at hr0
      subst hr0
      go_wp2_with fail
      refine (calls_b S4 (HT1.out _)).mono ?_
      rintro e w5 ⟨rfl, S5, S5l⟩
      have c5 := loc_step S5l (by simp) c4
      clear S5l
      go_wp2_with fail
      refine (HS.out _ S5.bel).mono ?_
      rintro e w6 ⟨rfl, b6⟩
      go_wp2
      go_ret
      exact ⟨rfl, (S5.below b6).bel⟩
     | some vs =>
      dsimp only at hr0
      obtain ⟨hr, hvl, hvu⟩ := hsv vs rfl
      obtain ⟨P, rfl⟩ : ∃ P : Nat, p = P := ⟨p.toNat, by omega⟩
      have HXv := Lib.hid (fun (W : World) (v : Value) (hv : W.ownsRow 0 90 1 v vs.length (uints vs)) => (Rd.of_row hv).xv hvu hr hrb.2.2.2.1 hvl)
      have HCk := Lib.hid (fun (W : World) (ad : Addr) (hx : XV W t P s ad vs.length vs) (c : Nat) => pcheck_any hx c)
      generalize hck : chkF vs t P s = ck at *
      obtain ⟨ck1, ck2⟩ := ck
      dsimp only at hr0
      subst hr0
      clear hsv hr hvl hvu hck
      go_wp2_with fail
      refine (calls_b S4 (HT1.out _)).mono ?_
      rintro e w5 ⟨rfl, S5, S5l⟩
      have c5 := loc_step S5l (by simp) c4
      clear S5l
      go_wp2_with fail
      refine (HS.out _ S5.bel).mono ?_
      rintro e w6 ⟨v6, rfl, o6, f6, b6⟩
      have S6 := S5.below b6
      have c6 := ((BS.start _).below b6).oldbox c5 (S5.ls w.heap.size (by simp)).1
      obtain ⟨ad6, cp6, rfl, hx6⟩ := HXv.out _ _ o6
      clear HS
      go_wp2_with fail
      refine (calls_b S6 (HCk.out _ _ hx6 cp6)).mono ?_
      rintro e w7 ⟨rfl, S7, -⟩
      go_wp2
      go_ret
      exact ⟨rfl, S7.bel⟩
    ·rw [show decide (st ≤ 2147483647) = false by simpa using h2, Bool.false_and] at hr0
     subst hr0
     go_wp2_with fail
     refine (calls_b S4 (HT1.out _)).mono ?_
     rintro e w5 ⟨rfl, S5, S5l⟩
     have c5 := loc_step S5l (by simp) c4
     clear S5l
     go_wp2
     go_ret
     exact ⟨rfl, S5.bel⟩
   ·rw [show decide (1 ≤ st) = false by simpa using h1, Bool.false_and] at hr0
    subst hr0
    go_wp2_with fail
    refine (calls_b S4 (HT1.out _)).mono ?_
    rintro e w5 ⟨rfl, S5, S5l⟩
    have c5 := loc_step S5l (by simp) c4
    clear S5l
    go_wp2
    go_ret
    exact ⟨rfl, S5.bel⟩
 ·have hm : memB t p s ws = false := by
   unfold memB
   rw [hlen, show decide ((n : Int) = wordsN t p) = false by simpa using hn]
   rfl
  rw [hm]
  have hnb : ((n : Int) != wordsN t p) = true := by simpa using hn
  clear hm hn hz R hu hh hlen hNb hr
  generalize wordsN t p = WN at *
  go_enter Tryz.func47, Tryz.ntmps47
  go_wp2_with fail
  refine wp_region_noPanic ?_
  refine wp_region_held_drew (S := fun w' => (∀ o : Nat, w'.cell? ⟨w.heap.size, o, none⟩ = (#[.int .i64 t, .int .i64 p, .int .i64 s] : Array Value)[o]?)) (by kernel_rfl) ?_ (fun hHeld => ?_)
  ·exact c0
  refine wT 0 ?_
  refine wR 1 fun K hK => ?_
  go_simp
  refine (calls_b S0.drew (HC.out _)).mono ?_
  rintro e w1 ⟨rfl, S1, S1l⟩
  have c1 := loc_step S1l (by simp) hHeld
  clear S1l
  dsimp only
  refine hK.out _ _ ?_ (fun hHeld => ?_)
  ·exact c1
  clear hK K
  try simp only [Act.put, zA, zB, zC, zD, zE, zF]
  refine wT 2 ?_
  refine wT 3 ?_
  refine wT 4 ?_
  refine wT 5 ?_
  refine wT 6 ?_
  refine wR 7 fun K hK => ?_
  go_simp
  refine (calls_b S1 (HW.out _)).mono ?_
  rintro e w2 ⟨rfl, S2, S2l⟩
  have c2 := loc_step S2l (by simp) c1
  clear S2l
  dsimp only
  refine hK.out _ _ ?_ (fun hHeld => ?_)
  ·exact c2
  clear hK K
  try simp only [Act.put, zA, zB, zC, zD, zE, zF]
  refine wT 8 ?_
  refine wT 9 ?_
  refine wT 10 ?_
  refine wU 11 ?_
  refine wU 12 ?_
  refine wU 13 ?_
  refine wU 14 ?_
  refine wU 15 ?_
  refine wU 16 ?_
  refine wT 17 ?_
  refine wpAnyH_done (by kernel_rfl) (NoPanic.normal ?_) _
  go_wp2
  go_ret
  exact ⟨rfl, S2.bel⟩
end
end Go.Proofs.YtcbikgafdclhaaaGreat
/- world: Of; what a world tells of itself. -/
set_option linter.unusedSimpArgs false
set_option linter.unusedVariables false
namespace Go.Proofs.YtcbikgafdclhaaaGreat
open Go.RowKit

theorem mem_num {t p s : Int} {ws : List Int} (h : memB t p s ws = true) : (ws.length : Int) = wordsN t p := by
 unfold memB at h
 simp only [Bool.and_eq_true, decide_eq_true_eq] at h
 exact h.1
def WofQ (w : World) (ws : List Int) (m : Bool) (e : Ending) (w' : World) : Prop := match m with
 | false => e = .returned (.pointer none) ∧ Below w.heap.size w w'
 | true => ∃ b, e = .returned (.pointer (some ⟨b, 0, none⟩)) ∧ WOx w' b ws ∧ Below w.heap.size w w'
section
variable {w : World} {g n c : Nat} {ws : List Int} {t p s : Int}
set_option maxHeartbeats 1000000 in
theorem wOf_any (hr : rightB t p s = true) (hh : headX t p s = ws.take 8) (R : w.ownsRow 0 61 1 (.slice (some ⟨g, 0, none⟩) n c) n (ulongs ws)) (hu : ∀ v ∈ ws, U64 v) (h8 : 8 ≤ n) :
 Calls Tryz.prog 28 #[.agg #[.int .i64 t, .int .i64 p, .int .i64 s], .slice (some ⟨g, 0, none⟩) n c] w (WofQ w ws (memB t p s ws)) := by
 have HM := Lib.hid (fun (W : World) (hb : Below w.heap.size w W) => pmemory_any hr hh (((BS.start _).below hb).row R) hu h8)
 have c0 := loc_alloc w #[.int .i64 t, .int .i64 p, .int .i64 s] 44
 have S0 := ((BS.start w).alloc (.cells #[.int .i64 t, .int .i64 p, .int .i64 s] 44))
 cases hm : memB t p s ws
 ·rw [hm] at HM
  clear hm R hh hr
  go_enter Tryz.func28, Tryz.ntmps28
  go_wp2_with fail
  refine (HM.out _ S0.bel).mono ?_
  rintro e w1 ⟨rfl, b1⟩
  go_wp2
  go_ret
  exact ⟨rfl, (S0.below b1).bel⟩
 ·rw [hm] at HM
  have hnum := mem_num hm
  have hlen := (row_wz R hu).1.len
  rw [hlen] at hnum
  have HO := Lib.hid (fun (W : World) (hb : Below w.heap.size w W) => wof_any t p s ⟨g, 0, none⟩ n c ws W hr ((row_wz R hu).1.keep hb) hnum)
  have hmk := makers_bd hr
  have h8l : 8 < ws.length := by have := right_bd hr; omega
  have HCr := Lib.hid (fun b mb g N S w hb hpm tc htc htz hN hSb hSg hbg => wcrash_any b mb g N S t p s ws w hr hb hpm tc htc htz hN hSb hSg hbg h8l)
  clear hm R hh hr hnum hlen hmk
  go_enter Tryz.func28, Tryz.ntmps28
  go_wp2_with fail
  refine (calls_b S0 (HM.out _ S0.bel)).mono ?_
  rintro e w1 ⟨rfl, S1, S1l⟩
  have c1 := loc_step S1l (by simp) c0
  clear S1l
  go_wp2_with fail
  refine (HO.out _ S1.bel).mono ?_
  rintro e w2 ⟨b, mb, gt, N, S, rfl, hb, hpm, ⟨tc, htc, htz⟩, hN, hbw, hgw, hSw, hSb, hSg, hbg, b2⟩
  have S2 := S1.below b2
  go_wp2_with fail
  refine (HCr.out _ _ _ _ _ _ hb hpm tc htc htz hN hSb hSg hbg).mono ?_
  rintro e w3 ⟨rfl, hW, hF⟩
  have hz := S1.bel.size
  have hz2 := S2.bel.size
  have hB3 := S2.bel.trans (hF.below (B := w.heap.size) hz2 (fun i hi => by
   rcases hi with rfl | rfl | hi
   ·omega
   ·omega
   ·have := hSw i hi; omega))
  go_wp2
  go_ret
  exact ⟨b, rfl, hW, hB3⟩
end
/-! ### what is asked of a world -/
theorem WOx.keep {w w' : World} {b : Nat} {ws : List Int} (h : WOx w b ws) (hb : Below w.heap.size w w') : WOx w' b ws := by
 obtain ⟨t, p, s, mb, al, md, ep, g, c, mk, ig, st, mn, S, h1, h2, h3⟩ := h
 exact ⟨t, p, s, mb, al, md, ep, g, c, mk, ig, st, mn, S, (hb.block b (Array.getElem?_eq_some_iff.1 h1).1).trans h1, keepsPM.keep h2 (Fr.of_below (S := fun _ => False) hb) (fun _ _ h => h), ((BS.start _).below hb).row h3⟩
section
variable {w : World} {b : Nat} {ws : List Int}
theorem wis_any (h : WOx w b ws) : Calls Tryz.prog 34 #[.pointer (some ⟨b, 0, none⟩)] w fun e w' => e = .returned (.bool true) ∧ w = w' := by
 obtain ⟨t, p, s, mb, al, md, ep, g, c, mk, ig, st, mn, S, h1, h2, h3⟩ := h
 have q3 := cell?_of_heap (o := 3) h1
 simp [worldC] at q3
 clear h1 h2 h3
 go_enter Tryz.func34, Tryz.ntmps34
 go_wp2
 go_ret
 exact ⟨rfl, rfl⟩
theorem wup_any (h : WOx w b ws) : Calls Tryz.prog 21 #[.pointer (some ⟨b, 0, none⟩)] w fun e w' => e = .returned (.bool false) ∧ w = w' := by
 have HI := Lib.hid (wis_any h)
 obtain ⟨t, p, s, mb, al, md, ep, g, c, mk, ig, st, mn, S, h1, h2, h3⟩ := h
 have q5 := cell?_of_heap (o := 5) h1
 simp [worldC] at q5
 clear h1 h2 h3
 go_enter Tryz.func21, Tryz.ntmps21
 go_wp2_with fail
 refine HI.out.mono ?_
 rintro e w1 ⟨rfl, rfl⟩
 go_wp2
 go_ret
 exact ⟨rfl, rfl⟩
theorem wwords_of (h : WOx w b ws) : Calls Tryz.prog 19 #[.pointer (some ⟨b, 0, none⟩)] w (WordsP w ws) := by
 have HI := Lib.hid (wis_any h)
 obtain ⟨t, p, s, mb, al, md, ep, g, c, mk, ig, st, mn, S, h1, h2, h3⟩ := h
 have q3 := cell?_of_heap (o := 3) h1
 simp [worldC] at q3
 have HW := Lib.hid (mwords_any mb w S _ h2)
 clear h1 h2 h3
 go_enter Tryz.func19, Tryz.ntmps19
 go_wp2_with fail
 refine HI.out.mono ?_
 rintro e w1 ⟨rfl, rfl⟩
 go_wp2_with fail
 refine HW.out.mono ?_
 rintro e w2 ⟨v, rfl, o2, -, b2⟩
 go_wp2
 go_ret
 exact ⟨v, rfl, Joins.ownsRow_le o2 (Nat.zero_le _), fun k hk => (o2.lt k hk).1, b2⟩
theorem wkept_of (h : WOx w b ws) : Calls Tryz.prog 20 #[.pointer (some ⟨b, 0, none⟩)] w (WordsP w ws) := by
 have HI := Lib.hid (wis_any h)
 obtain ⟨t, p, s, mb, al, md, ep, g, c, mk, ig, st, mn, S, h1, h2, h3⟩ := h
 have q3 := cell?_of_heap (o := 3) h1
 simp [worldC] at q3
 have HW := Lib.hid (mkept_any mb w S _ h2)
 clear h1 h2 h3
 go_enter Tryz.func20, Tryz.ntmps20
 go_wp2_with fail
 refine HI.out.mono ?_
 rintro e w1 ⟨rfl, rfl⟩
 go_wp2_with fail
 refine HW.out.mono ?_
 rintro e w2 ⟨v, rfl, o2, -, b2⟩
 go_wp2
 go_ret
 exact ⟨v, rfl, Joins.ownsRow_le o2 (Nat.zero_le _), fun k hk => (o2.lt k hk).1, b2⟩
end
end Go.Proofs.YtcbikgafdclhaaaGreat
/- open: the program's Open. -/
set_option linter.unusedSimpArgs false
set_option linter.unusedVariables false
namespace Go.Proofs.YtcbikgafdclhaaaGreat
open Go.RowKit

/-- the words, and the configuration, of a heap's memory. -/
def memR : Option (List Int) → Option (List Int × Int × Int × Int)
 | none => none
 | some ws => match decF ws with
  | none => none
  | some (t, p, s) => if memB t p s ws then some (ws, t, p, s) else none
theorem memR_some {r : Option (List Int)} {ws : List Int} {t p s : Int} (h : memR r = some (ws, t, p, s)) : r = some ws ∧ decF ws = some (t, p, s) ∧ memB t p s ws = true := by
 unfold memR at h
 split at h
 ·cases h
 ·rename_i ws1
  split at h
  ·cases h
  ·rename_i t1 p1 s1 hd
   split at h
   ·rename_i hm
    cases h
    exact ⟨rfl, hd, hm⟩
   ·cases h
theorem dec_len {ws : List Int} {x : Int × Int × Int} (h : decF ws = some x) : 8 ≤ ws.length := by
 unfold decF at h
 split at h
 ·cases h
 ·omega
theorem row_form8 {w : World} {v : Value} {ws : List Int} (R : w.ownsRow 0 61 1 v ws.length (ulongs ws)) (h8 : 8 ≤ ws.length) : ∃ g c, v = .slice (some ⟨g, 0, none⟩) ws.length c := Joins.ownsRow_form R (by omega)
theorem decode_row {w : World} {v : Value} {ws : List Int} (R : w.ownsRow 0 61 1 v ws.length (ulongs ws)) (hu : ∀ x ∈ ws, U64 x) : Calls Tryz.prog 27 #[v] w (DecQ w (decF ws)) := by
 by_cases h8 : 8 ≤ ws.length
 ·obtain ⟨g, c, rfl⟩ := row_form8 R h8
  obtain ⟨hz, hc⟩ := row_wz R hu
  exact decode_any hz c hc
 ·obtain ⟨a, c, rfl⟩ := row_shape R
  rw [show decF ws = none by unfold decF; rw [if_pos (by omega)]]
  exact decode_short a _ c w (by omega)
theorem rdecode_row {w : World} {v : Value} {ws : List Int} (R : w.ownsRow 0 61 1 v ws.length (ulongs ws)) (hu : ∀ x ∈ ws, U64 x) : Calls Tryz.prog 25 #[v] w (DecQ w (decF ws)) := by
 by_cases h8 : 8 ≤ ws.length
 ·obtain ⟨g, c, rfl⟩ := row_form8 R h8
  exact rdecode_any R hu
 ·obtain ⟨a, c, rfl⟩ := row_shape R
  rw [show decF ws = none by unfold decF; rw [if_pos (by omega)]]
  exact rdecode_short a _ c w (by omega)
def OpQ (w : World) (r : Option (List Int × Int × Int × Int)) (e : Ending) (w' : World) : Prop := match r with
 | none => e = .returned (.tuple #[.pointer none, .int .i64 9]) ∧ Below w.heap.size w w'
 | some (ws, _) => ∃ b, e = .returned (.tuple #[.pointer (some ⟨b, 0, none⟩), .int .i64 0]) ∧ WOx w' b ws ∧ Below w.heap.size w w'
set_option maxHeartbeats 1000000 in
theorem open_any (v : Value) (r : Option (List Int)) (w : World) (hW : ∀ W, Below w.heap.size w W → Calls Tryz.prog 6 #[v] W (WdQ W r)) (hu : ∀ ws, r = some ws → ∀ x ∈ ws, U64 x) :
 Calls Tryz.prog 12 #[v] w (OpQ w (memR r)) := by
 have S0 := BS.start w
 have HW := Lib.hid hW
 clear hW
 cases r with
 | none =>
  go_enter Tryz.func12, Tryz.ntmps12
  go_wp2_with fail
  refine (HW.out _ S0.bel).mono ?_
  rintro e w1 ⟨rfl, b1⟩
  go_wp2
  refine bodyPost_ret (v := .tuple #[.pointer none, .int .i64 9]) (by simp [results, Tryz.results12, go_sem]) rfl ?_
  exact ⟨rfl, b1⟩
 | some ws =>
  have hus := hu ws rfl
  have HD := Lib.hid (fun (W : World) v (R : W.ownsRow 0 61 1 v ws.length (ulongs ws)) => decode_row R hus)
  unfold memR
  dsimp only
  cases hd : decF ws with
  | none =>
   rw [hd] at HD
   clear hd hu hus
   go_enter Tryz.func12, Tryz.ntmps12
   go_wp2_with fail
   refine (HW.out _ S0.bel).mono ?_
   rintro e w1 ⟨v1, rfl, o1, -, b1⟩
   go_wp2_with fail
   refine (HD.out _ _ o1).mono ?_
   rintro e w2 ⟨rfl, b2⟩
   have S2 := ((S0.below b1).below b2).alloc (.cells #[.int .i64 0, .int .i64 0, .int .i64 0] 44)
   go_wp2
   refine bodyPost_ret (v := .tuple #[.pointer none, .int .i64 9]) (by simp [results, Tryz.results12, go_sem]) rfl ?_
   exact ⟨rfl, S2.bel⟩
  | some x =>
   obtain ⟨t, p, s⟩ := x
   rw [hd] at HD
   dsimp only
   obtain ⟨hr, hh⟩ := dec_right hd
   have h8 := dec_len hd
   have HO := Lib.hid (fun (W : World) g c (R : W.ownsRow 0 61 1 (.slice (some ⟨g, 0, none⟩) ws.length c) ws.length (ulongs ws)) => wOf_any hr hh R hus h8)
   have H8 := Lib.hid h8
   clear hd hu hus hr hh h8
   generalize memB t p s ws = m at *
   cases m
   all_goals
    go_enter Tryz.func12, Tryz.ntmps12
    go_wp2_with fail
    refine (HW.out _ S0.bel).mono ?_
    rintro e w1 ⟨v1, rfl, o1, -, b1⟩
    obtain ⟨g, c, rfl⟩ := row_form8 o1 H8.out
    have S1 := S0.below b1
    go_wp2_with fail
    refine (HD.out _ _ o1).mono ?_
    rintro e w2 ⟨rfl, b2⟩
    have c2 := loc_alloc w2 #[.int .i64 t, .int .i64 p, .int .i64 s] 44
    have S2 := (S1.below b2).alloc (.cells #[.int .i64 t, .int .i64 p, .int .i64 s] 44)
    have o2 := (((BS.start _).below b2).row o1).alloc (.cells #[.int .i64 t, .int .i64 p, .int .i64 s] 44)
    clear HD S1 b2
    go_wp2_with fail
    refine (HO.out _ _ _ o2).mono ?_
   ·rintro e w3 ⟨rfl, b3⟩
    have S3 := S2.below b3
    clear HO HW
    go_wp2
    refine bodyPost_ret (v := .tuple #[.pointer none, .int .i64 9]) (by simp [results, Tryz.results12, go_sem]) rfl ?_
    exact ⟨rfl, S3.bel⟩
   ·rintro e w3 ⟨b, rfl, hx, b3⟩
    have S3 := S2.below b3
    clear HO HW
    go_wp2
    refine bodyPost_ret (v := .tuple #[.pointer (some ⟨b, 0, none⟩), .int .i64 0]) (by simp [results, Tryz.results12, go_sem]) rfl ?_
    exact ⟨b, rfl, hx, S3.bel⟩
end Go.Proofs.YtcbikgafdclhaaaGreat
/- world: which words are a heap's memory: the document's. -/
set_option linter.unusedSimpArgs false
set_option linter.unusedVariables false
namespace Go.Proofs.YtcbikgafdclhaaaGreat
open Go.RowKit

theorem hwords_eq (l : List Int) (va vb : Value) (w : World) (ha : w.ownsRow 0 61 1 va l.length (ulongs l)) (hb : w.ownsRow 0 61 1 vb l.length (ulongs l)) (hn : l.length ≤ 100000) :
 Calls Tryz.prog 10 #[va, vb] w fun e w' => e = .returned (.bool true) ∧ Below w.heap.size w w' := by
 have h := hwords_any l l va vb w ha hb (by omega) (by omega)
 rwa [show decide (l = l) = true by simp] at h
section
variable {w : World} {g n c : Nat} {ws : List Int} {t p s : Int}
set_option maxHeartbeats 2000000 in
set_option maxRecDepth 100000 in
theorem rmemory_any (hr : rightB t p s = true) (hh : headX t p s = ws.take 8) (R : w.ownsRow 0 61 1 (.slice (some ⟨g, 0, none⟩) n c) n (ulongs ws)) (hu : ∀ v ∈ ws, U64 v) (h8 : 8 ≤ n) :
 Calls Tryz.prog 33 #[.agg #[.int .i64 t, .int .i64 p, .int .i64 s], .slice (some ⟨g, 0, none⟩) n c] w fun e w' => e = .returned (.bool (memB t p s ws)) ∧ Below w.heap.size w w' := by
 obtain ⟨hz, hcn⟩ := row_wz R hu
 have hlen := hz.len
 have HC := Lib.hid (fun w => rright_any t p s w)
 rw [hr] at HC
 have HW := Lib.hid (fun w => rwords_right t p s w hr)
 have hNb := makers_bd hr
 have hrb := right_bd hr
 have hpos : 0 ≤ wordsN t p ∧ wordsN t p ≤ 100000 := by omega
 have hn8 : (8 : Int) ≤ n := by omega
 have c0 := loc_alloc w #[.int .i64 t, .int .i64 p, .int .i64 s] 44
 have S0 := ((BS.start w).alloc (.cells #[.int .i64 t, .int .i64 p, .int .i64 s] 44))
 by_cases hn : (n : Int) = wordsN t p
 ·have HX := Lib.hid (hz.wx hr hn)
  have HE := Lib.hid (fun w => rencodeX hr w)
  have HT := Lib.hid (show ∀ W, Below w.heap.size w W → W.ownsRow 0 61 1 (.slice (some ⟨g, 0, none⟩) 8 c) (headX t p s).length (ulongs (headX t p s)) from fun W hb => by
   have h1 := row_take (((BS.start _).below hb).row R) (m := 8) h8
   rw [ulongs_take, ← hh] at h1
   exact h1)
  have hsl := fun W => slice8_64 W ⟨g, 0, none⟩ n c (by omega)
  have hxl := headX_len t p s
  have HQ := Lib.hid (fun va vb (W : World) (ha : W.ownsRow 0 61 1 va (headX t p s).length (ulongs (headX t p s))) (hb : W.ownsRow 0 61 1 vb (headX t p s).length (ulongs (headX t p s))) => hwords_eq (headX t p s) va vb W ha hb (by rw [hxl]; omega))
  have hn16 : (8 : Int) < n := by omega
  have H8 := Lib.hid (show ∀ W, Below w.heap.size w W → W.cell? ⟨g, 8, none⟩ = some (.int .u64 (ws.getD 8 0)) from fun W hb => by
   have := (hz.keep hb).cells 8 (by omega)
   rwa [show (⟨g, 0, none⟩ : Addr).add 8 = ⟨g, 8, none⟩ by simp [Addr.add]] at this)
  have hu8 := getD_u64 hu 8
  have HS := Lib.hid (fun W (hb : Below w.heap.size w W) => rsettle_any (HX.out.keep hb) c)
  have hmem : memB t p s ws = match tipW (ws.getD 8 0) with
   | some (st, _) => decide (1 ≤ st) && (decide (st ≤ 2147483647) && match settleF t p s ws with
    | some vs => (chkF vs t p s).2
    | none => false)
   | none => false := by
   unfold memB
   rw [hlen, show decide ((n : Int) = wordsN t p) = true by simpa using hn, Bool.true_and]
   try rfl
  rw [hmem]
  have hsv := fun vs (h : settleF t p s ws = some vs) => settle_vals h
  have hnb : ((n : Int) != wordsN t p) = false := by simp [hn]
  generalize settleF t p s ws = sr at *
  generalize headX t p s = hd at *
  generalize ws.getD 8 0 = x8 at *
  obtain ⟨r, hres⟩ : ∃ r, (match tipW x8 with
   | some (st, _) => decide (1 ≤ st) && (decide (st ≤ 2147483647) && match sr with
    | some vs => (chkF vs t p s).2
    | none => false)
   | none => false) = r := ⟨_, rfl⟩
  rw [hres]
  have HRes := Lib.hid hres
  have HU8 := Lib.hid hu8
  have HNb := Lib.hid hNb
  clear hmem hres hn hz R hu hh hlen hxl hr hu8 hNb
  generalize wordsN t p = WN at *
  go_enter Tryz.func33, Tryz.ntmps33
  go_wp2_with fail
  refine wp_region_noPanic ?_
  refine wp_region_held_drew (S := fun w' => (∀ o : Nat, w'.cell? ⟨w.heap.size, o, none⟩ = (#[.int .i64 t, .int .i64 p, .int .i64 s] : Array Value)[o]?)) (by kernel_rfl) ?_ (fun hHeld => ?_)
  ·exact c0
  refine wT 0 ?_
  refine wR 1 fun K hK => ?_
  go_simp
  refine (calls_b S0.drew (HC.out _)).mono ?_
  rintro e w1 ⟨rfl, S1, S1l⟩
  have c1 := loc_step S1l (by simp) hHeld
  clear S1l
  dsimp only
  refine hK.out _ _ ?_ (fun hHeld => ?_)
  ·exact c1
  clear hK K
  try simp only [Act.put, zA, zB, zC, zD, zE, zF]
  refine wT 2 ?_
  refine wT 3 ?_
  refine wT 4 ?_
  refine wT 5 ?_
  refine wT 6 ?_
  refine wR 7 fun K hK => ?_
  go_simp
  refine (calls_b S1 (HW.out _)).mono ?_
  rintro e w2 ⟨rfl, S2, S2l⟩
  have c2 := loc_step S2l (by simp) c1
  clear S2l
  dsimp only
  refine hK.out _ _ ?_ (fun hHeld => ?_)
  ·exact c2
  clear hK K
  try simp only [Act.put, zA, zB, zC, zD, zE, zF]
  refine wT 8 ?_
  refine wT 9 ?_
  refine wT 10 ?_
  refine wT 11 ?_
  refine wT 12 ?_
  refine wT 13 ?_
  refine wR 14 fun K hK => ?_
  go_simp
  refine (HE.out _).mono ?_
  rintro e w3 ⟨v3, rfl, o3, f3, b3⟩
  have S3 := S2.below b3
  have c3 := ((BS.start _).below b3).oldbox c2 (S2.ls w.heap.size (by simp)).1
  refine hK.out _ _ ?_ (fun hHeld => ?_)
  ·exact c3
  clear hK K
  try simp only [Act.put, zA, zB, zC, zD, zE, zF]
  refine wR 15 fun K hK => ?_
  go_simp
  refine (HQ.out _ _ _ (HT.out _ S3.bel) o3).mono ?_
  rintro e w4 ⟨rfl, b4⟩
  have S4 := S3.below b4
  have c4 := ((BS.start _).below b4).oldbox c3 (S3.ls w.heap.size (by simp)).1
  refine hK.out _ _ ?_ (fun hHeld => ?_)
  ·exact c4
  clear hK K
  try simp only [Act.put, zA, zB, zC, zD, zE, zF]
  refine wT 16 ?_
  refine wT 17 ?_
  refine wpAnyH_done (by kernel_rfl) (NoPanic.normal ?_) _
  have e8 := H8.out _ S4.bel
  cases ht : tipW x8 with
  | none =>
   have HT1 := Lib.hid (fun w => rotip_no _ w HU8.out ht)
   have hr0 := HRes.out
   rw [ht] at hr0
   dsimp only at hr0
   subst hr0
   clear HRes ht
   go_wp2_with fail
   refine (calls_b S4 (HT1.out _)).mono ?_
   rintro e w5 ⟨rfl, S5, S5l⟩
   have c5 := loc_step S5l (by simp) c4
   clear S5l
   go_wp2_with fail
   refine (HS.out _ S5.bel).mono ?_
   cases sr with
   | none =>
    rintro e w6 ⟨rfl, b6⟩
    go_wp2
    go_ret
    exact ⟨rfl, (S5.below b6).bel⟩
   | some vs =>
    rintro e w6 ⟨v6, rfl, o6, f6, b6⟩
    go_wp2
    go_ret
    exact ⟨rfl, (S5.below b6).bel⟩
  | some q =>
   obtain ⟨st, u⟩ := q
   have HT1 := Lib.hid (fun w => rotip_yes _ st u w HU8.out ht)
   have hr0 := HRes.out
   rw [ht] at hr0
   dsimp only at hr0
   clear HRes ht
   go_wp2_with fail
   refine (calls_b S4 (HT1.out _)).mono ?_
   rintro e w5 ⟨rfl, S5, S5l⟩
   have c5 := loc_step S5l (by simp) c4
   clear S5l
   go_wp2_with fail
   refine (HS.out _ S5.bel).mono ?_
   cases sr with
   | none =>
    have hr1 : r = false := by rw [← hr0]; simp
    subst hr1
    clear hr0
    rintro e w6 ⟨rfl, b6⟩
    have S6 := S5.below b6
    by_cases h1 : 1 ≤ st
    ·by_cases h2 : st < 2147483648
     ·go_wp2
      go_ret
      exact ⟨rfl, S6.bel⟩
     ·go_wp2
      go_ret
      exact ⟨rfl, S6.bel⟩
    ·go_wp2
     go_ret
     exact ⟨rfl, S6.bel⟩
   | some vs =>
    obtain ⟨hr, hvl, hvu⟩ := hsv vs rfl
    obtain ⟨P, rfl⟩ : ∃ P : Nat, p = P := ⟨p.toNat, by omega⟩
    have HXv := Lib.hid (fun (W : World) (v : Value) (hv : W.ownsRow 0 90 1 v vs.length (uints vs)) => (Rd.of_row hv).xv hvu hr hrb.2.2.2.1 hvl)
    have HCk := Lib.hid (fun (W : World) (ad : Addr) (hx : XV W t P s ad vs.length vs) (c : Nat) => rsound_any c W hx)
    dsimp only at hr0
    generalize hck : (chkF vs t P s).2 = ck at *
    clear hsv hr hvl hvu hck
    rintro e w6 ⟨v6, rfl, o6, f6, b6⟩
    have S6 := S5.below b6
    have c6 := ((BS.start _).below b6).oldbox c5 (S5.ls w.heap.size (by simp)).1
    obtain ⟨ad6, cp6, rfl, hx6⟩ := HXv.out _ _ o6
    clear HS
    by_cases h1 : 1 ≤ st
    ·rw [show decide (1 ≤ st) = true by simpa using h1, Bool.true_and] at hr0
     by_cases h2 : st < 2147483648
     ·rw [show decide (st ≤ 2147483647) = true by simp; omega, Bool.true_and] at hr0
      subst hr0
      go_wp2_with fail
      refine (calls_b S6 (HCk.out _ _ hx6 cp6)).mono ?_
      rintro e w7 ⟨rfl, S7, -⟩
      go_wp2
      go_ret
      exact ⟨rfl, S7.bel⟩
     ·rw [show decide (st ≤ 2147483647) = false by simp; omega, Bool.false_and] at hr0
      subst hr0
      go_wp2
      go_ret
      exact ⟨rfl, S6.bel⟩
    ·rw [show decide (1 ≤ st) = false by simpa using h1, Bool.false_and] at hr0
     subst hr0
     go_wp2
     go_ret
     exact ⟨rfl, S6.bel⟩
 ·have hm : memB t p s ws = false := by
   unfold memB
   rw [hlen, show decide ((n : Int) = wordsN t p) = false by simpa using hn]
   rfl
  rw [hm]
  have hnb : ((n : Int) != wordsN t p) = true := by simpa using hn
  clear hm hn hz R hu hh hlen hNb hr
  generalize wordsN t p = WN at *
  go_enter Tryz.func33, Tryz.ntmps33
  go_wp2_with fail
  refine wp_region_noPanic ?_
  refine wp_region_held_drew (S := fun w' => (∀ o : Nat, w'.cell? ⟨w.heap.size, o, none⟩ = (#[.int .i64 t, .int .i64 p, .int .i64 s] : Array Value)[o]?)) (by kernel_rfl) ?_ (fun hHeld => ?_)
  ·exact c0
  refine wT 0 ?_
  refine wR 1 fun K hK => ?_
  go_simp
  refine (calls_b S0.drew (HC.out _)).mono ?_
  rintro e w1 ⟨rfl, S1, S1l⟩
  have c1 := loc_step S1l (by simp) hHeld
  clear S1l
  dsimp only
  refine hK.out _ _ ?_ (fun hHeld => ?_)
  ·exact c1
  clear hK K
  try simp only [Act.put, zA, zB, zC, zD, zE, zF]
  refine wT 2 ?_
  refine wT 3 ?_
  refine wT 4 ?_
  refine wT 5 ?_
  refine wT 6 ?_
  refine wR 7 fun K hK => ?_
  go_simp
  refine (calls_b S1 (HW.out _)).mono ?_
  rintro e w2 ⟨rfl, S2, S2l⟩
  have c2 := loc_step S2l (by simp) c1
  clear S2l
  dsimp only
  refine hK.out _ _ ?_ (fun hHeld => ?_)
  ·exact c2
  clear hK K
  try simp only [Act.put, zA, zB, zC, zD, zE, zF]
  refine wT 8 ?_
  refine wT 9 ?_
  refine wT 10 ?_
  refine wU 11 ?_
  refine wU 12 ?_
  refine wU 13 ?_
  refine wU 14 ?_
  refine wU 15 ?_
  refine wU 16 ?_
  refine wT 17 ?_
  refine wpAnyH_done (by kernel_rfl) (NoPanic.normal ?_) _
  go_wp2
  go_ret
  exact ⟨rfl, S2.bel⟩
end
end Go.Proofs.YtcbikgafdclhaaaGreat
/- open: the document's Memory. -/
set_option linter.unusedSimpArgs false
set_option linter.unusedVariables false
namespace Go.Proofs.YtcbikgafdclhaaaGreat
open Go.RowKit

def MmQ (w : World) (r : Option (List Int × Int × Int × Int)) (e : Ending) (w' : World) : Prop := match r with
 | none => e = .returned (.tuple #[.agg #[.int .i64 0, .int .i64 0, .int .i64 0], .slice none 0 0, .bool false]) ∧ Below w.heap.size w w'
 | some (ws, t, p, s) => ∃ v, e = .returned (.tuple #[.agg #[.int .i64 t, .int .i64 p, .int .i64 s], v, .bool true]) ∧ w'.ownsRow 0 61 1 v ws.length (ulongs ws) ∧ Below w.heap.size w w'
set_option maxHeartbeats 2000000 in
theorem rmem37_any (v : Value) (r : Option (List Int)) (w : World) (hW : ∀ W, Below w.heap.size w W → Calls Tryz.prog 7 #[v] W (WdQ W r)) (hu : ∀ ws, r = some ws → ∀ x ∈ ws, U64 x) :
 Calls Tryz.prog 15 #[v] w (MmQ w (memR r)) := by
 have S0 := (BS.start w).alloc (.cells #[.int .i64 0, .int .i64 0, .int .i64 0] 44)
 have hz0 := heap_alloc_new w (.cells #[.int .i64 0, .int .i64 0, .int .i64 0] 44)
 have HW := Lib.hid hW
 clear hW
 cases r with
 | none =>
  go_enter Tryz.func15, Tryz.ntmps15
  go_wp2_with fail
  refine (HW.out _ S0.bel).mono ?_
  rintro e w1 ⟨rfl, b1⟩
  have S1 := S0.below b1
  have hz1 := (b1.block w.heap.size (by simp)).trans hz0
  obtain ⟨⟨d0, d1, d2⟩, j0, j1, j2⟩ := cells3 hz1
  clear hz1 b1 S0 HW hz0
  go_wp2
  refine bodyPost_ret (v := .tuple #[.agg #[.int .i64 0, .int .i64 0, .int .i64 0], .slice none 0 0, .bool false]) (by simp [results, Tryz.results15, go_sem, *]) rfl ⟨rfl, ?_⟩
  have hm : w.heap.size ∈ [w.heap.size] := by simp
  exact (((S1.setCell hm 0 _).setCell hm 1 _).setCell hm 2 _).bel
 | some ws =>
  have hus := hu ws rfl
  have HD := Lib.hid (fun (W : World) v (R : W.ownsRow 0 61 1 v ws.length (ulongs ws)) => rdecode_row R hus)
  unfold memR
  dsimp only
  cases hd : decF ws with
  | none =>
   rw [hd] at HD
   clear hd hu hus
   go_enter Tryz.func15, Tryz.ntmps15
   go_wp2_with fail
   refine (HW.out _ S0.bel).mono ?_
   rintro e w1 ⟨v1, rfl, o1, -, b1⟩
   have S1 := S0.below b1
   have hz1 := (b1.block w.heap.size (by simp)).trans hz0
   go_wp2_with fail
   refine (HD.out _ _ o1).mono ?_
   rintro e w2 ⟨rfl, b2⟩
   have S2 := (S1.below b2).alloc (.cells #[.int .i64 0, .int .i64 0, .int .i64 0] 44)
   have hz2 := (heap_alloc_old w2 (.cells #[.int .i64 0, .int .i64 0, .int .i64 0] 44) ((S1.below b2).ls w.heap.size (by simp)).1).trans ((b2.block w.heap.size (S1.ls w.heap.size (by simp)).1).trans hz1)
   obtain ⟨⟨d0, d1, d2⟩, j0, j1, j2⟩ := cells3 hz2
   clear hz2 b1 b2 S0 S1 HW HD hz0 hz1 o1
   go_wp2
   refine bodyPost_ret (v := .tuple #[.agg #[.int .i64 0, .int .i64 0, .int .i64 0], .slice none 0 0, .bool false]) (by simp [results, Tryz.results15, go_sem, *]) rfl ⟨rfl, ?_⟩
   have hm : w.heap.size ∈ [w2.heap.size, w.heap.size] := by simp
   exact (((S2.setCell hm 0 _).setCell hm 1 _).setCell hm 2 _).bel
  | some x =>
   obtain ⟨t, p, s⟩ := x
   rw [hd] at HD
   dsimp only
   obtain ⟨hr, hh⟩ := dec_right hd
   have h8 := dec_len hd
   have HO := Lib.hid (fun (W : World) g c (R : W.ownsRow 0 61 1 (.slice (some ⟨g, 0, none⟩) ws.length c) ws.length (ulongs ws)) => rmemory_any hr hh R hus h8)
   have H8 := Lib.hid h8
   clear hd hu hus hr hh h8
   generalize memB t p s ws = m at *
   cases m
   all_goals
    go_enter Tryz.func15, Tryz.ntmps15
    go_wp2_with fail
    refine (HW.out _ S0.bel).mono ?_
    rintro e w1 ⟨v1, rfl, o1, n1, b1⟩
    obtain ⟨g, c, rfl⟩ := row_form8 o1 H8.out
    have S1 := S0.below b1
    have hz1 := (b1.block w.heap.size (by simp)).trans hz0
    have hgne : g ≠ w.heap.size := by have := n1 g rfl; simp at this; omega
    go_wp2_with fail
    refine (HD.out _ _ o1).mono ?_
    rintro e w2 ⟨rfl, b2⟩
    have dd2 := loc_alloc w2 #[.int .i64 t, .int .i64 p, .int .i64 s] 44
    have hz2 := (heap_alloc_old w2 (.cells #[.int .i64 t, .int .i64 p, .int .i64 s] 44) ((S1.below b2).ls w.heap.size (by simp)).1).trans ((b2.block w.heap.size (S1.ls w.heap.size (by simp)).1).trans hz1)
    have S2 := (S1.below b2).alloc (.cells #[.int .i64 t, .int .i64 p, .int .i64 s] 44)
    have o2 := (((BS.start _).below b2).row o1).alloc (.cells #[.int .i64 t, .int .i64 p, .int .i64 s] 44)
    clear HD S0 S1 b2 b1 hz0 hz1 o1
    go_wp2_with fail
    refine (HO.out _ _ _ o2).mono ?_
   ·rintro e w3 ⟨rfl, b3⟩
    have S3 := S2.below b3
    have hz3 := (b3.block w.heap.size (S2.ls w.heap.size (by simp)).1).trans hz2
    obtain ⟨⟨d0, d1, d2⟩, j0, j1, j2⟩ := cells3 hz3
    clear hz3 HO HW b3 S2 hz2 o2 dd2 n1
    go_wp2
    refine bodyPost_ret (v := .tuple #[.agg #[.int .i64 0, .int .i64 0, .int .i64 0], .slice none 0 0, .bool false]) (by simp [results, Tryz.results15, go_sem, *]) rfl ⟨rfl, ?_⟩
    have hm : w.heap.size ∈ [w2.heap.size, w.heap.size] := by simp
    exact (((S3.setCell hm 0 _).setCell hm 1 _).setCell hm 2 _).bel
   ·rintro e w3 ⟨rfl, b3⟩
    have S3 := S2.below b3
    have hz3 := (b3.block w.heap.size (S2.ls w.heap.size (by simp)).1).trans hz2
    have d3 := ((BS.start _).below b3).oldbox dd2 (S2.ls w2.heap.size (by simp)).1
    have o3 := ((BS.start _).below b3).row o2
    obtain ⟨⟨d0, d1, d2⟩, j0, j1, j2⟩ := cells3 hz3
    clear HO HW b3 S2 hz2 hz3 o2 dd2 n1
    simp only [if_true]
    go_wp2
    refine bodyPost_ret (v := .tuple #[.agg #[.int .i64 t, .int .i64 p, .int .i64 s], .slice (some ⟨g, 0, none⟩) ws.length c, .bool true]) (by simp [results, Tryz.results15, go_sem, *]) rfl ⟨_, rfl, ?_, ?_⟩
    ·exact ownsRow_block o3 fun k hk => by simp [Value.ownBlock] at hk; subst hk; rw [heap_setCell_other hgne, heap_setCell_other hgne, heap_setCell_other hgne]
    ·have hm : w.heap.size ∈ [w2.heap.size, w.heap.size] := by simp
     exact (((S3.setCell hm 0 _).setCell hm 1 _).setCell hm 2 _).bel
end Go.Proofs.YtcbikgafdclhaaaGreat
/- the program's State; the same states. -/
set_option linter.unusedSimpArgs false
set_option linter.unusedVariables false
namespace Go.Proofs.YtcbikgafdclhaaaGreat
open Go.ChangeShapes Go.RowKit
/-- a state as a value: its blocks' row, and its roots. -/
def stV (v : Value) (f : Nat → Int) : Value := .agg #[v, .int .i64 (f 0), .int .i64 (f 1), .int .i64 (f 2), .int .i64 (f 3), .int .i64 (f 4), .int .i64 (f 5), .int .i64 (f 6), .int .i64 (f 7)]
def rootsV (vs : List Int) : Nat → Int := fun i => vs.getD (22 + i) 0
def eq8 (f g : Nat → Int) : Bool := f 0 == g 0 && (f 1 == g 1 && (f 2 == g 2 && (f 3 == g 3 && (f 4 == g 4 && (f 5 == g 5 && (f 6 == g 6 && f 7 == g 7))))))
theorem infoI64b : (Tryz.prog.info? 2).map (fun i => (i.zero, i.size, i.bytes)) = some (some (.int .i64 0), 1, 8) := by kernel_rfl
theorem run_items (P : Program) (d e c : Nat) (xs ys : Array Value) (W : World) (a b : Int) (k : IntKind) (i : Nat) (is : List Nat) (he : P.underlying e = some (.int k)) (hx : (part e xs (i * c)).run P W = .ok (.int k a) W) (hy : (part e ys (i * c)).run P W = .ok (.int k b) W) (r : Bool) (hr : (Op.eqItems (d + 1) e c xs ys is).run P W = .ok r W) :
 (Op.eqItems (d + 1) e c xs ys (i :: is)).run P W = .ok (a == b && r) W := by
 simp only [Op.eqItems, Sem.run_bind, hx, hy, Result.andThen_ok, run_equalIn_int W d e k k a b he]
 cases hab : a == b
 ·simp
 ·simp [hr]
theorem run_eq8 (f g : Nat → Int) (W : World) : (Op.equalIn 10000 36 (.agg #[.int .i64 (f 0), .int .i64 (f 1), .int .i64 (f 2), .int .i64 (f 3), .int .i64 (f 4), .int .i64 (f 5), .int .i64 (f 6), .int .i64 (f 7)]) (.agg #[.int .i64 (g 0), .int .i64 (g 1), .int .i64 (g 2), .int .i64 (g 3), .int .i64 (g 4), .int .i64 (g 5), .int .i64 (g 6), .int .i64 (g 7)])).run Tryz.prog W = .ok (eq8 f g) W := by
 obtain ⟨i0, hi0, -, -, -⟩ := info_parts infoI64b
 have hc : Tryz.prog.cellsOf 2 = 1 := by kernel_rfl
 rw [show (10000 : Nat) = 9999 + 1 from rfl, run_equalIn_array W 9999 _ _ Tryz.underlying36 hi0, hc]
 rw [show eq8 f g = (f 0 == g 0 && (f 1 == g 1 && (f 2 == g 2 && (f 3 == g 3 && (f 4 == g 4 && (f 5 == g 5 && (f 6 == g 6 && (f 7 == g 7 && true)))))))) by unfold eq8; simp]
 have hp : ∀ (h : Nat → Int) (i : Nat), i < 8 → (part 2 #[.int .i64 (h 0), .int .i64 (h 1), .int .i64 (h 2), .int .i64 (h 3), .int .i64 (h 4), .int .i64 (h 5), .int .i64 (h 6), .int .i64 (h 7)] (i * 1)).run Tryz.prog W = .ok (.int .i64 (h i)) W := by
  intro h i hi
  rcases (by omega : i = 0 ∨ i = 1 ∨ i = 2 ∨ i = 3 ∨ i = 4 ∨ i = 5 ∨ i = 6 ∨ i = 7) with rfl | rfl | rfl | rfl | rfl | rfl | rfl | rfl <;> simp [go_sem, Tryz.isAgg2]
 show (Op.eqItems 9999 2 1 _ _ [0, 1, 2, 3, 4, 5, 6, 7]).run Tryz.prog W = _
 refine run_items _ 9998 _ _ _ _ _ _ _ .i64 _ _ Tryz.underlying2 (hp f 0 (by omega)) (hp g 0 (by omega)) _ ?_
 refine run_items _ 9998 _ _ _ _ _ _ _ .i64 _ _ Tryz.underlying2 (hp f 1 (by omega)) (hp g 1 (by omega)) _ ?_
 refine run_items _ 9998 _ _ _ _ _ _ _ .i64 _ _ Tryz.underlying2 (hp f 2 (by omega)) (hp g 2 (by omega)) _ ?_
 refine run_items _ 9998 _ _ _ _ _ _ _ .i64 _ _ Tryz.underlying2 (hp f 3 (by omega)) (hp g 3 (by omega)) _ ?_
 refine run_items _ 9998 _ _ _ _ _ _ _ .i64 _ _ Tryz.underlying2 (hp f 4 (by omega)) (hp g 4 (by omega)) _ ?_
 refine run_items _ 9998 _ _ _ _ _ _ _ .i64 _ _ Tryz.underlying2 (hp f 5 (by omega)) (hp g 5 (by omega)) _ ?_
 refine run_items _ 9998 _ _ _ _ _ _ _ .i64 _ _ Tryz.underlying2 (hp f 6 (by omega)) (hp g 6 (by omega)) _ ?_
 refine run_items _ 9998 _ _ _ _ _ _ _ .i64 _ _ Tryz.underlying2 (hp f 7 (by omega)) (hp g 7 (by omega)) _ ?_
 simp [Op.eqItems]
/-- how far two lists are the same. -/
def EqTo (l1 l2 : List (Int × Int)) (k : Nat) : Prop := ∀ j, j < k → l1[j]? = l2[j]?
theorem eqL_no {l1 l2 : List (Int × Int)} {k : Nat} {x y : Int × Int} (hx : l1[k]? = some x) (hy : l2[k]? = some y) (h : x ≠ y) : decide (l1 = l2) = false := by
 rw [decide_eq_false_iff_not]
 intro e
 rw [e, hy] at hx
 exact h (Option.some.inj hx).symm
theorem eqL_step {l1 l2 : List (Int × Int)} {k : Nat} (h : EqTo l1 l2 k) (hk : l1[k]? = l2[k]?) : EqTo l1 l2 (k + 1) := fun j hj => by
 by_cases e : j = k
 ·rw [e]; exact hk
 ·exact h j (by omega)
theorem eqL_yes {l1 l2 : List (Int × Int)} (hl : l1.length = l2.length) (h : EqTo l1 l2 l1.length) : decide (l1 = l2) = true := by
 rw [decide_eq_true_iff]
 apply List.ext_getElem?
 intro j
 by_cases hj : j < l1.length
 ·exact h j hj
 ·rw [List.getElem?_eq_none (by omega), List.getElem?_eq_none (by omega)]
theorem eqL_len {l1 l2 : List (Int × Int)} (hl : l1.length ≠ l2.length) : decide (l1 = l2) = false := by
 rw [decide_eq_false_iff_not]
 exact fun e => hl (by rw [e])
def EqRel (l1 l2 : List (Int × Int)) (w : World) (i : Value) (wr : World) : Prop := ∃ k : Nat, k ≤ l1.length ∧ i = .int .i64 k ∧ EqTo l1 l2 k ∧ Below w.heap.size w wr
section
variable (l1 l2 : List (Int × Int)) (va vb : Value) (f g : Nat → Int) (w : World)
set_option maxHeartbeats 4000000 in
set_option maxRecDepth 100000 in
theorem rsame_any (ha : w.ownsRow 0 80 2 va l1.length (blockCells l1)) (hb : w.ownsRow 0 80 2 vb l2.length (blockCells l2)) (h1 : l1.length ≤ 4294967296) (h2 : l2.length ≤ 4294967296) :
 Calls Tryz.prog 17 #[stV va f, stV vb g] w fun e w' => e = .returned (.bool (decide (l1 = l2) && eq8 f g)) ∧ Below w.heap.size w w' := by
 have hca := blockCells_len l1
 have hcb := blockCells_len l2
 obtain ⟨pa, ca, rfl⟩ := row_shape ha
 obtain ⟨pb, cb, rfl⟩ := row_shape hb
 have S2 := ((BS.start w).alloc (.cells #[.slice pa l1.length ca, .int .i64 (f 0), .int .i64 (f 1), .int .i64 (f 2), .int .i64 (f 3), .int .i64 (f 4), .int .i64 (f 5), .int .i64 (f 6), .int .i64 (f 7)] 38)).alloc (.cells #[.slice pb l2.length cb, .int .i64 (g 0), .int .i64 (g 1), .int .i64 (g 2), .int .i64 (g 3), .int .i64 (g 4), .int .i64 (g 5), .int .i64 (g 6), .int .i64 (g 7)] 38)
 have c1 := loc_old (.cells #[.slice pb l2.length cb, .int .i64 (g 0), .int .i64 (g 1), .int .i64 (g 2), .int .i64 (g 3), .int .i64 (g 4), .int .i64 (g 5), .int .i64 (g 6), .int .i64 (g 7)] 38) (by simp) (loc_alloc w #[.slice pa l1.length ca, .int .i64 (f 0), .int .i64 (f 1), .int .i64 (f 2), .int .i64 (f 3), .int .i64 (f 4), .int .i64 (f 5), .int .i64 (f 6), .int .i64 (f 7)] 38)
 have c2 := loc_alloc (w.alloc (.cells #[.slice pa l1.length ca, .int .i64 (f 0), .int .i64 (f 1), .int .i64 (f 2), .int .i64 (f 3), .int .i64 (f 4), .int .i64 (f 5), .int .i64 (f 6), .int .i64 (f 7)] 38)) #[.slice pb l2.length cb, .int .i64 (g 0), .int .i64 (g 1), .int .i64 (g 2), .int .i64 (g 3), .int .i64 (g 4), .int .i64 (g 5), .int .i64 (g 6), .int .i64 (g 7)] 38
 have ha2 := S2.row ha
 have hb2 := S2.row hb
 have hE := run_eq8 f g
 unfold stV
 generalize eq8 f g = y at *
 generalize f 0 = f0 at *
 generalize f 1 = f1 at *
 generalize f 2 = f2 at *
 generalize f 3 = f3 at *
 generalize f 4 = f4 at *
 generalize f 5 = f5 at *
 generalize f 6 = f6 at *
 generalize f 7 = f7 at *
 generalize g 0 = g0 at *
 generalize g 1 = g1 at *
 generalize g 2 = g2 at *
 generalize g 3 = g3 at *
 generalize g 4 = g4 at *
 generalize g 5 = g5 at *
 generalize g 6 = g6 at *
 generalize g 7 = g7 at *
 simp only [World.size_alloc] at c2
 have HA := Lib.hid (fun _ : Unit => ha2)
 have HB := Lib.hid (fun _ : Unit => hb2)
 have HS2 := Lib.hid S2.bel
 have HC := Lib.hid (fun _ : Unit => And.intro c1 c2)
 clear ha hb ha2 hb2 S2
 by_cases hll : l1.length = l2.length
 ·have hlb : ((l1.length : Int) != l2.length) = false := by simp [hll]
  have HLL := Lib.hid hll
  clear hll
  cases y
  ·skip
   go_enter Tryz.func17, Tryz.ntmps17
   go_wp2
   go_ret
   exact ⟨ret_bool (by simp), HS2.out⟩
  ·skip
   go_enter Tryz.func17, Tryz.ntmps17
   go_wp2_with fail
   clear hE
   go_loopw [5] (fun i wr => EqRel l1 l2 ((w.alloc (.cells #[.slice pa l1.length ca, .int .i64 f0, .int .i64 f1, .int .i64 f2, .int .i64 f3, .int .i64 f4, .int .i64 f5, .int .i64 f6, .int .i64 f7] 38)).alloc (.cells #[.slice pb l2.length cb, .int .i64 g0, .int .i64 g1, .int .i64 g2, .int .i64 g3, .int .i64 g4, .int .i64 g5, .int .i64 g6, .int .i64 g7] 38)) i wr) (fun i _ => l1.length - (intOf i).toNat)
   case atStart => exact ⟨0, by omega, rfl, fun j hj => by omega, Below.refl _ _⟩
   case round =>
    clear c1 c2
    obtain ⟨k, hk, rfl, hno, hbe⟩ := hrel
    have s0 : wr.cell? ⟨w.heap.size, 0, none⟩ = some (.slice pa l1.length ca) := ((BS.start _).below hbe).oldbox (HC.out ()).1 (by simp; omega) 0
    have s1 : wr.cell? ⟨w.heap.size + 1, 0, none⟩ = some (.slice pb l2.length cb) := ((BS.start _).below hbe).oldbox (HC.out ()).2 (by simp) 0
    have HBe := Lib.hid (HS2.out.trans (hbe.mono HS2.out.size))
    have HB2 := Lib.hid (fun _ : Unit => hbe)
    by_cases hlt : k < l1.length
    ·have hkl : (k : Int) < l1.length := by omega
     obtain ⟨⟨a1, a2⟩, hx⟩ : ∃ x, l1[k]? = some x := ⟨_, List.getElem?_eq_getElem hlt⟩
     obtain ⟨⟨b1, b2⟩, hy⟩ : ∃ x, l2[k]? = some x := ⟨_, List.getElem?_eq_getElem (by have := HLL.out; omega)⟩
     have hra := ((BS.start _).below hbe).row (HA.out ())
     have hrb := ((BS.start _).below hbe).row (HB.out ())
     obtain ⟨ga, cap, hg⟩ := Joins.ownsRow_form hra (by omega)
     simp only [Value.slice.injEq, true_and] at hg
     obtain ⟨rfl, rfl⟩ := hg
     obtain ⟨gb, cap, hg⟩ := Joins.ownsRow_form hrb (by have := HLL.out; omega)
     simp only [Value.slice.injEq, true_and] at hg
     obtain ⟨rfl, rfl⟩ := hg
     obtain ⟨p0, p1⟩ := block_cell hx
     obtain ⟨r0, r1⟩ := block_cell hy
     have q0 := (hra.cellAt (k * 2) (by omega)).trans p0
     have q1 := (hra.cellAt (k * 2 + 1) (by omega)).trans p1
     have u0 := (hrb.cellAt (k * 2) (by have := HLL.out; omega)).trans r0
     have u1 := (hrb.cellAt (k * 2 + 1) (by have := HLL.out; omega)).trans r1
     have HNo := Lib.hid (fun h : (a1, a2) ≠ (b1, b2) => eqL_no hx hy h)
     have HYes := Lib.hid (fun h : (a1, a2) = (b1, b2) => eqL_step hno (hx.trans (h ▸ hy.symm)))
     clear p0 p1 r0 r1 hx hy hra hrb hno hbe HA HB HC HS2
     have hkl2 : (k : Int) < l2.length := by have := HLL.out; omega
     dsimp only at q0 q1 u0 u1
     by_cases e1 : a1 = b1
     ·by_cases e2 : a2 = b2
      ·have HS := Lib.hid (HYes.out (by rw [e1, e2]))
       subst e1 e2
       clear HNo HYes
       go_wp2_with fail
       refine wp_region_noPanic ?_
       refine wp_region_held_drew (S := fun w' => (w'.cell? ⟨w.heap.size, 0, none⟩ = some (.slice (some ⟨ga, 0, none⟩) l1.length ca) ∧ w'.cell? ⟨w.heap.size + 1, 0, none⟩ = some (.slice (some ⟨gb, 0, none⟩) l2.length cb)) ∧ (w'.cell? ⟨ga, k * 2, none⟩ = some (.int .i64 a1) ∧ w'.cell? ⟨ga, k * 2 + 1, none⟩ = some (.int .i64 a2)) ∧ w'.cell? ⟨gb, k * 2, none⟩ = some (.int .i64 a1) ∧ w'.cell? ⟨gb, k * 2 + 1, none⟩ = some (.int .i64 a2)) (by kernel_rfl) ?_ (fun hHeld => ?_)
       ·exact ⟨⟨s0, s1⟩, ⟨q0, q1⟩, u0, u1⟩
       refine wT 0 ?_
       refine wT 1 ?_
       refine wT 2 ?_
       refine wT 3 ?_
       refine wT 4 ?_
       refine wT 5 ?_
       refine wT 6 ?_
       refine wT 7 ?_
       refine wT 8 ?_
       refine wT 9 ?_
       refine wT 10 ?_
       refine wpAnyH_done (by kernel_rfl) (NoPanic.normal ?_) _
       go_wp2_with fail
       go_roundw
       case rel => exact ⟨k + 1, by omega, by go_num, HS.out, (HB2.out ()).drew⟩
       case measure => simp [intOf]; omega
      ·have hb2 : (a2 == b2) = false := by simpa using e2
       have HN := Lib.hid (HNo.out (by simp [e2]))
       subst e1
       clear HNo HYes e2
       go_wp2_with fail
       refine wp_region_noPanic ?_
       refine wp_region_held_drew (S := fun w' => (w'.cell? ⟨w.heap.size, 0, none⟩ = some (.slice (some ⟨ga, 0, none⟩) l1.length ca) ∧ w'.cell? ⟨w.heap.size + 1, 0, none⟩ = some (.slice (some ⟨gb, 0, none⟩) l2.length cb)) ∧ (w'.cell? ⟨ga, k * 2, none⟩ = some (.int .i64 a1) ∧ w'.cell? ⟨ga, k * 2 + 1, none⟩ = some (.int .i64 a2)) ∧ w'.cell? ⟨gb, k * 2, none⟩ = some (.int .i64 a1) ∧ w'.cell? ⟨gb, k * 2 + 1, none⟩ = some (.int .i64 b2)) (by kernel_rfl) ?_ (fun hHeld => ?_)
       ·exact ⟨⟨s0, s1⟩, ⟨q0, q1⟩, u0, u1⟩
       refine wT 0 ?_
       refine wT 1 ?_
       refine wT 2 ?_
       refine wT 3 ?_
       refine wT 4 ?_
       refine wT 5 ?_
       refine wT 6 ?_
       refine wT 7 ?_
       refine wT 8 ?_
       refine wT 9 ?_
       refine wT 10 ?_
       refine wpAnyH_done (by kernel_rfl) (NoPanic.normal ?_) _
       go_wp2
       go_ret
       exact ⟨ret_bool (by simp [HN.out]), HBe.out.drew⟩
     ·have hb1 : (a1 == b1) = false := by simpa using e1
      have HN := Lib.hid (HNo.out (by simp [e1]))
      clear HNo HYes e1
      go_wp2_with fail
      refine wp_region_noPanic ?_
      refine wp_region_held_drew (S := fun w' => (w'.cell? ⟨w.heap.size, 0, none⟩ = some (.slice (some ⟨ga, 0, none⟩) l1.length ca) ∧ w'.cell? ⟨w.heap.size + 1, 0, none⟩ = some (.slice (some ⟨gb, 0, none⟩) l2.length cb)) ∧ (w'.cell? ⟨ga, k * 2, none⟩ = some (.int .i64 a1) ∧ w'.cell? ⟨ga, k * 2 + 1, none⟩ = some (.int .i64 a2)) ∧ w'.cell? ⟨gb, k * 2, none⟩ = some (.int .i64 b1) ∧ w'.cell? ⟨gb, k * 2 + 1, none⟩ = some (.int .i64 b2)) (by kernel_rfl) ?_ (fun hHeld => ?_)
      ·exact ⟨⟨s0, s1⟩, ⟨q0, q1⟩, u0, u1⟩
      refine wT 0 ?_
      refine wT 1 ?_
      refine wT 2 ?_
      refine wT 3 ?_
      refine wT 4 ?_
      refine wT 5 ?_
      refine wT 6 ?_
      refine wT 7 ?_
      refine wT 8 ?_
      refine wT 9 ?_
      refine wT 10 ?_
      refine wpAnyH_done (by kernel_rfl) (NoPanic.normal ?_) _
      go_wp2
      go_ret
      exact ⟨ret_bool (by simp [HN.out]), HBe.out.drew⟩
    ·have hkl : ¬ (k : Int) < l1.length := by omega
     have hke : k = l1.length := by omega
     rw [hke] at hno
     have HY := Lib.hid (eqL_yes HLL.out hno)
     clear hno hke hbe HA HB HC HS2
     go_wp2
     go_ret
     exact ⟨ret_bool (by simp [HY.out]), HBe.out⟩
 ·have hlb : ((l1.length : Int) != l2.length) = true := by simp; omega
  have HN := Lib.hid (eqL_len hll)
  clear hll
  go_enter Tryz.func17, Tryz.ntmps17
  go_wp2
  go_ret
  exact ⟨ret_bool (by simp [HN.out]), HS2.out⟩
end
end Go.Proofs.YtcbikgafdclhaaaGreat
/- the program's State; the walk of AuditStates. -/
set_option linter.unusedSimpArgs false
set_option linter.unusedVariables false
namespace Go.Proofs.YtcbikgafdclhaaaGreat
open Go.ChangeShapes Go.RowKit
def zeroSt : Array Value := #[.slice none 0 0, .int .i64 0, .int .i64 0, .int .i64 0, .int .i64 0, .int .i64 0, .int .i64 0, .int .i64 0, .int .i64 0]
section
variable {w : World} {t p s : Int}
/-- the program's State under way: its roots' box. -/
def PStR (w2 : World) (v : Value) (vs : List Int) (i : Value) (wr : World) : Prop := ∃ k : Nat, k ≤ 8 ∧ i = .int .i64 k ∧ BA w2 [] w2.heap.size (stateC v vs k) 38 wr
end
section
variable {w : World} {t s : Int} {P : Nat} {ad : Addr} {n : Nat} {vs : List Int}
set_option maxHeartbeats 4000000 in
set_option maxRecDepth 100000 in
theorem pstate_heap (h : XV w t P s ad n vs) (c : Nat) (hs : (chkF vs t P s).2 = true) : Calls Tryz.prog 30 #[.agg #[.int .i64 t, .int .i64 P, .int .i64 s], .slice (some ad) n c] w fun e W' => ∃ v, e = .returned (.tuple #[stV v (rootsV vs), .bool true]) ∧ RowB w (blocksF vs t P s) v W' := by
 have S0 := ((BS.start w).alloc (.cells #[.int .i64 t, .int .i64 P, .int .i64 s] 44)).alloc (.cells zeroSt 38)
 have H := Lib.hid (psee_any (h.keep S0.bel) c (h.keep S0.bel).old)
 have hp := (chk_eq vs t P s).2.2.2 hs
 have ht := chk_tiles hs
 have HPl := Lib.hid (parts_law (s := s) ht)
 unfold SeeP at H
 rw [hp, hs] at H
 have HSp := Lib.hid (sp_in ht)
 have hz : ((w.alloc (.cells #[.int .i64 t, .int .i64 P, .int .i64 s] 44)).alloc (.cells zeroSt 38)).heap[w.heap.size + 1]? = some (.cells zeroSt 38) := hb_alloc _ _ _ (by simp)
 simp only [World.size_alloc] at S0
 have HZ := Lib.hid hz
 have HS := Lib.hid S0
 have HRo := Lib.hid (fun (k : Nat) w (h : k < 8) => pproot_any k w h)
 unfold zeroSt at *
 clear h hs hp ht hz S0
 go_enter Tryz.func30, Tryz.ntmps30
 go_wp2_with fail
 refine H.out.mono ?_
 rintro e w1 ⟨b, mb, rfl, r1, hx⟩
 have HX := Lib.hid (hx trivial)
 have hz1 := Lib.hid ((r1.block (w.heap.size + 1) (by simp)).trans HZ.out)
 have S1 := Lib.hid (HS.out.below r1)
 clear hx HZ HS r1 H
 go_wp2_with fail
 obtain ⟨g, ml, h1, h2⟩ := HX.out
 have HP := Lib.hid (pblocks_any _ w1 ml g P _ h1 h2 HSp.out)
 rw [HPl.out] at HP
 clear h2
 refine HP.out.mono ?_
 rintro e w2 ⟨v, rfl, q1, q2, q3⟩
 have hbl : liveL (partsF vs t P s) = blocksF vs t P s := rfl
 rw [hbl] at q1
 obtain ⟨m, hml⟩ : ∃ m, (blocksF vs t P s).length = m := ⟨_, rfl⟩
 rw [hml] at q1
 have HM := Lib.hid hml
 obtain ⟨va, vc, rfl⟩ := row_shape q1
 clear hbl hml
 have S2 := Lib.hid (S1.out.below q3)
 have HL2 := Lib.hid (h1.lk.keep q3)
 have hz2 := Lib.hid ((q3.block (w.heap.size + 1) (S1.out.ls (w.heap.size + 1) (by simp)).1).trans hz1.out)
 have HRow := Lib.hid q1
 have HFar := Lib.hid (fun k hk => Nat.le_trans S1.out.bel.size (q2 k hk))
 have A2 : BA w2 [] w2.heap.size (stateC (.slice va m vc) vs 0) 38 (w2.alloc (.cells (stateC (.slice va m vc) vs 0) 38)) := (BS.start w2).allocd _ _
 have hzs : stateC (.slice va m vc) vs 0 = #[.slice va m vc, .int .i64 0, .int .i64 0, .int .i64 0, .int .i64 0, .int .i64 0, .int .i64 0, .int .i64 0, .int .i64 0] := by simp [stateC, rootV]
 have HA2 : RowKit.Hid (PStR w2 (.slice va m vc) vs (.int .i64 0) (w2.alloc (.cells #[.slice va m vc, .int .i64 0, .int .i64 0, .int .i64 0, .int .i64 0, .int .i64 0, .int .i64 0, .int .i64 0, .int .i64 0] 38))) := Lib.hid ⟨0, by omega, rfl, by rw [← hzs]; exact A2⟩
 clear q1 q2 q3 h1 HX hz1 S1 HP HPl A2 hzs HSp
 go_wp2_with fail
 go_loopw [9, 22] (fun _ i wr => PStR w2 (.slice va m vc) vs i wr) (fun _ i _ => 8 - (intOf i).toNat)
 case atStart => exact HA2.out
 case round =>
  clear HA2
  obtain ⟨k, hk, rfl, hA⟩ := hrel
  by_cases hlt : k < 8
  ·have HAk := Lib.hid hA
   have hkl : (k : Int) < 8 := by omega
   clear hA
   go_wp2_with fail
   refine (HRo.out k _ hlt).mono ?_
   rintro e w3 ⟨rfl, b3⟩
   have A3 := Lib.hid (HAk.out.step (HAk.out.bs.below b3) (fun L hL => b3.block L (HAk.out.bs.ls L hL).1))
   clear HAk b3
   have L3 := HL2.out.keep A3.out.bs.bel
   have bd := L3.xv.bd
   have G3 := Lib.hid (pget_any (22 + k) w3 L3 (by omega))
   have hub := getD_u32 L3.xv.u32 (22 + k)
   unfold VS.U32 at hub
   clear L3 bd
   generalize hmk : 22 + k = mk at *
   generalize hvx : vs.getD mk 0 = x at *
   have HVx := Lib.hid hvx
   clear hvx
   go_wp2_with fail
   refine G3.out.mono ?_
   rintro e w4 ⟨rfl, b4⟩
   have A4 := A3.out.step (A3.out.bs.below b4) (fun L hL => b4.block L (A3.out.bs.ls L hL).1)
   obtain ⟨z, hz3⟩ := stateC_at (.slice va m vc) vs k hlt
   have q3 : w4.cell? ⟨w2.heap.size, 1 + k, none⟩ = some z := (cell?_of_heap A4.box).trans hz3
   have f3 : w4.frozen? ⟨w2.heap.size, 1 + k, none⟩ = false := frozen?_of_heap A4.box
   have hw : IntKind.i64.wrap x = x := wrap_in _ (by omega)
   have hset := A4.set (1 + k) (.int .i64 x)
   rw [← HVx.out, ← hmk, stateC_step _ _ _ hlt, hmk, HVx.out] at hset
   have HS4 := Lib.hid hset
   clear A4 A3 G3 b4 hz3 hset
   go_wp2
   go_roundw
   case rel => exact ⟨k + 1, by omega, by go_num, HS4.out⟩
   case measure => simp [intOf]; omega
  ·have h8 : k = 8 := by omega
   have hkl : ¬ (k : Int) < 8 := by omega
   rw [h8] at hA
   have hbx : wr.heap[w2.heap.size]? = some (.cells #[.slice va m vc, .int .i64 (rootsV vs 0), .int .i64 (rootsV vs 1), .int .i64 (rootsV vs 2), .int .i64 (rootsV vs 3), .int .i64 (rootsV vs 4), .int .i64 (rootsV vs 5), .int .i64 (rootsV vs 6), .int .i64 (rootsV vs 7)] 38) := hA.box
   have hbl2 := hA.bs.bel
   have h0 := (hbl2.block (w.heap.size + 1) (S2.out.ls (w.heap.size + 1) (by simp)).1).trans hz2.out
   have Sr := Lib.hid (S2.out.below hbl2)
   have HRr := Lib.hid (((BS.start _).below hbl2).row HRow.out)
   have hne2 : w.heap.size + 1 ≠ w2.heap.size := by have := (S2.out.ls (w.heap.size + 1) (by simp)).1; omega
   have hne3 : ∀ b, (Value.slice va m vc).ownBlock = some b → b ≠ w.heap.size + 1 := fun b hb e => ownsRow_elem HRr.out h0 (by decide) (by rw [hb, e])
   have HNe := Lib.hid hne3
   obtain ⟨f, hf⟩ : ∃ f, rootsV vs = f := ⟨_, rfl⟩
   rw [hf] at hbx
   have HFf := Lib.hid hf
   clear hf
   have a0 := cell?_of_heap (o := 0) hbx
   have a1 := cell?_of_heap (o := 1) hbx
   have a2 := cell?_of_heap (o := 2) hbx
   have a3 := cell?_of_heap (o := 3) hbx
   have a4 := cell?_of_heap (o := 4) hbx
   have a5 := cell?_of_heap (o := 5) hbx
   have a6 := cell?_of_heap (o := 6) hbx
   have a7 := cell?_of_heap (o := 7) hbx
   have a8 := cell?_of_heap (o := 8) hbx
   have d0 := cell?_of_heap (o := 0) h0
   have d1 := cell?_of_heap (o := 1) h0
   have d2 := cell?_of_heap (o := 2) h0
   have d3 := cell?_of_heap (o := 3) h0
   have d4 := cell?_of_heap (o := 4) h0
   have d5 := cell?_of_heap (o := 5) h0
   have d6 := cell?_of_heap (o := 6) h0
   have d7 := cell?_of_heap (o := 7) h0
   have d8 := cell?_of_heap (o := 8) h0
   have j0 := frozen?_of_heap (o := 0) h0
   have j1 := frozen?_of_heap (o := 1) h0
   have j2 := frozen?_of_heap (o := 2) h0
   have j3 := frozen?_of_heap (o := 3) h0
   have j4 := frozen?_of_heap (o := 4) h0
   have j5 := frozen?_of_heap (o := 5) h0
   have j6 := frozen?_of_heap (o := 6) h0
   have j7 := frozen?_of_heap (o := 7) h0
   have j8 := frozen?_of_heap (o := 8) h0
   simp at a0 a1 a2 a3 a4 a5 a6 a7 a8 d0 d1 d2 d3 d4 d5 d6 d7 d8
   clear hA hbx hbl2 h0 hz2 HL2 S2 hne3 hk h8
   go_wp2
   refine bodyPost_ret (v := .tuple #[.agg #[.slice va m vc, .int .i64 (f 0), .int .i64 (f 1), .int .i64 (f 2), .int .i64 (f 3), .int .i64 (f 4), .int .i64 (f 5), .int .i64 (f 6), .int .i64 (f 7)], .bool true]) (by simp [results, Tryz.results30, go_sem, *]) rfl ⟨.slice va m vc, by rw [HFf.out]; rfl, ?_, HFar.out, ?_⟩
   ·rw [HM.out]
    refine ownsRow_block HRr.out (fun b hb => ?_)
    have hnb := HNe.out b hb
    repeat rw [heap_setCell_other hnb]
   ·have hm : w.heap.size + 1 ∈ [w.heap.size + 1, w.heap.size] := by simp
    exact (((((((((Sr.out.setCell hm 0 _).setCell hm 1 _).setCell hm 2 _).setCell hm 3 _).setCell hm 4 _).setCell hm 5 _).setCell hm 6 _).setCell hm 7 _).setCell hm 8 _).bel
end
end Go.Proofs.YtcbikgafdclhaaaGreat
/- open: what a heap of bytes holds. -/
set_option linter.unusedSimpArgs false
set_option linter.unusedVariables false
namespace Go.Proofs.YtcbikgafdclhaaaGreat
open Go.ChangeShapes Go.RowKit

def vsOf (t p s : Int) (ws : List Int) : List Int := (settleF t p s ws).getD []
theorem mem_settle {t p s : Int} {ws : List Int} (h : memB t p s ws = true) : settleF t p s ws = some (vsOf t p s ws) ∧ (chkF (vsOf t p s ws) t p s).2 = true := by
 unfold memB at h
 simp only [Bool.and_eq_true] at h
 have h2 := h.2
 split at h2
 ·simp only [Bool.and_eq_true] at h2
  have h3 := h2.2.2
  split at h3
  ·rename_i vs hv
   unfold vsOf
   rw [hv]
   exact ⟨rfl, h3⟩
  ·cases h3
 ·cases h2
theorem cells9 {w : World} {T : TypeId} {L : Nat} {x0 x1 x2 x3 x4 x5 x6 x7 x8 : Value} (h : w.heap[L]? = some (.cells #[x0, x1, x2, x3, x4, x5, x6, x7, x8] T)) :
 (w.cell? ⟨L, 0, none⟩ = some x0 ∧ w.cell? ⟨L, 1, none⟩ = some x1 ∧ w.cell? ⟨L, 2, none⟩ = some x2 ∧ w.cell? ⟨L, 3, none⟩ = some x3 ∧ w.cell? ⟨L, 4, none⟩ = some x4 ∧ w.cell? ⟨L, 5, none⟩ = some x5 ∧ w.cell? ⟨L, 6, none⟩ = some x6 ∧ w.cell? ⟨L, 7, none⟩ = some x7 ∧ w.cell? ⟨L, 8, none⟩ = some x8) ∧
 w.frozen? ⟨L, 0, none⟩ = false ∧ w.frozen? ⟨L, 1, none⟩ = false ∧ w.frozen? ⟨L, 2, none⟩ = false ∧ w.frozen? ⟨L, 3, none⟩ = false ∧ w.frozen? ⟨L, 4, none⟩ = false ∧ w.frozen? ⟨L, 5, none⟩ = false ∧ w.frozen? ⟨L, 6, none⟩ = false ∧ w.frozen? ⟨L, 7, none⟩ = false ∧ w.frozen? ⟨L, 8, none⟩ = false :=
 ⟨⟨cell?_of_heap h, cell?_of_heap h, cell?_of_heap h, cell?_of_heap h, cell?_of_heap h, cell?_of_heap h, cell?_of_heap h, cell?_of_heap h, cell?_of_heap h⟩, frozen?_of_heap h, frozen?_of_heap h, frozen?_of_heap h, frozen?_of_heap h, frozen?_of_heap h, frozen?_of_heap h, frozen?_of_heap h, frozen?_of_heap h, frozen?_of_heap h⟩
def StQ (w : World) (r : Option (List Int × Int × Int × Int)) (e : Ending) (w' : World) : Prop := match r with
 | none => e = .returned (.tuple #[.agg zeroSt, .int .i64 9]) ∧ Below w.heap.size w w'
 | some (ws, t, p, s) => ∃ v, e = .returned (.tuple #[stV v (rootsV (vsOf t p s ws)), .int .i64 0]) ∧ RowB w (blocksF (vsOf t p s ws) t p s) v w'
theorem ast_row {t p s : Int} {vs : List Int} {w : World} {v : Value} (R : w.ownsRow 0 90 1 v vs.length (uints vs)) (hr : rightB t p s = true) (hu : ∀ x ∈ vs, VS.U32 x) (hn : (vs.length : Int) = cellsN t p) (hp : p ≤ 1024) (hs : (chkF vs t p s).2 = true) :
 Calls Tryz.prog 30 #[.agg #[.int .i64 t, .int .i64 p, .int .i64 s], v] w fun e W' => ∃ v', e = .returned (.tuple #[stV v' (rootsV vs), .bool true]) ∧ RowB w (blocksF vs t p s) v' W' := by
 have bd := right_bd hr
 obtain ⟨P, rfl⟩ : ∃ P : Nat, p = P := ⟨p.toNat, by omega⟩
 obtain ⟨ad, c, rfl, hx⟩ := (Rd.of_row R).xv hu hr hp hn
 exact pstate_heap hx c hs
theorem rst_row {t p s : Int} {vs : List Int} {w : World} {v : Value} (R : w.ownsRow 0 90 1 v vs.length (uints vs)) (hr : rightB t p s = true) (hu : ∀ x ∈ vs, VS.U32 x) (hn : (vs.length : Int) = cellsN t p) (hp : p ≤ 1024) (hs : (chkF vs t p s).2 = true) :
 Calls Tryz.prog 32 #[.agg #[.int .i64 t, .int .i64 p, .int .i64 s], v] w fun e W' => ∃ v', e = .returned (.tuple #[stV v' (rootsV vs), .bool true]) ∧ RowB w (blocksF vs t p s) v' W' := by
 have bd := right_bd hr
 obtain ⟨P, rfl⟩ : ∃ P : Nat, p = P := ⟨p.toNat, by omega⟩
 obtain ⟨ad, c, rfl, hx⟩ := (Rd.of_row R).xv hu hr hp hn
 exact rstate_any c w hx hs
set_option maxHeartbeats 4000000 in
set_option maxRecDepth 100000 in
theorem pstate37_any (v : Value) (r : Option (List Int)) (w : World) (hW : ∀ W, Below w.heap.size w W → Calls Tryz.prog 6 #[v] W (WdQ W r)) (hu : ∀ ws, r = some ws → ∀ x ∈ ws, U64 x) (hfew : ∀ ws t p s, memR r = some (ws, t, p, s) → p ≤ 1024) :
 Calls Tryz.prog 13 #[v] w (StQ w (memR r)) := by
 have S0 := (BS.start w).alloc (.cells zeroSt 38)
 have hz0 := heap_alloc_new w (.cells zeroSt 38)
 have HO := Lib.hid (fun (W : World) (hb : Below w.heap.size w W) => open_any v r W (fun W2 h2 => hW W2 (hb.trans (h2.mono hb.size))) hu)
 have HW := Lib.hid hW
 clear hW
 cases hm : memR r with
 | none =>
  rw [hm] at HO
  clear hm hu hfew HW
  unfold zeroSt at S0 hz0
  go_enter Tryz.func13, Tryz.ntmps13
  go_wp2_with fail
  refine (HO.out _ S0.bel).mono ?_
  rintro e w1 ⟨rfl, b1⟩
  have S1 := S0.below b1
  have hz1 := (b1.block w.heap.size (by simp)).trans hz0
  obtain ⟨⟨d0, d1, d2, d3, d4, d5, d6, d7, d8⟩, j0, j1, j2, j3, j4, j5, j6, j7, j8⟩ := cells9 hz1
  clear hz1 b1 S0 HO hz0
  go_wp2
  refine bodyPost_ret (v := .tuple #[.agg #[.slice none 0 0, .int .i64 0, .int .i64 0, .int .i64 0, .int .i64 0, .int .i64 0, .int .i64 0, .int .i64 0, .int .i64 0], .int .i64 9]) (by simp [results, Tryz.results13, go_sem, *]) rfl ⟨rfl, ?_⟩
  have hm : w.heap.size ∈ [w.heap.size] := by simp
  exact (((((((((S1.setCell hm 0 _).setCell hm 1 _).setCell hm 2 _).setCell hm 3 _).setCell hm 4 _).setCell hm 5 _).setCell hm 6 _).setCell hm 7 _).setCell hm 8 _).bel
 | some x =>
  obtain ⟨ws, t, p, s⟩ := x
  obtain ⟨rfl, hd, hmm⟩ := memR_some hm
  have hp := hfew _ _ _ _ hm
  rw [hm] at HO
  have hus := hu ws rfl
  obtain ⟨hr, hh⟩ := dec_right hd
  have h8 := dec_len hd
  obtain ⟨hst, hck⟩ := mem_settle hmm
  obtain ⟨-, hcn, hvu⟩ := settle_vals hst
  have HD := Lib.hid (fun (W : World) v (R : W.ownsRow 0 61 1 v ws.length (ulongs ws)) => decode_row R hus)
  rw [hd] at HD
  have hnum := mem_num hmm
  have HSt := Lib.hid (show ∀ (W : World) g c, W.ownsRow 0 61 1 (.slice (some ⟨g, 0, none⟩) ws.length c) ws.length (ulongs ws) → Calls Tryz.prog 29 #[.agg #[.int .i64 t, .int .i64 p, .int .i64 s], .slice (some ⟨g, 0, none⟩) ws.length c] W (SetQ W (settleF t p s ws)) from fun W g c R => by
   obtain ⟨hz, hc⟩ := row_wz R hus
   exact psettle_any (hz.wx hr hnum) c hc)
  rw [hst] at HSt
  have HA := Lib.hid (fun (W : World) v (R : W.ownsRow 0 90 1 v (vsOf t p s ws).length (uints (vsOf t p s ws))) => ast_row R hr hvu hcn hp hck)
  have H8 := Lib.hid h8
  clear hm hu hfew hd hus hr hh h8 hst hck hcn hvu hnum hmm hp
  unfold StQ
  dsimp only
  unfold stV at HA ⊢
  generalize blocksF (vsOf t p s ws) t p s = l at *
  generalize rootsV (vsOf t p s ws) = f at *
  generalize vsOf t p s ws = vs at *
  generalize f 0 = f0, f 1 = f1, f 2 = f2, f 3 = f3, f 4 = f4, f 5 = f5, f 6 = f6, f 7 = f7 at *
  clear f
  unfold zeroSt at S0 hz0
  go_enter Tryz.func13, Tryz.ntmps13
  go_wp2_with fail
  refine (HO.out _ S0.bel).mono ?_
  rintro e w1 ⟨b, rfl, -, b1⟩
  have S1 := S0.below b1
  have hz1 := (b1.block w.heap.size (by simp)).trans hz0
  clear HO hz0 S0 b1
  go_wp2_with fail
  refine (HW.out _ S1.bel).mono ?_
  rintro e w2 ⟨v2, rfl, o2, -, b2⟩
  obtain ⟨g, c, rfl⟩ := row_form8 o2 H8.out
  have S2 := S1.below b2
  have hz2 := (b2.block w.heap.size (S1.ls w.heap.size (by simp)).1).trans hz1
  clear HW hz1 S1 b2
  go_wp2_with fail
  refine (HD.out _ _ o2).mono ?_
  rintro e w3 ⟨rfl, b3⟩
  have e3 := loc_alloc w3 #[.int .i64 t, .int .i64 p, .int .i64 s] 44
  have hz3 := (heap_alloc_old w3 (.cells #[.int .i64 t, .int .i64 p, .int .i64 s] 44) ((S2.below b3).ls w.heap.size (by simp)).1).trans ((b3.block w.heap.size (S2.ls w.heap.size (by simp)).1).trans hz2)
  have S3 := (S2.below b3).alloc (.cells #[.int .i64 t, .int .i64 p, .int .i64 s] 44)
  have o3 := (((BS.start _).below b3).row o2).alloc (.cells #[.int .i64 t, .int .i64 p, .int .i64 s] 44)
  clear HD hz2 S2 b3 o2
  go_wp2_with fail
  refine (HSt.out _ _ _ o3).mono ?_
  rintro e w4 ⟨v4, rfl, o4, -, b4⟩
  have S4 := S3.below b4
  have hz4 := (b4.block w.heap.size (S3.ls w.heap.size (by simp)).1).trans hz3
  have e4 := ((BS.start _).below b4).oldbox e3 (S3.ls w3.heap.size (by simp)).1
  clear HSt hz3 S3 b4 o3 e3
  go_wp2_with fail
  refine (HA.out _ _ o4).mono ?_
  rintro e w5 ⟨v5, rfl, o5, n5, b5⟩
  obtain ⟨pa, pc, rfl⟩ := row_shape o5
  have S5 := (S4.below b5).alloc (.cells #[.slice pa l.length pc, .int .i64 f0, .int .i64 f1, .int .i64 f2, .int .i64 f3, .int .i64 f4, .int .i64 f5, .int .i64 f6, .int .i64 f7] 38)
  have hz5 := (heap_alloc_old w5 (.cells #[.slice pa l.length pc, .int .i64 f0, .int .i64 f1, .int .i64 f2, .int .i64 f3, .int .i64 f4, .int .i64 f5, .int .i64 f6, .int .i64 f7] 38) ((S4.below b5).ls w.heap.size (by simp)).1).trans ((b5.block w.heap.size (S4.ls w.heap.size (by simp)).1).trans hz4)
  have o5b := o5.alloc (.cells #[.slice pa l.length pc, .int .i64 f0, .int .i64 f1, .int .i64 f2, .int .i64 f3, .int .i64 f4, .int .i64 f5, .int .i64 f6, .int .i64 f7] 38)
  have e5 := loc_alloc w5 #[.slice pa l.length pc, .int .i64 f0, .int .i64 f1, .int .i64 f2, .int .i64 f3, .int .i64 f4, .int .i64 f5, .int .i64 f6, .int .i64 f7] 38
  have hlt4 := (S4.ls w.heap.size (by simp)).1
  have hsz4 := S4.bel.size
  clear HA hz4 S4 b5 o4 e4
  obtain ⟨⟨d0, d1, d2, d3, d4, d5, d6, d7, d8⟩, j0, j1, j2, j3, j4, j5, j6, j7, j8⟩ := cells9 hz5
  clear hz5 o5
  go_wp2
  refine bodyPost_ret (v := .tuple #[.agg #[.slice pa l.length pc, .int .i64 f0, .int .i64 f1, .int .i64 f2, .int .i64 f3, .int .i64 f4, .int .i64 f5, .int .i64 f6, .int .i64 f7], .int .i64 0]) (by simp [results, Tryz.results13, go_sem, *]) rfl ⟨.slice pa l.length pc, rfl, ?_, ?_, ?_⟩
  ·exact ownsRow_block o5b fun k hk => by
    have hne : k ≠ w.heap.size := by have := n5 k hk; omega
    simp only [heap_setCell_other hne]
  ·exact fun k hk => by have := n5 k hk; omega
  ·have hm : w.heap.size ∈ [w5.heap.size, w3.heap.size, w.heap.size] := by simp
   exact (((((((((S5.setCell hm 0 _).setCell hm 1 _).setCell hm 2 _).setCell hm 3 _).setCell hm 4 _).setCell hm 5 _).setCell hm 6 _).setCell hm 7 _).setCell hm 8 _).bel
end Go.Proofs.YtcbikgafdclhaaaGreat
/- open: what a heap of bytes holds: the document's. -/
set_option linter.unusedSimpArgs false
set_option linter.unusedVariables false
namespace Go.Proofs.YtcbikgafdclhaaaGreat
open Go.ChangeShapes Go.RowKit

set_option maxHeartbeats 4000000 in
set_option maxRecDepth 100000 in
theorem rstate37_any (v : Value) (r : Option (List Int)) (w : World) (hW : ∀ W, Below w.heap.size w W → Calls Tryz.prog 7 #[v] W (WdQ W r)) (hu : ∀ ws, r = some ws → ∀ x ∈ ws, U64 x) (hfew : ∀ ws t p s, memR r = some (ws, t, p, s) → p ≤ 1024) :
 Calls Tryz.prog 14 #[v] w (StQ w (memR r)) := by
 have S0 := (BS.start w).alloc (.cells zeroSt 38)
 have hz0 := heap_alloc_new w (.cells zeroSt 38)
 have HO := Lib.hid (fun (W : World) (hb : Below w.heap.size w W) => rmem37_any v r W (fun W2 h2 => hW W2 (hb.trans (h2.mono hb.size))) hu)
 clear hW
 cases hm : memR r with
 | none =>
  rw [hm] at HO
  clear hm hu hfew
  unfold zeroSt at S0 hz0
  go_enter Tryz.func14, Tryz.ntmps14
  go_wp2_with fail
  refine (HO.out _ S0.bel).mono ?_
  rintro e w1 ⟨rfl, b1⟩
  have S1 := (S0.below b1).alloc (.cells #[.int .i64 0, .int .i64 0, .int .i64 0] 44)
  have hz1 := (heap_alloc_old w1 (.cells #[.int .i64 0, .int .i64 0, .int .i64 0] 44) ((S0.below b1).ls w.heap.size (by simp)).1).trans ((b1.block w.heap.size (by simp)).trans hz0)
  obtain ⟨⟨d0, d1, d2, d3, d4, d5, d6, d7, d8⟩, j0, j1, j2, j3, j4, j5, j6, j7, j8⟩ := cells9 hz1
  clear hz1 b1 S0 HO hz0
  go_wp2
  refine bodyPost_ret (v := .tuple #[.agg #[.slice none 0 0, .int .i64 0, .int .i64 0, .int .i64 0, .int .i64 0, .int .i64 0, .int .i64 0, .int .i64 0, .int .i64 0], .int .i64 9]) (by simp [results, Tryz.results14, go_sem, *]) rfl ⟨rfl, ?_⟩
  have hm : w.heap.size ∈ [w1.heap.size, w.heap.size] := by simp
  exact (((((((((S1.setCell hm 0 _).setCell hm 1 _).setCell hm 2 _).setCell hm 3 _).setCell hm 4 _).setCell hm 5 _).setCell hm 6 _).setCell hm 7 _).setCell hm 8 _).bel
 | some x =>
  obtain ⟨ws, t, p, s⟩ := x
  obtain ⟨rfl, hd, hmm⟩ := memR_some hm
  have hp := hfew _ _ _ _ hm
  rw [hm] at HO
  have hus := hu ws rfl
  obtain ⟨hr, hh⟩ := dec_right hd
  have h8 := dec_len hd
  obtain ⟨hst, hck⟩ := mem_settle hmm
  obtain ⟨-, hcn, hvu⟩ := settle_vals hst
  have hnum := mem_num hmm
  have HSt := Lib.hid (show ∀ (W : World) g c, W.ownsRow 0 61 1 (.slice (some ⟨g, 0, none⟩) ws.length c) ws.length (ulongs ws) → Calls Tryz.prog 31 #[.agg #[.int .i64 t, .int .i64 p, .int .i64 s], .slice (some ⟨g, 0, none⟩) ws.length c] W (SetQ W (settleF t p s ws)) from fun W g c R => by
   obtain ⟨hz, hc⟩ := row_wz R hus
   exact rsettle_any (hz.wx hr hnum) c)
  rw [hst] at HSt
  have HA := Lib.hid (fun (W : World) v (R : W.ownsRow 0 90 1 v (vsOf t p s ws).length (uints (vsOf t p s ws))) => rst_row R hr hvu hcn hp hck)
  have H8 := Lib.hid h8
  clear hm hu hfew hd hus hr hh h8 hst hck hcn hvu hnum hmm hp
  unfold StQ
  dsimp only
  unfold stV at HA ⊢
  generalize blocksF (vsOf t p s ws) t p s = l at *
  generalize rootsV (vsOf t p s ws) = f at *
  generalize vsOf t p s ws = vs at *
  generalize f 0 = f0, f 1 = f1, f 2 = f2, f 3 = f3, f 4 = f4, f 5 = f5, f 6 = f6, f 7 = f7 at *
  clear f
  unfold zeroSt at S0 hz0
  go_enter Tryz.func14, Tryz.ntmps14
  go_wp2_with fail
  refine (HO.out _ S0.bel).mono ?_
  rintro e w2 ⟨v2, rfl, o2, b2⟩
  obtain ⟨g, c, rfl⟩ := row_form8 o2 H8.out
  have e3 := loc_alloc w2 #[.int .i64 t, .int .i64 p, .int .i64 s] 44
  have hz3 := (heap_alloc_old w2 (.cells #[.int .i64 t, .int .i64 p, .int .i64 s] 44) ((S0.below b2).ls w.heap.size (by simp)).1).trans ((b2.block w.heap.size (S0.ls w.heap.size (by simp)).1).trans hz0)
  have S3 := (S0.below b2).alloc (.cells #[.int .i64 t, .int .i64 p, .int .i64 s] 44)
  have o3 := o2.alloc (.cells #[.int .i64 t, .int .i64 p, .int .i64 s] 44)
  clear HO hz0 S0 b2 o2
  go_wp2_with fail
  refine (HSt.out _ _ _ o3).mono ?_
  rintro e w4 ⟨v4, rfl, o4, -, b4⟩
  have S4 := S3.below b4
  have hz4 := (b4.block w.heap.size (S3.ls w.heap.size (by simp)).1).trans hz3
  have e4 := ((BS.start _).below b4).oldbox e3 (S3.ls w2.heap.size (by simp)).1
  clear HSt hz3 S3 b4 o3 e3
  go_wp2_with fail
  refine (HA.out _ _ o4).mono ?_
  rintro e w5 ⟨v5, rfl, o5, n5, b5⟩
  obtain ⟨pa, pc, rfl⟩ := row_shape o5
  have S5 := (S4.below b5).alloc (.cells #[.slice pa l.length pc, .int .i64 f0, .int .i64 f1, .int .i64 f2, .int .i64 f3, .int .i64 f4, .int .i64 f5, .int .i64 f6, .int .i64 f7] 38)
  have hz5 := (heap_alloc_old w5 (.cells #[.slice pa l.length pc, .int .i64 f0, .int .i64 f1, .int .i64 f2, .int .i64 f3, .int .i64 f4, .int .i64 f5, .int .i64 f6, .int .i64 f7] 38) ((S4.below b5).ls w.heap.size (by simp)).1).trans ((b5.block w.heap.size (S4.ls w.heap.size (by simp)).1).trans hz4)
  have o5b := o5.alloc (.cells #[.slice pa l.length pc, .int .i64 f0, .int .i64 f1, .int .i64 f2, .int .i64 f3, .int .i64 f4, .int .i64 f5, .int .i64 f6, .int .i64 f7] 38)
  have e5 := loc_alloc w5 #[.slice pa l.length pc, .int .i64 f0, .int .i64 f1, .int .i64 f2, .int .i64 f3, .int .i64 f4, .int .i64 f5, .int .i64 f6, .int .i64 f7] 38
  have hlt4 := (S4.ls w.heap.size (by simp)).1
  have hsz4 := S4.bel.size
  clear HA hz4 S4 b5 o4 e4
  obtain ⟨⟨d0, d1, d2, d3, d4, d5, d6, d7, d8⟩, j0, j1, j2, j3, j4, j5, j6, j7, j8⟩ := cells9 hz5
  clear hz5 o5
  go_wp2
  refine bodyPost_ret (v := .tuple #[.agg #[.slice pa l.length pc, .int .i64 f0, .int .i64 f1, .int .i64 f2, .int .i64 f3, .int .i64 f4, .int .i64 f5, .int .i64 f6, .int .i64 f7], .int .i64 0]) (by simp [results, Tryz.results14, go_sem, *]) rfl ⟨.slice pa l.length pc, rfl, ?_, ?_, ?_⟩
  ·exact ownsRow_block o5b fun k hk => by
    have hne : k ≠ w.heap.size := by have := n5 k hk; omega
    simp only [heap_setCell_other hne]
  ·exact fun k hk => by have := n5 k hk; omega
  ·have hm : w.heap.size ∈ [w5.heap.size, w2.heap.size, w.heap.size] := by simp
   exact (((((((((S5.setCell hm 0 _).setCell hm 1 _).setCell hm 2 _).setCell hm 3 _).setCell hm 4 _).setCell hm 5 _).setCell hm 6 _).setCell hm 7 _).setCell hm 8 _).bel
end Go.Proofs.YtcbikgafdclhaaaGreat
/- open: words of bytes, both; few. -/
set_option linter.unusedSimpArgs false
set_option linter.unusedVariables false
namespace Go.Proofs.YtcbikgafdclhaaaGreat
open Go.RowKit

/-- bytes at a slice. -/
structure BV (w : World) (v : Value) (bs : List Int) : Prop where
 rd : Rd w v 1 bs.length (ubytes bs)
 u8 : ∀ x ∈ bs, U8 x
 cap : ∀ a n c, v = .slice a n c → n ≤ c
theorem BV.keep {w w' : World} {v : Value} {bs : List Int} (h : BV w v bs) (hb : Below w.heap.size w w') : BV w' v bs := ⟨h.rd.keepBy hb (Nat.le_refl _), h.u8, h.cap⟩
theorem wordsB_u64 {bs : List Int} (hu : ∀ x ∈ bs, U8 x) : ∀ ws, wordsB bs = some ws → ∀ x ∈ ws, U64 x := by
 intro ws h
 unfold wordsB at h
 split at h
 ·cases h; exact chunks_u64 _ _ hu
 ·cases h
theorem wordsB_len {bs ws : List Int} (h : wordsB bs = some ws) : bs.length = 8 * ws.length ∧ ws.length ≤ 65536 ∧ ws = chunks ws.length bs := by
 unfold wordsB at h
 split at h
 ·cases h
  rw [chunks_len]
  exact ⟨by omega, by omega, rfl⟩
 ·cases h
theorem pwords_any {bs : List Int} {v : Value} {w : World} (h : BV w v bs) (hl : bs.length ≤ 1000000000) : Calls Tryz.prog 6 #[v] w (WdQ w (wordsB bs)) := by
 obtain ⟨a, c, rfl⟩ := h.rd.len
 by_cases h8 : bs.length % 8 = 0 ∧ bs.length / 8 ≤ 65536
 ·rw [show wordsB bs = some (chunks (bs.length / 8) bs) by unfold wordsB; rw [if_pos h8]]
  exact pwords_good a _ c bs w h.rd h.u8 (by omega) (by omega) (h.cap _ _ _ rfl)
 ·rw [show wordsB bs = none by unfold wordsB; rw [if_neg h8]]
  exact pwords_bad a _ c w hl (by omega)
theorem rwords37_any {bs : List Int} {v : Value} {w : World} (h : BV w v bs) : Calls Tryz.prog 7 #[v] w (WdQ w (wordsB bs)) := by
 obtain ⟨a, c, rfl⟩ := h.rd.len
 by_cases h8 : bs.length % 8 = 0 ∧ bs.length / 8 ≤ 65536
 ·rw [show wordsB bs = some (chunks (bs.length / 8) bs) by unfold wordsB; rw [if_pos h8]]
  exact rwords_good _ bs _ w h.rd h.u8 (by omega) (by omega)
 ·rw [show wordsB bs = none by unfold wordsB; rw [if_neg h8]]
  exact rwords_bad a _ c w (by omega)
def fewB (bs : List Int) : Bool := if 30000 < bs.length then false else match wordsB bs with
 | none => true
 | some ws => match decF ws with
  | none => true
  | some (_, p, _) => decide (p ≤ 64)
theorem fewB_le {bs : List Int} (h : fewB bs = true) : bs.length ≤ 30000 ∧ ∀ ws t p s, memR (wordsB bs) = some (ws, t, p, s) → p ≤ 64 := by
 unfold fewB at h
 split at h
 ·cases h
 ·refine ⟨by omega, fun ws t p s hm => ?_⟩
  obtain ⟨h1, h2, -⟩ := memR_some hm
  rw [h1] at h
  dsimp only at h
  rw [h2] at h
  simpa using h
set_option maxHeartbeats 1000000 in
theorem few37_any {bs : List Int} {v : Value} {w : World} (h : BV w v bs) : Calls Tryz.prog 11 #[v] w fun e w' => e = .returned (.bool (fewB bs)) ∧ Below w.heap.size w w' := by
 have S0 := BS.start w
 obtain ⟨a, c, rfl⟩ := h.rd.len
 have HW := Lib.hid (rwords37_any h)
 by_cases hl : 30000 < bs.length
 ·have hli : (30000 : Int) < bs.length := by omega
  rw [show fewB bs = false by unfold fewB; rw [if_pos hl]]
  clear h HW hl
  go_enter Tryz.func11, Tryz.ntmps11
  go_wp2
  go_ret
  exact ⟨rfl, Below.refl _ _⟩
 ·have hli : ¬ (30000 : Int) < bs.length := by omega
  have hu := wordsB_u64 h.u8
  unfold fewB
  rw [if_neg hl]
  clear h hl
  cases hw : wordsB bs with
  | none =>
   rw [hw] at HW
   clear hw hu
   dsimp only
   go_enter Tryz.func11, Tryz.ntmps11
   go_wp2_with fail
   refine HW.out.mono ?_
   rintro e w1 ⟨rfl, b1⟩
   go_wp2
   go_ret
   exact ⟨rfl, b1⟩
  | some ws =>
   rw [hw] at HW
   have hus := hu ws hw
   have HD := Lib.hid (fun (W : World) v (R : W.ownsRow 0 61 1 v ws.length (ulongs ws)) => rdecode_row R hus)
   clear hw hu hus
   dsimp only
   cases hd : decF ws with
   | none =>
    rw [hd] at HD
    clear hd
    dsimp only
    go_enter Tryz.func11, Tryz.ntmps11
    go_wp2_with fail
    refine HW.out.mono ?_
    rintro e w1 ⟨v1, rfl, o1, -, b1⟩
    go_wp2_with fail
    refine (HD.out _ _ o1).mono ?_
    rintro e w2 ⟨rfl, b2⟩
    have S2 := ((S0.below b1).below b2).alloc (.cells #[.int .i64 0, .int .i64 0, .int .i64 0] 44)
    go_wp2
    go_ret
    exact ⟨rfl, S2.bel⟩
   | some x =>
    obtain ⟨t, p, s⟩ := x
    rw [hd] at HD
    have HF := Lib.hid (fun w => few12_any t p s w)
    clear hd
    dsimp only
    generalize decide (p ≤ 64) = z at *
    go_enter Tryz.func11, Tryz.ntmps11
    go_wp2_with fail
    refine HW.out.mono ?_
    rintro e w1 ⟨v1, rfl, o1, -, b1⟩
    go_wp2_with fail
    refine (HD.out _ _ o1).mono ?_
    rintro e w2 ⟨rfl, b2⟩
    have e2 := loc_alloc w2 #[.int .i64 t, .int .i64 p, .int .i64 s] 44
    have S2 := ((S0.below b1).below b2).alloc (.cells #[.int .i64 t, .int .i64 p, .int .i64 s] 44)
    go_wp2_with fail
    refine (HF.out _).mono ?_
    rintro e w3 ⟨rfl, b3⟩
    have S3 := S2.below b3
    go_wp2
    go_ret
    exact ⟨rfl, S3.bel⟩
end Go.Proofs.YtcbikgafdclhaaaGreat
/- fresh: the document's Vals, whole. -/
set_option linter.unusedSimpArgs false
set_option linter.unusedVariables false
namespace Go.Proofs.YtcbikgafdclhaaaGreat
open Go.RowKit

def refL (N i0 i1 K P : Nat) : List Int := ((((List.replicate N (0 : Int)).set 0 P).set (2 + K) 1).set i0 (1 + 16 * P)).set i1 1
theorem uints_set (l : List Int) (i : Nat) (v : Int) : (uints l).set i (.int .u32 v) = uints (l.set i v) := by simp [uints, List.map_set]
theorem row_cell {w : World} {g c n : Nat} {l : List Int} (h : w.ownsRow 0 90 1 (.slice (some ⟨g, 0, none⟩) n c) n (uints l)) {i : Nat} (hi : i < n) : ∃ z, w.cell? ⟨g, i, none⟩ = some z := by
 refine ⟨_, (h.cellAt i (by omega)).trans (List.getElem?_eq_getElem ?_)⟩
 have := h.1
 omega

set_option maxHeartbeats 1000000 in
set_option maxRecDepth 100000 in
theorem rvals_right (t s : Int) (P N i0 i1 K : Nat) (w : World) (hr : rightB t P s = true) (hN : cellsN t P = N) (h0 : ofF t P s 0 0 = i0) (h1 : ofF t P s ((P : Int) - 1) 1 = i1) (hK : logF P = K) (hK2 : K < 11) (hi0 : i0 < N) (hi1 : i1 < N) :
 Calls Tryz.prog 41 #[.agg #[.int .i64 t, .int .i64 P, .int .i64 s]] w (ValsP w (refL N i0 i1 K P)) := by
 obtain ⟨b1, b2, b3, b4, b5, b6⟩ := right_bd hr
 have H1 := fun w => rcells_any t P s w
 have hcf : cellsF t P s = cellsN t P := by simp [cellsF, hr]
 rw [hcf, hN] at H1
 have hcb : 58 ≤ N ∧ N ≤ 10000 := by unfold cellsN at hN; omega
 have HH1 := Lib.hid H1
 have HBo := Lib.hid (show ∀ w, Calls Tryz.prog 71 #[.int .i64 P] w fun e w' => e = .returned (.int .i64 (K : Int)) ∧ Below w.heap.size w w' by
  intro w
  have := rbof_any P w (by omega) (by omega)
  rwa [hK] at this)
 have HBi := Lib.hid (fun w => rbin_any K w hK2)
 have HIn := Lib.hid (show ∀ w, Calls Tryz.prog 73 #[.agg #[.int .i64 t, .int .i64 P, .int .i64 s], .int .i64 0] w fun e w' => e = .returned (.int .i64 (i0 : Int)) ∧ Below w.heap.size w w' by
  intro w
  have := rinfo_any t P s 0 w
  rwa [h0] at this)
 have HFo := Lib.hid (show ∀ w, Calls Tryz.prog 74 #[.agg #[.int .i64 t, .int .i64 P, .int .i64 s], .int .i64 ((P : Int) - 1)] w fun e w' => e = .returned (.int .i64 (i1 : Int)) ∧ Below w.heap.size w w' by
  intro w
  have := rfoot_any t P s ((P : Int) - 1) w
  rwa [h1] at this)
 have HVa := Lib.hid (fun w => rvalue_free P w (by omega) (by omega))
 have hmk : ∀ w : World, (Instr.makeSlice 73 (.int .i64 (N : Int)) (.int .i64 (N : Int))).run Tryz.prog w = .ok (.slice (some ⟨w.heap.size, 0, none⟩) N N) (w.alloc (.cells (madeCells #[.int .u32 0] N) 90)) := run_make_row' (P := Tryz.prog) 73 90 (.int .u32 0) 4 Tryz.underlying73 infoU32 rfl .i64 .i64 N (by omega) (by omega)
 have hnb : ((N : Int) == 0) = false := by simp; omega
 have hw1 : IntKind.u32.wrap (P : Int) = P := IntWalk.u32_in _ (by omega)
 have c0 := loc_alloc w #[.int .i64 t, .int .i64 P, .int .i64 s] 44
 have S0 := ((BS.start w).alloc (.cells #[.int .i64 t, .int .i64 P, .int .i64 s] 44))
 have hK3 : 2 + K < N := by omega
 generalize hk2 : 2 + K = k2 at *
 have hFL : refL N i0 i1 K P = ((((List.replicate N (0 : Int)).set 0 P).set k2 1).set i0 (1 + 16 * P)).set i1 1 := by unfold refL; rw [hk2]
 rw [hFL]
 generalize hiv : (1 + 16 * (P : Int)) = iv at *
 clear H1 hcf hr hN h0 h1 hK hK2 hk2 hFL hiv
 go_enter Tryz.func41, Tryz.ntmps41
 go_wp2_with fail
 refine (calls_b S0 (HH1.out _)).mono ?_
 rintro e w1 ⟨rfl, S1, S1l⟩
 have c1 := loc_step S1l (by simp) c0
 clear S1l
 have l1 := (S1.ls w.heap.size (by simp)).1
 go_upto_region 4 with fail
 refine world_gen ?_
 intro wm hwm
 have RM : wm.ownsRow 0 90 1 (.slice (some ⟨w1.heap.size, 0, none⟩) N N) N (uints (List.replicate N 0)) := by rw [hwm]; exact row_made w1 N (by omega)
 have S1a : BS w [w1.heap.size, w.heap.size] wm := by rw [hwm]; exact S1.alloc _
 have c1a : ∀ o : Nat, wm.cell? ⟨w.heap.size, o, none⟩ = (#[.int .i64 t, .int .i64 P, .int .i64 s] : Array Value)[o]? := by rw [hwm]; exact loc_old _ l1 c1
 have S2 := S1a.setCell (L := w1.heap.size) (by simp) 0 (.int .u32 P)
 have R2 := (RM.stored 0 (.int .u32 P)).1
 obtain ⟨z0, q0⟩ := row_cell RM (i := 0) (by omega)
 have f0 := RM.frozenAt 0
 rw [uints_set] at R2
 have c2 : ∀ o : Nat, (wm.setCell ⟨w1.heap.size, 0, none⟩ (.int .u32 P)).cell? ⟨w.heap.size, o, none⟩ = (#[.int .i64 t, .int .i64 P, .int .i64 s] : Array Value)[o]? := fun o => (World.cell?_of_block (a := ⟨w.heap.size, o, none⟩) (heap_setCell_other (L := w1.heap.size) (M := w.heap.size) (by omega))).trans (c1a o)
 clear RM hwm hmk
 go_wp2_with fail
 refine (calls_b S2 (HBo.out _)).mono ?_
 rintro e w3 ⟨rfl, S3, S3l⟩
 have c3 := loc_step S3l (by simp) c2
 have R3 := row_step S3l (fun k hk => by simp [Value.ownBlock] at hk; simp [hk]) R2
 clear S3l
 clear S0 S1 S1a S2 R2 c0 c1 c1a c2 q0 f0
 go_wp2_with fail
 refine (calls_b S3 (HBi.out _)).mono ?_
 rintro e w4 ⟨rfl, S4, S4l⟩
 have c4 := loc_step S4l (by simp) c3
 have R4 := row_step S4l (fun k hk => by simp [Value.ownBlock] at hk; simp [hk]) R3
 clear S4l
 obtain ⟨z4, q4⟩ := row_cell R4 hK3
 have f4 := R4.frozenAt k2
 have S5 := S4.setCell (L := w1.heap.size) (by simp) k2 (.int .u32 1)
 have R5 := (R4.stored k2 (.int .u32 1)).1
 rw [uints_set] at R5
 have c5 : ∀ o : Nat, (w4.setCell ⟨w1.heap.size, k2, none⟩ (.int .u32 1)).cell? ⟨w.heap.size, o, none⟩ = (#[.int .i64 t, .int .i64 P, .int .i64 s] : Array Value)[o]? := fun o => (World.cell?_of_block (a := ⟨w.heap.size, o, none⟩) (heap_setCell_other (L := w1.heap.size) (M := w.heap.size) (by omega))).trans (c4 o)
 clear S3 R3 c3
 go_wp2_with fail
 have hiN : ∀ i : Nat, i < N → (i : Int) < N := fun i hi => by omega
 have hj0 := hiN i0 hi0
 have hj1 := hiN i1 hi1
 refine wp_region_noPanic ?_
 refine wp_region_held_drew (S := fun w' => (∀ o : Nat, w'.cell? ⟨w.heap.size, o, none⟩ = (#[.int .i64 t, .int .i64 P, .int .i64 s] : Array Value)[o]?)) (by kernel_rfl) ?_ (fun hHeld => ?_)
 ·exact c5
 refine wT 0 ?_
 refine wT 1 ?_
 refine wT 3 ?_
 refine wT 4 ?_
 refine wR 2 fun K hK => ?_
 go_simp
 refine (calls_b S5.drew (HIn.out _)).mono ?_
 rintro e w6 ⟨rfl, S6, S6l⟩
 have c6 := loc_step S6l (by simp) hHeld
 have R6 := row_step S6l (fun k hk => by simp [Value.ownBlock] at hk; simp [hk]) (ownsRow_block (w' := (w4.setCell ⟨w1.heap.size, k2, none⟩ (.int .u32 1)).drew) R5 (fun _ _ => rfl))
 clear S6l
 dsimp only
 refine hK.out _ _ ?_ (fun hHeld => ?_)
 ·exact c6
 clear hK K
 try simp only [Act.put, zA, zB, zC, zD, zE, zF]
 refine wR 5 fun K hK => ?_
 go_simp
 refine (calls_b S6 (HVa.out _)).mono ?_
 rintro e w7 ⟨rfl, S7, S7l⟩
 have c7 := loc_step S7l (by simp) hHeld
 have R7 := row_step S7l (fun k hk => by simp [Value.ownBlock] at hk; simp [hk]) R6
 clear S7l
 dsimp only
 refine hK.out _ _ ?_ (fun hHeld => ?_)
 ·exact c7
 clear hK K
 try simp only [Act.put, zA, zB, zC, zD, zE, zF]
 refine wT 6 ?_
 refine wR 7 fun K hK => ?_
 obtain ⟨z7, q7⟩ := row_cell R7 hi0
 have f7 := R7.frozenAt i0
 go_simp
 have c8 : ∀ o : Nat, (w7.setCell ⟨w1.heap.size, i0, none⟩ (.int .u32 iv)).cell? ⟨w.heap.size, o, none⟩ = (#[.int .i64 t, .int .i64 P, .int .i64 s] : Array Value)[o]? := fun o => (World.cell?_of_block (a := ⟨w.heap.size, o, none⟩) (heap_setCell_other (L := w1.heap.size) (M := w.heap.size) (by omega))).trans (c7 o)
 refine hK.out _ _ ?_ (fun hHeld => ?_)
 ·exact c8
 clear hK K
 try simp only [Act.put, zA, zB, zC, zD, zE, zF]
 refine wpAnyH_done (by kernel_rfl) (NoPanic.normal ?_) _
 have R8 := (R7.stored i0 (.int .u32 iv)).1
 rw [uints_set] at R8
 have S8 := S7.setCell (L := w1.heap.size) (by simp) i0 (.int .u32 iv)
 go_wp2_with fail
 refine (calls_b S8 (HFo.out _)).mono ?_
 rintro e w9 ⟨rfl, S9, S9l⟩
 have c9 := loc_step S9l (by simp) c8
 have R9 := row_step S9l (fun k hk => by simp [Value.ownBlock] at hk; simp [hk]) R8
 clear S9l
 obtain ⟨z9, q9⟩ := row_cell R9 hi1
 have f9 := R9.frozenAt i1
 have R10 := (R9.stored i1 (.int .u32 1)).1
 rw [uints_set] at R10
 have S10 := S9.setCell (L := w1.heap.size) (by simp) i1 (.int .u32 1)
 clear R4 R5 R6 R7 R8 S4 S5 S6 S7 S8 c4 c5 c6 c7 c8 q4 q7 f4 f7
 go_wp2
 go_ret
 refine ⟨_, rfl, ?_, fun k hk => ?_, S10.bel⟩
 ·simpa using R10
 ·simp [Value.ownBlock] at hk
  subst hk
  exact (S9.ls w1.heap.size (by simp)).2
end Go.Proofs.YtcbikgafdclhaaaGreat
/- lists of pages in a heap, as plain data: what Pull, Push and Walk make of them. -/
set_option linter.unusedSimpArgs false
set_option linter.unusedVariables false
namespace Go.Proofs.YtcbikgafdclhaaaGreat
open Go.RowKit

def upI (f : Int → Int) (a v : Int) : Int → Int := fun x => if x = a then v else f x
theorem upI_same (f : Int → Int) (a v : Int) : upI f a v a = v := by simp [upI]
theorem upI_other {f : Int → Int} {a x : Int} (v : Int) (h : x ≠ a) : upI f a v x = f x := by simp [upI, h]

/-- from q, behind which ah stands ahead, through l to r, behind which e stands. -/
def seg (nx pv : Int → Int) (q ah : Int) : List Int → Int → Int → Prop
 | [], r, e => r = q ∧ e = ah
 | x :: l, r, e => q = x + 1 ∧ pv x = ah ∧ seg nx pv (nx x) (x + 1) l r e

/-- a list of a head: its first link leads through l, to 0. -/
def LsOK (p : Int) (hd : Int → Int) (nx pv : Int → Int) (h : Int) (l : List Int) : Prop :=
 (∃ e, seg nx pv (hd h) 0 l 0 e) ∧ l.Nodup ∧ ∀ x ∈ l, 0 ≤ x ∧ x < p

def pushNx (hd nx : Int → Int) (h q : Int) : Int → Int := upI nx q (hd h)
def pushPv (hd pv : Int → Int) (h q : Int) : Int → Int := if hd h = 0 then upI pv q 0 else upI (upI pv q 0) (hd h - 1) (q + 1)
end Go.Proofs.YtcbikgafdclhaaaGreat
