/- parts of the proof, merged by a program. -/
import Derived.Test.YtkhanbedcmmlcaaGreatDoorMtp2
import Derived.Test.YtkhanbedcmmlcaaGreatDoorMtp5
set_option linter.unusedSimpArgs false
set_option linter.unusedVariables false
/- the program's audit: the parts of a span. -/
set_option linter.unusedSimpArgs false
set_option linter.unusedVariables false
namespace Go.Proofs.YtkhanbedcmmlcaaGreatDoor
open Go.RowKit

theorem row_three (w : World) (u1 u2 u3 : Value) (e : TypeId) : (w.alloc (.cells #[u1, u2, u3] e)).ownsRow 0 e 3 (.slice (some ⟨w.heap.size, 0, none⟩) 1 1) 1 [u1, u2, u3] :=
  ⟨by simp, Or.inr ⟨w.heap.size, 1, #[u1, u2, u3], rfl, Nat.zero_le _, heap_alloc_new w _, Nat.le_refl _, by unfold maxLen; omega, by simp, by simp⟩⟩
/-- what a span's bytes are. -/
def spanF (vs : List Int) (t s : Int) (x : Nat × Int × Int × Int) : List (Int × Int × Int) :=
  if x.2.1 = 1 then [(1, addrF s x.1 0, x.2.2.1 * pageF s)] else if x.2.1 = 2 then [(2, addrF s x.1 0, x.2.2.1 * pageF s)] else slabF vs t s x.1 x.2.2.2
theorem bit_and1 (v : Int) (b : Nat) (hb : b < 32) (h0 : 0 ≤ v) (h1 : v < 4294967296) : bits .and .u32 (v / 2 ^ b) 1 = if bitB v b then 1 else 0 := by
  have hd0 : 0 ≤ v / 2 ^ b := Int.ediv_nonneg h0 (Int.pow_nonneg (by omega))
  have hd1 : v / 2 ^ b ≤ v := Int.ediv_le_self _ h0
  have h : bits .and .u32 (v / 2 ^ b) 1 = (v / 2 ^ b) % 2 := bits_mask .u32 32 (by decide) wrapsA_u32 1 (by decide) (v / 2 ^ b) hd0 (by omega)
  rw [h]
  unfold bitB
  have e : decide (b < 32) = true := by simp [hb]
  rw [e, Bool.true_and]
  by_cases h2 : v / 2 ^ b % 2 = 1
  · rw [h2]; rfl
  · have : v / 2 ^ b % 2 = 0 := by omega
    rw [this]; rfl
section
variable {b : Nat} {t s : Int} {ad : Addr} {n c : Nat} {vs : List Int} {mb : Nat}
structure SpRel (w : World) (SL : Nat → List (Int × Int × Int)) (A z sl : Int) (v10 v14 v79 : Value) (wr : World) (b : Nat) : Prop where
  hb : v79 = .int .i64 b
  hat : v14 = .int .i64 (A + (b : Int) * z)
  le : (b : Int) ≤ sl
  row : wr.ownsRow 0 64 3 v10 b (partCells (SL b))
  bs : BS w v10.ownBlock.toList wr
def SpRelE (w : World) (SL : Nat → List (Int × Int × Int)) (A z sl : Int) (v10 v14 v79 : Value) (wr : World) : Prop := ∃ b, SpRel w SL A z sl v10 v14 v79 wr b
theorem held4g {w w' : World} {a0 a1 a2 a3 : Addr} {u0 u1 u2 u3 : Value} (hb : Below w.heap.size w w') (h : w.cell? a0 = some u0 ∧ w.cell? a1 = some u1 ∧ w.cell? a2 = some u2 ∧ w.cell? a3 = some u3) :
    w'.cell? a0 = some u0 ∧ w'.cell? a1 = some u1 ∧ w'.cell? a2 = some u2 ∧ w'.cell? a3 = some u3 := by
  have cc : ∀ {a : Addr} {v : Value}, w.cell? a = some v → w'.cell? a = some v := fun hc => (hb.cell (World.block_lt_of_cell? _ _ hc)).trans hc
  exact ⟨cc h.1, cc h.2.1, cc h.2.2.1, cc h.2.2.2⟩
theorem BS.append1 {w0 w w' : World} {v v' : Value} {ob : Obj} {e sz n : Nat} {xs : List Value} (h : BS w0 v.ownBlock.toList w) (hg : (w.alloc ob).grownBy w' v.ownBlock)
    (hnew : ∀ k, v'.ownBlock = some k → v.ownBlock = some k ∨ (w.alloc ob).heap.size ≤ k) (hown : w'.ownsRow 0 e sz v' n xs) : BS w0 v'.ownBlock.toList w' := by
  refine ((h.alloc ob).sub v.ownBlock.toList (fun L hL => List.mem_cons_of_mem _ hL)).grown hg (fun k hk => by simp [hk]) _ fun M hM => ?_
  simp at hM
  rcases hnew M hM with h1 | h1
  · exact Or.inl (by simp [h1])
  · exact Or.inr ⟨h1, ownsRow_lt hown hM⟩
theorem rowQ_one {w0 w : World} (h : BS w0 [] w) (x : Int × Int × Int) : RowQ w0 [x] (.slice (some ⟨w.heap.size, 0, none⟩) 1 1) (w.alloc (.cells #[.int .i64 x.1, .int .i64 x.2.1, .int .i64 x.2.2] 64)) :=
  ⟨row_three _ _ _ _ _, fun k hk => by simp [Value.ownBlock] at hk; subst hk; exact h.bel.size, h.bel.alloc h.bel.size _⟩
set_option maxHeartbeats 4000000 in
set_option maxRecDepth 100000 in
theorem pspan_any (w : World) (g P p : Nat) (K L C : Int) (h : LK b t P s ad n c vs (.slice (some ⟨g, 0, none⟩) P P) mb w) (hx : SpIn P (p, K, L, C)) :
    Calls Tryz.prog 97 #[.pointer (some ⟨b, 0, none⟩), .int .i64 p, .agg #[.int .i64 K, .int .i64 L, .int .i64 C]] w fun e w' => ∃ v, e = .returned v ∧ RowQ w (spanF vs t s (p, K, L, C)) v w' := by
  obtain ⟨⟨x1, x2⟩, ⟨x3, x4⟩, x5, x6⟩ := hx
  dsimp only at x1 x2 x3 x4 x5 x6
  have bd := h.xv.bd
  obtain ⟨b1, b2, b3, b4, b5, b6, b7⟩ := bd
  have hr := h.xv.right
  have hp := pageF_bd (s := s) (by omega)
  have hblt := h.lt
  have L0 := h.keep (W' := w.alloc (.cells #[.int .i64 K, .int .i64 L, .int .i64 C] 40)) ((Below.refl _ _).alloc (Nat.le_refl _) _)
  have I0 : InfoAt (w.alloc (.cells #[.int .i64 K, .int .i64 L, .int .i64 C] 40)) w.heap.size (p, K, L, C) := World.alloc_heap_new w _
  have S0 : BS w [] (w.alloc (.cells #[.int .i64 K, .int .i64 L, .int .i64 C] 40)) := ((BS.start w).alloc _).sub _ (by simp)
  have hw0 : w.heap.size < (w.alloc (.cells #[.int .i64 K, .int .i64 L, .int .i64 C] 40)).heap.size := by simp
  obtain ⟨⟨e0, e1, e2⟩, -, -, -⟩ := L0.cells
  have hHC := fun w => cpage_any t P s w hr
  have hHO := fun w => pof_any t P s p 0 w hr (by omega) (by omega) (by omega) (by omega)
  have hx4 := h.xv.cx (q := p) (part := 4) (by omega) (by omega) (by omega) (by omega)
  have hx5 := h.xv.cx (q := p) (part := 5) (by omega) (by omega) (by omega) (by omega)
  have H4 := Lib.hid (fun w => ppslots_any t P s p w)
  rw [hx4.2] at H4
  have H5 := Lib.hid (fun w => pptaken_any t P s p w)
  rw [hx5.2] at H5
  have G4 := fun (w : World) (h : LK b t P s ad n c vs (.slice (some ⟨g, 0, none⟩) P P) mb w) => pget_any (cix t p 4) w h hx4.1
  have G5 := fun (w : World) (h : LK b t P s ad n c vs (.slice (some ⟨g, 0, none⟩) P P) mb w) => pget_any (cix t p 5) w h hx5.1
  have hd4 : vs.getD (cix t p 4) 0 = gv vs t p 4 := rfl
  have hd5 : vs.getD (cix t p 5) 0 = gv vs t p 5 := rfl
  rw [hd4] at G4
  rw [hd5] at G5
  have g4 := h.xv.gu p 4
  have g5 := h.xv.gu p 5
  have HB4 := fun (b : Nat) (h : b < 32) => bit_and1 (gv vs t p 4) b h g4.1 g4.2
  have HB5 := fun (b : Nat) (h : b < 32) => bit_and1 (gv vs t p 5) b h g5.1 g5.2
  have hadd : addrF s p 0 = ((p : Int) + 1) * pageF s := by unfold addrF; omega
  have HSL : ∀ b : Nat, slabL vs t s p C (b + 1) = slabL vs t s p C b ++ [(kindF (bitB (gv vs t p 4) b) (bitB (gv vs t p 5) b), ((p : Int) + 1) * pageF s + (b : Int) * sizeF s C, sizeF s C)] := fun _ => rfl
  have HSL0 : slabL vs t s p C 0 = [] := rfl
  have HSLn := fun j => slabL_len vs t s p C j
  have hslab : slabF vs t s p C = slabL vs t s p C (slotsF C).toNat ++ if 0 < pageF s - sizeF s C * slotsF C then [(5, ((p : Int) + 1) * pageF s + sizeF s C * slotsF C, pageF s - sizeF s C * slotsF C)] else [] := by
    have e : pageF s - restF s C = sizeF s C * slotsF C := by unfold restF; omega
    unfold slabF
    rw [e]
    rfl
  have hspan : spanF vs t s (p, K, L, C) = if K = 1 then [(1, addrF s p 0, L * pageF s)] else if K = 2 then [(2, addrF s p 0, L * pageF s)] else slabF vs t s p C := rfl
  rw [hslab, hadd] at hspan
  rw [hadd] at hHO
  have hbS := slots_bd C
  have hk1 : (slotsF C ≠ 0) := by
    rcases (by omega : C = 0 ∨ C = 1 ∨ C = 2 ∨ C = 3 ∨ C = 4 ∨ C = 5 ∨ C = 6 ∨ C = 7 ∨ C = 8) with rfl | rfl | rfl | rfl | rfl | rfl | rfl | rfl | rfl <;> decide
  obtain ⟨z1, z2, z3, z4, z5⟩ := size_bd (s := s) (k := C) (by omega)
  have z4b := z4 hk1
  have hHZ := fun w => psize_any s C w (by omega)
  have hHN := fun w => pslots_any C w
  have ha0 : 0 ≤ ((p : Int) + 1) * pageF s := Int.mul_nonneg (by omega) (by omega)
  have ha1 : ((p : Int) + 1) * pageF s ≤ 1024 * 1048576 := Int.mul_le_mul (by omega) (by omega) (by omega) (by omega)
  have hm0 : 0 ≤ L * pageF s := Int.mul_nonneg (by omega) (by omega)
  have hm1 : L * pageF s ≤ 1024 * 1048576 := Int.mul_le_mul (by omega) (by omega) (by omega) (by omega)
  obtain ⟨i0, hi0, hi1, hi2, hi3⟩ := info_parts infoPart
  have HI := Lib.hid (And.intro hi0 (And.intro hi1 (And.intro hi2 hi3)))
  have HL0 := Lib.hid L0
  clear hi0 hi1 hi2 hi3 h L0 hadd hslab hx4 hx5 hd4 hd5 z5 z4 hr
  generalize spanF vs t s (p, K, L, C) = F at hspan ⊢
  generalize slabL vs t s p C = SL at *
  generalize gv vs t p 4 = a4 at *
  generalize gv vs t p 5 = a5 at *
  generalize sizeF s C = z at *
  generalize slotsF C = sl at *
  generalize ((p : Int) + 1) * pageF s = A at *
  generalize pageF s = pg at *
  have hmw : IntKind.i64.wrap (L * pg) = L * pg := wrap_in _ (by omega)
  have hAp : IntKind.i64.wrap (A + pg) = A + pg := wrap_in _ (by omega)
  have HSP := Lib.hid hspan
  have HC := Lib.hid hHC
  have HO := Lib.hid hHO
  have HZ := Lib.hid hHZ
  have HN := Lib.hid hHN
  have G4' := Lib.hid G4
  have G5' := Lib.hid G5
  have HB4' := Lib.hid HB4
  have HB5' := Lib.hid HB5
  have HSL' := Lib.hid HSL
  have HSLn' := Lib.hid HSLn
  clear hspan hHC hHO hHZ hHN G4 G5 HB4 HB5 HSL HSLn
  go_enter Tryz.func97, Tryz.ntmps97
  go_wp2_with fail
  refine (HC.out _).mono ?_
  rintro e w1 ⟨rfl, r1⟩
  have HL1 := Lib.hid (HL0.out.keep r1)
  have S1 := S0.below r1
  have I1 : InfoAt w1 w.heap.size (p, K, L, C) := (r1.block _ hw0).trans I0
  obtain ⟨⟨e10, e11, e12⟩, -, -, -⟩ := HL1.out.cells
  have hw1 := Nat.lt_of_lt_of_le hw0 r1.size
  clear e0 e1 e2
  go_wp2_with fail
  refine (HO.out _).mono ?_
  rintro e w2 ⟨rfl, r2⟩
  have HL2 := Lib.hid (HL1.out.keep r2)
  have S2 := S1.below r2
  have I2 : InfoAt w2 w.heap.size (p, K, L, C) := (r2.block _ hw1).trans I1
  obtain ⟨q0, q1, q2⟩ := I2.cell
  obtain ⟨⟨d0, d1, d2⟩, -, -, -⟩ := HL2.out.cells
  have hw2 := Nat.lt_of_lt_of_le hw1 r2.size
  have hb2 : b < w2.heap.size := HL2.out.lt
  clear e10 e11 e12 I0 I1 r1 r2 HC HO HL0 HL1 S0 S1 hw0 hw1
  dsimp only at q0 q1 q2
  by_cases hK1 : K = 1
  · subst hK1
    have hF := HSP.out
    rw [if_pos rfl] at hF
    subst hF
    go_wp2
    go_ret
    exact ⟨_, rfl, rowQ_one S2 (1, A, L * pg)⟩
  · by_cases hK2 : K = 2
    · subst hK2
      have hF := HSP.out
      rw [if_neg (by omega), if_pos rfl] at hF
      subst hF
      go_wp2
      go_ret
      exact ⟨_, rfl, rowQ_one S2 (2, A, L * pg)⟩
    · obtain rfl : K = 3 := by omega
      have hF := HSP.out
      rw [if_neg (by omega), if_neg (by omega)] at hF
      have HF := Lib.hid hF
      have HL3 := Lib.hid (HL2.out.keep (Below.refl _ _).drew)
      clear hF HSP
      go_wp2_with fail
      refine wp_region_noPanic ?_
      refine wp_region_held_drew (S := fun w' => w'.cell? ⟨w.heap.size, 2, none⟩ = some (.int .i64 C) ∧ w'.cell? ⟨b, 0, none⟩ = some (.int .i64 t) ∧ w'.cell? ⟨b, 1, none⟩ = some (.int .i64 P) ∧ w'.cell? ⟨b, 2, none⟩ = some (.int .i64 s)) (by kernel_rfl) ?_ (fun hHeld => ?_)
      · exact ⟨q2, d0, d1, d2⟩
      refine wT 0 ?_
      refine wT 1 ?_
      refine wT 2 ?_
      refine wT 3 ?_
      refine wT 4 ?_
      refine wT 5 ?_
      refine wT 8 ?_
      refine wT 9 ?_
      refine wT 10 ?_
      refine wT 11 ?_
      refine wT 12 ?_
      refine wT 13 ?_
      refine wR 6 fun K hK => ?_
      go_simp
      refine (H4.out _).mono ?_
      rintro e w3 ⟨rfl, r3⟩
      have L3 := Lib.hid (HL3.out.keep r3)
      have k3 := held4g r3 hHeld
      refine hK.out _ _ ?_ (fun hHeld => ?_)
      · exact k3
      clear hK K
      try simp only [Act.put, zA, zB, zC, zD, zE, zF]
      refine wR 7 fun K hK => ?_
      go_simp
      refine (G4'.out _ L3.out).mono ?_
      rintro e w4 ⟨rfl, r4⟩
      have L4 := Lib.hid (L3.out.keep r4)
      have k4 := held4g r4 hHeld
      refine hK.out _ _ ?_ (fun hHeld => ?_)
      · exact k4
      clear hK K
      try simp only [Act.put, zA, zB, zC, zD, zE, zF]
      refine wR 14 fun K hK => ?_
      go_simp
      refine (H5.out _).mono ?_
      rintro e w5 ⟨rfl, r5⟩
      have L5 := Lib.hid (L4.out.keep r5)
      have k5 := held4g r5 hHeld
      refine hK.out _ _ ?_ (fun hHeld => ?_)
      · exact k5
      clear hK K
      try simp only [Act.put, zA, zB, zC, zD, zE, zF]
      refine wR 15 fun K hK => ?_
      go_simp
      refine (G5'.out _ L5.out).mono ?_
      rintro e w6 ⟨rfl, r6⟩
      have k6 := held4g r6 hHeld
      refine hK.out _ _ ?_ (fun hHeld => ?_)
      · exact k6
      clear hK K
      try simp only [Act.put, zA, zB, zC, zD, zE, zF]
      refine wT 16 ?_
      refine wT 17 ?_
      refine wpAnyH_done (by kernel_rfl) (NoPanic.normal ?_) _
      have S6 := S2.below ((Below.refl w2.heap.size w2).drew.trans (r3.trans ((r4.trans ((r5.trans (r6.mono r5.size)).mono r4.size)).mono r3.size)))
      obtain ⟨k60, k61, k62, k63⟩ := hHeld
      clear r3 r4 r5 r6 L3 L4 L5 k3 k4 k5 k6 H4 H5 G4' G5' HL3 HL2 S2 hw2 hb2 q0 q1 q2 d0 d1 d2 I2
      go_wp2_with fail
      refine wp_region_noPanic ?_
      refine wp_region_held_drew (S := fun w' => w'.cell? ⟨w.heap.size, 2, none⟩ = some (.int .i64 C) ∧ w'.cell? ⟨b, 0, none⟩ = some (.int .i64 t) ∧ w'.cell? ⟨b, 1, none⟩ = some (.int .i64 P) ∧ w'.cell? ⟨b, 2, none⟩ = some (.int .i64 s)) (by kernel_rfl) ?_ (fun hHeld => ?_)
      · exact ⟨k60, k61, k62, k63⟩
      refine wT 0 ?_
      refine wT 1 ?_
      refine wT 2 ?_
      refine wT 3 ?_
      refine wT 4 ?_
      refine wT 5 ?_
      refine wT 6 ?_
      refine wR 7 fun K hK => ?_
      go_simp
      refine (HZ.out _).mono ?_
      rintro e w7 ⟨rfl, r7⟩
      have k7 := held4g r7 hHeld
      refine hK.out _ _ ?_ (fun hHeld => ?_)
      · exact k7
      clear hK K
      try simp only [Act.put, zA, zB, zC, zD, zE, zF]
      refine wT 8 ?_
      refine wpAnyH_done (by kernel_rfl) (NoPanic.normal ?_) _
      have S7 := S6.below ((Below.refl w6.heap.size w6).drew.trans r7)
      obtain ⟨k70, k71, k72, k73⟩ := hHeld
      clear r7 k7 HZ S6 k60 k61 k62 k63
      go_wp2_with fail
      refine (HN.out _).mono ?_
      rintro e w8 ⟨rfl, r8⟩
      have S8 := S7.below r8
      clear r8 HN S7 k70 k71 k72 k73
      go_wp2_with fail
      go_loopw [10, 14, 15, 16, 79] (fun v10 v14 _ _ v79 wr => SpRelE w SL A z sl v10 v14 v79 wr) (fun _ _ _ _ v79 _ => 33 - (intOf v79).toNat)
      case atStart => exact ⟨0, rfl, by simp, by omega, by rw [HSL0]; exact World.ownsRow_nil _ _ _ _, S8.sub _ (by simp [Value.ownBlock])⟩
      case round =>
        obtain ⟨j, rfl, hat, hle, hrow, hbs⟩ := hrel
        obtain ⟨ar, har⟩ : ∃ ar, A + (j : Int) * z = ar := ⟨_, rfl⟩
        rw [har] at hat
        subst hat
        obtain ⟨pa, pc, rfl⟩ : ∃ a c, u10 = .slice a j c := by
          rcases hrow.2 with ⟨h5, h6⟩ | ⟨g', cap', cur, h5, -⟩
          · exact ⟨_, _, by rw [h5, h6]⟩
          · exact ⟨_, _, h5⟩
        have HB := Lib.hid hbs
        have HRow := Lib.hid hrow
        clear hbs hrow S8
        have hj0 : 0 ≤ (j : Int) * z := Int.mul_nonneg (by omega) (by omega)
        have hj1 : (j : Int) * z ≤ 32 * 1048576 := Int.mul_le_mul (by omega) (by omega) (by omega) (by omega)
        by_cases hlt : (j : Int) < sl
        · have hj32 : j < 32 := by omega
          have hsb := HSL'.out j
          have hA4 := HB4'.out j hj32
          have hA5 := HB5'.out j hj32
          have hnx : A + ((j + 1 : Nat) : Int) * z = ar + z := by
            have : ((j + 1 : Nat) : Int) * z = (j : Int) * z + z := by rw [Int.natCast_add, Int.add_mul]; simp
            omega
          have hw1 : IntKind.i64.wrap (ar + z) = ar + z := wrap_in _ (by omega)
          rw [har] at hsb
          have HNX := Lib.hid hnx
          have HSB := Lib.hid hsb
          clear hsb hnx hj0 hj1 har
          generalize bitB a4 j = x at *
          generalize bitB a5 j = y at *
          cases x <;> cases y
          all_goals
            simp only [if_true, Bool.false_eq_true, if_false] at hA4 hA5
            go_wp2_with (at_builtin; go_must (refine wpL_append rfl _ _ rfl 64 i0 (.agg #[.int .i64 0, .int .i64 0, .int .i64 0]) 3 24 Tryz.underlying61 HI.out.1 HI.out.2.1 HI.out.2.2.1 HI.out.2.2.2 rfl (by decide) (.slice pa j pc) j (partCells (SL j)) rfl (HRow.out.alloc _) ⟨wr.heap.size, 0, none⟩ 1 1 [_, .int .i64 ar, .int .i64 z] rfl rfl (cell_three_new _ _ _ _ _) ?c1 ?c2 ?c3 ?_); go_must (case c1 => (simp [Value.oneCell'])); go_must (case c2 => (unfold maxLen; omega)); go_must (case c3 => (omega)); go_must (intro v' w9 hown9 hg9 hnew9 hnil9); clear hnil9; go_must (obtain ⟨g', cap', rfl⟩ := Joins.ownsRow_form hown9 (by omega)))
            go_roundw
            case rel =>
              refine ⟨j + 1, by go_num, by rw [HNX.out], by omega, ?_, HB.out.append1 hg9 hnew9 hown9⟩
              rw [HSB.out, partCells_app]; exact hown9
            case measure => simp [intOf]; omega
        · have hbe : sl = j := by omega
          have hbt : sl.toNat = j := by omega
          have hres := HF.out
          rw [hbt, hbe] at hres
          have hmc : z * (j : Int) = (j : Int) * z := Int.mul_comm _ _
          rw [hmc, har] at hres
          have hm : (j : Int) * z ≤ pg := by rw [← hmc, ← hbe]; omega
          have hLn := HSLn'.out j
          have hj32 : j ≤ 32 := by omega
          have HRes := Lib.hid hres
          have hw2 : IntKind.i64.wrap (A + pg - ar) = pg - (j : Int) * z := by rw [← har]; rw [show A + pg - (A + (j : Int) * z) = pg - (j : Int) * z by omega]; exact wrap_in _ (by omega)
          clear HF hbt hmc hres
          by_cases hrest : 0 < pg - (j : Int) * z
          · have hcmp : decide (ar < A + pg) = true := by simp; omega
            have hres := HRes.out
            rw [if_pos hrest] at hres
            have HRes2 := Lib.hid hres
            clear hres HRes har hm hj0 hj1 hrest
            generalize pg - (j : Int) * z = rz at *
            go_wp2_with (at_builtin; go_must (refine wpL_append rfl _ _ rfl 64 i0 (.agg #[.int .i64 0, .int .i64 0, .int .i64 0]) 3 24 Tryz.underlying61 HI.out.1 HI.out.2.1 HI.out.2.2.1 HI.out.2.2.2 rfl (by decide) (.slice pa j pc) j (partCells (SL j)) rfl (HRow.out.alloc _) ⟨wr.heap.size, 0, none⟩ 1 1 [.int .i64 5, .int .i64 ar, .int .i64 rz] rfl rfl (cell_three_new _ _ _ _ _) ?c1 ?c2 ?c3 ?_); go_must (case c1 => (simp [Value.oneCell'])); go_must (case c2 => (unfold maxLen; omega)); go_must (case c3 => (omega)); go_must (intro v' w9 hown9 hg9 hnew9 hnil9); clear hnil9; go_must (obtain ⟨g', cap', rfl⟩ := Joins.ownsRow_form hown9 (by omega)))
            go_ret
            have B9 := HB.out.append1 hg9 hnew9 hown9
            refine ⟨.slice (some ⟨g', 0, none⟩) (j + 1) cap', rfl, ?_, fun k hk => (B9.ls k (by rw [hk]; simp)).2, B9.bel⟩
            rw [HRes2.out, partCells_app, List.length_append, hLn]
            exact hown9
          · have hcmp : decide (ar < A + pg) = false := by simp; omega
            have hres := HRes.out
            rw [if_neg hrest, List.append_nil] at hres
            have HRes2 := Lib.hid hres
            clear hres HRes har hm hj0 hj1 hrest hw2
            go_wp2
            go_ret
            refine ⟨.slice pa j pc, rfl, ?_, fun k hk => (HB.out.ls k (by rw [hk]; simp)).2, HB.out.bel⟩
            rw [HRes2.out, hLn]
            exact HRow.out
end
end Go.Proofs.YtkhanbedcmmlcaaGreatDoor
/- the program's audit: parts. -/
set_option linter.unusedSimpArgs false
set_option linter.unusedVariables false
namespace Go.Proofs.YtkhanbedcmmlcaaGreatDoor
open Go.RowKit
attribute [local go_sem] Oper.semAt_some

def paL (vs : List Int) (t s : Int) (pre : List (Nat × Int × Int × Int)) : List (Int × Int × Int) := pre.flatMap (spanF vs t s)
theorem paL_snoc (vs : List Int) (t s : Int) (pre : List (Nat × Int × Int × Int)) (x : Nat × Int × Int × Int) : paL vs t s (pre ++ [x]) = paL vs t s pre ++ spanF vs t s x := by simp [paL]
theorem spanF_len (vs : List Int) (t s : Int) (x : Nat × Int × Int × Int) : (spanF vs t s x).length ≤ 33 := by
  unfold spanF
  split
  · simp
  · split
    · simp
    · exact slabF_len _ _ _ _ _
theorem spanF_pos {P : Nat} (vs : List Int) (t s : Int) {x : Nat × Int × Int × Int} (h : SpIn P x) : 0 < (spanF vs t s x).length := by
  unfold spanF
  split
  · simp
  · split
    · simp
    · exact slabF_pos _ _ _ _ _ h.2.2.1 h.2.2.2
theorem paL_len (vs : List Int) (t s : Int) : ∀ (pre : List (Nat × Int × Int × Int)), (paL vs t s pre).length ≤ 33 * pre.length
  | [] => by simp [paL]
  | x :: l => by
    have h1 := paL_len vs t s l
    have h2 := spanF_len vs t s x
    have e : paL vs t s (x :: l) = spanF vs t s x ++ paL vs t s l := by simp [paL]
    rw [e, List.length_append, List.length_cons]
    omega
/-- a box holds a row of parts of the call's own. -/
def OutIs (W : World) (n0 B : Nat) (l : List (Int × Int × Int)) : Prop := ∃ v, Boxed W B 61 v ∧ W.ownsRow 0 64 3 v l.length (partCells l) ∧ ∀ k, v.ownBlock = some k → n0 ≤ k
theorem row_isCells {w : World} {e sz n : Nat} {v : Value} {xs : List Value} (h : w.ownsRow 0 e sz v n xs) {k : Nat} (hk : v.ownBlock = some k) : ∃ o : Obj, w.heap[k]? = some o ∧ o.isCells = true := by
  rcases h.2 with ⟨rfl, -⟩ | ⟨g', cap, cur', rfl, -, hg', -⟩
  · simp [Value.ownBlock] at hk
  · simp [Value.ownBlock] at hk
    subst hk
    exact ⟨_, hg', rfl⟩
theorem row_other {X Y : World} {row : Option Nat} {e sz n : Nat} {v : Value} {xs : List Value} (h : X.ownsRow 0 e sz v n xs) (hg : X.grownBy Y row) (hr : ∀ r, row = some r → ∃ o : Obj, X.heap[r]? = some o ∧ o.isCells = false) : Y.ownsRow 0 e sz v n xs :=
  ownsRow_block h fun k hk => hg.block k (ownsRow_lt h hk) fun e => by
    obtain ⟨o, ho, hc⟩ := hr k e.symm
    obtain ⟨o', ho', hc'⟩ := row_isCells h hk
    rw [ho] at ho'
    cases ho'
    rw [hc] at hc'
    cases hc'
theorem OutIs.own {β : Type} {n n0 B : Nat} {f : β → List (Int × Int × Int)} : OwnFrom n (fun (x : β) W => OutIs W n0 B (f x)) := fun x X Y row hs hg hr => by
  obtain ⟨v, h1, h2, h3⟩ := hs
  refine ⟨v, ?_, row_other h2 hg (fun r e => (hr r e).2), h3⟩
  exact (Own.from (boxed_own B 61 (fun _ : Unit => v)) n) () X Y row h1 hg hr
theorem OutIs.lt {W : World} {n0 B : Nat} {l : List (Int × Int × Int)} (h : OutIs W n0 B l) : B < W.heap.size := by obtain ⟨v, h1, -⟩ := h; exact h1.lt
theorem OutIs.alloc {W : World} {n0 B : Nat} {l : List (Int × Int × Int)} (h : OutIs W n0 B l) (o : Obj) : OutIs (W.alloc o) n0 B l := by
  obtain ⟨v, h1, h2, h3⟩ := h
  exact ⟨v, h1.alloc _, h2.alloc o, h3⟩
theorem RowQ.shape {w w' : World} {l : List (Int × Int × Int)} {v : Value} (h : RowQ w l v w') (hp : 0 < l.length) : ∃ g c, v = .slice (some ⟨g, 0, none⟩) l.length c := Joins.ownsRow_form h.1 hp
theorem partCells_one (l : List (Int × Int × Int)) : ∀ u ∈ partCells l, u.oneCell' = true := by
  intro u hu
  simp only [partCells, List.mem_flatMap] at hu
  obtain ⟨x, -, hx⟩ := hu
  simp at hx
  rcases hx with rfl | rfl | rfl <;> rfl
/-- behind an append to a row, what is no cells is as it was. -/
theorem keepsFrom_row {B : Nat} {W W' : World} {e sz n : Nat} {v : Value} {xs : List Value} (h : W.ownsRow 0 e sz v n xs) (hg : W.grownBy W' v.ownBlock) : KeepsFrom B W W' :=
  ⟨hg.size, fun k o _ hk ho => (hg.block k (Array.getElem?_eq_some_iff.1 hk).1 (fun e => by
    obtain ⟨o', ho', hc'⟩ := row_isCells h e.symm
    rw [hk] at ho'
    cases ho'
    rw [ho] at hc'
    cases hc')).trans hk⟩
theorem box_grown {W W' : World} {B : Nat} {t e : TypeId} {u : Value} {sz n : Nat} {v : Value} {xs : List Value} (h : W.heap[B]? = some (.cells #[u] t)) (hr : W.ownsRow 0 e sz v n xs) (hne : e ≠ t) (hg : W.grownBy W' v.ownBlock) : W'.heap[B]? = some (.cells #[u] t) :=
  (hg.block B (Array.getElem?_eq_some_iff.1 h).1 (fun e => ownsRow_elem hr h hne e.symm)).trans h
theorem held4p {w : World} {B b C : Nat} {u v0 v1 v2 x : Value} (h0 : B ≠ C) (h1 : b ≠ C)
    (h : w.cell? ⟨B, 0, none⟩ = some u ∧ w.cell? ⟨b, 0, none⟩ = some v0 ∧ w.cell? ⟨b, 1, none⟩ = some v1 ∧ w.cell? ⟨b, 2, none⟩ = some v2) :
    (w.setCell ⟨C, 0, none⟩ x).cell? ⟨B, 0, none⟩ = some u ∧ (w.setCell ⟨C, 0, none⟩ x).cell? ⟨b, 0, none⟩ = some v0 ∧ (w.setCell ⟨C, 0, none⟩ x).cell? ⟨b, 1, none⟩ = some v1 ∧ (w.setCell ⟨C, 0, none⟩ x).cell? ⟨b, 2, none⟩ = some v2 :=
  held4s h0 h1 h
section
variable {b : Nat} {t s : Int} {ad : Addr} {n c : Nat} {vs : List Int} {mb : Nat}
set_option maxHeartbeats 4000000 in
set_option maxRecDepth 100000 in
theorem pparts_any (w0 w : World) (ml : List (Int × Int)) (g P : Nat) (al : List (Int × Int × Int)) (h : LS w0 b t P s ad n c vs (.slice (some ⟨g, 0, none⟩) P P) mb ml w) (hA : AtR w0 b mb g P al ad w) (hsp : ∀ k x, al[k]? = some x → x.1 ≠ 0 → SpIn P (k, x)) :
    Calls Tryz.prog 54 #[.pointer (some ⟨b, 0, none⟩)] w fun e W' => ∃ v, e = .returned v ∧ RowQ w (paL vs t s (spN al P)) v W' := by
  obtain ⟨b1, b2, b3, b4, b5, b6, b7⟩ := h.lk.xv.bd
  have hblt := h.lk.lt
  have hglt : g < w.heap.size := ownsRow_lt hA.row rfl
  obtain ⟨⟨e0, e1, e2⟩, -, hc4, -⟩ := h.lk.cells
  have hcs := hA.cells
  have hal := hA.len
  have hP64 : P ≤ 1024 := by omega
  have HL := Lib.hid h.lk
  have HSP := Lib.hid (fun (w : World) (h : LK b t P s ad n c vs (.slice (some ⟨g, 0, none⟩) P P) mb w) (p : Nat) (K L C : Int) (hx : SpIn P (p, K, L, C)) => pspan_any w g P p K L C h hx)
  obtain ⟨i0, hi0, hi1, hi2, hi3⟩ := info_parts infoPart
  have HI := Lib.hid (And.intro hi0 (And.intro hi1 (And.intro hi2 hi3)))
  clear h hA hi0 hi1 hi2 hi3
  refine (callsIn_wide (n := 10)).1 ?_
  refine callsIn_of_wp_marks Tryz.func54 rfl trivial ?_ rfl
  simp only [Tryz.ntmps54, List.size_toArray, List.length_cons, List.length_nil, Nat.reduceAdd, Nat.reduceSub, Array.replicate_succ, Array.replicate_zero, List.push_toArray, List.append_toArray, List.nil_append, List.cons_append]
  gi_wp2_with (refine ⟨trivial, ?_⟩; gi_at_call 96; refine (callsIn_wide.2 (pspans_any _ b)).mono ?_; rintro e w' ⟨rfl, rfl⟩)
  have bB := ((Boxed.new w 69 (.pointer (some ⟨b, 0, none⟩))).alloc (.cells #[.slice none 0 0] 61)).alloc (.cells #[.pointer (some ⟨b, 0, none⟩)] 69)
  have bO := (Boxed.new (w.alloc (.cells #[.pointer (some ⟨b, 0, none⟩)] 69)) 61 (.slice none 0 0)).alloc (.cells #[.pointer (some ⟨b, 0, none⟩)] 69)
  have bL := Boxed.new ((w.alloc (.cells #[.pointer (some ⟨b, 0, none⟩)] 69)).alloc (.cells #[.slice none 0 0] 61)) 69 (.pointer (some ⟨b, 0, none⟩))
  simp only [World.size_alloc] at bO bL
  have hB0 : Below w.heap.size w (((w.alloc (.cells #[.pointer (some ⟨b, 0, none⟩)] 69)).alloc (.cells #[.slice none 0 0] 61)).alloc (.cells #[.pointer (some ⟨b, 0, none⟩)] 69)) := (((Below.refl _ w).alloc (Nat.le_refl _) _).alloc (by simp) _).alloc (by simp; omega) _
  have hsz : (((w.alloc (.cells #[.pointer (some ⟨b, 0, none⟩)] 69)).alloc (.cells #[.slice none 0 0] 61)).alloc (.cells #[.pointer (some ⟨b, 0, none⟩)] 69)).heap.size = w.heap.size + 3 := by simp
  obtain ⟨W0, hW0⟩ : ∃ W0, ((w.alloc (.cells #[.pointer (some ⟨b, 0, none⟩)] 69)).alloc (.cells #[.slice none 0 0] 61)).alloc (.cells #[.pointer (some ⟨b, 0, none⟩)] 69) = W0 := ⟨_, rfl⟩
  rw [hW0] at bB bO bL hB0 hsz ⊢
  clear hW0
  refine wpIn_rangeFunc_ownH rfl (by omega) (gf := 126) (lb := #[.pointer (some ⟨w.heap.size + 1 + 1, 0, none⟩)]) rfl trivial (enters_of Tryz.func126 (by kernel_rfl) rfl)
    (spans_stops _ (by omega) (w.heap.size + 1 + 1) w.heap.size b g al (P := P) (by omega) hal hsp W0 (by omega) (by omega) hglt hblt bL.cell ((hB0.cell (p := ⟨b, 4, none⟩) hblt).trans hc4)
      (fun k x hx => ⟨(hB0.cell (p := ⟨g, k * 3, none⟩) hglt).trans (hcs k x hx).1, (hB0.cell (p := ⟨g, k * 3 + 1, none⟩) hglt).trans (hcs k x hx).2.1, (hB0.cell (p := ⟨g, k * 3 + 2, none⟩) hglt).trans (hcs k x hx).2.2⟩))
    belowK_t (belowK_b (by omega)) (Below.refl _ _) (fun _ => rfl)
    (fun pre W => (Boxed W w.heap.size 69 (.pointer (some ⟨b, 0, none⟩)) ∧ OutIs W w.heap.size (w.heap.size + 1) (paL vs t s (raw pre))) ∧ Below w.heap.size w W)
    (fun _ _ _ => False)
    (OwnFrom.and (OwnFrom.and (Own.from (boxed_own _ _ _) _) OutIs.own) (ownFrom_below (Nat.le_refl _) (by omega)))
    (fun _ _ _ _ _ hs _ _ => hs)
    ⟨⟨bB, _, bO, World.ownsRow_nil _ _ _ _, by simp [Value.ownBlock]⟩, hB0⟩
    (fun x a' W => ∃ Bx, w.heap.size + 1 < Bx ∧ InfoAt W Bx x.1 ∧ a' = { tmps := #[.pointer (some ⟨b, 0, none⟩), .pointer (some ⟨w.heap.size, 0, none⟩), .slice none 0 0, .pointer (some ⟨w.heap.size + 1, 0, none⟩), .int .i64 (x.1.1 : Int), .pointer (some ⟨Bx, 0, none⟩), .pointer (some ⟨b, 0, none⟩), .func (.func 126) #[] #[.pointer (some ⟨w.heap.size + 1 + 1, 0, none⟩)], .int .i64 (x.1.1 : Int), .agg #[.int .i64 x.1.2.1, .int .i64 x.1.2.2.1, .int .i64 x.1.2.2.2], undef, undef, undef, undef, undef, undef, undef], defers := [] })
    (fun x a' _ X Y row hs hg hr => by obtain ⟨Bx, h1, h2, h3⟩ := hs; exact ⟨Bx, h1, InfoAt.own () X Y row h2 hg hr, h3⟩)
    ?assign ?body ?done ?stop
  case assign =>
    rintro l pre x W K ⟨⟨i1, i2⟩, iB⟩ hK
    have hszW := iB.size
    have hw3 := i2.lt
    dsimp only [spV]
    gi_wp2
    refine hK _ _ ((KeepsOthers.alloc _ _).from _) ((Below.refl _ W).alloc hszW _) ⟨⟨i1.alloc _, i2.alloc _⟩, iB.alloc hszW _⟩ ⟨W.heap.size, by omega, World.alloc_heap_new W _, rfl⟩
  case body =>
    rintro l pre x a' W hl _ ⟨⟨i1, v, i2, i3, i4⟩, iB⟩ ⟨Bx, hBx, hI, rfl⟩ hlt
    obtain ⟨q0, q1, q2⟩ := hI.cell
    have c1 := i1.cell
    have c2 := i2.cell
    have f2 := i2.frozen
    have hsn := paL_snoc vs t s (raw pre) x.1
    have hbd := paL_len vs t s (raw pre)
    have hrl : (raw pre).length = pre.length := by simp [raw]
    rw [← raw_snoc] at hsn
    have hLK := HL.out.keep iB
    have hxs := x.2
    have hpos := spanF_pos vs t s hxs
    have hsl := spanF_len vs t s x.1
    generalize pre ++ [x] = pn at *
    obtain ⟨⟨p, Kd, L, C⟩, hx⟩ := x
    dsimp only at hsn q0 q1 q2 hxs hpos hsl hI ⊢
    have H1 := Lib.hid (fun w h => HSP.out w h p Kd L C hx)
    generalize spanF vs t s (p, Kd, L, C) = sb at *
    generalize paL vs t s (raw pre) = L0 at *
    obtain ⟨pa, pc, rfl⟩ := row_shape i3
    have hLL : L0.length ≤ 33792 := by omega
    have HLK := Lib.hid (hLK.keep (Below.refl _ _).drew)
    have HRow := Lib.hid i3
    have HI2 := Lib.hid hI
    have HB1 := Lib.hid i1
    have HB2 := Lib.hid i2
    have HNL := Lib.hid (partCells_len sb)
    have HOne := Lib.hid (partCells_one sb)
    have hl1 := i1.lt
    have hl2 := i2.lt
    have hlx : Bx < W.heap.size := (Array.getElem?_eq_some_iff.1 hI).1
    clear hLK hbd hrl i3 hxs hx hI
    gi_wp2_with fail
    refine wpIn_region_held_drew (S := fun w' => w'.cell? ⟨w.heap.size, 0, none⟩ = some (.pointer (some ⟨b, 0, none⟩)) ∧ w'.cell? ⟨Bx, 0, none⟩ = some (.int .i64 Kd) ∧ w'.cell? ⟨Bx, 1, none⟩ = some (.int .i64 L) ∧ w'.cell? ⟨Bx, 2, none⟩ = some (.int .i64 C)) (by kernel_rfl) (by kernel_rfl) ?_ (fun hHeld => ?_)
    · exact ⟨c1, q0, q1, q2⟩
    refine wT 1 ?_
    refine wT 2 ?_
    refine wT 3 ?_
    refine wpAnyH_ready (rs := [0, 4]) (by kernel_rfl) (by simp) ?_
    refine AllReadyH.cons (o := _) rfl (fun K hK => ?_) (AllReadyH.cons (o := _) rfl (fun K hK => ?_) AllReadyH.nil)
    · go_simp
      refine hK.out _ _ ?_ (fun hHeld => ?_)
      · exact hHeld
      clear hK K
      try simp only [Act.put, zA, zB, zD, zE, zF]
      refine wR 4 fun K hK => ?_
      go_simp
      refine (H1.out _ HLK.out).mono ?_
      rintro e w1 ⟨sv, rfl, hsv⟩
      obtain ⟨gs, cs, rfl⟩ := hsv.shape hpos
      have r1 := hsv.2.2
      have cl1 := (r1.cell (p := ⟨w.heap.size + 1, 0, none⟩) hl2).trans c2
      have R1 := ((BS.start W.drew).below r1).row (ownsRow_block (w' := W.drew) HRow.out (fun _ _ => rfl))
      have HNews := Lib.hid (hsv.1.cells (g := gs) rfl)
      clear hsv
      have k1 := held4g r1 hHeld
      refine hK.out _ _ ?_ (fun hHeld => ?_)
      · exact k1
      clear hK K
      try simp only [Act.put, zA, zB, zC, zD, zE, zF]
      refine wR 5 fun K hK => ?_
      refine step_append_new rfl (.tmp 10) (.tmp 14) rfl 64 i0 (.agg #[.int .i64 0, .int .i64 0, .int .i64 0]) 3 24 Tryz.underlying61 HI.out.1 HI.out.2.1 HI.out.2.2.1 HI.out.2.2.2 rfl (by decide) (.slice pa L0.length pc) L0.length (partCells L0) rfl R1 ⟨gs, 0, none⟩ sb.length cs (partCells sb) rfl HNL.out HNews.out HOne.out (by unfold maxLen; omega) (by omega) ?_
      intro v2 w2 hown2 hg2 hnew2 hnil2
      clear hnil2
      have rD := (Below.refl W.heap.size W).drew.trans r1
      have B1 := box_grown (Boxed.keepB HB1.out rD) R1 (by decide) hg2
      have B2 := box_grown (Boxed.keepB HB2.out rD) R1 (by decide) hg2
      have BI2 : InfoAt w2 Bx (p, Kd, L, C) := (hg2.block Bx (Nat.lt_of_lt_of_le hlx rD.size) (fun e => ownsRow_elem R1 ((rD.block Bx hlx).trans HI2.out) (by decide) e.symm)).trans ((rD.block Bx hlx).trans HI2.out)
      have cB2 : w2.cell? ⟨w.heap.size + 1, 0, none⟩ = some (.slice pa L0.length pc) := cell?_of_heap (o := 0) B2
      have fB2 := frozen?_of_heap (o := 0) B2
      have k2 := And.intro (show w2.cell? ⟨w.heap.size, 0, none⟩ = some (.pointer (some ⟨b, 0, none⟩)) from cell?_of_heap (o := 0) B1) BI2.cell
      have hvb : ∀ k, v2.ownBlock = some k → w.heap.size ≤ k := (fun k hk => (hnew2 k hk).elim (i4 k) (fun h => Nat.le_trans (Nat.le_trans iB.size rD.size) h))
      have hne2 : ∀ k, v2.ownBlock = some k → k ≠ w.heap.size + 1 := (fun k hk e => ownsRow_elem hown2 B2 (by decide) (by rw [hk, e]))
      obtain ⟨g2, c2, rfl⟩ := Joins.ownsRow_form hown2 (by omega)
      refine hK.out _ _ ?_ (fun hHeld => ?_)
      · exact k2
      clear hK K
      try simp only [Act.put, zA, zB, zC, zD, zE, zF]
      refine wR 6 fun K hK => ?_
      go_simp
      refine hK.out _ _ ?_ (fun hHeld => ?_)
      · exact held4p (by omega) (by omega) hHeld
      clear hK K
      try simp only [Act.put, zA, zB, zC, zD, zE, zF]
      refine wpAnyH_done (by kernel_rfl) (NoPanic.normal ?_) _
      refine Only.normal ?_
      have hk2 := hg2.size
      have r1m := rD.mono iB.size
      have hb2 : Below w.heap.size W w2 := r1m.grown hg2 (Nat.le_trans iB.size rD.size) i4
      refine ⟨((Below.from rD _).trans (keepsFrom_row R1 hg2)).trans ((KeepsOthers.setCell _ _ _).from _), hb2.setCell (p := ⟨w.heap.size + 1, 0, none⟩) (by show w.heap.size ≤ w.heap.size + 1; omega) _, ⟨(show Boxed w2 w.heap.size _ _ from B1).other (by omega) _, _, (show Boxed w2 (w.heap.size + 1) _ _ from B2).set _, ?_, hvb⟩, (iB.trans hb2).setCell (p := ⟨w.heap.size + 1, 0, none⟩) (by show w.heap.size ≤ w.heap.size + 1; omega) _⟩
      rw [hsn, partCells_app, List.length_append]
      exact ownsRow_block hown2 fun k hk => heap_setCell_other (hne2 k hk)
    · go_simp
      refine (H1.out _ HLK.out).mono ?_
      rintro e w1 ⟨sv, rfl, hsv⟩
      obtain ⟨gs, cs, rfl⟩ := hsv.shape hpos
      have r1 := hsv.2.2
      have cl1 := (r1.cell (p := ⟨w.heap.size + 1, 0, none⟩) hl2).trans c2
      have R1 := ((BS.start W.drew).below r1).row (ownsRow_block (w' := W.drew) HRow.out (fun _ _ => rfl))
      have HNews := Lib.hid (hsv.1.cells (g := gs) rfl)
      clear hsv
      have k1 := held4g r1 hHeld
      refine hK.out _ _ ?_ (fun hHeld => ?_)
      · exact k1
      clear hK K
      try simp only [Act.put, zA, zB, zC, zD, zE, zF]
      refine wR 0 fun K hK => ?_
      go_simp
      refine hK.out _ _ ?_ (fun hHeld => ?_)
      · exact hHeld
      clear hK K
      try simp only [Act.put, zA, zB, zD, zE, zF]
      refine wR 5 fun K hK => ?_
      refine step_append_new rfl (.tmp 10) (.tmp 14) rfl 64 i0 (.agg #[.int .i64 0, .int .i64 0, .int .i64 0]) 3 24 Tryz.underlying61 HI.out.1 HI.out.2.1 HI.out.2.2.1 HI.out.2.2.2 rfl (by decide) (.slice pa L0.length pc) L0.length (partCells L0) rfl R1 ⟨gs, 0, none⟩ sb.length cs (partCells sb) rfl HNL.out HNews.out HOne.out (by unfold maxLen; omega) (by omega) ?_
      intro v2 w2 hown2 hg2 hnew2 hnil2
      clear hnil2
      have rD := (Below.refl W.heap.size W).drew.trans r1
      have B1 := box_grown (Boxed.keepB HB1.out rD) R1 (by decide) hg2
      have B2 := box_grown (Boxed.keepB HB2.out rD) R1 (by decide) hg2
      have BI2 : InfoAt w2 Bx (p, Kd, L, C) := (hg2.block Bx (Nat.lt_of_lt_of_le hlx rD.size) (fun e => ownsRow_elem R1 ((rD.block Bx hlx).trans HI2.out) (by decide) e.symm)).trans ((rD.block Bx hlx).trans HI2.out)
      have cB2 : w2.cell? ⟨w.heap.size + 1, 0, none⟩ = some (.slice pa L0.length pc) := cell?_of_heap (o := 0) B2
      have fB2 := frozen?_of_heap (o := 0) B2
      have k2 := And.intro (show w2.cell? ⟨w.heap.size, 0, none⟩ = some (.pointer (some ⟨b, 0, none⟩)) from cell?_of_heap (o := 0) B1) BI2.cell
      have hvb : ∀ k, v2.ownBlock = some k → w.heap.size ≤ k := (fun k hk => (hnew2 k hk).elim (i4 k) (fun h => Nat.le_trans (Nat.le_trans iB.size rD.size) h))
      have hne2 : ∀ k, v2.ownBlock = some k → k ≠ w.heap.size + 1 := (fun k hk e => ownsRow_elem hown2 B2 (by decide) (by rw [hk, e]))
      obtain ⟨g2, c2, rfl⟩ := Joins.ownsRow_form hown2 (by omega)
      refine hK.out _ _ ?_ (fun hHeld => ?_)
      · exact k2
      clear hK K
      try simp only [Act.put, zA, zB, zC, zD, zE, zF]
      refine wR 6 fun K hK => ?_
      go_simp
      refine hK.out _ _ ?_ (fun hHeld => ?_)
      · exact held4p (by omega) (by omega) hHeld
      clear hK K
      try simp only [Act.put, zA, zB, zC, zD, zE, zF]
      refine wpAnyH_done (by kernel_rfl) (NoPanic.normal ?_) _
      refine Only.normal ?_
      have hk2 := hg2.size
      have r1m := rD.mono iB.size
      have hb2 : Below w.heap.size W w2 := r1m.grown hg2 (Nat.le_trans iB.size rD.size) i4
      refine ⟨((Below.from rD _).trans (keepsFrom_row R1 hg2)).trans ((KeepsOthers.setCell _ _ _).from _), hb2.setCell (p := ⟨w.heap.size + 1, 0, none⟩) (by show w.heap.size ≤ w.heap.size + 1; omega) _, ⟨(show Boxed w2 w.heap.size _ _ from B1).other (by omega) _, _, (show Boxed w2 (w.heap.size + 1) _ _ from B2).set _, ?_, hvb⟩, (iB.trans hb2).setCell (p := ⟨w.heap.size + 1, 0, none⟩) (by show w.heap.size ≤ w.heap.size + 1; omega) _⟩
      rw [hsn, partCells_app, List.length_append]
      exact ownsRow_block hown2 fun k hk => heap_setCell_other (hne2 k hk)
  case done =>
    rintro D ys W hD hys ⟨⟨i1, v, i2, i3, i4⟩, iB⟩ hK
    rw [hys] at i3
    have c2 := i2.cell
    gi_wp2
    refine ⟨by simp, .inl ⟨_, _, rfl, run_takeDeferred hK, ?_⟩⟩
    refine ⟨_, results_tmp rfl _ _ _, v, rfl, row_other i3 (grownBy_putObj' _ D (.deferred none)) (fun r e => by cases e; exact ⟨_, hK, rfl⟩), i4, iB.trans (belowK_b (w := w) (Nat.le_refl _) _ D _ _ (by omega) hK rfl rfl)⟩
  case stop =>
    rintro D cd pre W hD _ h _
    exact h.elim
end
end Go.Proofs.YtkhanbedcmmlcaaGreatDoor
/- the program's audit: blocks, roots. -/
set_option linter.unusedSimpArgs false
set_option linter.unusedVariables false
namespace Go.Proofs.YtkhanbedcmmlcaaGreatDoor
open Go.RowKit

structure PbRel (w : World) (l : List (Int × Int × Int)) (v3 v9 : Value) (wr : World) (k : Nat) : Prop where
  hk : v9 = .int .i64 k
  le : k ≤ l.length
  row : wr.ownsRow 0 130 2 v3 (liveL (l.take k)).length (blockCells (liveL (l.take k)))
  bs : BS w v3.ownBlock.toList wr
def PbRelE (w : World) (l : List (Int × Int × Int)) (v3 v9 : Value) (wr : World) : Prop := ∃ k, PbRel w l v3 v9 wr k
theorem BS.lift {w0 w wr : World} {Ls : List Nat} (h : BS w Ls wr) (hb : Below w0.heap.size w0 w) : BS w0 Ls wr :=
  ⟨hb.trans (h.bel.mono hb.size), fun L hL => ⟨(h.ls L hL).1, Nat.le_trans hb.size (h.ls L hL).2⟩⟩
section
variable {b : Nat} {t s : Int} {ad : Addr} {n c : Nat} {vs : List Int} {mb : Nat}
set_option maxHeartbeats 4000000 in
set_option maxRecDepth 100000 in
theorem pblocks_any (w0 w : World) (ml : List (Int × Int)) (g P : Nat) (al : List (Int × Int × Int)) (h : LS w0 b t P s ad n c vs (.slice (some ⟨g, 0, none⟩) P P) mb ml w) (hA : AtR w0 b mb g P al ad w) (hsp : ∀ k x, al[k]? = some x → x.1 ≠ 0 → SpIn P (k, x)) :
    Calls Tryz.prog 116 #[.pointer (some ⟨b, 0, none⟩)] w fun e W' => ∃ v, e = .returned v ∧ RowB w (liveL (paL vs t s (spN al P))) v W' := by
  have HP := Lib.hid (pparts_any w0 w ml g P al h hA hsp)
  have hll : (paL vs t s (spN al P)).length ≤ 33792 := by
    have h1 := paL_len vs t s (spN al P)
    have h2 := spN_len al P
    have h3 := h.lk.xv.bd
    omega
  obtain ⟨i0, hi0, hi1, hi2, hi3⟩ := info_parts infoBlock
  have HI := Lib.hid (And.intro hi0 (And.intro hi1 (And.intro hi2 hi3)))
  clear h hA hsp hi0 hi1 hi2 hi3
  generalize paL vs t s (spN al P) = l at *
  go_enter Tryz.func116, Tryz.ntmps116
  go_wp2_with fail
  refine HP.out.mono ?_
  rintro e w1 ⟨lv, rfl, hlv⟩
  obtain ⟨la, lc, rfl⟩ : ∃ a c, lv = .slice a l.length c := row_shape hlv.1
  have HLr := Lib.hid hlv.1
  have hB1 := hlv.2.2
  clear hlv HP
  go_wp2_with fail
  go_loopw [3, 5, 9] (fun v3 _ v9 wr => PbRelE w1 l v3 v9 wr) (fun _ _ v9 _ => l.length - (intOf v9).toNat)
  case atStart => exact ⟨0, rfl, by omega, World.ownsRow_nil _ _ _ _, (BS.start _).sub _ (by simp [Value.ownBlock])⟩
  case round =>
    obtain ⟨k, rfl, hle, hrow, hbs⟩ := hrel
    have hll2 := liveL_len (l.take k)
    have hll3 : (l.take k).length ≤ l.length := by simp; omega
    have HTk := Lib.hid (fun x (h : l[k]? = some x) => liveL_take h)
    have HTe := Lib.hid (fun (h : k = l.length) => (show liveL (l.take k) = liveL l by rw [h, List.take_length]))
    generalize liveL (l.take k) = o at *
    have hol : o.length ≤ 33792 := by omega
    obtain ⟨pa, pc, rfl⟩ : ∃ a c, u3 = .slice a o.length c := row_shape hrow
    have HB := Lib.hid hbs
    have HRow := Lib.hid hrow
    have HLw := Lib.hid (hbs.row HLr.out)
    clear hbs hrow hll2 hll3
    by_cases hlt : k < l.length
    · obtain ⟨⟨y1, y2, y3⟩, hx⟩ : ∃ x, l[k]? = some x := ⟨_, List.getElem?_eq_getElem hlt⟩
      obtain ⟨g, cap, hg⟩ := Joins.ownsRow_form HLw.out (by omega)
      simp only [Value.slice.injEq, true_and] at hg
      obtain ⟨rfl, rfl⟩ := hg
      obtain ⟨p0, p1, p2⟩ := part_cell hx
      have q0 := (HLw.out.cellAt (k * 3) (by omega)).trans p0
      have q1 := (HLw.out.cellAt (k * 3 + 1) (by omega)).trans p1
      have q2 := (HLw.out.cellAt (k * 3 + 2) (by omega)).trans p2
      have ht := HTk.out _ hx
      simp only at ht q0 q1 q2
      have hkl : (k : Int) < l.length := by omega
      clear p0 p1 p2 hx HTk HTe
      by_cases hy : y1 = 2
      · subst hy
        rw [if_pos rfl] at ht
        have HT := Lib.hid ht
        clear ht
        have B2 := (HB.out.alloc (.cells #[.int .i64 2, .int .i64 y2, .int .i64 y3] 64)).sub (Value.slice pa o.length pc).ownBlock.toList (fun L hL => List.mem_cons_of_mem _ hL)
        go_wp2_with (at_builtin; go_must (refine wpL_append rfl _ _ rfl 130 i0 (.agg #[.int .i64 0, .int .i64 0]) 2 16 Tryz.underlying113 HI.out.1 HI.out.2.1 HI.out.2.2.1 HI.out.2.2.2 rfl (by decide) (.slice pa o.length pc) o.length (blockCells o) rfl ((HRow.out.alloc _).alloc _) ⟨_, 0, none⟩ 1 1 [.int .i64 y2, .int .i64 y3] rfl rfl (cell_two_at _ _ _ _ _ (by simp)) ?c1 ?c2 ?c3 ?_); go_must (case c1 => (simp [Value.oneCell'])); go_must (case c2 => (unfold maxLen; omega)); go_must (case c3 => (omega)); go_must (intro v' w5 hown5 hg5 hnew5 hnil5); clear hnil5; go_must (obtain ⟨g', cap', rfl⟩ := Joins.ownsRow_form hown5 (by omega)))
        go_roundw
        case rel =>
          refine ⟨k + 1, by go_num, by omega, ?_, B2.append1 hg5 hnew5 hown5⟩
          rw [HT.out, blockCells_app, List.length_append]; exact hown5
        case measure => simp [intOf]; omega
      · rw [if_neg hy, List.append_nil] at ht
        have HT := Lib.hid ht
        have hyb : (y1 == 2) = false := by simp [hy]
        have B2 := (HB.out.alloc (.cells #[.int .i64 y1, .int .i64 y2, .int .i64 y3] 64)).sub (Value.slice pa o.length pc).ownBlock.toList (fun L hL => List.mem_cons_of_mem _ hL)
        clear ht hy
        go_wp2_with fail
        go_roundw
        case rel =>
          refine ⟨k + 1, by go_num, by omega, ?_, B2⟩
          rw [HT.out]; exact HRow.out.alloc _
        case measure => simp [intOf]; omega
    · have hkl : ¬ (k : Int) < l.length := by omega
      have hFo : liveL l = o := by rw [HTe.out (by omega)]
      have HFo := Lib.hid hFo
      clear hFo
      have B3 := HB.out.lift hB1
      clear HTk HTe
      go_wp2
      go_ret
      rw [HFo.out]
      refine ⟨.slice pa o.length pc, rfl, HRow.out, fun k hk => (B3.ls k ?_).2, B3.bel⟩
      rw [hk]; simp
/-- is it the address of a block? -/
theorem proots11_any (w : World) (x y a : Int) (ab : Nat) (ha : w.cell? ⟨ab, 0, none⟩ = some (.int .i64 a)) :
    Calls Tryz.prog 120 #[.agg #[.int .i64 x, .int .i64 y], .pointer (some ⟨ab, 0, none⟩)] w fun e w' => e = .returned (.bool (x == a)) ∧ Below w.heap.size w w' := by
  have hab := World.block_lt_of_cell? _ _ ha
  have ha2 := (World.cell?_alloc_lt (a := ⟨ab, 0, none⟩) (w := w) (.cells #[.int .i64 x, .int .i64 y] 130) hab).trans ha
  go_enter Tryz.func120, Tryz.ntmps120
  go_wp2
  go_ret
  exact ⟨rfl, (Below.refl _ _).alloc (Nat.le_refl _) _⟩
def IxRel (l : List (Int × Int)) (a : Int) (w : World) (i : Value) (wr : World) : Prop := ∃ k : Nat, k ≤ l.length ∧ i = .int .i64 k ∧ (∀ j x, j < k → l[j]? = some x → x.1 ≠ a) ∧ Below w.heap.size w wr
theorem hasB_no {l : List (Int × Int)} {a : Int} (h : ∀ j x, j < l.length → l[j]? = some x → x.1 ≠ a) : hasB l a = false := by
  unfold hasB
  rw [List.any_eq_false]
  intro x hx
  obtain ⟨j, hj, e⟩ := List.mem_iff_getElem.1 hx
  have := h j x hj (by rw [List.getElem?_eq_getElem hj, e])
  simpa using this
theorem hasB_yes {l : List (Int × Int)} {a : Int} {k : Nat} {x : Int × Int} (h : l[k]? = some x) (e : x.1 = a) : hasB l a = true := by
  unfold hasB
  rw [List.any_eq_true]
  exact ⟨x, List.mem_of_getElem? h, by simpa using e⟩
set_option maxHeartbeats 2000000 in
set_option maxRecDepth 100000 in
theorem pindex_any (w : World) (l : List (Int × Int)) (pa : Option Addr) (pc : Nat) (a : Int) (ab : Nat) (hl : l.length ≤ 33792) (hr : w.ownsRow 0 130 2 (.slice pa l.length pc) l.length (blockCells l)) (ha : w.cell? ⟨ab, 0, none⟩ = some (.int .i64 a)) :
    Calls Tryz.prog 148 #[.slice pa l.length pc, .func (.func 120) #[] #[.pointer (some ⟨ab, 0, none⟩)]] w fun e w' => (∃ i : Int, e = .returned (.int .i64 i) ∧ decide (0 ≤ i) = hasB l a) ∧ Below w.heap.size w w' := by
  have HR := Lib.hid hr
  have HA := Lib.hid ha
  clear hr ha
  go_enter Tryz.func148, Tryz.ntmps148
  go_wp2
  go_loopw [5, 8] (fun _ v8 wr => IxRel l a w v8 wr) (fun _ v8 _ => l.length - (intOf v8).toNat)
  case atStart => exact ⟨0, by omega, rfl, by omega, Below.refl _ _⟩
  case round =>
    obtain ⟨k, hk, rfl, hno, hb⟩ := hrel
    have HNo := Lib.hid hno
    clear hno
    by_cases hlt : k < l.length
    · have hkl : (k : Int) < l.length := by omega
      obtain ⟨⟨y1, y2⟩, hx⟩ : ∃ x, l[k]? = some x := ⟨_, List.getElem?_eq_getElem hlt⟩
      have hrw := ((BS.start w).below hb).row HR.out
      obtain ⟨g, cap, hg⟩ := Joins.ownsRow_form hrw (by omega)
      simp only [Value.slice.injEq, true_and] at hg
      obtain ⟨rfl, rfl⟩ := hg
      obtain ⟨p0, p1⟩ := block_cell hx
      have hcl := blockCells_len l
      have q0 := (hrw.cellAt (k * 2) (by omega)).trans p0
      have q1 := (hrw.cellAt (k * 2 + 1) (by omega)).trans p1
      have H1 := Lib.hid (proots11_any wr y1 y2 a ab ((hb.cell (World.block_lt_of_cell? _ _ HA.out)).trans HA.out))
      have HYes := Lib.hid (fun (e : y1 = a) => hasB_yes hx e)
      have HNext := Lib.hid (fun (e : y1 ≠ a) j x (hj : j < k + 1) (hjx : l[j]? = some x) => (show x.1 ≠ a by
        by_cases hjk : j = k
        · subst hjk; rw [hx] at hjx; cases hjx; exact e
        · exact HNo.out j x (by omega) hjx))
      clear p0 p1 hx hrw
      dsimp only at q0 q1
      by_cases hy : y1 = a
      · have hyb : (y1 == a) = true := by simpa using hy
        rw [hyb] at H1
        have HYY := Lib.hid (HYes.out hy)
        clear HYes HNext hy
        go_wp2_with fail
        refine H1.out.mono ?_
        rintro e w1 ⟨rfl, r1⟩
        go_wp2
        go_ret
        exact ⟨⟨k, rfl, by rw [HYY.out]; simp⟩, hb.trans (r1.mono hb.size)⟩
      · have hyb : (y1 == a) = false := by simpa using hy
        rw [hyb] at H1
        have HNN := Lib.hid (HNext.out hy)
        clear HYes HNext hy
        go_wp2_with fail
        refine H1.out.mono ?_
        rintro e w1 ⟨rfl, r1⟩
        go_wp2_with fail
        go_roundw
        case rel => exact ⟨k + 1, by omega, by go_num, HNN.out, hb.trans (r1.mono hb.size)⟩
        case measure => simp [intOf]; omega
    · have hkl : ¬ (k : Int) < l.length := by omega
      have hke : k = l.length := by omega
      rw [hke] at HNo
      have HHB := Lib.hid (hasB_no HNo.out)
      clear HNo hke
      go_wp2
      go_ret
      exact ⟨⟨-1, rfl, by rw [HHB.out]; rfl⟩, hb⟩
theorem pcontains_any (w : World) (l : List (Int × Int)) (pa : Option Addr) (pc : Nat) (a : Int) (ab : Nat) (hl : l.length ≤ 33792) (hr : w.ownsRow 0 130 2 (.slice pa l.length pc) l.length (blockCells l)) (ha : w.cell? ⟨ab, 0, none⟩ = some (.int .i64 a)) :
    Calls Tryz.prog 119 #[.slice pa l.length pc, .func (.func 120) #[] #[.pointer (some ⟨ab, 0, none⟩)]] w fun e w' => e = .returned (.bool (hasB l a)) ∧ Below w.heap.size w w' := by
  have H := Lib.hid (pindex_any w l pa pc a ab hl hr ha)
  clear hr ha
  generalize hasB l a = z at *
  go_enter Tryz.func119, Tryz.ntmps119
  go_wp2_with fail
  refine H.out.mono ?_
  rintro e w1 ⟨⟨i, rfl, hi⟩, r1⟩
  go_wp2
  go_ret
  exact ⟨rfl, r1⟩
set_option maxHeartbeats 2000000 in
set_option maxRecDepth 100000 in
theorem proots1_any (w : World) (g P kb bb i : Nat) (l : List (Int × Int)) (pa : Option Addr) (pc : Nat) (hl : l.length ≤ 33792) (h : LK b t P s ad n c vs (.slice (some ⟨g, 0, none⟩) P P) mb w) (hi : i < 8)
    (hk : w.cell? ⟨kb, 0, none⟩ = some (.pointer (some ⟨b, 0, none⟩))) (hbb : w.cell? ⟨bb, 0, none⟩ = some (.slice pa l.length pc)) (hr : w.ownsRow 0 130 2 (.slice pa l.length pc) l.length (blockCells l)) :
    Calls Tryz.prog 117 #[.int .i64 i, .pointer (some ⟨kb, 0, none⟩), .pointer (some ⟨bb, 0, none⟩)] w fun e w' => e = .returned (.bool (rootB vs l i)) ∧ Below w.heap.size w w' := by
  have H1 := Lib.hid (fun w => pproot_any i w hi)
  have bd := h.xv.bd
  have G1 := Lib.hid (fun (w : World) (h : LK b t P s ad n c vs (.slice (some ⟨g, 0, none⟩) P P) mb w) => pget_any (22 + i) w h (by omega))
  have hu := getD_u32 h.xv.u32 (22 + i)
  unfold VS.U32 at hu
  have HLK := Lib.hid h
  have HR := Lib.hid hr
  unfold rootB
  clear h hr
  generalize vs.getD (22 + i) 0 = a at *
  have hw : IntKind.i64.wrap a = a := wrap_in _ (by omega)
  have HC := Lib.hid (fun (w : World) (ab : Nat) hr ha => pcontains_any w l pa pc a ab hl hr ha)
  by_cases hz : a = 0
  · subst hz
    go_enter Tryz.func117, Tryz.ntmps117
    go_wp2_with fail
    refine wp_region_noPanic ?_
    refine wp_region_held_drew (S := fun w' => BS w ([] : List Nat) w' ∧ w'.cell? ⟨kb, 0, none⟩ = some (.pointer (some ⟨b, 0, none⟩)) ∧ w'.cell? ⟨bb, 0, none⟩ = some (.slice pa l.length pc)) (by kernel_rfl) ?_ (fun hHeld => ?_)
    · exact ⟨(BS.start w).drew, hk, hbb⟩
    refine wT 0 ?_
    refine wT 1 ?_
    refine wpAnyH_ready (rs := [2, 5]) (by kernel_rfl) (by simp) ?_
    refine AllReadyH.cons (o := _) rfl (fun K hK => ?_) (AllReadyH.cons (o := _) rfl (fun K hK => ?_) AllReadyH.nil)
    · go_simp
      refine (calls_b hHeld.1 (H1.out _)).mono ?_
      rintro e wr1 ⟨rfl, hV, hVl⟩
      dsimp only
      refine hK.out _ _ ?_ (fun hHeld2 => ?_)
      · exact ⟨hV, hV.old hk, hV.old hbb⟩
      clear hK K hV hVl hHeld
      have hHeld := hHeld2
      clear hHeld2
      try simp only [Act.put, zA, zB, zC, zD, zE, zF]
      refine wpAnyH_ready (rs := [3, 5]) (by kernel_rfl) (by simp) ?_
      refine AllReadyH.cons (o := _) rfl (fun K hK => ?_) (AllReadyH.cons (o := _) rfl (fun K hK => ?_) AllReadyH.nil)
      · go_simp
        refine (calls_b hHeld.1 (G1.out _ (HLK.out.keep hHeld.1.bel))).mono ?_
        rintro e wr2 ⟨rfl, hV, hVl⟩
        dsimp only
        refine hK.out _ _ ?_ (fun hHeld2 => ?_)
        · exact ⟨hV, hV.old hk, hV.old hbb⟩
        clear hK K hV hVl hHeld
        have hHeld := hHeld2
        clear hHeld2
        try simp only [Act.put, zA, zB, zC, zD, zE, zF]
        refine wT 4 ?_
        refine wR 5 fun K hK => ?_
        have hP := hHeld
        have hA := hHeld.1.allocd (#[.int .i64 0]) 2
        try simp only [World.size_drew] at hA
        try simp only [World.size_alloc] at hA
        go_simp
        refine hK.out _ _ ?_ (fun hHeld2 => ?_)
        · exact ⟨hA.bs.sub _ (by simp), hA.bs.old hk, hA.bs.old hbb⟩
        clear hK K hHeld
        have hHeld := hHeld2
        clear hHeld2
        try simp only [Act.put, zA, zB, zC, zD, zE, zF]
        refine wR 6 fun K hK => ?_
        go_simp
        have hA2 := (hP.1).allocd (#[.int .i64 0]) 2
        refine hK.out _ _ ?_ (fun hHeld2 => ?_)
        try simp only [World.size_drew] at hA2
        try simp only [World.size_alloc] at hA2
        · exact ⟨hA2.bs.sub _ (by simp), hA2.bs.old hk, hA2.bs.old hbb⟩
        clear hA hP
        have hA := hA2
        clear hA2 hHeld
        have hHeld := hHeld2
        clear hHeld2
        clear hK K
        try simp only [Act.put, zA, zB, zC, zD, zE, zF]
        refine wpAnyH_done (by kernel_rfl) (NoPanic.normal ?_) _
        refine world_gen ?_
        intro wz hwz
        rw [← hwz] at hHeld hA
        clear hwz
        have ca := cell?_of_heap (o := 0) hA.box
        simp at ca
        have hB := hA.bs.bel
        clear hA hHeld
        go_wp2
        go_ret
        exact ⟨ret_bool (by simp), hB⟩
      · have hP := hHeld
        have hA := hHeld.1.allocd (#[.int .i64 0]) 2
        try simp only [World.size_drew] at hA
        try simp only [World.size_alloc] at hA
        go_simp
        refine hK.out _ _ ?_ (fun hHeld2 => ?_)
        · exact ⟨hA.bs.sub _ (by simp), hA.bs.old hk, hA.bs.old hbb⟩
        clear hK K hHeld
        have hHeld := hHeld2
        clear hHeld2
        try simp only [Act.put, zA, zB, zC, zD, zE, zF]
        refine wR 3 fun K hK => ?_
        go_simp
        refine (calls_b hA.bs (G1.out _ (HLK.out.keep hHeld.1.bel))).mono ?_
        rintro e wr3 ⟨rfl, hV, hVl⟩
        have hAn := hA.step hV hVl
        dsimp only
        refine hK.out _ _ ?_ (fun hHeld2 => ?_)
        · exact ⟨hV.sub _ (by simp), hV.old hk, hV.old hbb⟩
        clear hK K hV hVl hHeld hA hP
        have hA := hAn
        have hP := trivial
        clear hAn
        have hHeld := hHeld2
        clear hHeld2
        try simp only [Act.put, zA, zB, zC, zD, zE, zF]
        refine wT 4 ?_
        refine wR 6 fun K hK => ?_
        have kc0 := (cell?_of_heap (o := 0) hA.box)
        simp at kc0
        have kf0 := frozen?_of_heap (o := 0) hA.box
        go_simp
        refine hK.out _ _ ?_ (fun hHeld2 => ?_)
        · exact ⟨(hA.set 0 _).bs.sub _ (by simp), (hA.set 0 _).bs.old hk, (hA.set 0 _).bs.old hbb⟩
        have hA2 : BA w ([] : List Nat) _ (#[.int .i64 0]) 2 _ := (hA.set 0 (.int .i64 0))
        clear kc0 kf0 hA hP
        have hA := hA2
        clear hA2 hHeld
        have hHeld := hHeld2
        clear hHeld2
        clear hK K
        try simp only [Act.put, zA, zB, zC, zD, zE, zF]
        refine wpAnyH_done (by kernel_rfl) (NoPanic.normal ?_) _
        refine world_gen ?_
        intro wz hwz
        rw [← hwz] at hHeld hA
        clear hwz
        have ca := cell?_of_heap (o := 0) hA.box
        simp at ca
        have hB := hA.bs.bel
        clear hA hHeld
        go_wp2
        go_ret
        exact ⟨ret_bool (by simp), hB⟩
    · have hP := hHeld
      have hA := hHeld.1.allocd (#[.int .i64 0]) 2
      try simp only [World.size_drew] at hA
      try simp only [World.size_alloc] at hA
      go_simp
      refine hK.out _ _ ?_ (fun hHeld2 => ?_)
      · exact ⟨hA.bs.sub _ (by simp), hA.bs.old hk, hA.bs.old hbb⟩
      clear hK K hHeld
      have hHeld := hHeld2
      clear hHeld2
      try simp only [Act.put, zA, zB, zC, zD, zE, zF]
      refine wR 2 fun K hK => ?_
      go_simp
      refine (calls_b hA.bs (H1.out _)).mono ?_
      rintro e wr4 ⟨rfl, hV, hVl⟩
      have hAn := hA.step hV hVl
      dsimp only
      refine hK.out _ _ ?_ (fun hHeld2 => ?_)
      · exact ⟨hV.sub _ (by simp), hV.old hk, hV.old hbb⟩
      clear hK K hV hVl hHeld hA hP
      have hA := hAn
      have hP := trivial
      clear hAn
      have hHeld := hHeld2
      clear hHeld2
      try simp only [Act.put, zA, zB, zC, zD, zE, zF]
      refine wR 3 fun K hK => ?_
      go_simp
      refine (calls_b hA.bs (G1.out _ (HLK.out.keep hHeld.1.bel))).mono ?_
      rintro e wr5 ⟨rfl, hV, hVl⟩
      have hAn := hA.step hV hVl
      dsimp only
      refine hK.out _ _ ?_ (fun hHeld2 => ?_)
      · exact ⟨hV.sub _ (by simp), hV.old hk, hV.old hbb⟩
      clear hK K hV hVl hHeld hA hP
      have hA := hAn
      have hP := trivial
      clear hAn
      have hHeld := hHeld2
      clear hHeld2
      try simp only [Act.put, zA, zB, zC, zD, zE, zF]
      refine wT 4 ?_
      refine wR 6 fun K hK => ?_
      have kc0 := (cell?_of_heap (o := 0) hA.box)
      simp at kc0
      have kf0 := frozen?_of_heap (o := 0) hA.box
      go_simp
      refine hK.out _ _ ?_ (fun hHeld2 => ?_)
      · exact ⟨(hA.set 0 _).bs.sub _ (by simp), (hA.set 0 _).bs.old hk, (hA.set 0 _).bs.old hbb⟩
      have hA2 : BA w ([] : List Nat) _ (#[.int .i64 0]) 2 _ := (hA.set 0 (.int .i64 0))
      clear kc0 kf0 hA hP
      have hA := hA2
      clear hA2 hHeld
      have hHeld := hHeld2
      clear hHeld2
      clear hK K
      try simp only [Act.put, zA, zB, zC, zD, zE, zF]
      refine wpAnyH_done (by kernel_rfl) (NoPanic.normal ?_) _
      refine world_gen ?_
      intro wz hwz
      rw [← hwz] at hHeld hA
      clear hwz
      have ca := cell?_of_heap (o := 0) hA.box
      simp at ca
      have hB := hA.bs.bel
      clear hA hHeld
      go_wp2
      go_ret
      exact ⟨ret_bool (by simp), hB⟩
  · have hzb : (a == 0) = false := by simpa using hz
    clear hz
    generalize hasB l a = z at *
    go_enter Tryz.func117, Tryz.ntmps117
    go_wp2_with fail
    refine wp_region_noPanic ?_
    refine wp_region_held_drew (S := fun w' => BS w ([] : List Nat) w' ∧ w'.cell? ⟨kb, 0, none⟩ = some (.pointer (some ⟨b, 0, none⟩)) ∧ w'.cell? ⟨bb, 0, none⟩ = some (.slice pa l.length pc)) (by kernel_rfl) ?_ (fun hHeld => ?_)
    · exact ⟨(BS.start w).drew, hk, hbb⟩
    refine wT 0 ?_
    refine wT 1 ?_
    refine wpAnyH_ready (rs := [2, 5]) (by kernel_rfl) (by simp) ?_
    refine AllReadyH.cons (o := _) rfl (fun K hK => ?_) (AllReadyH.cons (o := _) rfl (fun K hK => ?_) AllReadyH.nil)
    · go_simp
      refine (calls_b hHeld.1 (H1.out _)).mono ?_
      rintro e wr1 ⟨rfl, hV, hVl⟩
      dsimp only
      refine hK.out _ _ ?_ (fun hHeld2 => ?_)
      · exact ⟨hV, hV.old hk, hV.old hbb⟩
      clear hK K hV hVl hHeld
      have hHeld := hHeld2
      clear hHeld2
      try simp only [Act.put, zA, zB, zC, zD, zE, zF]
      refine wpAnyH_ready (rs := [3, 5]) (by kernel_rfl) (by simp) ?_
      refine AllReadyH.cons (o := _) rfl (fun K hK => ?_) (AllReadyH.cons (o := _) rfl (fun K hK => ?_) AllReadyH.nil)
      · go_simp
        refine (calls_b hHeld.1 (G1.out _ (HLK.out.keep hHeld.1.bel))).mono ?_
        rintro e wr2 ⟨rfl, hV, hVl⟩
        dsimp only
        refine hK.out _ _ ?_ (fun hHeld2 => ?_)
        · exact ⟨hV, hV.old hk, hV.old hbb⟩
        clear hK K hV hVl hHeld
        have hHeld := hHeld2
        clear hHeld2
        try simp only [Act.put, zA, zB, zC, zD, zE, zF]
        refine wT 4 ?_
        refine wR 5 fun K hK => ?_
        have hP := hHeld
        have hA := hHeld.1.allocd (#[.int .i64 0]) 2
        try simp only [World.size_drew] at hA
        try simp only [World.size_alloc] at hA
        go_simp
        refine hK.out _ _ ?_ (fun hHeld2 => ?_)
        · exact ⟨hA.bs.sub _ (by simp), hA.bs.old hk, hA.bs.old hbb⟩
        clear hK K hHeld
        have hHeld := hHeld2
        clear hHeld2
        try simp only [Act.put, zA, zB, zC, zD, zE, zF]
        refine wR 6 fun K hK => ?_
        go_simp
        have hA2 := (hP.1).allocd (#[.int .i64 a]) 2
        refine hK.out _ _ ?_ (fun hHeld2 => ?_)
        try simp only [World.size_drew] at hA2
        try simp only [World.size_alloc] at hA2
        · exact ⟨hA2.bs.sub _ (by simp), hA2.bs.old hk, hA2.bs.old hbb⟩
        clear hA hP
        have hA := hA2
        clear hA2 hHeld
        have hHeld := hHeld2
        clear hHeld2
        clear hK K
        try simp only [Act.put, zA, zB, zC, zD, zE, zF]
        refine wpAnyH_done (by kernel_rfl) (NoPanic.normal ?_) _
        refine world_gen ?_
        intro wz hwz
        rw [← hwz] at hHeld hA
        clear hwz
        have ca := cell?_of_heap (o := 0) hA.box
        simp at ca
        have hB := hA.bs.bel
        have cb := hHeld.2.2
        have HC2 := Lib.hid (HC.out wz _ (hHeld.1.row HR.out) ca)
        clear hA hHeld HC
        go_wp2_with fail
        refine HC2.out.mono ?_
        rintro e w9 ⟨rfl, r9⟩
        go_wp2
        go_ret
        exact ⟨ret_bool (by simp [hzb]), hB.trans (r9.mono hB.size)⟩
      · have hP := hHeld
        have hA := hHeld.1.allocd (#[.int .i64 0]) 2
        try simp only [World.size_drew] at hA
        try simp only [World.size_alloc] at hA
        go_simp
        refine hK.out _ _ ?_ (fun hHeld2 => ?_)
        · exact ⟨hA.bs.sub _ (by simp), hA.bs.old hk, hA.bs.old hbb⟩
        clear hK K hHeld
        have hHeld := hHeld2
        clear hHeld2
        try simp only [Act.put, zA, zB, zC, zD, zE, zF]
        refine wR 3 fun K hK => ?_
        go_simp
        refine (calls_b hA.bs (G1.out _ (HLK.out.keep hHeld.1.bel))).mono ?_
        rintro e wr3 ⟨rfl, hV, hVl⟩
        have hAn := hA.step hV hVl
        dsimp only
        refine hK.out _ _ ?_ (fun hHeld2 => ?_)
        · exact ⟨hV.sub _ (by simp), hV.old hk, hV.old hbb⟩
        clear hK K hV hVl hHeld hA hP
        have hA := hAn
        have hP := trivial
        clear hAn
        have hHeld := hHeld2
        clear hHeld2
        try simp only [Act.put, zA, zB, zC, zD, zE, zF]
        refine wT 4 ?_
        refine wR 6 fun K hK => ?_
        have kc0 := (cell?_of_heap (o := 0) hA.box)
        simp at kc0
        have kf0 := frozen?_of_heap (o := 0) hA.box
        go_simp
        refine hK.out _ _ ?_ (fun hHeld2 => ?_)
        · exact ⟨(hA.set 0 _).bs.sub _ (by simp), (hA.set 0 _).bs.old hk, (hA.set 0 _).bs.old hbb⟩
        have hA2 : BA w ([] : List Nat) _ (#[.int .i64 a]) 2 _ := (hA.set 0 (.int .i64 a))
        clear kc0 kf0 hA hP
        have hA := hA2
        clear hA2 hHeld
        have hHeld := hHeld2
        clear hHeld2
        clear hK K
        try simp only [Act.put, zA, zB, zC, zD, zE, zF]
        refine wpAnyH_done (by kernel_rfl) (NoPanic.normal ?_) _
        refine world_gen ?_
        intro wz hwz
        rw [← hwz] at hHeld hA
        clear hwz
        have ca := cell?_of_heap (o := 0) hA.box
        simp at ca
        have hB := hA.bs.bel
        have cb := hHeld.2.2
        have HC2 := Lib.hid (HC.out wz _ (hHeld.1.row HR.out) ca)
        clear hA hHeld HC
        go_wp2_with fail
        refine HC2.out.mono ?_
        rintro e w9 ⟨rfl, r9⟩
        go_wp2
        go_ret
        exact ⟨ret_bool (by simp [hzb]), hB.trans (r9.mono hB.size)⟩
    · have hP := hHeld
      have hA := hHeld.1.allocd (#[.int .i64 0]) 2
      try simp only [World.size_drew] at hA
      try simp only [World.size_alloc] at hA
      go_simp
      refine hK.out _ _ ?_ (fun hHeld2 => ?_)
      · exact ⟨hA.bs.sub _ (by simp), hA.bs.old hk, hA.bs.old hbb⟩
      clear hK K hHeld
      have hHeld := hHeld2
      clear hHeld2
      try simp only [Act.put, zA, zB, zC, zD, zE, zF]
      refine wR 2 fun K hK => ?_
      go_simp
      refine (calls_b hA.bs (H1.out _)).mono ?_
      rintro e wr4 ⟨rfl, hV, hVl⟩
      have hAn := hA.step hV hVl
      dsimp only
      refine hK.out _ _ ?_ (fun hHeld2 => ?_)
      · exact ⟨hV.sub _ (by simp), hV.old hk, hV.old hbb⟩
      clear hK K hV hVl hHeld hA hP
      have hA := hAn
      have hP := trivial
      clear hAn
      have hHeld := hHeld2
      clear hHeld2
      try simp only [Act.put, zA, zB, zC, zD, zE, zF]
      refine wR 3 fun K hK => ?_
      go_simp
      refine (calls_b hA.bs (G1.out _ (HLK.out.keep hHeld.1.bel))).mono ?_
      rintro e wr5 ⟨rfl, hV, hVl⟩
      have hAn := hA.step hV hVl
      dsimp only
      refine hK.out _ _ ?_ (fun hHeld2 => ?_)
      · exact ⟨hV.sub _ (by simp), hV.old hk, hV.old hbb⟩
      clear hK K hV hVl hHeld hA hP
      have hA := hAn
      have hP := trivial
      clear hAn
      have hHeld := hHeld2
      clear hHeld2
      try simp only [Act.put, zA, zB, zC, zD, zE, zF]
      refine wT 4 ?_
      refine wR 6 fun K hK => ?_
      have kc0 := (cell?_of_heap (o := 0) hA.box)
      simp at kc0
      have kf0 := frozen?_of_heap (o := 0) hA.box
      go_simp
      refine hK.out _ _ ?_ (fun hHeld2 => ?_)
      · exact ⟨(hA.set 0 _).bs.sub _ (by simp), (hA.set 0 _).bs.old hk, (hA.set 0 _).bs.old hbb⟩
      have hA2 : BA w ([] : List Nat) _ (#[.int .i64 a]) 2 _ := (hA.set 0 (.int .i64 a))
      clear kc0 kf0 hA hP
      have hA := hA2
      clear hA2 hHeld
      have hHeld := hHeld2
      clear hHeld2
      clear hK K
      try simp only [Act.put, zA, zB, zC, zD, zE, zF]
      refine wpAnyH_done (by kernel_rfl) (NoPanic.normal ?_) _
      refine world_gen ?_
      intro wz hwz
      rw [← hwz] at hHeld hA
      clear hwz
      have ca := cell?_of_heap (o := 0) hA.box
      simp at ca
      have hB := hA.bs.bel
      have cb := hHeld.2.2
      have HC2 := Lib.hid (HC.out wz _ (hHeld.1.row HR.out) ca)
      clear hA hHeld HC
      go_wp2_with fail
      refine HC2.out.mono ?_
      rintro e w9 ⟨rfl, r9⟩
      go_wp2
      go_ret
      exact ⟨ret_bool (by simp [hzb]), hB.trans (r9.mono hB.size)⟩
set_option maxRecDepth 100000 in
theorem proots_any (w0 w : World) (ml : List (Int × Int)) (g P : Nat) (al : List (Int × Int × Int)) (h : LS w0 b t P s ad n c vs (.slice (some ⟨g, 0, none⟩) P P) mb ml w) (hA : AtR w0 b mb g P al ad w) (hsp : ∀ k x, al[k]? = some x → x.1 ≠ 0 → SpIn P (k, x)) :
    Calls Tryz.prog 68 #[.pointer (some ⟨b, 0, none⟩)] w fun e W' => e = .returned (.bool (allN (rootB vs (liveL (paL vs t s (spN al P)))) 8)) ∧ Below w.heap.size w W' := by
  have hb0 : Below w.heap.size w (w.alloc (.cells #[.pointer (some ⟨b, 0, none⟩)] 69)) := (Below.refl _ _).alloc (Nat.le_refl _) _
  have x0 : (w.alloc (.cells #[.pointer (some ⟨b, 0, none⟩)] 69)).cell? ⟨w.heap.size, 0, none⟩ = some (.pointer (some ⟨b, 0, none⟩)) := loc_alloc w #[.pointer (some ⟨b, 0, none⟩)] 69 0
  have HB := Lib.hid (pblocks_any w0 _ ml g P al (h.keep hb0) (hA.keep hb0) hsp)
  have hll : (liveL (paL vs t s (spN al P))).length ≤ 33792 := by
    have h1 := paL_len vs t s (spN al P)
    have h2 := spN_len al P
    have h3 := h.lk.xv.bd
    have h4 := liveL_len (paL vs t s (spN al P))
    omega
  have HLK := Lib.hid (h.lk.keep hb0)
  clear h hA hsp
  generalize liveL (paL vs t s (spN al P)) = l at *
  go_enter Tryz.func68, Tryz.ntmps68
  go_wp2_with fail
  refine HB.out.mono ?_
  rintro e w1 ⟨lv, rfl, hlv⟩
  obtain ⟨la, lc, rfl⟩ : ∃ a c, lv = .slice a l.length c := row_shape hlv.1
  have hb1 := hlv.2.2
  have hb2 : Below w1.heap.size w1 (w1.alloc (.cells #[.slice la l.length lc] 113)) := (Below.refl _ _).alloc (Nat.le_refl _) _
  have y0 : (w1.alloc (.cells #[.slice la l.length lc] 113)).cell? ⟨w1.heap.size, 0, none⟩ = some (.slice la l.length lc) := loc_alloc w1 #[.slice la l.length lc] 113 0
  have hx1 := (hb1.cell (World.block_lt_of_cell? _ _ x0)).trans x0
  have hx2 := (hb2.cell (World.block_lt_of_cell? _ _ hx1)).trans hx1
  have H := pallRt 8 (by omega) (.pointer (some ⟨w.heap.size, 0, none⟩)) (.pointer (some ⟨w1.heap.size, 0, none⟩)) (rootB vs l)
    (fun _ W => (LK b t P s ad n c vs (.slice (some ⟨g, 0, none⟩) P P) mb W ∧ W.cell? ⟨w.heap.size, 0, none⟩ = some (.pointer (some ⟨b, 0, none⟩)) ∧ W.cell? ⟨w1.heap.size, 0, none⟩ = some (.slice la l.length lc)) ∧ W.ownsRow 0 130 2 (.slice la l.length lc) l.length (blockCells l) ∧ Below w1.heap.size w1 W)
    (w1.alloc (.cells #[.slice la l.length lc] 113)) ⟨⟨(HLK.out.keep hb1).keep hb2, hx2, y0⟩, ((BS.start _).below hb2).row hlv.1, hb2⟩ (fun k W hk _ hI => by
      obtain ⟨⟨i1, i2, i3⟩, i4, i5⟩ := hI
      refine (proots1_any W g P w.heap.size w1.heap.size k l la lc hll i1 hk i2 i3 i4).mono ?_
      rintro e W' ⟨e1, e2⟩
      exact ⟨e1, ⟨i1.keep e2, (e2.cell (World.block_lt_of_cell? _ _ i2)).trans i2, (e2.cell (World.block_lt_of_cell? _ _ i3)).trans i3⟩, ((BS.start _).below e2).row i4, i5.trans (e2.mono i5.size)⟩)
  have HH := Lib.hid H
  clear H hlv x0 y0 hx1 hx2 HLK HB
  go_wp2_with fail
  refine HH.out.mono ?_
  rintro e w2 ⟨rfl, k, -, -, -, -, hx⟩
  have HX := Lib.hid (hb0.trans ((hb1.mono (by simp)).trans (hx.mono (Nat.le_trans (by simp) hb1.size))))
  clear hx
  go_wp2
  go_ret
  exact ⟨rfl, HX.out⟩
end
end Go.Proofs.YtkhanbedcmmlcaaGreatDoor
