/- parts of the proof, merged by a program. -/
import Derived.Test.YtnagdljgeglceaaGreatMsp8
set_option linter.unusedSimpArgs false
set_option linter.unusedVariables false
/- sweep of the document: Page, All. -/
set_option linter.unusedSimpArgs false
set_option linter.unusedVariables false
namespace Go.Proofs.YtnagdljgeglceaaGreat
open Go.RowKit

theorem rrack_int (k : Int) (w : World) (h0 : 0 ≤ k) (h1 : k ≤ 8) :
 Calls Tryz.prog 53 #[.int .i64 k] w fun e w' => e = .returned (.int .i64 (13 + k)) ∧ Below w.heap.size w w' := by
 have := rrack_any k.toNat w (by omega)
 rw [show ((k.toNat : Nat) : Int) = k by omega, show ((13 + k.toNat : Nat) : Int) = 13 + k by omega] at this
 exact this

theorem xpage_out (b : Nat) (t p s q : Int) (w : World) (S : Nat → Prop) (st : VS) (h : RV w b S st) (hq : pageB p q = false) :
 Calls Tryz.prog 19 #[.pointer (some ⟨b, 0, none⟩), .agg #[.int .i64 t, .int .i64 p, .int .i64 s], .int .i64 q] w fun e w' => e = .returned (.bool (sweepF t p s q st).1) ∧ NowR w b S (sweepF t p s q st).2 w' := by
 have hF : sweepF t p s q st = (false, st) := by unfold sweepF; rw [hq]; rfl
 rw [hF]
 have hV := (VSt.start keepsRV h).alloc keepsRV (.cells #[.int .i64 t, .int .i64 p, .int .i64 s] 23)
 clear hF h
 by_cases h0 : 0 ≤ q
 ·have h1 : ¬ q < p := by simpa [pageB, h0] using hq
  clear hq
  go_enter Tryz.func19, Tryz.ntmps19
  go_wp2
  go_ret
  exact ⟨rfl, hV.done keepsRV⟩
 ·clear hq
  go_enter Tryz.func19, Tryz.ntmps19
  go_wp2
  go_ret
  exact ⟨rfl, hV.done keepsRV⟩

set_option maxHeartbeats 4000000 in
set_option maxRecDepth 100000 in
theorem xpage_any (b : Nat) (t p s q : Int) (w : World) (S : Nat → Prop) (st : VS) (h : RV w b S st) (hp : p ≤ 1024) :
 Calls Tryz.prog 19 #[.pointer (some ⟨b, 0, none⟩), .agg #[.int .i64 t, .int .i64 p, .int .i64 s], .int .i64 q] w fun e w' => e = .returned (.bool (sweepF t p s q st).1) ∧ NowR w b S (sweepF t p s q st).2 w' := by
 cases hq : pageB p q with
 | false => exact xpage_out b t p s q w S st h hq
 | true =>
  have hV := (VSt.start keepsRV h).alloc keepsRV (.cells #[.int .i64 t, .int .i64 p, .int .i64 s] 23)
  have c0 := loc_alloc w #[.int .i64 t, .int .i64 p, .int .i64 s] 23
  have hF : sweepF t p s q st = (if iK (st.get (ofF t p s q 0)).1 = 3 then
   if ((st.get (ofF t p s q 0)).2.get (ofF t p s q 4)).1 = (((st.get (ofF t p s q 0)).2.get (ofF t p s q 4)).2.get (ofF t p s q 5)).1 then (false, (((st.get (ofF t p s q 0)).2.get (ofF t p s q 4)).2.get (ofF t p s q 5)).2)
   else (true, if ((st.get (ofF t p s q 0)).2.get (ofF t p s q 4)).1 = 0 then releaseF t p s q 1 (if fullB (((st.get (ofF t p s q 0)).2.get (ofF t p s q 4)).2.get (ofF t p s q 5)).1 (iC (st.get (ofF t p s q 0)).1) = true then ((((st.get (ofF t p s q 0)).2.get (ofF t p s q 4)).2.get (ofF t p s q 5)).2.put (ofF t p s q 5) ((st.get (ofF t p s q 0)).2.get (ofF t p s q 4)).1) else pullF t p s (13 + iC (st.get (ofF t p s q 0)).1) q ((((st.get (ofF t p s q 0)).2.get (ofF t p s q 4)).2.get (ofF t p s q 5)).2.put (ofF t p s q 5) ((st.get (ofF t p s q 0)).2.get (ofF t p s q 4)).1)) else if fullB (((st.get (ofF t p s q 0)).2.get (ofF t p s q 4)).2.get (ofF t p s q 5)).1 (iC (st.get (ofF t p s q 0)).1) = true then pushF t p s (13 + iC (st.get (ofF t p s q 0)).1) q ((((st.get (ofF t p s q 0)).2.get (ofF t p s q 4)).2.get (ofF t p s q 5)).2.put (ofF t p s q 5) ((st.get (ofF t p s q 0)).2.get (ofF t p s q 4)).1) else ((((st.get (ofF t p s q 0)).2.get (ofF t p s q 4)).2.get (ofF t p s q 5)).2.put (ofF t p s q 5) ((st.get (ofF t p s q 0)).2.get (ofF t p s q 4)).1))
   else (false, (st.get (ofF t p s q 0)).2)) := by unfold sweepF; rw [if_pos hq]
  have hq2 : 0 ≤ q ∧ q < p := by simpa [pageB] using hq
  obtain ⟨hq0, hq1⟩ := hq2
  have i1 := (keepsRV.inv h).get (ofF t p s q 0)
  have hbd := inf_bd (st.get (ofF t p s q 0)).1
  have hk0 := hbd.2.2.2.2.1
  have hk1 := hbd.2.2.2.2.2.1
  obtain ⟨vi, s1, hg1⟩ : ∃ v s1, st.get (ofF t p s q 0) = (v, s1) := ⟨_, _, rfl⟩
  have G1 := Lib.hid (xinfo_as (b := b) hg1)
  simp only [hg1] at i1 hk0 hk1 hF
  have i2 := i1.get (ofF t p s q 4)
  have u2 := VS.get_u32 i1 (ofF t p s q 4)
  obtain ⟨vl, s2, hg2⟩ : ∃ v s1', s1.get (ofF t p s q 4) = (v, s1') := ⟨_, _, rfl⟩
  have G2 := Lib.hid (rget_as (b := b) hg2)
  simp only [hg2] at i2 u2 hF
  have u3 := VS.get_u32 i2 (ofF t p s q 5)
  obtain ⟨vt, s3, hg3⟩ : ∃ v s1', s2.get (ofF t p s q 5) = (v, s1') := ⟨_, _, rfl⟩
  have G3 := Lib.hid (rget_as (b := b) hg3)
  simp only [hg3] at u3 hF
  have HU2 := Lib.hid u2
  have u30 := u3.1
  clear hbd i1 i2 hg1 hg2 hg3 h hq u2 u3
  generalize iL vi = li at *
  by_cases hk3 : iK vi = 3
  ·rw [if_pos hk3] at hF
   rw [hk3] at G1
   clear hk3
   generalize iC vi = k at *
   by_cases hlt : vl = vt
   ·subst hlt
    rw [if_pos rfl] at hF
    rw [hF]
    clear hF
    go_enter Tryz.func19, Tryz.ntmps19
    go_wp2_with fail
    refine (calls_st hV (G1.out _)).mono ?_
    rintro e w1 ⟨rfl, hV1, hV1l⟩
    have c1 := loc_step hV1l (by simp) c0
    clear hV1l
    have hX := hV1.alloc keepsRV (.cells #[.int .i64 3, .int .i64 li, .int .i64 k] 73)
    have c2 := loc_old (.cells #[.int .i64 3, .int .i64 li, .int .i64 k] 73) (hV1.ls _ (by simp)).1 c1
    go_wp2_with fail
    refine (calls_bl keepsRV hX (rslots_any _ _ _ _ _)).mono ?_
    rintro e w3 ⟨rfl, hV3, hV3l⟩
    have c3 := loc_step hV3l (by simp) c2
    clear hV3l
    go_wp2_with fail
    refine (calls_st hV3 (G2.out _)).mono ?_
    rintro e w4 ⟨rfl, hV4, hV4l⟩
    have c4 := loc_step hV4l (by simp) c3
    clear hV4l
    go_wp2_with fail
    refine (calls_bl keepsRV hV4 (rtaken_any _ _ _ _ _)).mono ?_
    rintro e w5 ⟨rfl, hV5, hV5l⟩
    have c5 := loc_step hV5l (by simp) c4
    clear hV5l
    go_wp2_with fail
    refine (calls_st hV5 (G3.out _)).mono ?_
    rintro e w6 ⟨rfl, hV6, hV6l⟩
    have c6 := loc_step hV6l (by simp) c5
    clear hV6l
    go_wp2
    go_ret
    exact ⟨rfl, hV6.done keepsRV⟩
   ·rw [if_neg hlt] at hF
    rw [hF]
    clear hF
    have HPut := fun (w : World) (S1 : Nat → Prop) (h1 : RV w b S1 s3) => rput_any b (ofF t p s q 5) vl w S1 s3 h1 HU2.out
    obtain ⟨u, hu⟩ : ∃ u, s3.put (ofF t p s q 5) vl = u := ⟨_, rfl⟩
    rw [hu] at HPut ⊢
    clear hu
    have HQ := Lib.hid HPut
    clear HPut
    have HF := fun w => rfull_any vt k w u30
    dsimp only
    by_cases hl0 : vl = 0
    ·rw [if_pos hl0]
     have hl1 := hl0
     clear hl0
     cases hz : fullB vt k with
     | true =>
      rw [hz] at HF
      have HFu := Lib.hid HF
      rw [if_pos rfl]
      have HR := Lib.hid (fun (w : World) (S1 : Nat → Prop) (h1 : RV w b S1 u) => rrelease_any b t p s q 1 w S1 u h1 hp hq0 (by omega) (by omega) (by omega))
      generalize releaseF t p s q 1 u = s9 at *
      clear HF hz
      subst hl1
      go_enter Tryz.func19, Tryz.ntmps19
      go_wp2_with fail
      refine (calls_st hV (G1.out _)).mono ?_
      rintro e w1 ⟨rfl, hV1, hV1l⟩
      have c1 := loc_step hV1l (by simp) c0
      clear hV1l
      have hX := hV1.alloc keepsRV (.cells #[.int .i64 3, .int .i64 li, .int .i64 k] 73)
      have c2 := loc_old (.cells #[.int .i64 3, .int .i64 li, .int .i64 k] 73) (hV1.ls _ (by simp)).1 c1
      have d2 := loc_alloc w1 #[.int .i64 3, .int .i64 li, .int .i64 k] 73
      go_wp2_with fail
      refine (calls_bl keepsRV hX (rslots_any _ _ _ _ _)).mono ?_
      rintro e w3 ⟨rfl, hV3, hV3l⟩
      have c3 := loc_step hV3l (by simp) c2
      have d3 := loc_step hV3l (by simp) d2
      clear hV3l
      go_wp2_with fail
      refine (calls_st hV3 (G2.out _)).mono ?_
      rintro e w4 ⟨rfl, hV4, hV4l⟩
      have c4 := loc_step hV4l (by simp) c3
      have d4 := loc_step hV4l (by simp) d3
      clear hV4l
      go_wp2_with fail
      refine (calls_bl keepsRV hV4 (rtaken_any _ _ _ _ _)).mono ?_
      rintro e w5 ⟨rfl, hV5, hV5l⟩
      have c5 := loc_step hV5l (by simp) c4
      have d5 := loc_step hV5l (by simp) d4
      clear hV5l
      go_wp2_with fail
      refine (calls_st hV5 (G3.out _)).mono ?_
      rintro e w6 ⟨rfl, hV6, hV6l⟩
      have c6 := loc_step hV6l (by simp) c5
      have d6 := loc_step hV6l (by simp) d5
      clear hV6l
      go_wp2_with fail
      refine (calls_bl keepsRV hV6 (rtaken_any _ _ _ _ _)).mono ?_
      rintro e w7 ⟨rfl, hV7, hV7l⟩
      have c7 := loc_step hV7l (by simp) c6
      have d7 := loc_step hV7l (by simp) d6
      clear hV7l
      go_wp2_with fail
      refine (calls_st hV7 (HQ.out _)).mono ?_
      rintro e w8 ⟨rfl, hV8, hV8l⟩
      have c8 := loc_step hV8l (by simp) c7
      have d8 := loc_step hV8l (by simp) d7
      clear hV8l
      go_wp2_with fail
      refine (calls_bl keepsRV hV8 (HFu.out _)).mono ?_
      rintro e w9 ⟨rfl, hV9, hV9l⟩
      have c9 := loc_step hV9l (by simp) c8
      have d9 := loc_step hV9l (by simp) d8
      clear hV9l
      go_wp2_with fail
      refine (calls_st hV9 (HR.out _)).mono ?_
      rintro e w10 ⟨rfl, hV10, hV10l⟩
      have c10 := loc_step hV10l (by simp) c9
      clear hV10l
      go_wp2
      go_ret
      exact ⟨rfl, hV10.done keepsRV⟩
     | false =>
      rw [hz] at HF
      have HFu := Lib.hid HF
      rw [if_neg (by simp)]
      have HP := Lib.hid (fun (w : World) (S1 : Nat → Prop) (h1 : RV w b S1 u) => rpull_any b t p s (13 + k) q w S1 u h1)
      have HR := Lib.hid (fun (w : World) (S1 : Nat → Prop) (h1 : RV w b S1 (pullF t p s (13 + k) q u)) => rrelease_any b t p s q 1 w S1 _ h1 hp hq0 (by omega) (by omega) (by omega))
      generalize pullF t p s (13 + k) q u = s8 at *
      generalize releaseF t p s q 1 s8 = s9 at *
      clear HF hz
      subst hl1
      go_enter Tryz.func19, Tryz.ntmps19
      go_wp2_with fail
      refine (calls_st hV (G1.out _)).mono ?_
      rintro e w1 ⟨rfl, hV1, hV1l⟩
      have c1 := loc_step hV1l (by simp) c0
      clear hV1l
      have hX := hV1.alloc keepsRV (.cells #[.int .i64 3, .int .i64 li, .int .i64 k] 73)
      have c2 := loc_old (.cells #[.int .i64 3, .int .i64 li, .int .i64 k] 73) (hV1.ls _ (by simp)).1 c1
      have d2 := loc_alloc w1 #[.int .i64 3, .int .i64 li, .int .i64 k] 73
      go_wp2_with fail
      refine (calls_bl keepsRV hX (rslots_any _ _ _ _ _)).mono ?_
      rintro e w3 ⟨rfl, hV3, hV3l⟩
      have c3 := loc_step hV3l (by simp) c2
      have d3 := loc_step hV3l (by simp) d2
      clear hV3l
      go_wp2_with fail
      refine (calls_st hV3 (G2.out _)).mono ?_
      rintro e w4 ⟨rfl, hV4, hV4l⟩
      have c4 := loc_step hV4l (by simp) c3
      have d4 := loc_step hV4l (by simp) d3
      clear hV4l
      go_wp2_with fail
      refine (calls_bl keepsRV hV4 (rtaken_any _ _ _ _ _)).mono ?_
      rintro e w5 ⟨rfl, hV5, hV5l⟩
      have c5 := loc_step hV5l (by simp) c4
      have d5 := loc_step hV5l (by simp) d4
      clear hV5l
      go_wp2_with fail
      refine (calls_st hV5 (G3.out _)).mono ?_
      rintro e w6 ⟨rfl, hV6, hV6l⟩
      have c6 := loc_step hV6l (by simp) c5
      have d6 := loc_step hV6l (by simp) d5
      clear hV6l
      go_wp2_with fail
      refine (calls_bl keepsRV hV6 (rtaken_any _ _ _ _ _)).mono ?_
      rintro e w7 ⟨rfl, hV7, hV7l⟩
      have c7 := loc_step hV7l (by simp) c6
      have d7 := loc_step hV7l (by simp) d6
      clear hV7l
      go_wp2_with fail
      refine (calls_st hV7 (HQ.out _)).mono ?_
      rintro e w8 ⟨rfl, hV8, hV8l⟩
      have c8 := loc_step hV8l (by simp) c7
      have d8 := loc_step hV8l (by simp) d7
      clear hV8l
      go_wp2_with fail
      refine (calls_bl keepsRV hV8 (HFu.out _)).mono ?_
      rintro e w9 ⟨rfl, hV9, hV9l⟩
      have c9 := loc_step hV9l (by simp) c8
      have d9 := loc_step hV9l (by simp) d8
      clear hV9l
      go_wp2_with fail
      have hV9d := hV9.drew keepsRV
      refine wp_region_noPanic ?_
      refine wp_region_held_drew (S := fun w' => (∀ o : Nat, w'.cell? ⟨w.heap.size, o, none⟩ = (#[.int .i64 t, .int .i64 p, .int .i64 s] : Array Value)[o]?) ∧ (∀ o : Nat, w'.cell? ⟨w1.heap.size, o, none⟩ = (#[.int .i64 3, .int .i64 li, .int .i64 k] : Array Value)[o]?)) (by kernel_rfl) ?_ (fun hHeld => ?_)
      ·exact ⟨c9, d9⟩
      refine wpAnyH_take (i := 0) (oi := _) (v := ?_) rfl (by kernel_rfl) (by kernel_rfl) (by kernel_rfl) (fun _ _ _ h => h) (Or.inl ⟨by rfl, ?_⟩) (by assumption) ?_
      rotate_left
      ·intro w hSw; (try dsimp only at hSw); go_simp; try with_reducible rfl
      try simp only [Act.put, zA, zB, zD, zE, zF]
      refine wpAnyH_take (i := 1) (oi := _) (v := ?_) rfl (by kernel_rfl) (by kernel_rfl) (by kernel_rfl) (fun _ _ _ h => h) (Or.inl ⟨by rfl, ?_⟩) (by assumption) ?_
      rotate_left
      ·intro w hSw; (try dsimp only at hSw); go_simp; try with_reducible rfl
      try simp only [Act.put, zA, zB, zC, zD, zE, zF]
      refine wpAnyH_take (i := 2) (oi := _) (v := ?_) rfl (by kernel_rfl) (by kernel_rfl) (by kernel_rfl) (fun _ _ _ h => h) (Or.inl ⟨by rfl, ?_⟩) (by assumption) ?_
      rotate_left
      ·intro w hSw; (try dsimp only at hSw); go_simp; try with_reducible rfl
      try simp only [Act.put, zA, zB, zC, zD, zE, zF]
      refine wpAnyH_take (i := 3) (oi := _) (v := ?_) rfl (by kernel_rfl) (by kernel_rfl) (by kernel_rfl) (fun _ _ _ h => h) (Or.inl ⟨by rfl, ?_⟩) (by assumption) ?_
      rotate_left
      ·intro w hSw; (try dsimp only at hSw); go_simp; try with_reducible rfl
      try simp only [Act.put, zA, zB, zC, zD, zE, zF]
      refine wpAnyH_take (i := 5) (oi := _) (v := ?_) rfl (by kernel_rfl) (by kernel_rfl) (by kernel_rfl) (fun _ _ _ h => h) (Or.inl ⟨by rfl, ?_⟩) (by assumption) ?_
      rotate_left
      ·intro w hSw; (try dsimp only at hSw); go_simp; try with_reducible rfl
      try simp only [Act.put, zA, zB, zC, zD, zE, zF]
      refine wpAnyH_ready (rs := [4]) (by kernel_rfl) (by simp) ?_
      refine AllReadyH.cons (o := _) rfl (fun K hK => ?_) AllReadyH.nil
      go_simp
      refine (calls_bl keepsRV hV9d (rrack_int _ _ hk0 hk1)).mono ?_
      rintro e w11 ⟨rfl, hV11, hV11l⟩
      have c11 := loc_step hV11l (by simp) hHeld.1
      have d11 := loc_step hV11l (by simp) hHeld.2
      clear hV11l
      dsimp only
      refine hK.out _ _ ?_ (fun hHeld => ?_)
      ·exact ⟨c11, d11⟩
      clear hK K
      try simp only [Act.put, zA, zB, zC, zD, zE, zF]
      refine wpAnyH_ready (rs := [6]) (by kernel_rfl) (by simp) ?_
      refine AllReadyH.cons (o := _) rfl (fun K hK => ?_) AllReadyH.nil
      go_simp
      refine (calls_st hV11 (HP.out _)).mono ?_
      rintro e w12 ⟨rfl, hV12, hV12l⟩
      have c12 := loc_step hV12l (by simp) c11
      have d12 := loc_step hV12l (by simp) d11
      clear hV12l
      dsimp only
      refine hK.out _ _ ?_ (fun hHeld => ?_)
      ·exact ⟨c12, d12⟩
      clear hK K
      try simp only [Act.put, zA, zB, zC, zD, zE, zF]
      refine wpAnyH_done (by kernel_rfl) ?_ _
      refine NoPanic.normal ?_
      go_wp2_with fail
      refine (calls_st hV12 (HR.out _)).mono ?_
      rintro e w10 ⟨rfl, hV10, hV10l⟩
      have c10 := loc_step hV10l (by simp) c12
      clear hV10l
      go_wp2
      go_ret
      exact ⟨rfl, hV10.done keepsRV⟩
    ·rw [if_neg hl0]
     cases hz : fullB vt k with
     | true =>
      rw [hz] at HF
      have HFu := Lib.hid HF
      rw [if_pos rfl]
      have HP := Lib.hid (fun (w : World) (S1 : Nat → Prop) (h1 : RV w b S1 u) => rpush_any b t p s (13 + k) q w S1 u h1 hp)
      generalize pushF t p s (13 + k) q u = s9 at *
      clear HF hz
      go_enter Tryz.func19, Tryz.ntmps19
      go_wp2_with fail
      refine (calls_st hV (G1.out _)).mono ?_
      rintro e w1 ⟨rfl, hV1, hV1l⟩
      have c1 := loc_step hV1l (by simp) c0
      clear hV1l
      have hX := hV1.alloc keepsRV (.cells #[.int .i64 3, .int .i64 li, .int .i64 k] 73)
      have c2 := loc_old (.cells #[.int .i64 3, .int .i64 li, .int .i64 k] 73) (hV1.ls _ (by simp)).1 c1
      have d2 := loc_alloc w1 #[.int .i64 3, .int .i64 li, .int .i64 k] 73
      go_wp2_with fail
      refine (calls_bl keepsRV hX (rslots_any _ _ _ _ _)).mono ?_
      rintro e w3 ⟨rfl, hV3, hV3l⟩
      have c3 := loc_step hV3l (by simp) c2
      have d3 := loc_step hV3l (by simp) d2
      clear hV3l
      go_wp2_with fail
      refine (calls_st hV3 (G2.out _)).mono ?_
      rintro e w4 ⟨rfl, hV4, hV4l⟩
      have c4 := loc_step hV4l (by simp) c3
      have d4 := loc_step hV4l (by simp) d3
      clear hV4l
      go_wp2_with fail
      refine (calls_bl keepsRV hV4 (rtaken_any _ _ _ _ _)).mono ?_
      rintro e w5 ⟨rfl, hV5, hV5l⟩
      have c5 := loc_step hV5l (by simp) c4
      have d5 := loc_step hV5l (by simp) d4
      clear hV5l
      go_wp2_with fail
      refine (calls_st hV5 (G3.out _)).mono ?_
      rintro e w6 ⟨rfl, hV6, hV6l⟩
      have c6 := loc_step hV6l (by simp) c5
      have d6 := loc_step hV6l (by simp) d5
      clear hV6l
      go_wp2_with fail
      refine (calls_bl keepsRV hV6 (rtaken_any _ _ _ _ _)).mono ?_
      rintro e w7 ⟨rfl, hV7, hV7l⟩
      have c7 := loc_step hV7l (by simp) c6
      have d7 := loc_step hV7l (by simp) d6
      clear hV7l
      go_wp2_with fail
      refine (calls_st hV7 (HQ.out _)).mono ?_
      rintro e w8 ⟨rfl, hV8, hV8l⟩
      have c8 := loc_step hV8l (by simp) c7
      have d8 := loc_step hV8l (by simp) d7
      clear hV8l
      go_wp2_with fail
      refine (calls_bl keepsRV hV8 (HFu.out _)).mono ?_
      rintro e w9 ⟨rfl, hV9, hV9l⟩
      have c9 := loc_step hV9l (by simp) c8
      have d9 := loc_step hV9l (by simp) d8
      clear hV9l
      go_wp2_with fail
      have hV9d := hV9.drew keepsRV
      refine wp_region_noPanic ?_
      refine wp_region_held_drew (S := fun w' => (∀ o : Nat, w'.cell? ⟨w.heap.size, o, none⟩ = (#[.int .i64 t, .int .i64 p, .int .i64 s] : Array Value)[o]?) ∧ (∀ o : Nat, w'.cell? ⟨w1.heap.size, o, none⟩ = (#[.int .i64 3, .int .i64 li, .int .i64 k] : Array Value)[o]?)) (by kernel_rfl) ?_ (fun hHeld => ?_)
      ·exact ⟨c9, d9⟩
      refine wpAnyH_take (i := 0) (oi := _) (v := ?_) rfl (by kernel_rfl) (by kernel_rfl) (by kernel_rfl) (fun _ _ _ h => h) (Or.inl ⟨by rfl, ?_⟩) (by assumption) ?_
      rotate_left
      ·intro w hSw; (try dsimp only at hSw); go_simp; try with_reducible rfl
      try simp only [Act.put, zA, zB, zD, zE, zF]
      refine wpAnyH_take (i := 1) (oi := _) (v := ?_) rfl (by kernel_rfl) (by kernel_rfl) (by kernel_rfl) (fun _ _ _ h => h) (Or.inl ⟨by rfl, ?_⟩) (by assumption) ?_
      rotate_left
      ·intro w hSw; (try dsimp only at hSw); go_simp; try with_reducible rfl
      try simp only [Act.put, zA, zB, zC, zD, zE, zF]
      refine wpAnyH_take (i := 2) (oi := _) (v := ?_) rfl (by kernel_rfl) (by kernel_rfl) (by kernel_rfl) (fun _ _ _ h => h) (Or.inl ⟨by rfl, ?_⟩) (by assumption) ?_
      rotate_left
      ·intro w hSw; (try dsimp only at hSw); go_simp; try with_reducible rfl
      try simp only [Act.put, zA, zB, zC, zD, zE, zF]
      refine wpAnyH_take (i := 3) (oi := _) (v := ?_) rfl (by kernel_rfl) (by kernel_rfl) (by kernel_rfl) (fun _ _ _ h => h) (Or.inl ⟨by rfl, ?_⟩) (by assumption) ?_
      rotate_left
      ·intro w hSw; (try dsimp only at hSw); go_simp; try with_reducible rfl
      try simp only [Act.put, zA, zB, zC, zD, zE, zF]
      refine wpAnyH_take (i := 5) (oi := _) (v := ?_) rfl (by kernel_rfl) (by kernel_rfl) (by kernel_rfl) (fun _ _ _ h => h) (Or.inl ⟨by rfl, ?_⟩) (by assumption) ?_
      rotate_left
      ·intro w hSw; (try dsimp only at hSw); go_simp; try with_reducible rfl
      try simp only [Act.put, zA, zB, zC, zD, zE, zF]
      refine wpAnyH_ready (rs := [4]) (by kernel_rfl) (by simp) ?_
      refine AllReadyH.cons (o := _) rfl (fun K hK => ?_) AllReadyH.nil
      go_simp
      refine (calls_bl keepsRV hV9d (rrack_int _ _ hk0 hk1)).mono ?_
      rintro e w11 ⟨rfl, hV11, hV11l⟩
      have c11 := loc_step hV11l (by simp) hHeld.1
      have d11 := loc_step hV11l (by simp) hHeld.2
      clear hV11l
      dsimp only
      refine hK.out _ _ ?_ (fun hHeld => ?_)
      ·exact ⟨c11, d11⟩
      clear hK K
      try simp only [Act.put, zA, zB, zC, zD, zE, zF]
      refine wpAnyH_ready (rs := [6]) (by kernel_rfl) (by simp) ?_
      refine AllReadyH.cons (o := _) rfl (fun K hK => ?_) AllReadyH.nil
      go_simp
      refine (calls_st hV11 (HP.out _)).mono ?_
      rintro e w12 ⟨rfl, hV12, hV12l⟩
      have c12 := loc_step hV12l (by simp) c11
      have d12 := loc_step hV12l (by simp) d11
      clear hV12l
      dsimp only
      refine hK.out _ _ ?_ (fun hHeld => ?_)
      ·exact ⟨c12, d12⟩
      clear hK K
      try simp only [Act.put, zA, zB, zC, zD, zE, zF]
      refine wpAnyH_done (by kernel_rfl) ?_ _
      refine NoPanic.normal ?_
      go_wp2
      go_ret
      exact ⟨rfl, hV12.done keepsRV⟩
     | false =>
      rw [hz] at HF
      have HFu := Lib.hid HF
      rw [if_neg (by simp)]
      clear HF hz
      go_enter Tryz.func19, Tryz.ntmps19
      go_wp2_with fail
      refine (calls_st hV (G1.out _)).mono ?_
      rintro e w1 ⟨rfl, hV1, hV1l⟩
      have c1 := loc_step hV1l (by simp) c0
      clear hV1l
      have hX := hV1.alloc keepsRV (.cells #[.int .i64 3, .int .i64 li, .int .i64 k] 73)
      have c2 := loc_old (.cells #[.int .i64 3, .int .i64 li, .int .i64 k] 73) (hV1.ls _ (by simp)).1 c1
      have d2 := loc_alloc w1 #[.int .i64 3, .int .i64 li, .int .i64 k] 73
      go_wp2_with fail
      refine (calls_bl keepsRV hX (rslots_any _ _ _ _ _)).mono ?_
      rintro e w3 ⟨rfl, hV3, hV3l⟩
      have c3 := loc_step hV3l (by simp) c2
      have d3 := loc_step hV3l (by simp) d2
      clear hV3l
      go_wp2_with fail
      refine (calls_st hV3 (G2.out _)).mono ?_
      rintro e w4 ⟨rfl, hV4, hV4l⟩
      have c4 := loc_step hV4l (by simp) c3
      have d4 := loc_step hV4l (by simp) d3
      clear hV4l
      go_wp2_with fail
      refine (calls_bl keepsRV hV4 (rtaken_any _ _ _ _ _)).mono ?_
      rintro e w5 ⟨rfl, hV5, hV5l⟩
      have c5 := loc_step hV5l (by simp) c4
      have d5 := loc_step hV5l (by simp) d4
      clear hV5l
      go_wp2_with fail
      refine (calls_st hV5 (G3.out _)).mono ?_
      rintro e w6 ⟨rfl, hV6, hV6l⟩
      have c6 := loc_step hV6l (by simp) c5
      have d6 := loc_step hV6l (by simp) d5
      clear hV6l
      go_wp2_with fail
      refine (calls_bl keepsRV hV6 (rtaken_any _ _ _ _ _)).mono ?_
      rintro e w7 ⟨rfl, hV7, hV7l⟩
      have c7 := loc_step hV7l (by simp) c6
      have d7 := loc_step hV7l (by simp) d6
      clear hV7l
      go_wp2_with fail
      refine (calls_st hV7 (HQ.out _)).mono ?_
      rintro e w8 ⟨rfl, hV8, hV8l⟩
      have c8 := loc_step hV8l (by simp) c7
      have d8 := loc_step hV8l (by simp) d7
      clear hV8l
      go_wp2_with fail
      refine (calls_bl keepsRV hV8 (HFu.out _)).mono ?_
      rintro e w9 ⟨rfl, hV9, hV9l⟩
      have c9 := loc_step hV9l (by simp) c8
      have d9 := loc_step hV9l (by simp) d8
      clear hV9l
      go_wp2
      go_ret
      exact ⟨rfl, hV9.done keepsRV⟩
  ·rw [if_neg hk3] at hF
   rw [hF]
   generalize iK vi = ki at *
   generalize iC vi = k at *
   clear hF
   go_enter Tryz.func19, Tryz.ntmps19
   go_wp2_with fail
   refine (calls_st hV (G1.out _)).mono ?_
   rintro e w1 ⟨rfl, hV1, hV1l⟩
   have c1 := loc_step hV1l (by simp) c0
   clear hV1l
   go_wp2
   go_ret
   exact ⟨rfl, (hV1.alloc keepsRV _).done keepsRV⟩

structure SxRel (w : World) (b : Nat) (S : Nat → Prop) (t p s : Int) (st : VS) (k : Nat) (n i : Value) (wr : World) : Prop where
 le : k ≤ p.toNat
 n : n = .int .i64 ((sweepN t p s k st).1 : Nat)
 i : i = .int .i64 k
 v : VSt RV w b S [w.heap.size] (sweepN t p s k st).2 wr
 c : ∀ o : Nat, wr.cell? ⟨w.heap.size, o, none⟩ = (#[.int .i64 t, .int .i64 p, .int .i64 s] : Array Value)[o]?
def SxRelE (w : World) (b : Nat) (S : Nat → Prop) (t p s : Int) (st : VS) (n i : Value) (wr : World) : Prop := ∃ k, SxRel w b S t p s st k n i wr

set_option maxHeartbeats 1000000 in
set_option maxRecDepth 100000 in
theorem xall_any (b : Nat) (t p s : Int) (w : World) (S : Nat → Prop) (st : VS) (h : RV w b S st) (hp : p ≤ 1024) (hp0 : 0 ≤ p) :
 Calls Tryz.prog 23 #[.pointer (some ⟨b, 0, none⟩), .agg #[.int .i64 t, .int .i64 p, .int .i64 s]] w fun e w' => e = .returned (.int .i64 (sweepN t p s p.toNat st).1) ∧ NowR w b S (sweepN t p s p.toNat st).2 w' := by
 have hV := (VSt.start keepsRV h).alloc keepsRV (.cells #[.int .i64 t, .int .i64 p, .int .i64 s] 23)
 have c0 := loc_alloc w #[.int .i64 t, .int .i64 p, .int .i64 s] 23
 clear h
 go_enter Tryz.func23, Tryz.ntmps23
 go_wp2_with fail
 go_loopw [5, 6] (fun v5 v6 wr => SxRelE w b S t p s st v5 v6 wr) (fun _ v6 _ => p.toNat - (intOf v6).toNat)
 case atStart => exact ⟨0, Nat.zero_le _, rfl, rfl, hV, c0⟩
 case round =>
  obtain ⟨k, hk, rfl, rfl, hV1, c1⟩ := hrel
  clear hV c0
  have hN := sweepN_le t p s st k
  by_cases hlt : k < p.toNat
  ·have hkp : (k : Int) < p := by omega
   have HP := fun (w : World) (S1 : Nat → Prop) (h1 : RV w b S1 (sweepN t p s k st).2) => xpage_any b t p s k w S1 _ h1 hp
   have hs : sweepN t p s (k + 1) st = ((if (sweepF t p s k (sweepN t p s k st).2).1 = true then (sweepN t p s k st).1 + 1 else (sweepN t p s k st).1), (sweepF t p s k (sweepN t p s k st).2).2) := rfl
   have HK := Lib.hid hs
   clear hs
   generalize hm : (sweepN t p s k st).1 = m at *
   generalize hx : (sweepN t p s k st).2 = x at *
   clear hm hx
   obtain ⟨rb, y, hy⟩ : ∃ rb y, sweepF t p s k x = (rb, y) := ⟨_, _, rfl⟩
   rw [hy] at HP HK
   dsimp only at HP HK
   have HQ := Lib.hid HP
   clear HP hy
   cases rb
   ·go_wp2_with fail
    refine (calls_st hV1 (HQ.out _)).mono ?_
    rintro e w2 ⟨rfl, hV2, hV2l⟩
    have c2 := loc_step hV2l (by simp) c1
    clear hV2l
    go_wp2_with fail
    go_roundw
    case rel => exact ⟨k + 1, by omega, by rw [HK.out]; simp, by go_num, by rw [HK.out]; exact hV2, c2⟩
    case measure => simp [intOf]; omega
   ·have hw : IntKind.i64.wrap ((m : Int) + 1) = (m : Int) + 1 := wrap_in _ (by omega)
    go_wp2_with fail
    refine (calls_st hV1 (HQ.out _)).mono ?_
    rintro e w2 ⟨rfl, hV2, hV2l⟩
    have c2 := loc_step hV2l (by simp) c1
    clear hV2l
    go_wp2_with fail
    go_roundw
    case rel => exact ⟨k + 1, by omega, by rw [HK.out]; simp, by go_num, by rw [HK.out]; exact hV2, c2⟩
    case measure => simp [intOf]; omega
  ·have hke : k = p.toNat := by omega
   subst hke
   have hkp : ((p.toNat : Nat) : Int) = p := by omega
   have HD := Lib.hid (hV1.done keepsRV)
   clear hV1 hlt hk
   rw [hkp]
   go_wp2
   go_ret
   exact ⟨rfl, HD.out⟩
end Go.Proofs.YtnagdljgeglceaaGreat
