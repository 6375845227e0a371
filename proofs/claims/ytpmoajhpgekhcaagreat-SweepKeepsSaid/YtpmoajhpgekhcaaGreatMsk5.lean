/- parts of the proof, merged by a program. -/
import Derived.Test.YtpmoajhpgekhcaaGreatMsk1
set_option linter.unusedSimpArgs false
set_option linter.unusedVariables false
/- span of the program: Release. -/
set_option linter.unusedSimpArgs false
set_option linter.unusedVariables false
namespace Go.Proofs.YtpmoajhpgekhcaaGreat
open Go.RowKit

theorem cells2 {w : World} {L : Nat} {x y : Value} {T : TypeId} (h : w.heap[L]? = some (.cells #[x, y] T)) : (w.cell? ⟨L, 0, none⟩ = some x ∧ w.cell? ⟨L, 1, none⟩ = some y) ∧ w.frozen? ⟨L, 0, none⟩ = false ∧ w.frozen? ⟨L, 1, none⟩ = false :=
  ⟨⟨cell?_of_heap h, cell?_of_heap h⟩, frozen?_of_heap h, frozen?_of_heap h⟩
theorem dropF_bd (t p s q : Int) (st : VS) : 0 ≤ (dropF t p s q st).1 ∧ (dropF t p s q st).1 ≤ 1024 := by
  have h := freeV_bd (st.get (ofF t p s q 0)).1
  unfold dropF freeAt
  split <;> dsimp only <;> omega

set_option maxHeartbeats 4000000 in
set_option maxRecDepth 100000 in
theorem release_any (b : Nat) (t p s q n : Int) (w : World) (S : Nat → Prop) (st : VS) (h : PV w b S st) (hp : p ≤ 1024) (hq0 : 0 ≤ q) (hq1 : q ≤ 1024) (hn0 : 0 ≤ n) (hn1 : n ≤ 1024) :
    Calls Tryz.prog 80 #[.pointer (some ⟨b, 0, none⟩), .agg #[.int .i64 t, .int .i64 p, .int .i64 s], .int .i64 q, .int .i64 n] w fun e w' => e = .returned (.tuple #[]) ∧ Now w b S (releaseF t p s q n st) w' := by
  have hV := ((VSt.start keepsPV h).alloc keepsPV (.cells #[.int .i64 t, .int .i64 p, .int .i64 s] 23)).alloc keepsPV (.cells #[.pointer (some ⟨b, 0, none⟩), .int .i64 t, .int .i64 p, .int .i64 s] 126)
  have hA := hV.allocd #[.int .i64 q, .int .i64 n] 127
  have c0 := loc_old (.cells #[.int .i64 q, .int .i64 n] 127) (by simp; omega) (loc_old (.cells #[.pointer (some ⟨b, 0, none⟩), .int .i64 t, .int .i64 p, .int .i64 s] 126) (by simp) (loc_alloc w #[.int .i64 t, .int .i64 p, .int .i64 s] 23))
  have d0 := loc_old (.cells #[.int .i64 q, .int .i64 n] 127) (by simp) (loc_alloc (w.alloc (.cells #[.int .i64 t, .int .i64 p, .int .i64 s] 23)) #[.pointer (some ⟨b, 0, none⟩), .int .i64 t, .int .i64 p, .int .i64 s] 126)
  simp only [World.size_alloc] at hA c0 d0
  have HG := fun (w : World) (S1 : Nat → Prop) (h1 : PV w b S1 st) => hahead_any b t p s q w S1 st h1 hq0 hq1
  have hbk : backF t p s q n st = (if (aheadF t p s q st).1 < 0 then ((q, n), (aheadF t p s q st).2) else if (freeAt t p s (aheadF t p s q st).1 (aheadF t p s q st).2).1 = 0 then ((q, n), (freeAt t p s (aheadF t p s q st).1 (aheadF t p s q st).2).2) else (((aheadF t p s q st).1, n + (joinF t p s (aheadF t p s q st).1 q (freeAt t p s (aheadF t p s q st).1 (aheadF t p s q st).2).2).1), (joinF t p s (aheadF t p s q st).1 q (freeAt t p s (aheadF t p s q st).1 (aheadF t p s q st).2).2).2)) := rfl
  obtain ⟨bk, hb⟩ : ∃ x, backF t p s q n st = x := ⟨_, rfl⟩
  rw [hb] at hbk
  have hR : releaseF t p s q n st = countF n (addG t p s bk.1.1 (foreF t p s (q + n) bk.1.2 bk.2).1 (foreF t p s (q + n) bk.1.2 bk.2).2) := by unfold releaseF; rw [hb]
  rw [hR]
  clear hR hb h hV
  obtain ⟨f, s1, hf⟩ : ∃ f s1, aheadF t p s q st = (f, s1) := ⟨_, _, rfl⟩
  simp only [hf] at hbk HG
  have HH := Lib.hid HG
  clear hf HG
  have hwr : IntKind.i64.wrap (q + n) = q + n := wrap_in _ (by omega)
  by_cases hf0 : f < 0
  · rw [if_pos hf0] at hbk; subst hbk; dsimp only
    by_cases hr : q + n < p
    · have HF2 := fun (w : World) (S1 : Nat → Prop) (h1 : PV w b S1 s1) => hfree_any b t p s (q + n) w S1 s1 h1
      have hfo : foreF t p s (q + n) (n) s1 = (if (freeAt t p s (q + n) s1).1 = 0 then (n, (freeAt t p s (q + n) s1).2) else (n + (joinF t p s (q + n) (q + n) (freeAt t p s (q + n) s1).2).1, (joinF t p s (q + n) (q + n) (freeAt t p s (q + n) s1).2).2)) := by unfold foreF; rw [if_pos hr]
      have hl2 : 0 ≤ (freeAt t p s (q + n) s1).1 ∧ (freeAt t p s (q + n) s1).1 ≤ 1024 := ⟨(freeV_bd _).1, (freeV_bd _).2.1⟩
      rw [hfo]; clear hfo
      obtain ⟨l2, s4, hl⟩ : ∃ l s4, freeAt t p s (q + n) s1 = (l, s4) := ⟨_, _, rfl⟩
      rw [hl] at HF2 hl2 ⊢; dsimp only at HF2 hl2 ⊢; clear hl
      have HG2 := Lib.hid HF2; clear HF2
      by_cases h20 : l2 = 0
      · subst h20; clear hl2
        rw [if_pos rfl]; dsimp only
        have HAd := Lib.hid (fun (w : World) (S1 : Nat → Prop) (h1 : PV w b S1 s4) => badd_all b t p s q (n) w S1 s4 h1 hp)
        have HC := Lib.hid (fun (w : World) (S1 : Nat → Prop) (h1 : PV w b S1 (addG t p s q (n) s4)) => hcount_any b t p s n w S1 _ h1 hn0 hn1)
        generalize addG t p s q (n) s4 = s8 at *
        generalize countF n s8 = s9 at *
        go_enter Tryz.func80, Tryz.ntmps80
        obtain ⟨⟨k0, k1⟩, f0, f1⟩ := cells2 hA.box
        go_wp2_with fail
        refine (calls_st hA.vs (HH.out _)).mono ?_
        rintro e w1 ⟨rfl, hY, hYl⟩
        replace hA := hA.step hY hYl
        replace c0 := loc_step hYl (by simp) c0
        replace d0 := loc_step hYl (by simp) d0
        clear hY hYl
        obtain ⟨⟨k0, k1⟩, f0, f1⟩ := cells2 hA.box
        go_wp2_with fail
        refine (calls_st hA.vs (HG2.out _)).mono ?_
        rintro e w20 ⟨rfl, hY, hYl⟩
        replace hA := hA.step hY hYl
        replace c0 := loc_step hYl (by simp) c0
        replace d0 := loc_step hYl (by simp) d0
        clear hY hYl
        obtain ⟨⟨k0, k1⟩, f0, f1⟩ := cells2 hA.box
        go_wp2_with fail
        refine (calls_st hA.vs (HAd.out _)).mono ?_
        rintro e w21 ⟨rfl, hY, hYl⟩
        replace hA := hA.step hY hYl
        replace c0 := loc_step hYl (by simp) c0
        replace d0 := loc_step hYl (by simp) d0
        clear hY hYl
        obtain ⟨⟨k0, k1⟩, f0, f1⟩ := cells2 hA.box
        go_wp2_with fail
        refine (calls_st hA.vs (HC.out _)).mono ?_
        rintro e w22 ⟨rfl, hY, hYl⟩
        replace hA := hA.step hY hYl
        replace c0 := loc_step hYl (by simp) c0
        replace d0 := loc_step hYl (by simp) d0
        clear hY hYl
        obtain ⟨⟨k0, k1⟩, f0, f1⟩ := cells2 hA.box
        go_wp2
        go_end0
        exact ⟨rfl, hA.vs.done keepsPV⟩
      · rw [if_neg h20]
        have hl3 : 0 < l2 := by omega
        have hj2 := dropF_bd t p s (q + n) s4
        have HJ := fun (w : World) (S1 : Nat → Prop) (h1 : PV w b S1 s4) => hjoin_any b t p s (q + n) (q + n) w S1 s4 h1 hp (by omega) (by omega)
        rw [show (dropF t p s (q + n) s4).1 = (joinF t p s (q + n) (q + n) s4).1 from rfl] at hj2
        obtain ⟨j2, s5, hj⟩ : ∃ j s5, joinF t p s (q + n) (q + n) s4 = (j, s5) := ⟨_, _, rfl⟩
        rw [hj] at HJ hj2 ⊢; dsimp only at HJ hj2 ⊢; clear hj
        have HJ2 := Lib.hid HJ; clear HJ h20 hl2
        have hw5 : IntKind.i64.wrap (n + j2) = n + j2 := wrap_in _ (by omega)
        have HAd := Lib.hid (fun (w : World) (S1 : Nat → Prop) (h1 : PV w b S1 s5) => badd_all b t p s q (n + j2) w S1 s5 h1 hp)
        have HC := Lib.hid (fun (w : World) (S1 : Nat → Prop) (h1 : PV w b S1 (addG t p s q (n + j2) s5)) => hcount_any b t p s n w S1 _ h1 hn0 hn1)
        generalize addG t p s q (n + j2) s5 = s8 at *
        generalize countF n s8 = s9 at *
        go_enter Tryz.func80, Tryz.ntmps80
        obtain ⟨⟨k0, k1⟩, f0, f1⟩ := cells2 hA.box
        go_wp2_with fail
        refine (calls_st hA.vs (HH.out _)).mono ?_
        rintro e w1 ⟨rfl, hY, hYl⟩
        replace hA := hA.step hY hYl
        replace c0 := loc_step hYl (by simp) c0
        replace d0 := loc_step hYl (by simp) d0
        clear hY hYl
        obtain ⟨⟨k0, k1⟩, f0, f1⟩ := cells2 hA.box
        go_wp2_with fail
        refine (calls_st hA.vs (HG2.out _)).mono ?_
        rintro e w20 ⟨rfl, hY, hYl⟩
        replace hA := hA.step hY hYl
        replace c0 := loc_step hYl (by simp) c0
        replace d0 := loc_step hYl (by simp) d0
        clear hY hYl
        obtain ⟨⟨k0, k1⟩, f0, f1⟩ := cells2 hA.box
        clear k0 k1 f0 f1
        go_wp2_with fail
        have hX := hA.vs.drew keepsPV
        replace hA : VA w b S [w.heap.size + 1, w.heap.size] _ _ _ _ _ := hA.step hX (fun _ _ => rfl)
        refine wp_region_noPanic ?_
        refine wp_region_held_drew (S := fun w' => ((∀ o : Nat, w'.cell? ⟨w.heap.size + 1, o, none⟩ = (#[.pointer (some ⟨b, 0, none⟩), .int .i64 t, .int .i64 p, .int .i64 s] : Array Value)[o]?) ∧ (∀ o : Nat, w'.cell? ⟨w.heap.size, o, none⟩ = (#[.int .i64 t, .int .i64 p, .int .i64 s] : Array Value)[o]?))) (by kernel_rfl) ?_ (fun hHeld => ?_)
        · exact ⟨d0, c0⟩
        refine wT 0 ?_
        refine wT 2 ?_
        refine wT 3 ?_
        refine wT 4 ?_
        refine wpAnyH_ready (rs := [1, 5]) (by kernel_rfl) (by simp) ?_
        refine AllReadyH.cons (o := _) rfl (fun K hK => ?_) (AllReadyH.cons (o := _) rfl (fun K hK => ?_) AllReadyH.nil)
        · have k1 := (cells2 hA.box).1.2
          go_simp
          clear k1
          refine hK.out _ _ ?_ (fun hHeld => ?_)
          · exact hHeld
          clear hK K
          try simp only [Act.put, zA, zB, zC, zD, zE, zF]
          refine wR 5 fun K hK => ?_
          go_simp
          refine (calls_st hA.vs (HJ2.out _)).mono ?_
          rintro e w23 ⟨rfl, hY, hYl⟩
          replace hA := hA.step hY hYl
          have d1 := loc_step hYl (by simp) hHeld.1
          have c1 := loc_step hYl (by simp) hHeld.2
          clear hYl hY
          dsimp only
          refine hK.out _ _ ?_ (fun hHeld => ?_)
          · exact ⟨d1, c1⟩
          clear hK K
          try simp only [Act.put, zA, zB, zC, zD, zE, zF]
          refine wT 6 ?_
          refine wT 7 ?_
          refine wR 8 fun K hK => ?_
          obtain ⟨⟨k0, k1⟩, f0, f1⟩ := cells2 hA.box
          have hA2 : VA w b S [w.heap.size + 1, w.heap.size] _ #[.int .i64 q, .int .i64 (n + j2)] 127 s5 _ := hA.set 1 (.int .i64 (n + j2))
          go_simp
          clear k0 k1 f0 f1
          refine hK.out _ _ ?_ (fun hHeld => ?_)
          · exact ⟨hA.loc (by simp) 1 _ hHeld.1, hA.loc (by simp) 1 _ hHeld.2⟩
          clear hK K
          try simp only [Act.put, zA, zB, zC, zD, zE, zF]
          refine wpAnyH_done (by kernel_rfl) (NoPanic.normal ?_) _
          refine world_gen ?_
          intro wz hwz
          rw [← hwz] at hA2 hHeld
          clear hwz hA
          replace hA := hA2
          clear hA2
          have d0 := hHeld.1
          have c0 := hHeld.2
          obtain ⟨⟨k0, k1⟩, f0, f1⟩ := cells2 hA.box
          go_wp2_with fail
          refine (calls_st hA.vs (HAd.out _)).mono ?_
          rintro e w21 ⟨rfl, hY, hYl⟩
          replace hA := hA.step hY hYl
          replace c0 := loc_step hYl (by simp) c0
          replace d0 := loc_step hYl (by simp) d0
          clear hY hYl
          obtain ⟨⟨k0, k1⟩, f0, f1⟩ := cells2 hA.box
          go_wp2_with fail
          refine (calls_st hA.vs (HC.out _)).mono ?_
          rintro e w22 ⟨rfl, hY, hYl⟩
          replace hA := hA.step hY hYl
          replace c0 := loc_step hYl (by simp) c0
          replace d0 := loc_step hYl (by simp) d0
          clear hY hYl
          obtain ⟨⟨k0, k1⟩, f0, f1⟩ := cells2 hA.box
          go_wp2
          go_end0
          exact ⟨rfl, hA.vs.done keepsPV⟩
        · go_simp
          refine (calls_st hA.vs (HJ2.out _)).mono ?_
          rintro e w23 ⟨rfl, hY, hYl⟩
          replace hA := hA.step hY hYl
          have d1 := loc_step hYl (by simp) hHeld.1
          have c1 := loc_step hYl (by simp) hHeld.2
          clear hYl hY
          dsimp only
          refine hK.out _ _ ?_ (fun hHeld => ?_)
          · exact ⟨d1, c1⟩
          clear hK K
          try simp only [Act.put, zA, zB, zC, zD, zE, zF]
          refine wR 1 fun K hK => ?_
          have k1 := (cells2 hA.box).1.2
          go_simp
          clear k1
          refine hK.out _ _ ?_ (fun hHeld => ?_)
          · exact hHeld
          clear hK K
          try simp only [Act.put, zA, zB, zC, zD, zE, zF]
          refine wT 6 ?_
          refine wT 7 ?_
          refine wR 8 fun K hK => ?_
          obtain ⟨⟨k0, k1⟩, f0, f1⟩ := cells2 hA.box
          have hA2 : VA w b S [w.heap.size + 1, w.heap.size] _ #[.int .i64 q, .int .i64 (n + j2)] 127 s5 _ := hA.set 1 (.int .i64 (n + j2))
          go_simp
          clear k0 k1 f0 f1
          refine hK.out _ _ ?_ (fun hHeld => ?_)
          · exact ⟨hA.loc (by simp) 1 _ hHeld.1, hA.loc (by simp) 1 _ hHeld.2⟩
          clear hK K
          try simp only [Act.put, zA, zB, zC, zD, zE, zF]
          refine wpAnyH_done (by kernel_rfl) (NoPanic.normal ?_) _
          refine world_gen ?_
          intro wz hwz
          rw [← hwz] at hA2 hHeld
          clear hwz hA
          replace hA := hA2
          clear hA2
          have d0 := hHeld.1
          have c0 := hHeld.2
          obtain ⟨⟨k0, k1⟩, f0, f1⟩ := cells2 hA.box
          go_wp2_with fail
          refine (calls_st hA.vs (HAd.out _)).mono ?_
          rintro e w21 ⟨rfl, hY, hYl⟩
          replace hA := hA.step hY hYl
          replace c0 := loc_step hYl (by simp) c0
          replace d0 := loc_step hYl (by simp) d0
          clear hY hYl
          obtain ⟨⟨k0, k1⟩, f0, f1⟩ := cells2 hA.box
          go_wp2_with fail
          refine (calls_st hA.vs (HC.out _)).mono ?_
          rintro e w22 ⟨rfl, hY, hYl⟩
          replace hA := hA.step hY hYl
          replace c0 := loc_step hYl (by simp) c0
          replace d0 := loc_step hYl (by simp) d0
          clear hY hYl
          obtain ⟨⟨k0, k1⟩, f0, f1⟩ := cells2 hA.box
          go_wp2
          go_end0
          exact ⟨rfl, hA.vs.done keepsPV⟩
    · have hfo : foreF t p s (q + n) (n) s1 = (n, s1) := by unfold foreF; rw [if_neg hr]
      rw [hfo]; clear hfo; dsimp only
      have HAd := Lib.hid (fun (w : World) (S1 : Nat → Prop) (h1 : PV w b S1 s1) => badd_all b t p s q (n) w S1 s1 h1 hp)
      have HC := Lib.hid (fun (w : World) (S1 : Nat → Prop) (h1 : PV w b S1 (addG t p s q (n) s1)) => hcount_any b t p s n w S1 _ h1 hn0 hn1)
      generalize addG t p s q (n) s1 = s8 at *
      generalize countF n s8 = s9 at *
      go_enter Tryz.func80, Tryz.ntmps80
      obtain ⟨⟨k0, k1⟩, f0, f1⟩ := cells2 hA.box
      go_wp2_with fail
      refine (calls_st hA.vs (HH.out _)).mono ?_
      rintro e w1 ⟨rfl, hY, hYl⟩
      replace hA := hA.step hY hYl
      replace c0 := loc_step hYl (by simp) c0
      replace d0 := loc_step hYl (by simp) d0
      clear hY hYl
      obtain ⟨⟨k0, k1⟩, f0, f1⟩ := cells2 hA.box
      go_wp2_with fail
      refine (calls_st hA.vs (HAd.out _)).mono ?_
      rintro e w21 ⟨rfl, hY, hYl⟩
      replace hA := hA.step hY hYl
      replace c0 := loc_step hYl (by simp) c0
      replace d0 := loc_step hYl (by simp) d0
      clear hY hYl
      obtain ⟨⟨k0, k1⟩, f0, f1⟩ := cells2 hA.box
      go_wp2_with fail
      refine (calls_st hA.vs (HC.out _)).mono ?_
      rintro e w22 ⟨rfl, hY, hYl⟩
      replace hA := hA.step hY hYl
      replace c0 := loc_step hYl (by simp) c0
      replace d0 := loc_step hYl (by simp) d0
      clear hY hYl
      obtain ⟨⟨k0, k1⟩, f0, f1⟩ := cells2 hA.box
      go_wp2
      go_end0
      exact ⟨rfl, hA.vs.done keepsPV⟩
  · rw [if_neg hf0] at hbk
    have HF1 := fun (w : World) (S1 : Nat → Prop) (h1 : PV w b S1 s1) => hfree_any b t p s f w S1 s1 h1
    have hl1 : 0 ≤ (freeAt t p s f s1).1 ∧ (freeAt t p s f s1).1 ≤ 1024 := ⟨(freeV_bd _).1, (freeV_bd _).2.1⟩
    obtain ⟨l1, s2, hl⟩ : ∃ l s4, freeAt t p s f s1 = (l, s4) := ⟨_, _, rfl⟩
    rw [hl] at HF1 hl1 hbk; dsimp only at HF1 hl1 hbk; clear hl
    have HG1 := Lib.hid HF1; clear HF1
    by_cases h10 : l1 = 0
    · rw [if_pos h10] at hbk; subst hbk h10; dsimp only; clear hl1
      by_cases hr : q + n < p
      · have HF2 := fun (w : World) (S1 : Nat → Prop) (h1 : PV w b S1 s2) => hfree_any b t p s (q + n) w S1 s2 h1
        have hfo : foreF t p s (q + n) (n) s2 = (if (freeAt t p s (q + n) s2).1 = 0 then (n, (freeAt t p s (q + n) s2).2) else (n + (joinF t p s (q + n) (q + n) (freeAt t p s (q + n) s2).2).1, (joinF t p s (q + n) (q + n) (freeAt t p s (q + n) s2).2).2)) := by unfold foreF; rw [if_pos hr]
        have hl2 : 0 ≤ (freeAt t p s (q + n) s2).1 ∧ (freeAt t p s (q + n) s2).1 ≤ 1024 := ⟨(freeV_bd _).1, (freeV_bd _).2.1⟩
        rw [hfo]; clear hfo
        obtain ⟨l2, s4, hl⟩ : ∃ l s4, freeAt t p s (q + n) s2 = (l, s4) := ⟨_, _, rfl⟩
        rw [hl] at HF2 hl2 ⊢; dsimp only at HF2 hl2 ⊢; clear hl
        have HG2 := Lib.hid HF2; clear HF2
        by_cases h20 : l2 = 0
        · subst h20; clear hl2
          rw [if_pos rfl]; dsimp only
          have HAd := Lib.hid (fun (w : World) (S1 : Nat → Prop) (h1 : PV w b S1 s4) => badd_all b t p s q (n) w S1 s4 h1 hp)
          have HC := Lib.hid (fun (w : World) (S1 : Nat → Prop) (h1 : PV w b S1 (addG t p s q (n) s4)) => hcount_any b t p s n w S1 _ h1 hn0 hn1)
          generalize addG t p s q (n) s4 = s8 at *
          generalize countF n s8 = s9 at *
          go_enter Tryz.func80, Tryz.ntmps80
          obtain ⟨⟨k0, k1⟩, f0, f1⟩ := cells2 hA.box
          go_wp2_with fail
          refine (calls_st hA.vs (HH.out _)).mono ?_
          rintro e w1 ⟨rfl, hY, hYl⟩
          replace hA := hA.step hY hYl
          replace c0 := loc_step hYl (by simp) c0
          replace d0 := loc_step hYl (by simp) d0
          clear hY hYl
          obtain ⟨⟨k0, k1⟩, f0, f1⟩ := cells2 hA.box
          go_wp2_with fail
          refine (calls_st hA.vs (HG1.out _)).mono ?_
          rintro e w2 ⟨rfl, hY, hYl⟩
          replace hA := hA.step hY hYl
          replace c0 := loc_step hYl (by simp) c0
          replace d0 := loc_step hYl (by simp) d0
          clear hY hYl
          obtain ⟨⟨k0, k1⟩, f0, f1⟩ := cells2 hA.box
          go_wp2_with fail
          refine (calls_st hA.vs (HG2.out _)).mono ?_
          rintro e w20 ⟨rfl, hY, hYl⟩
          replace hA := hA.step hY hYl
          replace c0 := loc_step hYl (by simp) c0
          replace d0 := loc_step hYl (by simp) d0
          clear hY hYl
          obtain ⟨⟨k0, k1⟩, f0, f1⟩ := cells2 hA.box
          go_wp2_with fail
          refine (calls_st hA.vs (HAd.out _)).mono ?_
          rintro e w21 ⟨rfl, hY, hYl⟩
          replace hA := hA.step hY hYl
          replace c0 := loc_step hYl (by simp) c0
          replace d0 := loc_step hYl (by simp) d0
          clear hY hYl
          obtain ⟨⟨k0, k1⟩, f0, f1⟩ := cells2 hA.box
          go_wp2_with fail
          refine (calls_st hA.vs (HC.out _)).mono ?_
          rintro e w22 ⟨rfl, hY, hYl⟩
          replace hA := hA.step hY hYl
          replace c0 := loc_step hYl (by simp) c0
          replace d0 := loc_step hYl (by simp) d0
          clear hY hYl
          obtain ⟨⟨k0, k1⟩, f0, f1⟩ := cells2 hA.box
          go_wp2
          go_end0
          exact ⟨rfl, hA.vs.done keepsPV⟩
        · rw [if_neg h20]
          have hl3 : 0 < l2 := by omega
          have hj2 := dropF_bd t p s (q + n) s4
          have HJ := fun (w : World) (S1 : Nat → Prop) (h1 : PV w b S1 s4) => hjoin_any b t p s (q + n) (q + n) w S1 s4 h1 hp (by omega) (by omega)
          rw [show (dropF t p s (q + n) s4).1 = (joinF t p s (q + n) (q + n) s4).1 from rfl] at hj2
          obtain ⟨j2, s5, hj⟩ : ∃ j s5, joinF t p s (q + n) (q + n) s4 = (j, s5) := ⟨_, _, rfl⟩
          rw [hj] at HJ hj2 ⊢; dsimp only at HJ hj2 ⊢; clear hj
          have HJ2 := Lib.hid HJ; clear HJ h20 hl2
          have hw5 : IntKind.i64.wrap (n + j2) = n + j2 := wrap_in _ (by omega)
          have HAd := Lib.hid (fun (w : World) (S1 : Nat → Prop) (h1 : PV w b S1 s5) => badd_all b t p s q (n + j2) w S1 s5 h1 hp)
          have HC := Lib.hid (fun (w : World) (S1 : Nat → Prop) (h1 : PV w b S1 (addG t p s q (n + j2) s5)) => hcount_any b t p s n w S1 _ h1 hn0 hn1)
          generalize addG t p s q (n + j2) s5 = s8 at *
          generalize countF n s8 = s9 at *
          go_enter Tryz.func80, Tryz.ntmps80
          obtain ⟨⟨k0, k1⟩, f0, f1⟩ := cells2 hA.box
          go_wp2_with fail
          refine (calls_st hA.vs (HH.out _)).mono ?_
          rintro e w1 ⟨rfl, hY, hYl⟩
          replace hA := hA.step hY hYl
          replace c0 := loc_step hYl (by simp) c0
          replace d0 := loc_step hYl (by simp) d0
          clear hY hYl
          obtain ⟨⟨k0, k1⟩, f0, f1⟩ := cells2 hA.box
          go_wp2_with fail
          refine (calls_st hA.vs (HG1.out _)).mono ?_
          rintro e w2 ⟨rfl, hY, hYl⟩
          replace hA := hA.step hY hYl
          replace c0 := loc_step hYl (by simp) c0
          replace d0 := loc_step hYl (by simp) d0
          clear hY hYl
          obtain ⟨⟨k0, k1⟩, f0, f1⟩ := cells2 hA.box
          go_wp2_with fail
          refine (calls_st hA.vs (HG2.out _)).mono ?_
          rintro e w20 ⟨rfl, hY, hYl⟩
          replace hA := hA.step hY hYl
          replace c0 := loc_step hYl (by simp) c0
          replace d0 := loc_step hYl (by simp) d0
          clear hY hYl
          obtain ⟨⟨k0, k1⟩, f0, f1⟩ := cells2 hA.box
          clear k0 k1 f0 f1
          go_wp2_with fail
          have hX := hA.vs.drew keepsPV
          replace hA : VA w b S [w.heap.size + 1, w.heap.size] _ _ _ _ _ := hA.step hX (fun _ _ => rfl)
          refine wp_region_noPanic ?_
          refine wp_region_held_drew (S := fun w' => ((∀ o : Nat, w'.cell? ⟨w.heap.size + 1, o, none⟩ = (#[.pointer (some ⟨b, 0, none⟩), .int .i64 t, .int .i64 p, .int .i64 s] : Array Value)[o]?) ∧ (∀ o : Nat, w'.cell? ⟨w.heap.size, o, none⟩ = (#[.int .i64 t, .int .i64 p, .int .i64 s] : Array Value)[o]?))) (by kernel_rfl) ?_ (fun hHeld => ?_)
          · exact ⟨d0, c0⟩
          refine wT 0 ?_
          refine wT 2 ?_
          refine wT 3 ?_
          refine wT 4 ?_
          refine wpAnyH_ready (rs := [1, 5]) (by kernel_rfl) (by simp) ?_
          refine AllReadyH.cons (o := _) rfl (fun K hK => ?_) (AllReadyH.cons (o := _) rfl (fun K hK => ?_) AllReadyH.nil)
          · have k1 := (cells2 hA.box).1.2
            go_simp
            clear k1
            refine hK.out _ _ ?_ (fun hHeld => ?_)
            · exact hHeld
            clear hK K
            try simp only [Act.put, zA, zB, zC, zD, zE, zF]
            refine wR 5 fun K hK => ?_
            go_simp
            refine (calls_st hA.vs (HJ2.out _)).mono ?_
            rintro e w23 ⟨rfl, hY, hYl⟩
            replace hA := hA.step hY hYl
            have d1 := loc_step hYl (by simp) hHeld.1
            have c1 := loc_step hYl (by simp) hHeld.2
            clear hYl hY
            dsimp only
            refine hK.out _ _ ?_ (fun hHeld => ?_)
            · exact ⟨d1, c1⟩
            clear hK K
            try simp only [Act.put, zA, zB, zC, zD, zE, zF]
            refine wT 6 ?_
            refine wT 7 ?_
            refine wR 8 fun K hK => ?_
            obtain ⟨⟨k0, k1⟩, f0, f1⟩ := cells2 hA.box
            have hA2 : VA w b S [w.heap.size + 1, w.heap.size] _ #[.int .i64 q, .int .i64 (n + j2)] 127 s5 _ := hA.set 1 (.int .i64 (n + j2))
            go_simp
            clear k0 k1 f0 f1
            refine hK.out _ _ ?_ (fun hHeld => ?_)
            · exact ⟨hA.loc (by simp) 1 _ hHeld.1, hA.loc (by simp) 1 _ hHeld.2⟩
            clear hK K
            try simp only [Act.put, zA, zB, zC, zD, zE, zF]
            refine wpAnyH_done (by kernel_rfl) (NoPanic.normal ?_) _
            refine world_gen ?_
            intro wz hwz
            rw [← hwz] at hA2 hHeld
            clear hwz hA
            replace hA := hA2
            clear hA2
            have d0 := hHeld.1
            have c0 := hHeld.2
            obtain ⟨⟨k0, k1⟩, f0, f1⟩ := cells2 hA.box
            go_wp2_with fail
            refine (calls_st hA.vs (HAd.out _)).mono ?_
            rintro e w21 ⟨rfl, hY, hYl⟩
            replace hA := hA.step hY hYl
            replace c0 := loc_step hYl (by simp) c0
            replace d0 := loc_step hYl (by simp) d0
            clear hY hYl
            obtain ⟨⟨k0, k1⟩, f0, f1⟩ := cells2 hA.box
            go_wp2_with fail
            refine (calls_st hA.vs (HC.out _)).mono ?_
            rintro e w22 ⟨rfl, hY, hYl⟩
            replace hA := hA.step hY hYl
            replace c0 := loc_step hYl (by simp) c0
            replace d0 := loc_step hYl (by simp) d0
            clear hY hYl
            obtain ⟨⟨k0, k1⟩, f0, f1⟩ := cells2 hA.box
            go_wp2
            go_end0
            exact ⟨rfl, hA.vs.done keepsPV⟩
          · go_simp
            refine (calls_st hA.vs (HJ2.out _)).mono ?_
            rintro e w23 ⟨rfl, hY, hYl⟩
            replace hA := hA.step hY hYl
            have d1 := loc_step hYl (by simp) hHeld.1
            have c1 := loc_step hYl (by simp) hHeld.2
            clear hYl hY
            dsimp only
            refine hK.out _ _ ?_ (fun hHeld => ?_)
            · exact ⟨d1, c1⟩
            clear hK K
            try simp only [Act.put, zA, zB, zC, zD, zE, zF]
            refine wR 1 fun K hK => ?_
            have k1 := (cells2 hA.box).1.2
            go_simp
            clear k1
            refine hK.out _ _ ?_ (fun hHeld => ?_)
            · exact hHeld
            clear hK K
            try simp only [Act.put, zA, zB, zC, zD, zE, zF]
            refine wT 6 ?_
            refine wT 7 ?_
            refine wR 8 fun K hK => ?_
            obtain ⟨⟨k0, k1⟩, f0, f1⟩ := cells2 hA.box
            have hA2 : VA w b S [w.heap.size + 1, w.heap.size] _ #[.int .i64 q, .int .i64 (n + j2)] 127 s5 _ := hA.set 1 (.int .i64 (n + j2))
            go_simp
            clear k0 k1 f0 f1
            refine hK.out _ _ ?_ (fun hHeld => ?_)
            · exact ⟨hA.loc (by simp) 1 _ hHeld.1, hA.loc (by simp) 1 _ hHeld.2⟩
            clear hK K
            try simp only [Act.put, zA, zB, zC, zD, zE, zF]
            refine wpAnyH_done (by kernel_rfl) (NoPanic.normal ?_) _
            refine world_gen ?_
            intro wz hwz
            rw [← hwz] at hA2 hHeld
            clear hwz hA
            replace hA := hA2
            clear hA2
            have d0 := hHeld.1
            have c0 := hHeld.2
            obtain ⟨⟨k0, k1⟩, f0, f1⟩ := cells2 hA.box
            go_wp2_with fail
            refine (calls_st hA.vs (HAd.out _)).mono ?_
            rintro e w21 ⟨rfl, hY, hYl⟩
            replace hA := hA.step hY hYl
            replace c0 := loc_step hYl (by simp) c0
            replace d0 := loc_step hYl (by simp) d0
            clear hY hYl
            obtain ⟨⟨k0, k1⟩, f0, f1⟩ := cells2 hA.box
            go_wp2_with fail
            refine (calls_st hA.vs (HC.out _)).mono ?_
            rintro e w22 ⟨rfl, hY, hYl⟩
            replace hA := hA.step hY hYl
            replace c0 := loc_step hYl (by simp) c0
            replace d0 := loc_step hYl (by simp) d0
            clear hY hYl
            obtain ⟨⟨k0, k1⟩, f0, f1⟩ := cells2 hA.box
            go_wp2
            go_end0
            exact ⟨rfl, hA.vs.done keepsPV⟩
      · have hfo : foreF t p s (q + n) (n) s2 = (n, s2) := by unfold foreF; rw [if_neg hr]
        rw [hfo]; clear hfo; dsimp only
        have HAd := Lib.hid (fun (w : World) (S1 : Nat → Prop) (h1 : PV w b S1 s2) => badd_all b t p s q (n) w S1 s2 h1 hp)
        have HC := Lib.hid (fun (w : World) (S1 : Nat → Prop) (h1 : PV w b S1 (addG t p s q (n) s2)) => hcount_any b t p s n w S1 _ h1 hn0 hn1)
        generalize addG t p s q (n) s2 = s8 at *
        generalize countF n s8 = s9 at *
        go_enter Tryz.func80, Tryz.ntmps80
        obtain ⟨⟨k0, k1⟩, f0, f1⟩ := cells2 hA.box
        go_wp2_with fail
        refine (calls_st hA.vs (HH.out _)).mono ?_
        rintro e w1 ⟨rfl, hY, hYl⟩
        replace hA := hA.step hY hYl
        replace c0 := loc_step hYl (by simp) c0
        replace d0 := loc_step hYl (by simp) d0
        clear hY hYl
        obtain ⟨⟨k0, k1⟩, f0, f1⟩ := cells2 hA.box
        go_wp2_with fail
        refine (calls_st hA.vs (HG1.out _)).mono ?_
        rintro e w2 ⟨rfl, hY, hYl⟩
        replace hA := hA.step hY hYl
        replace c0 := loc_step hYl (by simp) c0
        replace d0 := loc_step hYl (by simp) d0
        clear hY hYl
        obtain ⟨⟨k0, k1⟩, f0, f1⟩ := cells2 hA.box
        go_wp2_with fail
        refine (calls_st hA.vs (HAd.out _)).mono ?_
        rintro e w21 ⟨rfl, hY, hYl⟩
        replace hA := hA.step hY hYl
        replace c0 := loc_step hYl (by simp) c0
        replace d0 := loc_step hYl (by simp) d0
        clear hY hYl
        obtain ⟨⟨k0, k1⟩, f0, f1⟩ := cells2 hA.box
        go_wp2_with fail
        refine (calls_st hA.vs (HC.out _)).mono ?_
        rintro e w22 ⟨rfl, hY, hYl⟩
        replace hA := hA.step hY hYl
        replace c0 := loc_step hYl (by simp) c0
        replace d0 := loc_step hYl (by simp) d0
        clear hY hYl
        obtain ⟨⟨k0, k1⟩, f0, f1⟩ := cells2 hA.box
        go_wp2
        go_end0
        exact ⟨rfl, hA.vs.done keepsPV⟩
    · rw [if_neg h10] at hbk
      have hl4 : 0 < l1 := by omega
      have hj1 := dropF_bd t p s f s2
      have HJ := fun (w : World) (S1 : Nat → Prop) (h1 : PV w b S1 s2) => hjoin_any b t p s f q w S1 s2 h1 hp hq0 hq1
      rw [show (dropF t p s f s2).1 = (joinF t p s f q s2).1 from rfl] at hj1
      obtain ⟨j1, s3, hj⟩ : ∃ j s5, joinF t p s f q s2 = (j, s5) := ⟨_, _, rfl⟩
      rw [hj] at HJ hj1 hbk; dsimp only at HJ hj1 hbk; clear hj
      have HJ1 := Lib.hid HJ; clear HJ h10 hl1; subst hbk; dsimp only
      have hw4 : IntKind.i64.wrap (n + j1) = n + j1 := wrap_in _ (by omega)
      by_cases hr : q + n < p
      · have HF2 := fun (w : World) (S1 : Nat → Prop) (h1 : PV w b S1 s3) => hfree_any b t p s (q + n) w S1 s3 h1
        have hfo : foreF t p s (q + n) (n + j1) s3 = (if (freeAt t p s (q + n) s3).1 = 0 then (n + j1, (freeAt t p s (q + n) s3).2) else (n + j1 + (joinF t p s (q + n) (q + n) (freeAt t p s (q + n) s3).2).1, (joinF t p s (q + n) (q + n) (freeAt t p s (q + n) s3).2).2)) := by unfold foreF; rw [if_pos hr]
        have hl2 : 0 ≤ (freeAt t p s (q + n) s3).1 ∧ (freeAt t p s (q + n) s3).1 ≤ 1024 := ⟨(freeV_bd _).1, (freeV_bd _).2.1⟩
        rw [hfo]; clear hfo
        obtain ⟨l2, s4, hl⟩ : ∃ l s4, freeAt t p s (q + n) s3 = (l, s4) := ⟨_, _, rfl⟩
        rw [hl] at HF2 hl2 ⊢; dsimp only at HF2 hl2 ⊢; clear hl
        have HG2 := Lib.hid HF2; clear HF2
        by_cases h20 : l2 = 0
        · subst h20; clear hl2
          rw [if_pos rfl]; dsimp only
          have HAd := Lib.hid (fun (w : World) (S1 : Nat → Prop) (h1 : PV w b S1 s4) => badd_all b t p s f (n + j1) w S1 s4 h1 hp)
          have HC := Lib.hid (fun (w : World) (S1 : Nat → Prop) (h1 : PV w b S1 (addG t p s f (n + j1) s4)) => hcount_any b t p s n w S1 _ h1 hn0 hn1)
          generalize addG t p s f (n + j1) s4 = s8 at *
          generalize countF n s8 = s9 at *
          go_enter Tryz.func80, Tryz.ntmps80
          obtain ⟨⟨k0, k1⟩, f0, f1⟩ := cells2 hA.box
          go_wp2_with fail
          refine (calls_st hA.vs (HH.out _)).mono ?_
          rintro e w1 ⟨rfl, hY, hYl⟩
          replace hA := hA.step hY hYl
          replace c0 := loc_step hYl (by simp) c0
          replace d0 := loc_step hYl (by simp) d0
          clear hY hYl
          obtain ⟨⟨k0, k1⟩, f0, f1⟩ := cells2 hA.box
          go_wp2_with fail
          refine (calls_st hA.vs (HG1.out _)).mono ?_
          rintro e w2 ⟨rfl, hY, hYl⟩
          replace hA := hA.step hY hYl
          replace c0 := loc_step hYl (by simp) c0
          replace d0 := loc_step hYl (by simp) d0
          clear hY hYl
          obtain ⟨⟨k0, k1⟩, f0, f1⟩ := cells2 hA.box
          go_wp2_with fail
          refine (calls_st hA.vs (HJ1.out _)).mono ?_
          rintro e w3 ⟨rfl, hY, hYl⟩
          replace hA := hA.step hY hYl
          replace c0 := loc_step hYl (by simp) c0
          replace d0 := loc_step hYl (by simp) d0
          clear hY hYl
          obtain ⟨⟨k0, k1⟩, f0, f1⟩ := cells2 hA.box
          clear k0 k1
          obtain ⟨⟨k0, k1⟩, f0, f1⟩ := cells2 hA.box
          go_wp2_with fail
          replace d0 := (hA.set 0 (.int .i64 f)).loc (by simp) 1 (.int .i64 (n + j1)) (hA.loc (by simp) 0 (.int .i64 f) d0)
          replace c0 := (hA.set 0 (.int .i64 f)).loc (by simp) 1 (.int .i64 (n + j1)) (hA.loc (by simp) 0 (.int .i64 f) c0)
          have hA2 : VA w b S [w.heap.size + 1, w.heap.size] _ #[.int .i64 f, .int .i64 (n + j1)] 127 s3 _ := (hA.set 0 (.int .i64 f)).set 1 (.int .i64 (n + j1))
          clear k0 k1 f0 f1 hA
          have hA := hA2
          clear hA2
          obtain ⟨⟨k0, k1⟩, f0, f1⟩ := cells2 hA.box
          refine (calls_st hA.vs (HG2.out _)).mono ?_
          rintro e w20 ⟨rfl, hY, hYl⟩
          replace hA := hA.step hY hYl
          replace c0 := loc_step hYl (by simp) c0
          replace d0 := loc_step hYl (by simp) d0
          clear hY hYl
          obtain ⟨⟨k0, k1⟩, f0, f1⟩ := cells2 hA.box
          go_wp2_with fail
          refine (calls_st hA.vs (HAd.out _)).mono ?_
          rintro e w21 ⟨rfl, hY, hYl⟩
          replace hA := hA.step hY hYl
          replace c0 := loc_step hYl (by simp) c0
          replace d0 := loc_step hYl (by simp) d0
          clear hY hYl
          obtain ⟨⟨k0, k1⟩, f0, f1⟩ := cells2 hA.box
          go_wp2_with fail
          refine (calls_st hA.vs (HC.out _)).mono ?_
          rintro e w22 ⟨rfl, hY, hYl⟩
          replace hA := hA.step hY hYl
          replace c0 := loc_step hYl (by simp) c0
          replace d0 := loc_step hYl (by simp) d0
          clear hY hYl
          obtain ⟨⟨k0, k1⟩, f0, f1⟩ := cells2 hA.box
          go_wp2
          go_end0
          exact ⟨rfl, hA.vs.done keepsPV⟩
        · rw [if_neg h20]
          have hl3 : 0 < l2 := by omega
          have hj2 := dropF_bd t p s (q + n) s4
          have HJ := fun (w : World) (S1 : Nat → Prop) (h1 : PV w b S1 s4) => hjoin_any b t p s (q + n) (q + n) w S1 s4 h1 hp (by omega) (by omega)
          rw [show (dropF t p s (q + n) s4).1 = (joinF t p s (q + n) (q + n) s4).1 from rfl] at hj2
          obtain ⟨j2, s5, hj⟩ : ∃ j s5, joinF t p s (q + n) (q + n) s4 = (j, s5) := ⟨_, _, rfl⟩
          rw [hj] at HJ hj2 ⊢; dsimp only at HJ hj2 ⊢; clear hj
          have HJ2 := Lib.hid HJ; clear HJ h20 hl2
          have hw5 : IntKind.i64.wrap (n + j1 + j2) = n + j1 + j2 := wrap_in _ (by omega)
          have HAd := Lib.hid (fun (w : World) (S1 : Nat → Prop) (h1 : PV w b S1 s5) => badd_all b t p s f (n + j1 + j2) w S1 s5 h1 hp)
          have HC := Lib.hid (fun (w : World) (S1 : Nat → Prop) (h1 : PV w b S1 (addG t p s f (n + j1 + j2) s5)) => hcount_any b t p s n w S1 _ h1 hn0 hn1)
          generalize addG t p s f (n + j1 + j2) s5 = s8 at *
          generalize countF n s8 = s9 at *
          go_enter Tryz.func80, Tryz.ntmps80
          obtain ⟨⟨k0, k1⟩, f0, f1⟩ := cells2 hA.box
          go_wp2_with fail
          refine (calls_st hA.vs (HH.out _)).mono ?_
          rintro e w1 ⟨rfl, hY, hYl⟩
          replace hA := hA.step hY hYl
          replace c0 := loc_step hYl (by simp) c0
          replace d0 := loc_step hYl (by simp) d0
          clear hY hYl
          obtain ⟨⟨k0, k1⟩, f0, f1⟩ := cells2 hA.box
          go_wp2_with fail
          refine (calls_st hA.vs (HG1.out _)).mono ?_
          rintro e w2 ⟨rfl, hY, hYl⟩
          replace hA := hA.step hY hYl
          replace c0 := loc_step hYl (by simp) c0
          replace d0 := loc_step hYl (by simp) d0
          clear hY hYl
          obtain ⟨⟨k0, k1⟩, f0, f1⟩ := cells2 hA.box
          go_wp2_with fail
          refine (calls_st hA.vs (HJ1.out _)).mono ?_
          rintro e w3 ⟨rfl, hY, hYl⟩
          replace hA := hA.step hY hYl
          replace c0 := loc_step hYl (by simp) c0
          replace d0 := loc_step hYl (by simp) d0
          clear hY hYl
          obtain ⟨⟨k0, k1⟩, f0, f1⟩ := cells2 hA.box
          clear k0 k1
          obtain ⟨⟨k0, k1⟩, f0, f1⟩ := cells2 hA.box
          go_wp2_with fail
          replace d0 := (hA.set 0 (.int .i64 f)).loc (by simp) 1 (.int .i64 (n + j1)) (hA.loc (by simp) 0 (.int .i64 f) d0)
          replace c0 := (hA.set 0 (.int .i64 f)).loc (by simp) 1 (.int .i64 (n + j1)) (hA.loc (by simp) 0 (.int .i64 f) c0)
          have hA2 : VA w b S [w.heap.size + 1, w.heap.size] _ #[.int .i64 f, .int .i64 (n + j1)] 127 s3 _ := (hA.set 0 (.int .i64 f)).set 1 (.int .i64 (n + j1))
          clear k0 k1 f0 f1 hA
          have hA := hA2
          clear hA2
          obtain ⟨⟨k0, k1⟩, f0, f1⟩ := cells2 hA.box
          refine (calls_st hA.vs (HG2.out _)).mono ?_
          rintro e w20 ⟨rfl, hY, hYl⟩
          replace hA := hA.step hY hYl
          replace c0 := loc_step hYl (by simp) c0
          replace d0 := loc_step hYl (by simp) d0
          clear hY hYl
          obtain ⟨⟨k0, k1⟩, f0, f1⟩ := cells2 hA.box
          clear k0 k1 f0 f1
          go_wp2_with fail
          have hX := hA.vs.drew keepsPV
          replace hA : VA w b S [w.heap.size + 1, w.heap.size] _ _ _ _ _ := hA.step hX (fun _ _ => rfl)
          refine wp_region_noPanic ?_
          refine wp_region_held_drew (S := fun w' => ((∀ o : Nat, w'.cell? ⟨w.heap.size + 1, o, none⟩ = (#[.pointer (some ⟨b, 0, none⟩), .int .i64 t, .int .i64 p, .int .i64 s] : Array Value)[o]?) ∧ (∀ o : Nat, w'.cell? ⟨w.heap.size, o, none⟩ = (#[.int .i64 t, .int .i64 p, .int .i64 s] : Array Value)[o]?))) (by kernel_rfl) ?_ (fun hHeld => ?_)
          · exact ⟨d0, c0⟩
          refine wT 0 ?_
          refine wT 2 ?_
          refine wT 3 ?_
          refine wT 4 ?_
          refine wpAnyH_ready (rs := [1, 5]) (by kernel_rfl) (by simp) ?_
          refine AllReadyH.cons (o := _) rfl (fun K hK => ?_) (AllReadyH.cons (o := _) rfl (fun K hK => ?_) AllReadyH.nil)
          · have k1 := (cells2 hA.box).1.2
            go_simp
            clear k1
            refine hK.out _ _ ?_ (fun hHeld => ?_)
            · exact hHeld
            clear hK K
            try simp only [Act.put, zA, zB, zC, zD, zE, zF]
            refine wR 5 fun K hK => ?_
            go_simp
            refine (calls_st hA.vs (HJ2.out _)).mono ?_
            rintro e w23 ⟨rfl, hY, hYl⟩
            replace hA := hA.step hY hYl
            have d1 := loc_step hYl (by simp) hHeld.1
            have c1 := loc_step hYl (by simp) hHeld.2
            clear hYl hY
            dsimp only
            refine hK.out _ _ ?_ (fun hHeld => ?_)
            · exact ⟨d1, c1⟩
            clear hK K
            try simp only [Act.put, zA, zB, zC, zD, zE, zF]
            refine wT 6 ?_
            refine wT 7 ?_
            refine wR 8 fun K hK => ?_
            obtain ⟨⟨k0, k1⟩, f0, f1⟩ := cells2 hA.box
            have hA2 : VA w b S [w.heap.size + 1, w.heap.size] _ #[.int .i64 f, .int .i64 (n + j1 + j2)] 127 s5 _ := hA.set 1 (.int .i64 (n + j1 + j2))
            go_simp
            clear k0 k1 f0 f1
            refine hK.out _ _ ?_ (fun hHeld => ?_)
            · exact ⟨hA.loc (by simp) 1 _ hHeld.1, hA.loc (by simp) 1 _ hHeld.2⟩
            clear hK K
            try simp only [Act.put, zA, zB, zC, zD, zE, zF]
            refine wpAnyH_done (by kernel_rfl) (NoPanic.normal ?_) _
            refine world_gen ?_
            intro wz hwz
            rw [← hwz] at hA2 hHeld
            clear hwz hA
            replace hA := hA2
            clear hA2
            have d0 := hHeld.1
            have c0 := hHeld.2
            obtain ⟨⟨k0, k1⟩, f0, f1⟩ := cells2 hA.box
            go_wp2_with fail
            refine (calls_st hA.vs (HAd.out _)).mono ?_
            rintro e w21 ⟨rfl, hY, hYl⟩
            replace hA := hA.step hY hYl
            replace c0 := loc_step hYl (by simp) c0
            replace d0 := loc_step hYl (by simp) d0
            clear hY hYl
            obtain ⟨⟨k0, k1⟩, f0, f1⟩ := cells2 hA.box
            go_wp2_with fail
            refine (calls_st hA.vs (HC.out _)).mono ?_
            rintro e w22 ⟨rfl, hY, hYl⟩
            replace hA := hA.step hY hYl
            replace c0 := loc_step hYl (by simp) c0
            replace d0 := loc_step hYl (by simp) d0
            clear hY hYl
            obtain ⟨⟨k0, k1⟩, f0, f1⟩ := cells2 hA.box
            go_wp2
            go_end0
            exact ⟨rfl, hA.vs.done keepsPV⟩
          · go_simp
            refine (calls_st hA.vs (HJ2.out _)).mono ?_
            rintro e w23 ⟨rfl, hY, hYl⟩
            replace hA := hA.step hY hYl
            have d1 := loc_step hYl (by simp) hHeld.1
            have c1 := loc_step hYl (by simp) hHeld.2
            clear hYl hY
            dsimp only
            refine hK.out _ _ ?_ (fun hHeld => ?_)
            · exact ⟨d1, c1⟩
            clear hK K
            try simp only [Act.put, zA, zB, zC, zD, zE, zF]
            refine wR 1 fun K hK => ?_
            have k1 := (cells2 hA.box).1.2
            go_simp
            clear k1
            refine hK.out _ _ ?_ (fun hHeld => ?_)
            · exact hHeld
            clear hK K
            try simp only [Act.put, zA, zB, zC, zD, zE, zF]
            refine wT 6 ?_
            refine wT 7 ?_
            refine wR 8 fun K hK => ?_
            obtain ⟨⟨k0, k1⟩, f0, f1⟩ := cells2 hA.box
            have hA2 : VA w b S [w.heap.size + 1, w.heap.size] _ #[.int .i64 f, .int .i64 (n + j1 + j2)] 127 s5 _ := hA.set 1 (.int .i64 (n + j1 + j2))
            go_simp
            clear k0 k1 f0 f1
            refine hK.out _ _ ?_ (fun hHeld => ?_)
            · exact ⟨hA.loc (by simp) 1 _ hHeld.1, hA.loc (by simp) 1 _ hHeld.2⟩
            clear hK K
            try simp only [Act.put, zA, zB, zC, zD, zE, zF]
            refine wpAnyH_done (by kernel_rfl) (NoPanic.normal ?_) _
            refine world_gen ?_
            intro wz hwz
            rw [← hwz] at hA2 hHeld
            clear hwz hA
            replace hA := hA2
            clear hA2
            have d0 := hHeld.1
            have c0 := hHeld.2
            obtain ⟨⟨k0, k1⟩, f0, f1⟩ := cells2 hA.box
            go_wp2_with fail
            refine (calls_st hA.vs (HAd.out _)).mono ?_
            rintro e w21 ⟨rfl, hY, hYl⟩
            replace hA := hA.step hY hYl
            replace c0 := loc_step hYl (by simp) c0
            replace d0 := loc_step hYl (by simp) d0
            clear hY hYl
            obtain ⟨⟨k0, k1⟩, f0, f1⟩ := cells2 hA.box
            go_wp2_with fail
            refine (calls_st hA.vs (HC.out _)).mono ?_
            rintro e w22 ⟨rfl, hY, hYl⟩
            replace hA := hA.step hY hYl
            replace c0 := loc_step hYl (by simp) c0
            replace d0 := loc_step hYl (by simp) d0
            clear hY hYl
            obtain ⟨⟨k0, k1⟩, f0, f1⟩ := cells2 hA.box
            go_wp2
            go_end0
            exact ⟨rfl, hA.vs.done keepsPV⟩
      · have hfo : foreF t p s (q + n) (n + j1) s3 = (n + j1, s3) := by unfold foreF; rw [if_neg hr]
        rw [hfo]; clear hfo; dsimp only
        have HAd := Lib.hid (fun (w : World) (S1 : Nat → Prop) (h1 : PV w b S1 s3) => badd_all b t p s f (n + j1) w S1 s3 h1 hp)
        have HC := Lib.hid (fun (w : World) (S1 : Nat → Prop) (h1 : PV w b S1 (addG t p s f (n + j1) s3)) => hcount_any b t p s n w S1 _ h1 hn0 hn1)
        generalize addG t p s f (n + j1) s3 = s8 at *
        generalize countF n s8 = s9 at *
        go_enter Tryz.func80, Tryz.ntmps80
        obtain ⟨⟨k0, k1⟩, f0, f1⟩ := cells2 hA.box
        go_wp2_with fail
        refine (calls_st hA.vs (HH.out _)).mono ?_
        rintro e w1 ⟨rfl, hY, hYl⟩
        replace hA := hA.step hY hYl
        replace c0 := loc_step hYl (by simp) c0
        replace d0 := loc_step hYl (by simp) d0
        clear hY hYl
        obtain ⟨⟨k0, k1⟩, f0, f1⟩ := cells2 hA.box
        go_wp2_with fail
        refine (calls_st hA.vs (HG1.out _)).mono ?_
        rintro e w2 ⟨rfl, hY, hYl⟩
        replace hA := hA.step hY hYl
        replace c0 := loc_step hYl (by simp) c0
        replace d0 := loc_step hYl (by simp) d0
        clear hY hYl
        obtain ⟨⟨k0, k1⟩, f0, f1⟩ := cells2 hA.box
        go_wp2_with fail
        refine (calls_st hA.vs (HJ1.out _)).mono ?_
        rintro e w3 ⟨rfl, hY, hYl⟩
        replace hA := hA.step hY hYl
        replace c0 := loc_step hYl (by simp) c0
        replace d0 := loc_step hYl (by simp) d0
        clear hY hYl
        obtain ⟨⟨k0, k1⟩, f0, f1⟩ := cells2 hA.box
        clear k0 k1
        obtain ⟨⟨k0, k1⟩, f0, f1⟩ := cells2 hA.box
        go_wp2_with fail
        replace d0 := (hA.set 0 (.int .i64 f)).loc (by simp) 1 (.int .i64 (n + j1)) (hA.loc (by simp) 0 (.int .i64 f) d0)
        replace c0 := (hA.set 0 (.int .i64 f)).loc (by simp) 1 (.int .i64 (n + j1)) (hA.loc (by simp) 0 (.int .i64 f) c0)
        have hA2 : VA w b S [w.heap.size + 1, w.heap.size] _ #[.int .i64 f, .int .i64 (n + j1)] 127 s3 _ := (hA.set 0 (.int .i64 f)).set 1 (.int .i64 (n + j1))
        clear k0 k1 f0 f1 hA
        have hA := hA2
        clear hA2
        obtain ⟨⟨k0, k1⟩, f0, f1⟩ := cells2 hA.box
        refine (calls_st hA.vs (HAd.out _)).mono ?_
        rintro e w21 ⟨rfl, hY, hYl⟩
        replace hA := hA.step hY hYl
        replace c0 := loc_step hYl (by simp) c0
        replace d0 := loc_step hYl (by simp) d0
        clear hY hYl
        obtain ⟨⟨k0, k1⟩, f0, f1⟩ := cells2 hA.box
        go_wp2_with fail
        refine (calls_st hA.vs (HC.out _)).mono ?_
        rintro e w22 ⟨rfl, hY, hYl⟩
        replace hA := hA.step hY hYl
        replace c0 := loc_step hYl (by simp) c0
        replace d0 := loc_step hYl (by simp) d0
        clear hY hYl
        obtain ⟨⟨k0, k1⟩, f0, f1⟩ := cells2 hA.box
        go_wp2
        go_end0
        exact ⟨rfl, hA.vs.done keepsPV⟩
end Go.Proofs.YtpmoajhpgekhcaaGreat
