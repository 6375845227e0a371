/- the program's State; the walk of AuditStates. -/
import Derived.Test.YtcicmljnjdhkjaaGreatMckS
set_option linter.unusedSimpArgs false
set_option linter.unusedVariables false
namespace Go.Proofs.YtcicmljnjdhkjaaGreat
open Go.ChangeShapes Go.RowKit
def zeroSt : Array Value := #[.slice none 0 0, .int .i64 0, .int .i64 0, .int .i64 0, .int .i64 0, .int .i64 0, .int .i64 0, .int .i64 0, .int .i64 0]
theorem rowB_nil {w w' : World} (h : Below w.heap.size w w') : RowB w [] (.slice none 0 0) w' := ⟨World.ownsRow_nil _ _ _ _, by simp [Value.ownBlock], h⟩
section
variable {w : World} {t p s : Int}
set_option maxHeartbeats 2000000 in
set_option maxRecDepth 100000 in
/-- where see tells a rule that does not hold. -/
theorem pstate_bad (sa : Option Addr) (m c : Nat) (r : Int) (hr : 0 < r) (H : ∀ W, Below w.heap.size w W → Calls Tryz.prog 57 #[.agg #[.int .i64 t, .int .i64 p, .int .i64 s], .slice sa m c] W fun e W' => (∃ b : Nat, e = .returned (.tuple #[.pointer (some ⟨b, 0, none⟩), .int .i64 r])) ∧ Below W.heap.size W W') :
    Calls Tryz.prog 25 #[.agg #[.int .i64 t, .int .i64 p, .int .i64 s], .slice sa m c] w fun e W' => e = .returned (.tuple #[.agg zeroSt, .bool false]) ∧ Below w.heap.size w W' := by
  have S0 := ((BS.start w).alloc (.cells #[.int .i64 t, .int .i64 p, .int .i64 s] 23)).alloc (.cells zeroSt 33)
  have HH := Lib.hid (H _ S0.bel)
  have hz : ((w.alloc (.cells #[.int .i64 t, .int .i64 p, .int .i64 s] 23)).alloc (.cells zeroSt 33)).heap[w.heap.size + 1]? = some (.cells zeroSt 33) := hb_alloc _ _ _ (by simp)
  simp only [World.size_alloc] at S0
  have HZ := Lib.hid hz
  have HS := Lib.hid S0
  unfold zeroSt at *
  clear H hz S0
  go_enter Tryz.func25, Tryz.ntmps25
  go_wp2_with fail
  refine HH.out.mono ?_
  rintro e w1 ⟨⟨b, rfl⟩, r1⟩
  have hz1 := (r1.block (w.heap.size + 1) (by simp)).trans HZ.out
  have S1 := Lib.hid (HS.out.below r1)
  have d0 := cell?_of_heap (o := 0) hz1
  have d1 := cell?_of_heap (o := 1) hz1
  have d2 := cell?_of_heap (o := 2) hz1
  have d3 := cell?_of_heap (o := 3) hz1
  have d4 := cell?_of_heap (o := 4) hz1
  have d5 := cell?_of_heap (o := 5) hz1
  have d6 := cell?_of_heap (o := 6) hz1
  have d7 := cell?_of_heap (o := 7) hz1
  have d8 := cell?_of_heap (o := 8) hz1
  have j0 := frozen?_of_heap (o := 0) hz1
  have j1 := frozen?_of_heap (o := 1) hz1
  have j2 := frozen?_of_heap (o := 2) hz1
  have j3 := frozen?_of_heap (o := 3) hz1
  have j4 := frozen?_of_heap (o := 4) hz1
  have j5 := frozen?_of_heap (o := 5) hz1
  have j6 := frozen?_of_heap (o := 6) hz1
  have j7 := frozen?_of_heap (o := 7) hz1
  have j8 := frozen?_of_heap (o := 8) hz1
  simp at d0 d1 d2 d3 d4 d5 d6 d7 d8
  clear HH HZ HS hz1 r1
  go_wp2
  refine bodyPost_ret (v := .tuple #[.agg #[.slice none 0 0, .int .i64 0, .int .i64 0, .int .i64 0, .int .i64 0, .int .i64 0, .int .i64 0, .int .i64 0, .int .i64 0], .bool false]) (by simp [results, Tryz.results25, go_sem, *]) rfl ⟨rfl, ?_⟩
  have hm : w.heap.size + 1 ∈ [w.heap.size + 1, w.heap.size] := by simp
  exact (((((((((S1.out.setCell hm 0 _).setCell hm 1 _).setCell hm 2 _).setCell hm 3 _).setCell hm 4 _).setCell hm 5 _).setCell hm 6 _).setCell hm 7 _).setCell hm 8 _).bel
set_option maxHeartbeats 2000000 in
set_option maxRecDepth 100000 in
theorem rstate_none (sa : Option Addr) (m c : Nat) (H : ∀ W, Below w.heap.size w W → Calls Tryz.prog 31 #[.agg #[.int .i64 t, .int .i64 p, .int .i64 s], .slice sa m c] W fun e W' => e = .returned (.bool false) ∧ Below W.heap.size W W') :
    Calls Tryz.prog 16 #[.agg #[.int .i64 t, .int .i64 p, .int .i64 s], .slice sa m c] w fun e W' => e = .returned (.tuple #[.agg zeroSt, .bool false]) ∧ Below w.heap.size w W' := by
  have S0 := ((BS.start w).alloc (.cells #[.int .i64 t, .int .i64 p, .int .i64 s] 23)).alloc (.cells zeroSt 33)
  have HH := Lib.hid (H _ S0.bel)
  have hz : ((w.alloc (.cells #[.int .i64 t, .int .i64 p, .int .i64 s] 23)).alloc (.cells zeroSt 33)).heap[w.heap.size + 1]? = some (.cells zeroSt 33) := hb_alloc _ _ _ (by simp)
  simp only [World.size_alloc] at S0
  have HZ := Lib.hid hz
  have HS := Lib.hid S0
  unfold zeroSt at *
  clear H hz S0
  go_enter Tryz.func16, Tryz.ntmps16
  go_wp2_with fail
  refine HH.out.mono ?_
  rintro e w1 ⟨rfl, r1⟩
  have hz1 := (r1.block (w.heap.size + 1) (by simp)).trans HZ.out
  have S1 := Lib.hid (HS.out.below r1)
  have d0 := cell?_of_heap (o := 0) hz1
  have d1 := cell?_of_heap (o := 1) hz1
  have d2 := cell?_of_heap (o := 2) hz1
  have d3 := cell?_of_heap (o := 3) hz1
  have d4 := cell?_of_heap (o := 4) hz1
  have d5 := cell?_of_heap (o := 5) hz1
  have d6 := cell?_of_heap (o := 6) hz1
  have d7 := cell?_of_heap (o := 7) hz1
  have d8 := cell?_of_heap (o := 8) hz1
  have j0 := frozen?_of_heap (o := 0) hz1
  have j1 := frozen?_of_heap (o := 1) hz1
  have j2 := frozen?_of_heap (o := 2) hz1
  have j3 := frozen?_of_heap (o := 3) hz1
  have j4 := frozen?_of_heap (o := 4) hz1
  have j5 := frozen?_of_heap (o := 5) hz1
  have j6 := frozen?_of_heap (o := 6) hz1
  have j7 := frozen?_of_heap (o := 7) hz1
  have j8 := frozen?_of_heap (o := 8) hz1
  simp at d0 d1 d2 d3 d4 d5 d6 d7 d8
  clear HH HZ HS hz1 r1
  go_wp2
  refine bodyPost_ret (v := .tuple #[.agg #[.slice none 0 0, .int .i64 0, .int .i64 0, .int .i64 0, .int .i64 0, .int .i64 0, .int .i64 0, .int .i64 0, .int .i64 0], .bool false]) (by simp [results, Tryz.results16, go_sem, *]) rfl ⟨rfl, ?_⟩
  have hm : w.heap.size + 1 ∈ [w.heap.size + 1, w.heap.size] := by simp
  exact (((((((((S1.out.setCell hm 0 _).setCell hm 1 _).setCell hm 2 _).setCell hm 3 _).setCell hm 4 _).setCell hm 5 _).setCell hm 6 _).setCell hm 7 _).setCell hm 8 _).bel
/-- the program's State under way: its roots' box. -/
def PStR (w2 : World) (v : Value) (vs : List Int) (i : Value) (wr : World) : Prop := ∃ k : Nat, k ≤ 8 ∧ i = .int .i64 k ∧ BA w2 [] w2.heap.size (stateC v vs k) 33 wr
end
section
variable {w : World} {t s : Int} {P : Nat} {ad : Addr} {n : Nat} {vs : List Int}
set_option maxHeartbeats 4000000 in
set_option maxRecDepth 100000 in
theorem pstate_heap (h : XV w t P s ad n vs) (c : Nat) (hs : (chkF vs t P s).2 = true) : Calls Tryz.prog 25 #[.agg #[.int .i64 t, .int .i64 P, .int .i64 s], .slice (some ad) n c] w fun e W' => ∃ v, e = .returned (.tuple #[stV v (rootsV vs), .bool true]) ∧ RowB w (blocksF vs t P s) v W' := by
  have S0 := ((BS.start w).alloc (.cells #[.int .i64 t, .int .i64 P, .int .i64 s] 23)).alloc (.cells zeroSt 33)
  have H := Lib.hid (psee_any (h.keep S0.bel) c (h.keep S0.bel).old)
  have hp := (chk_eq vs t P s).2.2.2 hs
  have ht := chk_tiles hs
  have HPl := Lib.hid (parts_law (s := s) ht)
  unfold SeeP at H
  rw [hp, hs] at H
  have HSp := Lib.hid (sp_in ht)
  have hz : ((w.alloc (.cells #[.int .i64 t, .int .i64 P, .int .i64 s] 23)).alloc (.cells zeroSt 33)).heap[w.heap.size + 1]? = some (.cells zeroSt 33) := hb_alloc _ _ _ (by simp)
  simp only [World.size_alloc] at S0
  have HZ := Lib.hid hz
  have HS := Lib.hid S0
  have HRo := Lib.hid (fun (k : Nat) w (h : k < 8) => pproot_any k w h)
  unfold zeroSt at *
  clear h hs hp ht hz S0
  go_enter Tryz.func25, Tryz.ntmps25
  go_wp2_with fail
  refine H.out.mono ?_
  rintro e w1 ⟨b, mb, rfl, r1, hx⟩
  have HX := Lib.hid (hx trivial)
  have hz1 := Lib.hid ((r1.block (w.heap.size + 1) (by simp)).trans HZ.out)
  have S1 := Lib.hid (HS.out.below r1)
  clear hx HZ HS r1 H
  go_wp2_with fail
  obtain ⟨g, ml, h1, h2⟩ := HX.out
  have HP := Lib.hid (pblocks_any _ w1 ml g P _ h1 h2 HSp.out)
  rw [HPl.out] at HP
  clear h2
  refine HP.out.mono ?_
  rintro e w2 ⟨v, rfl, q1, q2, q3⟩
  have hbl : liveL (partsF vs t P s) = blocksF vs t P s := rfl
  rw [hbl] at q1
  obtain ⟨m, hml⟩ : ∃ m, (blocksF vs t P s).length = m := ⟨_, rfl⟩
  rw [hml] at q1
  have HM := Lib.hid hml
  obtain ⟨va, vc, rfl⟩ := row_shape q1
  clear hbl hml
  have S2 := Lib.hid (S1.out.below q3)
  have HL2 := Lib.hid (h1.lk.keep q3)
  have hz2 := Lib.hid ((q3.block (w.heap.size + 1) (S1.out.ls (w.heap.size + 1) (by simp)).1).trans hz1.out)
  have HRow := Lib.hid q1
  have HFar := Lib.hid (fun k hk => Nat.le_trans S1.out.bel.size (q2 k hk))
  have A2 : BA w2 [] w2.heap.size (stateC (.slice va m vc) vs 0) 33 (w2.alloc (.cells (stateC (.slice va m vc) vs 0) 33)) := (BS.start w2).allocd _ _
  have hzs : stateC (.slice va m vc) vs 0 = #[.slice va m vc, .int .i64 0, .int .i64 0, .int .i64 0, .int .i64 0, .int .i64 0, .int .i64 0, .int .i64 0, .int .i64 0] := by simp [stateC, rootV]
  have HA2 : RowKit.Hid (PStR w2 (.slice va m vc) vs (.int .i64 0) (w2.alloc (.cells #[.slice va m vc, .int .i64 0, .int .i64 0, .int .i64 0, .int .i64 0, .int .i64 0, .int .i64 0, .int .i64 0, .int .i64 0] 33))) := Lib.hid ⟨0, by omega, rfl, by rw [← hzs]; exact A2⟩
  clear q1 q2 q3 h1 HX hz1 S1 HP HPl A2 hzs HSp
  go_wp2_with fail
  go_loopw [9, 22] (fun _ i wr => PStR w2 (.slice va m vc) vs i wr) (fun _ i _ => 8 - (intOf i).toNat)
  case atStart => exact HA2.out
  case round =>
    clear HA2
    obtain ⟨k, hk, rfl, hA⟩ := hrel
    by_cases hlt : k < 8
    · have HAk := Lib.hid hA
      have hkl : (k : Int) < 8 := by omega
      clear hA
      go_wp2_with fail
      refine (HRo.out k _ hlt).mono ?_
      rintro e w3 ⟨rfl, b3⟩
      have A3 := Lib.hid (HAk.out.step (HAk.out.bs.below b3) (fun L hL => b3.block L (HAk.out.bs.ls L hL).1))
      clear HAk b3
      have L3 := HL2.out.keep A3.out.bs.bel
      have bd := L3.xv.bd
      have G3 := Lib.hid (pget_any (22 + k) w3 L3 (by omega))
      have hub := getD_u32 L3.xv.u32 (22 + k)
      unfold VS.U32 at hub
      clear L3 bd
      generalize hmk : 22 + k = mk at *
      generalize hvx : vs.getD mk 0 = x at *
      have HVx := Lib.hid hvx
      clear hvx
      go_wp2_with fail
      refine G3.out.mono ?_
      rintro e w4 ⟨rfl, b4⟩
      have A4 := A3.out.step (A3.out.bs.below b4) (fun L hL => b4.block L (A3.out.bs.ls L hL).1)
      obtain ⟨z, hz3⟩ := stateC_at (.slice va m vc) vs k hlt
      have q3 : w4.cell? ⟨w2.heap.size, 1 + k, none⟩ = some z := (cell?_of_heap A4.box).trans hz3
      have f3 : w4.frozen? ⟨w2.heap.size, 1 + k, none⟩ = false := frozen?_of_heap A4.box
      have hw : IntKind.i64.wrap x = x := wrap_in _ (by omega)
      have hset := A4.set (1 + k) (.int .i64 x)
      rw [← HVx.out, ← hmk, stateC_step _ _ _ hlt, hmk, HVx.out] at hset
      have HS4 := Lib.hid hset
      clear A4 A3 G3 b4 hz3 hset
      go_wp2
      go_roundw
      case rel => exact ⟨k + 1, by omega, by go_num, HS4.out⟩
      case measure => simp [intOf]; omega
    · have h8 : k = 8 := by omega
      have hkl : ¬ (k : Int) < 8 := by omega
      rw [h8] at hA
      have hbx : wr.heap[w2.heap.size]? = some (.cells #[.slice va m vc, .int .i64 (rootsV vs 0), .int .i64 (rootsV vs 1), .int .i64 (rootsV vs 2), .int .i64 (rootsV vs 3), .int .i64 (rootsV vs 4), .int .i64 (rootsV vs 5), .int .i64 (rootsV vs 6), .int .i64 (rootsV vs 7)] 33) := hA.box
      have hbl2 := hA.bs.bel
      have h0 := (hbl2.block (w.heap.size + 1) (S2.out.ls (w.heap.size + 1) (by simp)).1).trans hz2.out
      have Sr := Lib.hid (S2.out.below hbl2)
      have HRr := Lib.hid (((BS.start _).below hbl2).row HRow.out)
      have hne2 : w.heap.size + 1 ≠ w2.heap.size := by have := (S2.out.ls (w.heap.size + 1) (by simp)).1; omega
      have hne3 : ∀ b, (Value.slice va m vc).ownBlock = some b → b ≠ w.heap.size + 1 := fun b hb e => ownsRow_elem HRr.out h0 (by decide) (by rw [hb, e])
      have HNe := Lib.hid hne3
      obtain ⟨f, hf⟩ : ∃ f, rootsV vs = f := ⟨_, rfl⟩
      rw [hf] at hbx
      have HFf := Lib.hid hf
      clear hf
      have a0 := cell?_of_heap (o := 0) hbx
      have a1 := cell?_of_heap (o := 1) hbx
      have a2 := cell?_of_heap (o := 2) hbx
      have a3 := cell?_of_heap (o := 3) hbx
      have a4 := cell?_of_heap (o := 4) hbx
      have a5 := cell?_of_heap (o := 5) hbx
      have a6 := cell?_of_heap (o := 6) hbx
      have a7 := cell?_of_heap (o := 7) hbx
      have a8 := cell?_of_heap (o := 8) hbx
      have d0 := cell?_of_heap (o := 0) h0
      have d1 := cell?_of_heap (o := 1) h0
      have d2 := cell?_of_heap (o := 2) h0
      have d3 := cell?_of_heap (o := 3) h0
      have d4 := cell?_of_heap (o := 4) h0
      have d5 := cell?_of_heap (o := 5) h0
      have d6 := cell?_of_heap (o := 6) h0
      have d7 := cell?_of_heap (o := 7) h0
      have d8 := cell?_of_heap (o := 8) h0
      have j0 := frozen?_of_heap (o := 0) h0
      have j1 := frozen?_of_heap (o := 1) h0
      have j2 := frozen?_of_heap (o := 2) h0
      have j3 := frozen?_of_heap (o := 3) h0
      have j4 := frozen?_of_heap (o := 4) h0
      have j5 := frozen?_of_heap (o := 5) h0
      have j6 := frozen?_of_heap (o := 6) h0
      have j7 := frozen?_of_heap (o := 7) h0
      have j8 := frozen?_of_heap (o := 8) h0
      simp at a0 a1 a2 a3 a4 a5 a6 a7 a8 d0 d1 d2 d3 d4 d5 d6 d7 d8
      clear hA hbx hbl2 h0 hz2 HL2 S2 hne3 hk h8
      go_wp2
      refine bodyPost_ret (v := .tuple #[.agg #[.slice va m vc, .int .i64 (f 0), .int .i64 (f 1), .int .i64 (f 2), .int .i64 (f 3), .int .i64 (f 4), .int .i64 (f 5), .int .i64 (f 6), .int .i64 (f 7)], .bool true]) (by simp [results, Tryz.results25, go_sem, *]) rfl ⟨.slice va m vc, by rw [HFf.out]; rfl, ?_, HFar.out, ?_⟩
      · rw [HM.out]
        refine ownsRow_block HRr.out (fun b hb => ?_)
        have hnb := HNe.out b hb
        repeat rw [heap_setCell_other hnb]
      · have hm : w.heap.size + 1 ∈ [w.heap.size + 1, w.heap.size] := by simp
        exact (((((((((Sr.out.setCell hm 0 _).setCell hm 1 _).setCell hm 2 _).setCell hm 3 _).setCell hm 4 _).setCell hm 5 _).setCell hm 6 _).setCell hm 7 _).setCell hm 8 _).bel
end
end Go.Proofs.YtcicmljnjdhkjaaGreat
