/- tell: the page's example; the law TellEvents. -/
import Derived.Test.YtloilknkhloegaaDoorTellE
import Derived.Test.YtloilknkhloegaaDoorTellRE
import Derived.Test.YtloilknkhloegaaDoorRegion
set_option linter.unusedSimpArgs false
set_option linter.unusedVariables false
namespace Go.Proofs.YtloilknkhloegaaDoor
open Go.RowKit

theorem inI_small {n : Int} (h : 0 ≤ n ∧ n ≤ 100000) : inI n := ⟨by omega, by omega⟩
theorem ex_ev : evB ⟨2, 0, 1, 5, ⟨0, 0, 0⟩, ⟨0, 1024, 32⟩, ⟨0, ⟨0, 0, 0⟩, ⟨0, 0, 0⟩⟩⟩ = [48, 32, 49, 32, 53, 32, 97, 110, 115, 119, 101, 114, 115, 32, 111, 107, 32, 49, 48, 50, 52, 32, 51, 50] := by
  simp [evB, whoB, resB, nm, Lib.itoa, Lib.decDigits]
theorem ex_op : opB ⟨8, 0, 0⟩ = [115, 116, 97, 116, 115] := by decide
theorem tlive_any (w : World) (hT : TabOk w) :
    Calls Tryd.prog 16 #[] w fun e w' => e = .returned (.bool true) ∧ Below w.heap.size w w' := by
  have z : inI 0 := inI_small (by omega)
  have H1 := Lib.hid (pevent_any 2 0 1 5 0 0 0 0 1024 32 0 0 0 0 0 0 0 w ⟨inI_small (by simp), z, inI_small (by simp), inI_small (by simp), ⟨z, z, z⟩, ⟨z, inI_small (by simp), inI_small (by simp)⟩, ⟨z, ⟨z, z, z⟩, ⟨z, z, z⟩⟩⟩ hT)
  have H2 := Lib.hid (fun w hT => pop_any 8 0 0 w ⟨inI_small (by simp), z, z⟩ hT)
  rw [ex_ev] at H1
  rw [ex_op] at H2
  have HT := Lib.hid hT
  clear hT
  go_enter Tryd.func16, Tryd.ntmps16
  go_wp2_with fail
  refine H1.out.mono ?_
  rintro e w1 ⟨rfl, b1⟩
  have T1 := Lib.hid (HT.out.step b1)
  go_wp2_with fail
  refine (H2.out _ T1.out).mono ?_
  rintro e w2 ⟨rfl, b2⟩
  go_wp2
  go_ret
  exact ⟨rfl, b1.trans (b2.mono b1.size)⟩

/-- two boxes of the call's own, the second one above the first. -/
def Two2 (w0 : World) (A B : Array Value) (W : World) : Prop := (∀ o : Nat, W.cell? ⟨w0.heap.size, o, none⟩ = A[o]?) ∧ (∀ o : Nat, W.cell? ⟨w0.heap.size + 1, o, none⟩ = B[o]?) ∧ w0.heap.size + 1 < W.heap.size ∧ Below w0.heap.size w0 W
theorem Two2.step {w0 W W' : World} {A B : Array Value} (h : (∀ o : Nat, W.cell? ⟨w0.heap.size, o, none⟩ = A[o]?) ∧ (∀ o : Nat, W.cell? ⟨w0.heap.size + 1, o, none⟩ = B[o]?) ∧ w0.heap.size + 1 < W.heap.size ∧ Below w0.heap.size w0 W) (hb : Below W.heap.size W W') :
    (∀ o : Nat, W'.cell? ⟨w0.heap.size, o, none⟩ = A[o]?) ∧ (∀ o : Nat, W'.cell? ⟨w0.heap.size + 1, o, none⟩ = B[o]?) ∧ w0.heap.size + 1 < W'.heap.size ∧ Below w0.heap.size w0 W' :=
  ⟨fun o => (hb.cell (p := ⟨w0.heap.size, o, none⟩) (show w0.heap.size < W.heap.size by have := h.2.2.1; omega)).trans (h.1 o), fun o => (hb.cell (p := ⟨w0.heap.size + 1, o, none⟩) h.2.2.1).trans (h.2.1 o), Nat.lt_of_lt_of_le h.2.2.1 hb.size, h.2.2.2.trans (hb.mono h.2.2.2.size)⟩
theorem Two2.start (w : World) (A B : Array Value) (S T : TypeId) : (∀ o : Nat, ((w.alloc (.cells A S)).alloc (.cells B T)).cell? ⟨w.heap.size, o, none⟩ = A[o]?) ∧ (∀ o : Nat, ((w.alloc (.cells A S)).alloc (.cells B T)).cell? ⟨w.heap.size + 1, o, none⟩ = B[o]?) ∧ w.heap.size + 1 < ((w.alloc (.cells A S)).alloc (.cells B T)).heap.size ∧ Below w.heap.size w ((w.alloc (.cells A S)).alloc (.cells B T)) := by
  refine ⟨fun o => ?_, fun o => ?_, by simp, ((Below.refl _ _).alloc (Nat.le_refl _) _).alloc (by simp) _⟩
  · rw [(((Below.refl (w.heap.size + 1) (w.alloc (.cells A S))).alloc (by simp) (.cells B T))).cell (p := ⟨w.heap.size, o, none⟩) (by simp), cell?_of_heap (heap_alloc_new w _)]
  · have := heap_alloc_new (w.alloc (.cells A S)) (.cells B T)
    rw [World.size_alloc] at this
    rw [cell?_of_heap this]
theorem TabOk.two {w0 W : World} {A B : Array Value} (h : TabOk w0) (hh : (∀ o : Nat, W.cell? ⟨w0.heap.size, o, none⟩ = A[o]?) ∧ (∀ o : Nat, W.cell? ⟨w0.heap.size + 1, o, none⟩ = B[o]?) ∧ w0.heap.size + 1 < W.heap.size ∧ Below w0.heap.size w0 W) : TabOk W := h.step hh.2.2.2

set_option maxHeartbeats 8000000 in
set_option maxRecDepth 100000 in
theorem tellevents_any (k ep tt nn o1 o2 o3 r1 r2 r3 ak a1 a2 a3 s1 s2 s3 me ms mt mn : Int) (w : World) (h : (PEv.mk k ep tt nn ⟨o1, o2, o3⟩ ⟨r1, r2, r3⟩ ⟨ak, ⟨a1, a2, a3⟩, ⟨s1, s2, s3⟩⟩).ok) (hm : (PMark.mk me ms mt mn).ok) (hT : TabOk w) :
    Calls Tryd.prog 3 #[.agg #[.int .i64 k, .int .i64 ep, .int .i64 tt, .int .i64 nn, .int .i64 o1, .int .i64 o2, .int .i64 o3, .int .i64 r1, .int .i64 r2, .int .i64 r3, .int .i64 ak, .int .i64 a1, .int .i64 a2, .int .i64 a3, .int .i64 s1, .int .i64 s2, .int .i64 s3], .agg #[.int .i64 me, .int .u32 ms, .int .i64 mt, .int .i64 mn]] w fun e w' => e = .returned (.bool true) ∧ Below w.heap.size w w' := by
  have HT := Lib.hid hT
  have P1 := Lib.hid (fun w hT => pevent_any k ep tt nn o1 o2 o3 r1 r2 r3 ak a1 a2 a3 s1 s2 s3 w h hT)
  have R1 := Lib.hid (fun w => revent_any k ep tt nn o1 o2 o3 r1 r2 r3 ak a1 a2 a3 s1 s2 s3 w h)
  have P2 := Lib.hid (fun w hT => pop_any o1 o2 o3 w h.2.2.2.2.1 hT)
  have R2 := Lib.hid (fun w => rop_any o1 o2 o3 w h.2.2.2.2.1)
  have P3 := Lib.hid (fun w hT => presult_any r1 r2 r3 w h.2.2.2.2.2.1 hT)
  have R3 := Lib.hid (fun w => rresult_any r1 r2 r3 w h.2.2.2.2.2.1)
  have P4 := Lib.hid (fun w hT => pmark_any me ms mt mn w hm hT)
  have R4 := Lib.hid (fun w => rmark_any me ms mt mn w hm)
  have L1 := Lib.hid (fun w hT => tlive_any w hT)
  clear h hm hT
  generalize evB (PEv.mk k ep tt nn ⟨o1, o2, o3⟩ ⟨r1, r2, r3⟩ ⟨ak, ⟨a1, a2, a3⟩, ⟨s1, s2, s3⟩⟩) = X1 at P1 R1
  generalize opB ⟨o1, o2, o3⟩ = X2 at P2 R2
  generalize resB ⟨r1, r2, r3⟩ = X3 at P3 R3
  generalize markB ⟨me, ms, mt, mn⟩ = X4 at P4 R4
  go_enter Tryd.func3, Tryd.ntmps3
  go_wp2_with fail
  have hS0 := Two2.start w #[.int .i64 k, .int .i64 ep, .int .i64 tt, .int .i64 nn, .int .i64 o1, .int .i64 o2, .int .i64 o3, .int .i64 r1, .int .i64 r2, .int .i64 r3, .int .i64 ak, .int .i64 a1, .int .i64 a2, .int .i64 a3, .int .i64 s1, .int .i64 s2, .int .i64 s3] #[.int .i64 me, .int .u32 ms, .int .i64 mt, .int .i64 mn] 30 33
  refine wp_region_noPanic ?_
  refine wp_region_held_drew (S := fun w' => (∀ o : Nat, w'.cell? ⟨w.heap.size, o, none⟩ = (#[.int .i64 k, .int .i64 ep, .int .i64 tt, .int .i64 nn, .int .i64 o1, .int .i64 o2, .int .i64 o3, .int .i64 r1, .int .i64 r2, .int .i64 r3, .int .i64 ak, .int .i64 a1, .int .i64 a2, .int .i64 a3, .int .i64 s1, .int .i64 s2, .int .i64 s3] : Array Value)[o]?) ∧ (∀ o : Nat, w'.cell? ⟨w.heap.size + 1, o, none⟩ = (#[.int .i64 me, .int .u32 ms, .int .i64 mt, .int .i64 mn] : Array Value)[o]?) ∧ w.heap.size + 1 < w'.heap.size ∧ Below w.heap.size w w') (by kernel_rfl) ?_ (fun hHeld => ?_)
  · exact ⟨hS0.1, hS0.2.1, hS0.2.2.1, hS0.2.2.2.drew⟩
  try dsimp only at hHeld
  refine wpAnyH_take (i := 0) (oi := _) (v := .agg #[.int .i64 k, .int .i64 ep, .int .i64 tt, .int .i64 nn, .int .i64 o1, .int .i64 o2, .int .i64 o3, .int .i64 r1, .int .i64 r2, .int .i64 r3, .int .i64 ak, .int .i64 a1, .int .i64 a2, .int .i64 a3, .int .i64 s1, .int .i64 s2, .int .i64 s3]) rfl (by kernel_rfl) (by kernel_rfl) (by kernel_rfl) (fun _ _ _ h => h) (yieldsIf_load_mid (by rfl) 30 (.tmp 2) rfl w.heap.size 0 rfl [.int .i64 k, .int .i64 ep, .int .i64 tt, .int .i64 nn, .int .i64 o1, .int .i64 o2, .int .i64 o3, .int .i64 r1, .int .i64 r2, .int .i64 r3, .int .i64 ak, .int .i64 a1, .int .i64 a2, .int .i64 a3, .int .i64 s1, .int .i64 s2, .int .i64 s3] _ (fun wx hx j v hv => (hx.1 (0 + j)).trans (by rw [Nat.zero_add, List.getElem?_toArray]; exact hv)) Tryd.underlying30 rfl (by kernel_rfl)) (by assumption) ?_
  try simp only [Act.put, List.getElem_toArray, List.getElem_cons_zero, List.setIfInBounds_toArray, List.set_cons_zero, List.set_cons_succ]
  refine wpAnyH_take (i := 2) (oi := _) (v := .agg #[.int .i64 k, .int .i64 ep, .int .i64 tt, .int .i64 nn, .int .i64 o1, .int .i64 o2, .int .i64 o3, .int .i64 r1, .int .i64 r2, .int .i64 r3, .int .i64 ak, .int .i64 a1, .int .i64 a2, .int .i64 a3, .int .i64 s1, .int .i64 s2, .int .i64 s3]) rfl (by kernel_rfl) (by kernel_rfl) (by kernel_rfl) (fun _ _ _ h => h) (yieldsIf_load_mid (by rfl) 30 (.tmp 2) rfl w.heap.size 0 rfl [.int .i64 k, .int .i64 ep, .int .i64 tt, .int .i64 nn, .int .i64 o1, .int .i64 o2, .int .i64 o3, .int .i64 r1, .int .i64 r2, .int .i64 r3, .int .i64 ak, .int .i64 a1, .int .i64 a2, .int .i64 a3, .int .i64 s1, .int .i64 s2, .int .i64 s3] _ (fun wx hx j v hv => (hx.1 (0 + j)).trans (by rw [Nat.zero_add, List.getElem?_toArray]; exact hv)) Tryd.underlying30 rfl (by kernel_rfl)) (by assumption) ?_
  try simp only [Act.put, List.getElem_toArray, List.getElem_cons_zero, List.getElem_cons_succ, List.setIfInBounds_toArray, List.set_cons_zero, List.set_cons_succ]
  refine wpAnyH_ready (rs := [1]) (by kernel_rfl) (by simp) ?_
  refine AllReadyH.cons (o := _) rfl (fun K hK => ?_) AllReadyH.nil
  go_simp
  refine (P1.out _ (HT.out.two hHeld)).mono ?_
  rintro e wn ⟨rfl, hb⟩
  dsimp only
  refine hK.out _ _ ?_ (fun hHeld2 => ?_)
  · exact Two2.step hHeld hb
  clear hK K hHeld
  have hHeld := hHeld2
  clear hHeld2
  try dsimp only at hHeld
  try simp only [Act.put, List.getElem_toArray, List.getElem_cons_zero, List.getElem_cons_succ, List.setIfInBounds_toArray, List.set_cons_zero, List.set_cons_succ]
  refine wpAnyH_ready (rs := [3]) (by kernel_rfl) (by simp) ?_
  refine AllReadyH.cons (o := _) rfl (fun K hK => ?_) AllReadyH.nil
  go_simp
  refine (R1.out _).mono ?_
  rintro e wn ⟨rfl, hb⟩
  dsimp only
  refine hK.out _ _ ?_ (fun hHeld2 => ?_)
  · exact Two2.step hHeld hb
  clear hK K hHeld
  have hHeld := hHeld2
  clear hHeld2
  try dsimp only at hHeld
  try simp only [Act.put, List.getElem_toArray, List.getElem_cons_zero, List.getElem_cons_succ, List.setIfInBounds_toArray, List.set_cons_zero, List.set_cons_succ]
  refine wpAnyH_take (i := 4) (oi := _) (v := ?_) rfl (by kernel_rfl) (by kernel_rfl) (by kernel_rfl) (fun _ _ _ h => h) (Or.inl ⟨by rfl, ?_⟩) (by assumption) ?_
  rotate_left
  · intro w hSw; (try dsimp only at hSw); go_simp; try with_reducible rfl
  try simp only [Act.put, List.getElem_toArray, List.getElem_cons_zero, List.getElem_cons_succ, List.setIfInBounds_toArray, List.set_cons_zero, List.set_cons_succ]
  refine wpAnyH_take (i := 5) (oi := _) (v := ?_) rfl (by kernel_rfl) (by kernel_rfl) (by kernel_rfl) (fun _ _ _ h => h) (Or.inl ⟨by rfl, ?_⟩) (by assumption) ?_
  rotate_left
  · intro w hSw; (try dsimp only at hSw); go_simp; try with_reducible rfl
  try simp only [Act.put, List.getElem_toArray, List.getElem_cons_zero, List.getElem_cons_succ, List.setIfInBounds_toArray, List.set_cons_zero, List.set_cons_succ]
  refine wpAnyH_take (i := 6) (oi := _) (v := ?_) rfl (by kernel_rfl) (by kernel_rfl) (by kernel_rfl) (fun _ _ _ h => h) (Or.inl ⟨by rfl, ?_⟩) (by assumption) ?_
  rotate_left
  · intro w hSw; (try dsimp only at hSw); go_simp; try with_reducible rfl
  try simp only [Act.put, List.getElem_toArray, List.getElem_cons_zero, List.getElem_cons_succ, List.setIfInBounds_toArray, List.set_cons_zero, List.set_cons_succ]
  refine wpAnyH_take (i := 7) (oi := _) (v := ?_) rfl (by kernel_rfl) (by kernel_rfl) (by kernel_rfl) (fun _ _ _ h => h) (Or.inl ⟨by rfl, ?_⟩) (by assumption) ?_
  rotate_left
  · intro w hSw; (try dsimp only at hSw); go_simp; try with_reducible rfl
  try simp only [Act.put, List.getElem_toArray, List.getElem_cons_zero, List.getElem_cons_succ, List.setIfInBounds_toArray, List.set_cons_zero, List.set_cons_succ]
  refine wpAnyH_take (i := 9) (oi := _) (v := ?_) rfl (by kernel_rfl) (by kernel_rfl) (by kernel_rfl) (fun _ _ _ h => h) (Or.inl ⟨by rfl, ?_⟩) (by assumption) ?_
  rotate_left
  · intro w hSw; (try dsimp only at hSw); go_simp; try with_reducible rfl
  try simp only [Act.put, List.getElem_toArray, List.getElem_cons_zero, List.getElem_cons_succ, List.setIfInBounds_toArray, List.set_cons_zero, List.set_cons_succ]
  refine wpAnyH_take (i := 10) (oi := _) (v := ?_) rfl (by kernel_rfl) (by kernel_rfl) (by kernel_rfl) (fun _ _ _ h => h) (Or.inl ⟨by rfl, ?_⟩) (by assumption) ?_
  rotate_left
  · intro w hSw; (try dsimp only at hSw); go_simp; try with_reducible rfl
  try simp only [Act.put, List.getElem_toArray, List.getElem_cons_zero, List.getElem_cons_succ, List.setIfInBounds_toArray, List.set_cons_zero, List.set_cons_succ]
  refine wpAnyH_ready (rs := [8]) (by kernel_rfl) (by simp) ?_
  refine AllReadyH.cons (o := _) rfl (fun K hK => ?_) AllReadyH.nil
  go_simp
  refine (P2.out _ (HT.out.two hHeld)).mono ?_
  rintro e wn ⟨rfl, hb⟩
  dsimp only
  refine hK.out _ _ ?_ (fun hHeld2 => ?_)
  · exact Two2.step hHeld hb
  clear hK K hHeld
  have hHeld := hHeld2
  clear hHeld2
  try dsimp only at hHeld
  try simp only [Act.put, List.getElem_toArray, List.getElem_cons_zero, List.getElem_cons_succ, List.setIfInBounds_toArray, List.set_cons_zero, List.set_cons_succ]
  refine wpAnyH_ready (rs := [11]) (by kernel_rfl) (by simp) ?_
  refine AllReadyH.cons (o := _) rfl (fun K hK => ?_) AllReadyH.nil
  go_simp
  refine (R2.out _).mono ?_
  rintro e wn ⟨rfl, hb⟩
  dsimp only
  refine hK.out _ _ ?_ (fun hHeld2 => ?_)
  · exact Two2.step hHeld hb
  clear hK K hHeld
  have hHeld := hHeld2
  clear hHeld2
  try dsimp only at hHeld
  try simp only [Act.put, List.getElem_toArray, List.getElem_cons_zero, List.getElem_cons_succ, List.setIfInBounds_toArray, List.set_cons_zero, List.set_cons_succ]
  refine wpAnyH_take (i := 12) (oi := _) (v := ?_) rfl (by kernel_rfl) (by kernel_rfl) (by kernel_rfl) (fun _ _ _ h => h) (Or.inl ⟨by rfl, ?_⟩) (by assumption) ?_
  rotate_left
  · intro w hSw; (try dsimp only at hSw); go_simp; try with_reducible rfl
  try simp only [Act.put, List.getElem_toArray, List.getElem_cons_zero, List.getElem_cons_succ, List.setIfInBounds_toArray, List.set_cons_zero, List.set_cons_succ]
  refine wpAnyH_take (i := 13) (oi := _) (v := ?_) rfl (by kernel_rfl) (by kernel_rfl) (by kernel_rfl) (fun _ _ _ h => h) (Or.inl ⟨by rfl, ?_⟩) (by assumption) ?_
  rotate_left
  · intro w hSw; (try dsimp only at hSw); go_simp; try with_reducible rfl
  try simp only [Act.put, List.getElem_toArray, List.getElem_cons_zero, List.getElem_cons_succ, List.setIfInBounds_toArray, List.set_cons_zero, List.set_cons_succ]
  refine wpAnyH_take (i := 14) (oi := _) (v := ?_) rfl (by kernel_rfl) (by kernel_rfl) (by kernel_rfl) (fun _ _ _ h => h) (Or.inl ⟨by rfl, ?_⟩) (by assumption) ?_
  rotate_left
  · intro w hSw; (try dsimp only at hSw); go_simp; try with_reducible rfl
  try simp only [Act.put, List.getElem_toArray, List.getElem_cons_zero, List.getElem_cons_succ, List.setIfInBounds_toArray, List.set_cons_zero, List.set_cons_succ]
  refine wpAnyH_take (i := 15) (oi := _) (v := ?_) rfl (by kernel_rfl) (by kernel_rfl) (by kernel_rfl) (fun _ _ _ h => h) (Or.inl ⟨by rfl, ?_⟩) (by assumption) ?_
  rotate_left
  · intro w hSw; (try dsimp only at hSw); go_simp; try with_reducible rfl
  try simp only [Act.put, List.getElem_toArray, List.getElem_cons_zero, List.getElem_cons_succ, List.setIfInBounds_toArray, List.set_cons_zero, List.set_cons_succ]
  refine wpAnyH_take (i := 16) (oi := _) (v := ?_) rfl (by kernel_rfl) (by kernel_rfl) (by kernel_rfl) (fun _ _ _ h => h) (Or.inl ⟨by rfl, ?_⟩) (by assumption) ?_
  rotate_left
  · intro w hSw; (try dsimp only at hSw); go_simp; try with_reducible rfl
  try simp only [Act.put, List.getElem_toArray, List.getElem_cons_zero, List.getElem_cons_succ, List.setIfInBounds_toArray, List.set_cons_zero, List.set_cons_succ]
  refine wpAnyH_take (i := 18) (oi := _) (v := ?_) rfl (by kernel_rfl) (by kernel_rfl) (by kernel_rfl) (fun _ _ _ h => h) (Or.inl ⟨by rfl, ?_⟩) (by assumption) ?_
  rotate_left
  · intro w hSw; (try dsimp only at hSw); go_simp; try with_reducible rfl
  try simp only [Act.put, List.getElem_toArray, List.getElem_cons_zero, List.getElem_cons_succ, List.setIfInBounds_toArray, List.set_cons_zero, List.set_cons_succ]
  refine wpAnyH_take (i := 19) (oi := _) (v := ?_) rfl (by kernel_rfl) (by kernel_rfl) (by kernel_rfl) (fun _ _ _ h => h) (Or.inl ⟨by rfl, ?_⟩) (by assumption) ?_
  rotate_left
  · intro w hSw; (try dsimp only at hSw); go_simp; try with_reducible rfl
  try simp only [Act.put, List.getElem_toArray, List.getElem_cons_zero, List.getElem_cons_succ, List.setIfInBounds_toArray, List.set_cons_zero, List.set_cons_succ]
  refine wpAnyH_ready (rs := [17]) (by kernel_rfl) (by simp) ?_
  refine AllReadyH.cons (o := _) rfl (fun K hK => ?_) AllReadyH.nil
  go_simp
  refine (P3.out _ (HT.out.two hHeld)).mono ?_
  rintro e wn ⟨rfl, hb⟩
  dsimp only
  refine hK.out _ _ ?_ (fun hHeld2 => ?_)
  · exact Two2.step hHeld hb
  clear hK K hHeld
  have hHeld := hHeld2
  clear hHeld2
  try dsimp only at hHeld
  try simp only [Act.put, List.getElem_toArray, List.getElem_cons_zero, List.getElem_cons_succ, List.setIfInBounds_toArray, List.set_cons_zero, List.set_cons_succ]
  refine wpAnyH_ready (rs := [20]) (by kernel_rfl) (by simp) ?_
  refine AllReadyH.cons (o := _) rfl (fun K hK => ?_) AllReadyH.nil
  go_simp
  refine (R3.out _).mono ?_
  rintro e wn ⟨rfl, hb⟩
  dsimp only
  refine hK.out _ _ ?_ (fun hHeld2 => ?_)
  · exact Two2.step hHeld hb
  clear hK K hHeld
  have hHeld := hHeld2
  clear hHeld2
  try dsimp only at hHeld
  try simp only [Act.put, List.getElem_toArray, List.getElem_cons_zero, List.getElem_cons_succ, List.setIfInBounds_toArray, List.set_cons_zero, List.set_cons_succ]
  refine wpAnyH_take (i := 21) (oi := _) (v := ?_) rfl (by kernel_rfl) (by kernel_rfl) (by kernel_rfl) (fun _ _ _ h => h) (Or.inl ⟨by rfl, ?_⟩) (by assumption) ?_
  rotate_left
  · intro w hSw; (try dsimp only at hSw); go_simp; try with_reducible rfl
  try simp only [Act.put, List.getElem_toArray, List.getElem_cons_zero, List.getElem_cons_succ, List.setIfInBounds_toArray, List.set_cons_zero, List.set_cons_succ]
  refine wpAnyH_take (i := 22) (oi := _) (v := ?_) rfl (by kernel_rfl) (by kernel_rfl) (by kernel_rfl) (fun _ _ _ h => h) (Or.inl ⟨by rfl, ?_⟩) (by assumption) ?_
  rotate_left
  · intro w hSw; (try dsimp only at hSw); go_simp; try with_reducible rfl
  try simp only [Act.put, List.getElem_toArray, List.getElem_cons_zero, List.getElem_cons_succ, List.setIfInBounds_toArray, List.set_cons_zero, List.set_cons_succ]
  refine wpAnyH_take (i := 23) (oi := _) (v := ?_) rfl (by kernel_rfl) (by kernel_rfl) (by kernel_rfl) (fun _ _ _ h => h) (Or.inl ⟨by rfl, ?_⟩) (by assumption) ?_
  rotate_left
  · intro w hSw; (try dsimp only at hSw); go_simp; try with_reducible rfl
  try simp only [Act.put, List.getElem_toArray, List.getElem_cons_zero, List.getElem_cons_succ, List.setIfInBounds_toArray, List.set_cons_zero, List.set_cons_succ]
  refine wpAnyH_take (i := 24) (oi := _) (v := ?_) rfl (by kernel_rfl) (by kernel_rfl) (by kernel_rfl) (fun _ _ _ h => h) (Or.inl ⟨by rfl, ?_⟩) (by assumption) ?_
  rotate_left
  · intro w hSw; (try dsimp only at hSw); go_simp; try with_reducible rfl
  try simp only [Act.put, List.getElem_toArray, List.getElem_cons_zero, List.getElem_cons_succ, List.setIfInBounds_toArray, List.set_cons_zero, List.set_cons_succ]
  refine wpAnyH_take (i := 26) (oi := _) (v := ?_) rfl (by kernel_rfl) (by kernel_rfl) (by kernel_rfl) (fun _ _ _ h => h) (Or.inl ⟨by rfl, ?_⟩) (by assumption) ?_
  rotate_left
  · intro w hSw; (try dsimp only at hSw); go_simp; try with_reducible rfl
  try simp only [Act.put, List.getElem_toArray, List.getElem_cons_zero, List.getElem_cons_succ, List.setIfInBounds_toArray, List.set_cons_zero, List.set_cons_succ]
  refine wpAnyH_ready (rs := [25]) (by kernel_rfl) (by simp) ?_
  refine AllReadyH.cons (o := _) rfl (fun K hK => ?_) AllReadyH.nil
  go_simp
  refine (P4.out _ (HT.out.two hHeld)).mono ?_
  rintro e wn ⟨rfl, hb⟩
  dsimp only
  refine hK.out _ _ ?_ (fun hHeld2 => ?_)
  · exact Two2.step hHeld hb
  clear hK K hHeld
  have hHeld := hHeld2
  clear hHeld2
  try dsimp only at hHeld
  try simp only [Act.put, List.getElem_toArray, List.getElem_cons_zero, List.getElem_cons_succ, List.setIfInBounds_toArray, List.set_cons_zero, List.set_cons_succ]
  refine wpAnyH_ready (rs := [27]) (by kernel_rfl) (by simp) ?_
  refine AllReadyH.cons (o := _) rfl (fun K hK => ?_) AllReadyH.nil
  go_simp
  refine (R4.out _).mono ?_
  rintro e wn ⟨rfl, hb⟩
  dsimp only
  refine hK.out _ _ ?_ (fun hHeld2 => ?_)
  · exact Two2.step hHeld hb
  clear hK K hHeld
  have hHeld := hHeld2
  clear hHeld2
  try dsimp only at hHeld
  try simp only [Act.put, List.getElem_toArray, List.getElem_cons_zero, List.getElem_cons_succ, List.setIfInBounds_toArray, List.set_cons_zero, List.set_cons_succ]
  refine wpAnyH_take (i := 28) (oi := _) (v := ?_) rfl (by kernel_rfl) (by kernel_rfl) (by kernel_rfl) (fun _ _ _ h => h) (Or.inl ⟨by rfl, ?_⟩) (by assumption) ?_
  rotate_left
  · intro w hSw; (try dsimp only at hSw); go_simp; try with_reducible rfl
  try simp only [Act.put, List.getElem_toArray, List.getElem_cons_zero, List.getElem_cons_succ, List.setIfInBounds_toArray, List.set_cons_zero, List.set_cons_succ]
  refine wpAnyH_take (i := 29) (oi := _) (v := ?_) rfl (by kernel_rfl) (by kernel_rfl) (by kernel_rfl) (fun _ _ _ h => h) (Or.inl ⟨by rfl, ?_⟩) (by assumption) ?_
  rotate_left
  · intro w hSw; (try dsimp only at hSw); go_simp; try with_reducible rfl
  try simp only [Act.put, List.getElem_toArray, List.getElem_cons_zero, List.getElem_cons_succ, List.setIfInBounds_toArray, List.set_cons_zero, List.set_cons_succ]
  refine wpAnyH_take (i := 30) (oi := _) (v := ?_) rfl (by kernel_rfl) (by kernel_rfl) (by kernel_rfl) (fun _ _ _ h => h) (Or.inl ⟨by rfl, ?_⟩) (by assumption) ?_
  rotate_left
  · intro w hSw; (try dsimp only at hSw); go_simp; try with_reducible rfl
  try simp only [Act.put, List.getElem_toArray, List.getElem_cons_zero, List.getElem_cons_succ, List.setIfInBounds_toArray, List.set_cons_zero, List.set_cons_succ]
  refine wpAnyH_ready (rs := [31]) (by kernel_rfl) (by simp) ?_
  refine AllReadyH.cons (o := _) rfl (fun K hK => ?_) AllReadyH.nil
  go_simp
  refine (L1.out _ (HT.out.two hHeld)).mono ?_
  rintro e wn ⟨rfl, hb⟩
  dsimp only
  refine hK.out _ _ ?_ (fun hHeld2 => ?_)
  · exact Two2.step hHeld hb
  clear hK K hHeld
  have hHeld := hHeld2
  clear hHeld2
  try dsimp only at hHeld
  try simp only [Act.put, List.getElem_toArray, List.getElem_cons_zero, List.getElem_cons_succ, List.setIfInBounds_toArray, List.set_cons_zero, List.set_cons_succ]
  refine wpAnyH_take (i := 32) (oi := _) (v := ?_) rfl (by kernel_rfl) (by kernel_rfl) (by kernel_rfl) (fun _ _ _ h => h) (Or.inl ⟨by rfl, ?_⟩) (by assumption) ?_
  rotate_left
  · intro w hSw; (try dsimp only at hSw); go_simp; try with_reducible rfl
  try simp only [Act.put, List.getElem_toArray, List.getElem_cons_zero, List.getElem_cons_succ, List.setIfInBounds_toArray, List.set_cons_zero, List.set_cons_succ]
  refine wpAnyH_take (i := 33) (oi := _) (v := ?_) rfl (by kernel_rfl) (by kernel_rfl) (by kernel_rfl) (fun _ _ _ h => h) (Or.inl ⟨by rfl, ?_⟩) (by assumption) ?_
  rotate_left
  · intro w hSw; (try dsimp only at hSw); go_simp; try with_reducible rfl
  try simp only [Act.put, List.getElem_toArray, List.getElem_cons_zero, List.getElem_cons_succ, List.setIfInBounds_toArray, List.set_cons_zero, List.set_cons_succ]
  refine wpAnyH_done (by kernel_rfl) ?_ _
  refine NoPanic.normal ?_
  go_wp2
  go_ret
  exact ⟨by simp, hHeld.2.2.2⟩
end Go.Proofs.YtloilknkhloegaaDoor
