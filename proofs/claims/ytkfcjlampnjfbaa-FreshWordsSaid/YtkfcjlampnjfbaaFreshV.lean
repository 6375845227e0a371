/- fresh: the document's Vals, whole. -/
import Derived.Test.YtkfcjlampnjfbaaFreshR
import Derived.Deep.Cut
namespace Go.Proofs.Ytkfcjlampnjfbaa
open Go.RowKit

def refL (N i0 i1 K P : Nat) : List Int := ((((List.replicate N (0 : Int)).set 0 P).set (2 + K) 1).set i0 (1 + 16 * P)).set i1 1
theorem uints_set (l : List Int) (i : Nat) (v : Int) : (uints l).set i (.int .u32 v) = uints (l.set i v) := by simp [uints, List.map_set]
theorem row_cell {w : World} {g c n : Nat} {l : List Int} (h : w.ownsRow 0 72 1 (.slice (some ⟨g, 0, none⟩) n c) n (uints l)) {i : Nat} (hi : i < n) : ∃ z, w.cell? ⟨g, i, none⟩ = some z := by
  refine ⟨_, (h.cellAt i (by omega)).trans (List.getElem?_eq_getElem ?_)⟩
  have := h.1
  omega

set_option maxHeartbeats 1000000 in
set_option maxRecDepth 100000 in
theorem rvals_right (t s : Int) (P N i0 i1 K : Nat) (w : World) (hr : rightB t P s = true) (hN : cellsN t P = N) (h0 : ofF t P s 0 0 = i0) (h1 : ofF t P s ((P : Int) - 1) 1 = i1) (hK : logF P = K) (hK2 : K < 11) (hi0 : i0 < N) (hi1 : i1 < N) :
    Calls Try.prog 39 #[.agg #[.int .i64 t, .int .i64 P, .int .i64 s]] w (ValsP w (refL N i0 i1 K P)) := by
  obtain ⟨b1, b2, b3, b4, b5, b6⟩ := right_bd hr
  have H1 := fun w => rcells_any t P s w
  have hcf : cellsF t P s = cellsN t P := by simp [cellsF, hr]
  rw [hcf, hN] at H1
  have hcb : 58 ≤ N ∧ N ≤ 10000 := by unfold cellsN at hN; omega
  have HH1 := Lib.hid H1
  have HBo := Lib.hid (show ∀ w, Calls Try.prog 73 #[.int .i64 P] w fun e w' => e = .returned (.int .i64 (K : Int)) ∧ Below w.heap.size w w' by
    intro w
    have := rbof_any P w (by omega) (by omega)
    rwa [hK] at this)
  have HBi := Lib.hid (fun w => rbin_any K w hK2)
  have HIn := Lib.hid (show ∀ w, Calls Try.prog 75 #[.agg #[.int .i64 t, .int .i64 P, .int .i64 s], .int .i64 0] w fun e w' => e = .returned (.int .i64 (i0 : Int)) ∧ Below w.heap.size w w' by
    intro w
    have := rinfo_any t P s 0 w
    rwa [h0] at this)
  have HFo := Lib.hid (show ∀ w, Calls Try.prog 76 #[.agg #[.int .i64 t, .int .i64 P, .int .i64 s], .int .i64 ((P : Int) - 1)] w fun e w' => e = .returned (.int .i64 (i1 : Int)) ∧ Below w.heap.size w w' by
    intro w
    have := rfoot_any t P s ((P : Int) - 1) w
    rwa [h1] at this)
  have HVa := Lib.hid (fun w => rvalue_free P w (by omega) (by omega))
  have hmk : ∀ w : World, (Instr.makeSlice 27 (.int .i64 (N : Int)) (.int .i64 (N : Int))).run Try.prog w = .ok (.slice (some ⟨w.heap.size, 0, none⟩) N N) (w.alloc (.cells (madeCells #[.int .u32 0] N) 72)) := run_make_row' (P := Try.prog) 27 72 (.int .u32 0) 4 Try.underlying27 infoU32 rfl .i64 .i64 N (by omega) (by omega)
  have hnb : ((N : Int) == 0) = false := by simp; omega
  have hw1 : IntKind.u32.wrap (P : Int) = P := IntWalk.u32_in _ (by omega)
  have c0 := loc_alloc w #[.int .i64 t, .int .i64 P, .int .i64 s] 23
  have S0 := ((BS.start w).alloc (.cells #[.int .i64 t, .int .i64 P, .int .i64 s] 23))
  have hK3 : 2 + K < N := by omega
  generalize hk2 : 2 + K = k2 at *
  have hFL : refL N i0 i1 K P = ((((List.replicate N (0 : Int)).set 0 P).set k2 1).set i0 (1 + 16 * P)).set i1 1 := by unfold refL; rw [hk2]
  rw [hFL]
  generalize hiv : (1 + 16 * (P : Int)) = iv at *
  clear H1 hcf hr hN h0 h1 hK hK2 hk2 hFL hiv
  go_enter Try.func39, Try.ntmps39
  go_wp2_with fail
  refine (calls_b S0 (HH1.out _)).mono ?_
  rintro e w1 ⟨rfl, S1, S1l⟩
  have c1 := loc_step S1l (by simp) c0
  clear S1l
  have l1 := (S1.ls w.heap.size (by simp)).1
  go_upto_region 4 with fail
  refine world_gen ?_
  intro wm hwm
  have RM : wm.ownsRow 0 72 1 (.slice (some ⟨w1.heap.size, 0, none⟩) N N) N (uints (List.replicate N 0)) := by rw [hwm]; exact row_made w1 N (by omega)
  have S1a : BS w [w1.heap.size, w.heap.size] wm := by rw [hwm]; exact S1.alloc _
  have c1a : ∀ o : Nat, wm.cell? ⟨w.heap.size, o, none⟩ = (#[.int .i64 t, .int .i64 P, .int .i64 s] : Array Value)[o]? := by rw [hwm]; exact loc_old _ l1 c1
  have S2 := S1a.setCell (L := w1.heap.size) (by simp) 0 (.int .u32 P)
  have R2 := (RM.stored 0 (.int .u32 P)).1
  obtain ⟨z0, q0⟩ := row_cell RM (i := 0) (by omega)
  have f0 := RM.frozenAt 0
  rw [uints_set] at R2
  have c2 : ∀ o : Nat, (wm.setCell ⟨w1.heap.size, 0, none⟩ (.int .u32 P)).cell? ⟨w.heap.size, o, none⟩ = (#[.int .i64 t, .int .i64 P, .int .i64 s] : Array Value)[o]? := fun o => (World.cell?_of_block (a := ⟨w.heap.size, o, none⟩) (heap_setCell_other (L := w1.heap.size) (M := w.heap.size) (by omega))).trans (c1a o)
  clear RM hwm hmk
  go_wp2_with fail
  refine (calls_b S2 (HBo.out _)).mono ?_
  rintro e w3 ⟨rfl, S3, S3l⟩
  have c3 := loc_step S3l (by simp) c2
  have R3 := row_step S3l (fun k hk => by simp [Value.ownBlock] at hk; simp [hk]) R2
  clear S3l
  clear S0 S1 S1a S2 R2 c0 c1 c1a c2 q0 f0
  go_wp2_with fail
  refine (calls_b S3 (HBi.out _)).mono ?_
  rintro e w4 ⟨rfl, S4, S4l⟩
  have c4 := loc_step S4l (by simp) c3
  have R4 := row_step S4l (fun k hk => by simp [Value.ownBlock] at hk; simp [hk]) R3
  clear S4l
  obtain ⟨z4, q4⟩ := row_cell R4 hK3
  have f4 := R4.frozenAt k2
  have S5 := S4.setCell (L := w1.heap.size) (by simp) k2 (.int .u32 1)
  have R5 := (R4.stored k2 (.int .u32 1)).1
  rw [uints_set] at R5
  have c5 : ∀ o : Nat, (w4.setCell ⟨w1.heap.size, k2, none⟩ (.int .u32 1)).cell? ⟨w.heap.size, o, none⟩ = (#[.int .i64 t, .int .i64 P, .int .i64 s] : Array Value)[o]? := fun o => (World.cell?_of_block (a := ⟨w.heap.size, o, none⟩) (heap_setCell_other (L := w1.heap.size) (M := w.heap.size) (by omega))).trans (c4 o)
  clear S3 R3 c3
  go_wp2_with fail
  have hiN : ∀ i : Nat, i < N → (i : Int) < N := fun i hi => by omega
  have hj0 := hiN i0 hi0
  have hj1 := hiN i1 hi1
  refine wp_region_noPanic ?_
  refine wp_region_held_drew (S := fun w' => (∀ o : Nat, w'.cell? ⟨w.heap.size, o, none⟩ = (#[.int .i64 t, .int .i64 P, .int .i64 s] : Array Value)[o]?)) (by kernel_rfl) ?_ (fun hHeld => ?_)
  · exact c5
  refine wpAnyH_take (i := 0) (oi := _) (v := ?_) rfl (by kernel_rfl) (by kernel_rfl) (by kernel_rfl) (fun _ _ _ h => h) (Or.inl ⟨by rfl, ?_⟩) (by assumption) ?_
  rotate_left
  · intro w hSw; (try dsimp only at hSw); go_simp; try with_reducible rfl
  try simp only [Act.put, List.getElem_toArray, List.getElem_cons_zero, List.setIfInBounds_toArray, List.set_cons_zero, List.set_cons_succ]
  refine wpAnyH_take (i := 1) (oi := _) (v := ?_) rfl (by kernel_rfl) (by kernel_rfl) (by kernel_rfl) (fun _ _ _ h => h) (Or.inl ⟨by rfl, ?_⟩) (by assumption) ?_
  rotate_left
  · intro w hSw; (try dsimp only at hSw); go_simp; try with_reducible rfl
  try simp only [Act.put, List.getElem_toArray, List.getElem_cons_zero, List.getElem_cons_succ, List.setIfInBounds_toArray, List.set_cons_zero, List.set_cons_succ]
  refine wpAnyH_take (i := 3) (oi := _) (v := ?_) rfl (by kernel_rfl) (by kernel_rfl) (by kernel_rfl) (fun _ _ _ h => h) (Or.inl ⟨by rfl, ?_⟩) (by assumption) ?_
  rotate_left
  · intro w hSw; (try dsimp only at hSw); go_simp; try with_reducible rfl
  try simp only [Act.put, List.getElem_toArray, List.getElem_cons_zero, List.getElem_cons_succ, List.setIfInBounds_toArray, List.set_cons_zero, List.set_cons_succ]
  refine wpAnyH_take (i := 4) (oi := _) (v := ?_) rfl (by kernel_rfl) (by kernel_rfl) (by kernel_rfl) (fun _ _ _ h => h) (Or.inl ⟨by rfl, ?_⟩) (by assumption) ?_
  rotate_left
  · intro w hSw; (try dsimp only at hSw); go_simp; try with_reducible rfl
  try simp only [Act.put, List.getElem_toArray, List.getElem_cons_zero, List.getElem_cons_succ, List.setIfInBounds_toArray, List.set_cons_zero, List.set_cons_succ]
  refine wpAnyH_ready (rs := [2]) (by kernel_rfl) (by simp) ?_
  refine AllReadyH.cons (o := _) rfl (fun K hK => ?_) AllReadyH.nil
  go_simp
  refine (calls_b S5.drew (HIn.out _)).mono ?_
  rintro e w6 ⟨rfl, S6, S6l⟩
  have c6 := loc_step S6l (by simp) hHeld
  have R6 := row_step S6l (fun k hk => by simp [Value.ownBlock] at hk; simp [hk]) (ownsRow_block (w' := (w4.setCell ⟨w1.heap.size, k2, none⟩ (.int .u32 1)).drew) R5 (fun _ _ => rfl))
  clear S6l
  dsimp only
  refine hK.out _ _ ?_ (fun hHeld => ?_)
  · exact c6
  clear hK K
  try simp only [Act.put, List.getElem_toArray, List.getElem_cons_zero, List.getElem_cons_succ, List.setIfInBounds_toArray, List.set_cons_zero, List.set_cons_succ]
  refine wpAnyH_ready (rs := [5]) (by kernel_rfl) (by simp) ?_
  refine AllReadyH.cons (o := _) rfl (fun K hK => ?_) AllReadyH.nil
  go_simp
  refine (calls_b S6 (HVa.out _)).mono ?_
  rintro e w7 ⟨rfl, S7, S7l⟩
  have c7 := loc_step S7l (by simp) hHeld
  have R7 := row_step S7l (fun k hk => by simp [Value.ownBlock] at hk; simp [hk]) R6
  clear S7l
  dsimp only
  refine hK.out _ _ ?_ (fun hHeld => ?_)
  · exact c7
  clear hK K
  try simp only [Act.put, List.getElem_toArray, List.getElem_cons_zero, List.getElem_cons_succ, List.setIfInBounds_toArray, List.set_cons_zero, List.set_cons_succ]
  refine wpAnyH_take (i := 6) (oi := _) (v := ?_) rfl (by kernel_rfl) (by kernel_rfl) (by kernel_rfl) (fun _ _ _ h => h) (Or.inl ⟨by rfl, ?_⟩) (by assumption) ?_
  rotate_left
  · intro w hSw; (try dsimp only at hSw); go_simp; try with_reducible rfl
  try simp only [Act.put, List.getElem_toArray, List.getElem_cons_zero, List.getElem_cons_succ, List.setIfInBounds_toArray, List.set_cons_zero, List.set_cons_succ]
  refine wpAnyH_ready (rs := [7]) (by kernel_rfl) (by simp) ?_
  refine AllReadyH.cons (o := _) rfl (fun K hK => ?_) AllReadyH.nil
  obtain ⟨z7, q7⟩ := row_cell R7 hi0
  have f7 := R7.frozenAt i0
  go_simp
  have c8 : ∀ o : Nat, (w7.setCell ⟨w1.heap.size, i0, none⟩ (.int .u32 iv)).cell? ⟨w.heap.size, o, none⟩ = (#[.int .i64 t, .int .i64 P, .int .i64 s] : Array Value)[o]? := fun o => (World.cell?_of_block (a := ⟨w.heap.size, o, none⟩) (heap_setCell_other (L := w1.heap.size) (M := w.heap.size) (by omega))).trans (c7 o)
  refine hK.out _ _ ?_ (fun hHeld => ?_)
  · exact c8
  clear hK K
  try simp only [Act.put, List.getElem_toArray, List.getElem_cons_zero, List.getElem_cons_succ, List.setIfInBounds_toArray, List.set_cons_zero, List.set_cons_succ]
  refine wpAnyH_done (by kernel_rfl) ?_ _
  refine NoPanic.normal ?_
  have R8 := (R7.stored i0 (.int .u32 iv)).1
  rw [uints_set] at R8
  have S8 := S7.setCell (L := w1.heap.size) (by simp) i0 (.int .u32 iv)
  go_wp2_with fail
  refine (calls_b S8 (HFo.out _)).mono ?_
  rintro e w9 ⟨rfl, S9, S9l⟩
  have c9 := loc_step S9l (by simp) c8
  have R9 := row_step S9l (fun k hk => by simp [Value.ownBlock] at hk; simp [hk]) R8
  clear S9l
  obtain ⟨z9, q9⟩ := row_cell R9 hi1
  have f9 := R9.frozenAt i1
  have R10 := (R9.stored i1 (.int .u32 1)).1
  rw [uints_set] at R10
  have S10 := S9.setCell (L := w1.heap.size) (by simp) i1 (.int .u32 1)
  clear R4 R5 R6 R7 R8 S4 S5 S6 S7 S8 c4 c5 c6 c7 c8 q4 q7 f4 f7
  go_wp2
  go_ret
  refine ⟨_, rfl, ?_, fun k hk => ?_, S10.bel⟩
  · simpa using R10
  · simp [Value.ownBlock] at hk
    subst hk
    exact (S9.ls w1.heap.size (by simp)).2
end Go.Proofs.Ytkfcjlampnjfbaa
