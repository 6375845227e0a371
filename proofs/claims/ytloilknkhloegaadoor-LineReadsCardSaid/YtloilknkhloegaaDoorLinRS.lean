/- lines: rows of entries compared. -/
import Derived.Test.YtloilknkhloegaaDoorLinRF
import Derived.Test.YtloilknkhloegaaDoorLinT
set_option linter.unusedSimpArgs false
set_option linter.unusedVariables false
namespace Go.Proofs.YtloilknkhloegaaDoor
open Go.RowKit

theorem ent_cell {l : List PEn} {k : Nat} {x : PEn} (h : l[k]? = some x) : ∀ j, j < 8 → (entL l)[k * 8 + j]? = (entC x)[j]? := by
  induction l generalizing k with
  | nil => simp at h
  | cons y ys ih =>
    intro j hj
    have e : entL (y :: ys) = entC y ++ entL ys := by simp [entL]
    have hl : (entC y).length = 8 := rfl
    rw [e]
    cases k with
    | zero =>
      simp at h
      subst h
      rw [List.getElem?_append_left (by omega)]
      congr 1
      omega
    | succ k =>
      have h2 : ys[k]? = some x := by simpa using h
      rw [List.getElem?_append_right (by omega), ← ih h2 j hj]
      congr 1
      omega
def SmE (l : List PEn) (w : World) (i : Value) (wr : World) : Prop := ∃ k : Nat, k ≤ l.length ∧ i = .int .i64 k ∧ Below w.heap.size w wr
set_option maxHeartbeats 4000000 in
set_option maxRecDepth 100000 in
theorem esame_any (l : List PEn) (va vb : Value) (w : World) (ha : w.ownsRow 0 54 8 va l.length (entL l)) (hb : w.ownsRow 0 54 8 vb l.length (entL l)) (hl : l.length ≤ 400) :
    Calls Tryd.prog 21 #[va, vb] w fun e w' => e = .returned (.bool true) ∧ Below w.heap.size w w' := by
  obtain ⟨pa, ca, rfl⟩ := srow_shape ha
  obtain ⟨pb, cb, rfl⟩ := srow_shape hb
  have HA := Lib.hid ha
  have HB := Lib.hid hb
  clear ha hb
  go_enter Tryd.func21, Tryd.ntmps21
  go_wp2
  go_loopw [5] (fun i wr => SmE l w i wr) (fun i _ => l.length - (intOf i).toNat)
  case atStart => exact ⟨0, by omega, rfl, Below.refl _ _⟩
  case round =>
    obtain ⟨k, hk, rfl, hbe⟩ := hrel
    by_cases hlt : k < l.length
    · have hkl : (k : Int) < l.length := by omega
      obtain ⟨x, hx⟩ : ∃ x, l[k]? = some x := ⟨_, List.getElem?_eq_getElem hlt⟩
      have hra := row_below HA.out hbe
      have hrb := row_below HB.out hbe
      obtain ⟨ga, cap, hg⟩ := Joins.ownsRow_form hra (by omega)
      simp only [Value.slice.injEq, true_and] at hg
      obtain ⟨rfl, rfl⟩ := hg
      obtain ⟨gb, cap, hg⟩ := Joins.ownsRow_form hrb (by omega)
      simp only [Value.slice.injEq, true_and] at hg
      obtain ⟨rfl, rfl⟩ := hg
      have hp := ent_cell hx
      have q0 : wr.cell? ⟨ga, k * 8, none⟩ = some (.int .i64 x.k) := (hra.cellAt (k * 8) (by omega)).trans (hp 0 (by omega))
      have u0 : wr.cell? ⟨gb, k * 8, none⟩ = some (.int .i64 x.k) := (hrb.cellAt (k * 8) (by omega)).trans (hp 0 (by omega))
      have q1 : wr.cell? ⟨ga, k * 8 + 1, none⟩ = some (.int .i64 x.t) := (hra.cellAt (k * 8 + 1) (by omega)).trans (hp 1 (by omega))
      have u1 : wr.cell? ⟨gb, k * 8 + 1, none⟩ = some (.int .i64 x.t) := (hrb.cellAt (k * 8 + 1) (by omega)).trans (hp 1 (by omega))
      have q2 : wr.cell? ⟨ga, k * 8 + 2, none⟩ = some (.int .i64 x.u) := (hra.cellAt (k * 8 + 2) (by omega)).trans (hp 2 (by omega))
      have u2 : wr.cell? ⟨gb, k * 8 + 2, none⟩ = some (.int .i64 x.u) := (hrb.cellAt (k * 8 + 2) (by omega)).trans (hp 2 (by omega))
      have q3 : wr.cell? ⟨ga, k * 8 + 3, none⟩ = some (.int .i64 x.op.k) := (hra.cellAt (k * 8 + 3) (by omega)).trans (hp 3 (by omega))
      have u3 : wr.cell? ⟨gb, k * 8 + 3, none⟩ = some (.int .i64 x.op.k) := (hrb.cellAt (k * 8 + 3) (by omega)).trans (hp 3 (by omega))
      have q4 : wr.cell? ⟨ga, k * 8 + 4, none⟩ = some (.int .i64 x.op.a) := (hra.cellAt (k * 8 + 4) (by omega)).trans (hp 4 (by omega))
      have u4 : wr.cell? ⟨gb, k * 8 + 4, none⟩ = some (.int .i64 x.op.a) := (hrb.cellAt (k * 8 + 4) (by omega)).trans (hp 4 (by omega))
      have q5 : wr.cell? ⟨ga, k * 8 + 5, none⟩ = some (.int .i64 x.op.b) := (hra.cellAt (k * 8 + 5) (by omega)).trans (hp 5 (by omega))
      have u5 : wr.cell? ⟨gb, k * 8 + 5, none⟩ = some (.int .i64 x.op.b) := (hrb.cellAt (k * 8 + 5) (by omega)).trans (hp 5 (by omega))
      have q6 : wr.cell? ⟨ga, k * 8 + 6, none⟩ = some (.int .i64 x.n) := (hra.cellAt (k * 8 + 6) (by omega)).trans (hp 6 (by omega))
      have u6 : wr.cell? ⟨gb, k * 8 + 6, none⟩ = some (.int .i64 x.n) := (hrb.cellAt (k * 8 + 6) (by omega)).trans (hp 6 (by omega))
      have q7 : wr.cell? ⟨ga, k * 8 + 7, none⟩ = some (.int .i64 x.m) := (hra.cellAt (k * 8 + 7) (by omega)).trans (hp 7 (by omega))
      have u7 : wr.cell? ⟨gb, k * 8 + 7, none⟩ = some (.int .i64 x.m) := (hrb.cellAt (k * 8 + 7) (by omega)).trans (hp 7 (by omega))
      have hEq : ∀ W, (Op.equalIn 10000 54 (.agg #[.int .i64 x.k, .int .i64 x.t, .int .i64 x.u, .int .i64 x.op.k, .int .i64 x.op.a, .int .i64 x.op.b, .int .i64 x.n, .int .i64 x.m]) (.agg #[.int .i64 x.k, .int .i64 x.t, .int .i64 x.u, .int .i64 x.op.k, .int .i64 x.op.a, .int .i64 x.op.b, .int .i64 x.n, .int .i64 x.m])).run Tryd.prog W = .ok true W := fun W => by rw [← (eqEn_iff x x).2 rfl]; exact eq_entry x x W
      clear hp hx hra hrb
      go_wp2_with fail
      refine wp_region_noPanic ?_
      refine wp_region_held_drew (S := fun w' => (w'.cell? ⟨ga, k * 8, none⟩ = some (.int .i64 x.k) ∧ w'.cell? ⟨ga, k * 8 + 1, none⟩ = some (.int .i64 x.t) ∧ w'.cell? ⟨ga, k * 8 + 2, none⟩ = some (.int .i64 x.u) ∧ w'.cell? ⟨ga, k * 8 + 3, none⟩ = some (.int .i64 x.op.k) ∧ w'.cell? ⟨ga, k * 8 + 4, none⟩ = some (.int .i64 x.op.a) ∧ w'.cell? ⟨ga, k * 8 + 5, none⟩ = some (.int .i64 x.op.b) ∧ w'.cell? ⟨ga, k * 8 + 6, none⟩ = some (.int .i64 x.n) ∧ w'.cell? ⟨ga, k * 8 + 7, none⟩ = some (.int .i64 x.m)) ∧ w'.cell? ⟨gb, k * 8, none⟩ = some (.int .i64 x.k) ∧ w'.cell? ⟨gb, k * 8 + 1, none⟩ = some (.int .i64 x.t) ∧ w'.cell? ⟨gb, k * 8 + 2, none⟩ = some (.int .i64 x.u) ∧ w'.cell? ⟨gb, k * 8 + 3, none⟩ = some (.int .i64 x.op.k) ∧ w'.cell? ⟨gb, k * 8 + 4, none⟩ = some (.int .i64 x.op.a) ∧ w'.cell? ⟨gb, k * 8 + 5, none⟩ = some (.int .i64 x.op.b) ∧ w'.cell? ⟨gb, k * 8 + 6, none⟩ = some (.int .i64 x.n) ∧ w'.cell? ⟨gb, k * 8 + 7, none⟩ = some (.int .i64 x.m)) (by kernel_rfl) ?_ (fun hHeld => ?_)
      · exact ⟨⟨q0, q1, q2, q3, q4, q5, q6, q7⟩, u0, u1, u2, u3, u4, u5, u6, u7⟩
      refine wpAnyH_take (i := 0) (oi := _) (v := ?_) rfl (by kernel_rfl) (by kernel_rfl) (by kernel_rfl) (fun _ _ _ h => h) (Or.inl ⟨by rfl, ?_⟩) (by assumption) ?_
      rotate_left
      · intro w hSw; (try dsimp only at hSw); go_simp; try with_reducible rfl
      try simp only [Act.put, List.getElem_toArray, List.getElem_cons_zero, List.setIfInBounds_toArray, List.set_cons_zero, List.set_cons_succ]
      refine wpAnyH_take (i := 1) (oi := _) (v := ?_) rfl (by kernel_rfl) (by kernel_rfl) (by kernel_rfl) (fun _ _ _ h => h) (Or.inl ⟨by rfl, ?_⟩) (by assumption) ?_
      rotate_left
      · intro w hSw; (try dsimp only at hSw); go_simp; try with_reducible rfl
      try simp only [Act.put, List.getElem_toArray, List.getElem_cons_zero, List.getElem_cons_succ, List.setIfInBounds_toArray, List.set_cons_zero, List.set_cons_succ]
      refine wpAnyH_take (i := 2) (oi := _) (v := ?_) rfl (by kernel_rfl) (by kernel_rfl) (by kernel_rfl) (fun _ _ _ h => h) (Or.inl ⟨by rfl, ?_⟩) (by assumption) ?_
      rotate_left
      · intro w hSw; (try dsimp only at hSw); go_simp; try with_reducible rfl
      try simp only [Act.put, List.getElem_toArray, List.getElem_cons_zero, List.getElem_cons_succ, List.setIfInBounds_toArray, List.set_cons_zero, List.set_cons_succ]
      refine wpAnyH_take (i := 3) (oi := _) (v := ?_) rfl (by kernel_rfl) (by kernel_rfl) (by kernel_rfl) (fun _ _ _ h => h) (Or.inl ⟨by rfl, ?_⟩) (by assumption) ?_
      rotate_left
      · intro w hSw; (try dsimp only at hSw); go_simp; try with_reducible rfl
      try simp only [Act.put, List.getElem_toArray, List.getElem_cons_zero, List.getElem_cons_succ, List.setIfInBounds_toArray, List.set_cons_zero, List.set_cons_succ]
      refine wpAnyH_take (i := 4) (oi := _) (v := ?_) rfl (by kernel_rfl) (by kernel_rfl) (by kernel_rfl) (fun _ _ _ h => h) (Or.inl ⟨by rfl, ?_⟩) (by assumption) ?_
      rotate_left
      · intro w hSw; (try dsimp only at hSw); go_simp; try with_reducible rfl
      try simp only [Act.put, List.getElem_toArray, List.getElem_cons_zero, List.getElem_cons_succ, List.setIfInBounds_toArray, List.set_cons_zero, List.set_cons_succ]
      refine wpAnyH_take (i := 5) (oi := _) (v := ?_) rfl (by kernel_rfl) (by kernel_rfl) (by kernel_rfl) (fun _ _ _ h => h) (Or.inl ⟨by rfl, ?_⟩) (by assumption) ?_
      rotate_left
      · intro w hSw; (try dsimp only at hSw); go_simp; try with_reducible rfl
      try simp only [Act.put, List.getElem_toArray, List.getElem_cons_zero, List.getElem_cons_succ, List.setIfInBounds_toArray, List.set_cons_zero, List.set_cons_succ]
      refine wpAnyH_take (i := 6) (oi := _) (v := ?_) rfl (by kernel_rfl) (by kernel_rfl) (by kernel_rfl) (fun _ _ _ h => h) (Or.inl ⟨by rfl, ?_⟩) (by assumption) ?_
      rotate_left
      · intro w hSw; (try dsimp only at hSw); go_simp; try with_reducible rfl
      try simp only [Act.put, List.getElem_toArray, List.getElem_cons_zero, List.getElem_cons_succ, List.setIfInBounds_toArray, List.set_cons_zero, List.set_cons_succ]
      refine wpAnyH_take (i := 7) (oi := _) (v := ?_) rfl (by kernel_rfl) (by kernel_rfl) (by kernel_rfl) (fun _ _ _ h => h) (Or.inl ⟨by rfl, ?_⟩) (by assumption) ?_
      rotate_left
      · intro w hSw; (try dsimp only at hSw); go_simp; try with_reducible rfl
      try simp only [Act.put, List.getElem_toArray, List.getElem_cons_zero, List.getElem_cons_succ, List.setIfInBounds_toArray, List.set_cons_zero, List.set_cons_succ]
      refine wpAnyH_take (i := 8) (oi := _) (v := ?_) rfl (by kernel_rfl) (by kernel_rfl) (by kernel_rfl) (fun _ _ _ h => h) (Or.inl ⟨by rfl, ?_⟩) (by assumption) ?_
      rotate_left
      · intro w hSw; (try dsimp only at hSw); go_simp; try with_reducible rfl
      try simp only [Act.put, List.getElem_toArray, List.getElem_cons_zero, List.getElem_cons_succ, List.setIfInBounds_toArray, List.set_cons_zero, List.set_cons_succ]
      refine wpAnyH_done (by kernel_rfl) ?_ _
      refine NoPanic.normal ?_
      go_wp2_with fail
      go_roundw
      case rel => exact ⟨k + 1, by omega, by go_num, hbe.drew⟩
      case measure => simp [intOf] <;> omega
    · have hkl : ¬ (k : Int) < l.length := by omega
      go_wp2
      go_ret
      exact ⟨rfl, hbe⟩
end Go.Proofs.YtloilknkhloegaaDoor
