/- in how many words two rows are unlike. -/
import Derived.Test.YtdfjgaeiodjmnaaNvArgs
set_option linter.unusedSimpArgs false
set_option linter.unusedVariables false
namespace Go.Proofs.Ytdfjgaeiodjmnaa
open Go.RowKit

/-- in how many words, of the first k, are two rows unlike? -/
def difK (a b : List Int) : Nat → Nat
  | 0 => 0
  | k + 1 => difK a b k + if a.getD k 0 = b.getD k 0 then 0 else 1
theorem difK_le (a b : List Int) : ∀ k, difK a b k ≤ k
  | 0 => Nat.le_refl _
  | k + 1 => by have := difK_le a b k; unfold difK; split <;> omega
theorem difK_self (a : List Int) : ∀ k, difK a a k = 0
  | 0 => rfl
  | k + 1 => by simp [difK, difK_self a k]
theorem difK_set (a : List Int) (i : Nat) (v : Int) : ∀ k, difK a (a.set i v) k ≤ if i < k then 1 else 0
  | 0 => by simp [difK]
  | k + 1 => by
    have h := difK_set a i v k
    unfold difK
    by_cases e : i = k
    · subst e
      rw [if_neg (Nat.lt_irrefl _)] at h
      rw [if_pos (Nat.lt_succ_self _)]
      split <;> omega
    · have e1 : a.getD k 0 = (a.set i v).getD k 0 := by
        simp only [List.getD_eq_getElem?_getD, List.getElem?_set, if_neg e]
      rw [if_pos e1, Nat.add_zero]
      refine Nat.le_trans h ?_
      split <;> split <;> omega

def DifRel (a b : List Int) (w : World) (vn vi : Value) (wr : World) : Prop := ∃ k : Nat, k ≤ a.length ∧ vi = .int .i64 k ∧ vn = .int .i64 (difK a b k : Nat) ∧ Below w.heap.size w wr

theorem differ_any (a b : List Int) (va vb : Value) (w : World) (ha : w.ownsRow 0 24 1 va a.length (u64s a)) (hb : w.ownsRow 0 24 1 vb b.length (u64s b)) (hl : a.length = b.length) (hna : a.length ≤ 4294967296) :
    Calls Try.prog 24 #[va, vb] w fun e w' => e = .returned (.int .i64 (difK a b a.length : Nat)) ∧ Below w.heap.size w w' := by
  have hca : ∀ wr, Below w.heap.size w wr → ∀ k, k < a.length → ∃ g m c, va = .slice (some ⟨g, 0, none⟩) m c ∧ wr.cell? ⟨g, k, none⟩ = some (.int .u64 (a.getD k 0)) := by
    intro wr hb0 k hk
    obtain ⟨g, cap, rfl⟩ := Joins.ownsRow_form ha (by omega)
    refine ⟨g, _, cap, rfl, ?_⟩
    have e0 : w.cell? ⟨g, k, none⟩ = some (.int .u64 (a.getD k 0)) := by
      rw [ha.cellAt k (by omega)]
      simp [u64s, hk]
    exact (hb0.cell (World.block_lt_of_cell? w _ e0)).trans e0
  have hcb : ∀ wr, Below w.heap.size w wr → ∀ k, k < b.length → ∃ g m c, vb = .slice (some ⟨g, 0, none⟩) m c ∧ wr.cell? ⟨g, k, none⟩ = some (.int .u64 (b.getD k 0)) := by
    intro wr hb0 k hk
    obtain ⟨g, cap, rfl⟩ := Joins.ownsRow_form hb (by omega)
    refine ⟨g, _, cap, rfl, ?_⟩
    have e0 : w.cell? ⟨g, k, none⟩ = some (.int .u64 (b.getD k 0)) := by
      rw [hb.cellAt k (by omega)]
      simp [u64s, hk]
    exact (hb0.cell (World.block_lt_of_cell? w _ e0)).trans e0
  obtain ⟨pa, ca, rfl⟩ := row_shape ha
  obtain ⟨pb, cb, rfl⟩ := row_shape hb
  clear ha hb
  rw [← hl]
  have HL := Lib.hid hl
  clear hl
  go_enter Try.func24, Try.ntmps24
  go_wp2
  go_loopw [5, 6] (fun vn vi wr => DifRel a b w vn vi wr) (fun _ vi _ => a.length - (intOf vi).toNat)
  case atStart => exact ⟨0, by omega, rfl, rfl, Below.refl _ _⟩
  case round =>
    obtain ⟨k, hk, rfl, rfl, hbw⟩ := hrel
    have HB := Lib.hid hbw
    have hca := hca _ hbw
    have hcb := hcb _ hbw
    have hdl := difK_le a b k
    have HS := Lib.hid (show difK a b (k + 1) = difK a b k + if a.getD k 0 = b.getD k 0 then 0 else 1 from rfl)
    clear hbw
    by_cases hlt : k < a.length
    · have hltb : k < b.length := by have := HL.out; omega
      obtain ⟨g, m, c', hv, c0⟩ := hca k hlt
      obtain ⟨g2, m2, c2', hv2, c1⟩ := hcb k hltb
      simp only [Value.slice.injEq] at hv hv2
      obtain ⟨rfl, rfl, rfl⟩ := hv
      obtain ⟨rfl, rfl, rfl⟩ := hv2
      clear hca hcb
      generalize a.getD k 0 = y at *
      generalize b.getD k 0 = z at *
      generalize difK a b k = d at *
      by_cases hy : y = z
      · have hb : (y != z) = false := by simp [hy]
        have HD := Lib.hid (show difK a b (k + 1) = d by rw [HS.out, if_pos hy]; rfl)
        clear hy HS
        go_wp2
        refine wp_region_noPanic ?_
        refine wp_region_held_drew (S := fun w' => w'.cell? ⟨g, k, none⟩ = some (.int .u64 y) ∧ w'.cell? ⟨g2, k, none⟩ = some (.int .u64 z)) (by kernel_rfl) ?_ (fun hHeld => ?_)
        · exact ⟨c0, c1⟩
        refine wpAnyH_take (i := 0) (oi := _) (v := ?_) rfl (by kernel_rfl) (by kernel_rfl) (by kernel_rfl) (fun _ _ _ h => h) (Or.inl ⟨by rfl, ?_⟩) (by assumption) ?_
        rotate_left
        · intro w hSw; (try dsimp only at hSw); go_simp; try with_reducible rfl
        try simp only [Act.put, List.getElem_toArray, List.getElem_cons_zero, List.setIfInBounds_toArray, List.set_cons_zero, List.set_cons_succ]
        refine wpAnyH_take (i := 1) (oi := _) (v := ?_) rfl (by kernel_rfl) (by kernel_rfl) (by kernel_rfl) (fun _ _ _ h => h) (Or.inl ⟨by rfl, ?_⟩) (by assumption) ?_
        rotate_left
        · intro w hSw; (try dsimp only at hSw); go_simp; try with_reducible rfl
        try simp only [Act.put, List.getElem_toArray, List.getElem_cons_zero, List.getElem_cons_succ, List.setIfInBounds_toArray, List.set_cons_zero, List.set_cons_succ]
        refine wpAnyH_take (i := 2) (oi := _) (v := ?_) rfl (by kernel_rfl) (by kernel_rfl) (by kernel_rfl) (fun _ _ _ h => h) (Or.inl ⟨by rfl, ?_⟩) (by assumption) ?_
        rotate_left
        · intro w hSw; (try dsimp only at hSw); go_simp; try with_reducible rfl
        try simp only [Act.put, List.getElem_toArray, List.getElem_cons_zero, List.getElem_cons_succ, List.setIfInBounds_toArray, List.set_cons_zero, List.set_cons_succ]
        refine wpAnyH_take (i := 3) (oi := _) (v := ?_) rfl (by kernel_rfl) (by kernel_rfl) (by kernel_rfl) (fun _ _ _ h => h) (Or.inl ⟨by rfl, ?_⟩) (by assumption) ?_
        rotate_left
        · intro w hSw; (try dsimp only at hSw); go_simp; try with_reducible rfl
        try simp only [Act.put, List.getElem_toArray, List.getElem_cons_zero, List.getElem_cons_succ, List.setIfInBounds_toArray, List.set_cons_zero, List.set_cons_succ]
        refine wpAnyH_take (i := 4) (oi := _) (v := ?_) rfl (by kernel_rfl) (by kernel_rfl) (by kernel_rfl) (fun _ _ _ h => h) (Or.inl ⟨by rfl, ?_⟩) (by assumption) ?_
        rotate_left
        · intro w hSw; (try dsimp only at hSw); go_simp; try with_reducible rfl
        try simp only [Act.put, List.getElem_toArray, List.getElem_cons_zero, List.getElem_cons_succ, List.setIfInBounds_toArray, List.set_cons_zero, List.set_cons_succ]
        refine wpAnyH_take (i := 5) (oi := _) (v := ?_) rfl (by kernel_rfl) (by kernel_rfl) (by kernel_rfl) (fun _ _ _ h => h) (Or.inl ⟨by rfl, ?_⟩) (by assumption) ?_
        rotate_left
        · intro w hSw; (try dsimp only at hSw); go_simp; try with_reducible rfl
        try simp only [Act.put, List.getElem_toArray, List.getElem_cons_zero, List.getElem_cons_succ, List.setIfInBounds_toArray, List.set_cons_zero, List.set_cons_succ]
        refine wpAnyH_take (i := 6) (oi := _) (v := ?_) rfl (by kernel_rfl) (by kernel_rfl) (by kernel_rfl) (fun _ _ _ h => h) (Or.inl ⟨by rfl, ?_⟩) (by assumption) ?_
        rotate_left
        · intro w hSw; (try dsimp only at hSw); go_simp; try with_reducible rfl
        try simp only [Act.put, List.getElem_toArray, List.getElem_cons_zero, List.getElem_cons_succ, List.setIfInBounds_toArray, List.set_cons_zero, List.set_cons_succ]
        refine wpAnyH_take (i := 7) (oi := _) (v := ?_) rfl (by kernel_rfl) (by kernel_rfl) (by kernel_rfl) (fun _ _ _ h => h) (Or.inl ⟨by rfl, ?_⟩) (by assumption) ?_
        rotate_left
        · intro w hSw; (try dsimp only at hSw); go_simp; try with_reducible rfl
        try simp only [Act.put, List.getElem_toArray, List.getElem_cons_zero, List.getElem_cons_succ, List.setIfInBounds_toArray, List.set_cons_zero, List.set_cons_succ]
        refine wpAnyH_take (i := 8) (oi := _) (v := ?_) rfl (by kernel_rfl) (by kernel_rfl) (by kernel_rfl) (fun _ _ _ h => h) (Or.inl ⟨by rfl, ?_⟩) (by assumption) ?_
        rotate_left
        · intro w hSw; (try dsimp only at hSw); go_simp; try with_reducible rfl
        try simp only [Act.put, List.getElem_toArray, List.getElem_cons_zero, List.getElem_cons_succ, List.setIfInBounds_toArray, List.set_cons_zero, List.set_cons_succ]
        refine wpAnyH_done (by kernel_rfl) ?_ _
        refine NoPanic.normal ?_
        go_wp2
        go_roundw
        case rel => exact ⟨k + 1, by omega, by go_num, by rw [HD.out], HB.out.drew⟩
        case measure => simp [intOf]; omega
      · have hb : (y != z) = true := by simp [hy]
        have HD := Lib.hid (show difK a b (k + 1) = d + 1 by rw [HS.out, if_neg hy])
        clear hy HS
        go_wp2
        refine wp_region_noPanic ?_
        refine wp_region_held_drew (S := fun w' => w'.cell? ⟨g, k, none⟩ = some (.int .u64 y) ∧ w'.cell? ⟨g2, k, none⟩ = some (.int .u64 z)) (by kernel_rfl) ?_ (fun hHeld => ?_)
        · exact ⟨c0, c1⟩
        refine wpAnyH_take (i := 0) (oi := _) (v := ?_) rfl (by kernel_rfl) (by kernel_rfl) (by kernel_rfl) (fun _ _ _ h => h) (Or.inl ⟨by rfl, ?_⟩) (by assumption) ?_
        rotate_left
        · intro w hSw; (try dsimp only at hSw); go_simp; try with_reducible rfl
        try simp only [Act.put, List.getElem_toArray, List.getElem_cons_zero, List.setIfInBounds_toArray, List.set_cons_zero, List.set_cons_succ]
        refine wpAnyH_take (i := 1) (oi := _) (v := ?_) rfl (by kernel_rfl) (by kernel_rfl) (by kernel_rfl) (fun _ _ _ h => h) (Or.inl ⟨by rfl, ?_⟩) (by assumption) ?_
        rotate_left
        · intro w hSw; (try dsimp only at hSw); go_simp; try with_reducible rfl
        try simp only [Act.put, List.getElem_toArray, List.getElem_cons_zero, List.getElem_cons_succ, List.setIfInBounds_toArray, List.set_cons_zero, List.set_cons_succ]
        refine wpAnyH_take (i := 2) (oi := _) (v := ?_) rfl (by kernel_rfl) (by kernel_rfl) (by kernel_rfl) (fun _ _ _ h => h) (Or.inl ⟨by rfl, ?_⟩) (by assumption) ?_
        rotate_left
        · intro w hSw; (try dsimp only at hSw); go_simp; try with_reducible rfl
        try simp only [Act.put, List.getElem_toArray, List.getElem_cons_zero, List.getElem_cons_succ, List.setIfInBounds_toArray, List.set_cons_zero, List.set_cons_succ]
        refine wpAnyH_take (i := 3) (oi := _) (v := ?_) rfl (by kernel_rfl) (by kernel_rfl) (by kernel_rfl) (fun _ _ _ h => h) (Or.inl ⟨by rfl, ?_⟩) (by assumption) ?_
        rotate_left
        · intro w hSw; (try dsimp only at hSw); go_simp; try with_reducible rfl
        try simp only [Act.put, List.getElem_toArray, List.getElem_cons_zero, List.getElem_cons_succ, List.setIfInBounds_toArray, List.set_cons_zero, List.set_cons_succ]
        refine wpAnyH_take (i := 4) (oi := _) (v := ?_) rfl (by kernel_rfl) (by kernel_rfl) (by kernel_rfl) (fun _ _ _ h => h) (Or.inl ⟨by rfl, ?_⟩) (by assumption) ?_
        rotate_left
        · intro w hSw; (try dsimp only at hSw); go_simp; try with_reducible rfl
        try simp only [Act.put, List.getElem_toArray, List.getElem_cons_zero, List.getElem_cons_succ, List.setIfInBounds_toArray, List.set_cons_zero, List.set_cons_succ]
        refine wpAnyH_take (i := 5) (oi := _) (v := ?_) rfl (by kernel_rfl) (by kernel_rfl) (by kernel_rfl) (fun _ _ _ h => h) (Or.inl ⟨by rfl, ?_⟩) (by assumption) ?_
        rotate_left
        · intro w hSw; (try dsimp only at hSw); go_simp; try with_reducible rfl
        try simp only [Act.put, List.getElem_toArray, List.getElem_cons_zero, List.getElem_cons_succ, List.setIfInBounds_toArray, List.set_cons_zero, List.set_cons_succ]
        refine wpAnyH_take (i := 6) (oi := _) (v := ?_) rfl (by kernel_rfl) (by kernel_rfl) (by kernel_rfl) (fun _ _ _ h => h) (Or.inl ⟨by rfl, ?_⟩) (by assumption) ?_
        rotate_left
        · intro w hSw; (try dsimp only at hSw); go_simp; try with_reducible rfl
        try simp only [Act.put, List.getElem_toArray, List.getElem_cons_zero, List.getElem_cons_succ, List.setIfInBounds_toArray, List.set_cons_zero, List.set_cons_succ]
        refine wpAnyH_take (i := 7) (oi := _) (v := ?_) rfl (by kernel_rfl) (by kernel_rfl) (by kernel_rfl) (fun _ _ _ h => h) (Or.inl ⟨by rfl, ?_⟩) (by assumption) ?_
        rotate_left
        · intro w hSw; (try dsimp only at hSw); go_simp; try with_reducible rfl
        try simp only [Act.put, List.getElem_toArray, List.getElem_cons_zero, List.getElem_cons_succ, List.setIfInBounds_toArray, List.set_cons_zero, List.set_cons_succ]
        refine wpAnyH_take (i := 8) (oi := _) (v := ?_) rfl (by kernel_rfl) (by kernel_rfl) (by kernel_rfl) (fun _ _ _ h => h) (Or.inl ⟨by rfl, ?_⟩) (by assumption) ?_
        rotate_left
        · intro w hSw; (try dsimp only at hSw); go_simp; try with_reducible rfl
        try simp only [Act.put, List.getElem_toArray, List.getElem_cons_zero, List.getElem_cons_succ, List.setIfInBounds_toArray, List.set_cons_zero, List.set_cons_succ]
        refine wpAnyH_done (by kernel_rfl) ?_ _
        refine NoPanic.normal ?_
        go_wp2
        go_roundw
        case rel => exact ⟨k + 1, by omega, by go_num, by rw [HD.out]; go_num, HB.out.drew⟩
        case measure => simp [intOf]; omega
    · clear hca hcb HS
      have hke : k = a.length := by omega
      have HK := Lib.hid hke
      clear hke
      have hkl : ¬ (k : Int) < a.length := by omega
      go_wp2
      go_ret
      refine ⟨?_, HB.out⟩
      rw [← HK.out]
      rfl
end Go.Proofs.Ytdfjgaeiodjmnaa
