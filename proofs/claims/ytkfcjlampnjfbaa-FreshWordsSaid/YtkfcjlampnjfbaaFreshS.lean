/- FreshVals: the page's example; the law's walk. -/
import Derived.Test.YtkfcjlampnjfbaaFreshW
namespace Go.Proofs.Ytkfcjlampnjfbaa
open Go.RowKit

theorem live_list : (freshL 1 8 10).length = 82 ∧ (freshL 1 8 10)[0]? = some 8 ∧ (freshL 1 8 10)[5]? = some 1 ∧ (freshL 1 8 10)[34]? = some 129 ∧ (freshL 1 8 10)[77]? = some 1 := by decide +kernel

theorem flive_any (w : World) : Calls Try.prog 40 #[] w fun e w' => e = .returned (.bool true) ∧ Below w.heap.size w w' := by
  have HF := Lib.hid (fun w => fresh_right 1 8 10 w (by decide))
  obtain ⟨hl, h0, h5, h34, h77⟩ := live_list
  generalize freshL 1 8 10 = l at *
  go_enter Try.func40, Try.ntmps40
  go_wp2_with fail
  refine (HF.out w).mono ?_
  rintro e w1 ⟨v, rfl, ho, hf, hb⟩
  rw [hl] at ho
  obtain ⟨g, cap, rfl⟩ := Joins.ownsRow_form ho (by omega)
  have q0 := ho.cellAt 0 (by omega)
  have q5 := ho.cellAt 5 (by omega)
  have q34 := ho.cellAt 34 (by omega)
  have q77 := ho.cellAt 77 (by omega)
  simp only [uints, List.getElem?_map, h0, h5, h34, h77, Option.map_some] at q0 q5 q34 q77
  clear ho hf HF hl h0 h5 h34 h77
  go_wp2
  go_ret
  exact ⟨rfl, hb⟩

theorem hvals_same (l : List Int) (va vb : Value) (w : World) (ha : w.ownsRow 0 72 1 va l.length (uints l)) (hb : w.ownsRow 0 72 1 vb l.length (uints l)) (hn : l.length ≤ 10000) :
    Calls Try.prog 37 #[va, vb] w fun e w' => e = .returned (.bool true) ∧ Below w.heap.size w w' := by
  have h := hvals_any l l va vb w ha hb (by omega) (by omega)
  rwa [show decide (l = l) = true by simp] at h

set_option maxRecDepth 100000 in
theorem freshvals_any (t p s : Int) (w : World) : Calls Try.prog 7 #[.agg #[.int .i64 t, .int .i64 p, .int .i64 s]] w fun e w' => e = .returned (.bool true) ∧ Below w.heap.size w w' := by
  obtain ⟨l, hl, hA, hB⟩ := fresh_both t p s
  have HA := Lib.hid hA
  have HB := Lib.hid hB
  clear hA hB
  have HL := Lib.hid flive_any
  have c0 := loc_alloc w #[.int .i64 t, .int .i64 p, .int .i64 s] 23
  have S0 := ((BS.start w).alloc (.cells #[.int .i64 t, .int .i64 p, .int .i64 s] 23))
  go_enter Try.func7, Try.ntmps7
  go_wp2_with fail
  refine wp_region_noPanic ?_
  refine wp_region_held_drew (S := fun w' => (∀ o : Nat, w'.cell? ⟨w.heap.size, o, none⟩ = (#[.int .i64 t, .int .i64 p, .int .i64 s] : Array Value)[o]?)) (by kernel_rfl) ?_ (fun hHeld => ?_)
  · exact c0
  refine wpAnyH_take (i := 0) (oi := _) (v := ?_) rfl (by kernel_rfl) (by kernel_rfl) (by kernel_rfl) (fun _ _ _ h => h) (Or.inl ⟨by rfl, ?_⟩) (by assumption) ?_
  rotate_left
  · intro w hSw; (try dsimp only at hSw); go_simp; try with_reducible rfl
  try simp only [Act.put, List.getElem_toArray, List.getElem_cons_zero, List.setIfInBounds_toArray, List.set_cons_zero, List.set_cons_succ]
  refine wpAnyH_take (i := 2) (oi := _) (v := ?_) rfl (by kernel_rfl) (by kernel_rfl) (by kernel_rfl) (fun _ _ _ h => h) (Or.inl ⟨by rfl, ?_⟩) (by assumption) ?_
  rotate_left
  · intro w hSw; (try dsimp only at hSw); go_simp; try with_reducible rfl
  try simp only [Act.put, List.getElem_toArray, List.getElem_cons_zero, List.getElem_cons_succ, List.setIfInBounds_toArray, List.set_cons_zero, List.set_cons_succ]
  refine wpAnyH_ready (rs := [1]) (by kernel_rfl) (by simp) ?_
  refine AllReadyH.cons (o := _) rfl (fun K hK => ?_) AllReadyH.nil
  go_simp
  refine (HA.out _).mono ?_
  rintro e w1 ⟨v1, rfl, o1, -, b1⟩
  have S1 := S0.drew.below b1
  have c1 := ((BS.start _).below b1).oldbox hHeld (by simp)
  refine hK.out _ _ ?_ (fun hHeld => ?_)
  · exact c1
  clear hK K
  try simp only [Act.put, List.getElem_toArray, List.getElem_cons_zero, List.getElem_cons_succ, List.setIfInBounds_toArray, List.set_cons_zero, List.set_cons_succ]
  refine wpAnyH_ready (rs := [3]) (by kernel_rfl) (by simp) ?_
  refine AllReadyH.cons (o := _) rfl (fun K hK => ?_) AllReadyH.nil
  go_simp
  refine (HB.out _).mono ?_
  rintro e w2 ⟨v2, rfl, o2, -, b2⟩
  have S2 := S1.below b2
  have o1b := ((BS.start _).below b2).row o1
  have o2b := o2
  have c2 := ((BS.start _).below b2).oldbox hHeld (Nat.lt_of_lt_of_le (by simp) b1.size)
  refine hK.out _ _ ?_ (fun hHeld => ?_)
  · exact c2
  clear hK K
  try simp only [Act.put, List.getElem_toArray, List.getElem_cons_zero, List.getElem_cons_succ, List.setIfInBounds_toArray, List.set_cons_zero, List.set_cons_succ]
  refine wpAnyH_ready (rs := [4]) (by kernel_rfl) (by simp) ?_
  refine AllReadyH.cons (o := _) rfl (fun K hK => ?_) AllReadyH.nil
  go_simp
  refine (hvals_same l v1 v2 _ o1b o2b (by omega)).mono ?_
  rintro e w3 ⟨rfl, b3⟩
  have S3 := S2.below b3
  have c3 := ((BS.start _).below b3).oldbox hHeld (Nat.lt_of_lt_of_le (by simp) (Nat.le_trans b1.size b2.size))
  refine hK.out _ _ ?_ (fun hHeld => ?_)
  · exact c3
  clear hK K
  try simp only [Act.put, List.getElem_toArray, List.getElem_cons_zero, List.getElem_cons_succ, List.setIfInBounds_toArray, List.set_cons_zero, List.set_cons_succ]
  refine wpAnyH_take (i := 5) (oi := _) (v := ?_) rfl (by kernel_rfl) (by kernel_rfl) (by kernel_rfl) (fun _ _ _ h => h) (Or.inl ⟨by rfl, ?_⟩) (by assumption) ?_
  rotate_left
  · intro w hSw; (try dsimp only at hSw); go_simp; try with_reducible rfl
  try simp only [Act.put, List.getElem_toArray, List.getElem_cons_zero, List.getElem_cons_succ, List.setIfInBounds_toArray, List.set_cons_zero, List.set_cons_succ]
  refine wpAnyH_ready (rs := [6]) (by kernel_rfl) (by simp) ?_
  refine AllReadyH.cons (o := _) rfl (fun K hK => ?_) AllReadyH.nil
  go_simp
  refine (HL.out _).mono ?_
  rintro e w4 ⟨rfl, b4⟩
  have S4 := S3.below b4
  have c4 := ((BS.start _).below b4).oldbox hHeld (Nat.lt_of_lt_of_le (by simp) (Nat.le_trans (Nat.le_trans b1.size b2.size) b3.size))
  refine hK.out _ _ ?_ (fun hHeld => ?_)
  · exact c4
  clear hK K
  try simp only [Act.put, List.getElem_toArray, List.getElem_cons_zero, List.getElem_cons_succ, List.setIfInBounds_toArray, List.set_cons_zero, List.set_cons_succ]
  refine wpAnyH_take (i := 7) (oi := _) (v := ?_) rfl (by kernel_rfl) (by kernel_rfl) (by kernel_rfl) (fun _ _ _ h => h) (Or.inl ⟨by rfl, ?_⟩) (by assumption) ?_
  rotate_left
  · intro w hSw; (try dsimp only at hSw); go_simp; try with_reducible rfl
  try simp only [Act.put, List.getElem_toArray, List.getElem_cons_zero, List.getElem_cons_succ, List.setIfInBounds_toArray, List.set_cons_zero, List.set_cons_succ]
  refine wpAnyH_take (i := 8) (oi := _) (v := ?_) rfl (by kernel_rfl) (by kernel_rfl) (by kernel_rfl) (fun _ _ _ h => h) (Or.inl ⟨by rfl, ?_⟩) (by assumption) ?_
  rotate_left
  · intro w hSw; (try dsimp only at hSw); go_simp; try with_reducible rfl
  try simp only [Act.put, List.getElem_toArray, List.getElem_cons_zero, List.getElem_cons_succ, List.setIfInBounds_toArray, List.set_cons_zero, List.set_cons_succ]
  refine wpAnyH_done (by kernel_rfl) ?_ _
  refine NoPanic.normal ?_
  go_wp2
  go_ret
  exact ⟨rfl, S4.bel⟩
end Go.Proofs.Ytkfcjlampnjfbaa
