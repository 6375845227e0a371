/- memories: what a fence keeps. -/
import Derived.Test.YtdfjgaeiodjmnaaNvArgs
set_option linter.unusedSimpArgs false
set_option linter.unusedVariables false
namespace Go.Proofs.Ytdfjgaeiodjmnaa

namespace NM
theorem keepI_get (W : List Int) (l : Nat) (m : Int) (j : Nat) : ∀ (n : Nat) (K : List Int), j < K.length → (keepI W l m n K).getD j 0 = if ∃ i, i < n ∧ j = 8 * l + i ∧ bitB m i = true then W.getD j 0 else K.getD j 0
  | 0, K, _ => by
    rw [if_neg (by rintro ⟨i, hi, -⟩; omega)]
    rfl
  | n + 1, K, hj => by
    have ih := keepI_get W l m j n K hj
    unfold keepI
    by_cases hb : bitB m n = true
    · rw [if_pos hb]
      by_cases he : j = 8 * l + n
      · rw [if_pos ⟨n, by omega, he, hb⟩, ← he]
        have hl : j < (keepI W l m n K).length := by rw [keepI_len]; exact hj
        simp [List.getD_eq_getElem?_getD, hl]
      · have e1 : ((keepI W l m n K).set (8 * l + n) (W.getD (8 * l + n) 0)).getD j 0 = (keepI W l m n K).getD j 0 := by
          simp only [List.getD_eq_getElem?_getD, List.getElem?_set, if_neg (Ne.symm he)]
        rw [e1, ih]
        by_cases hx : ∃ i, i < n ∧ j = 8 * l + i ∧ bitB m i = true
        · obtain ⟨i, h1, h2, h3⟩ := hx
          rw [if_pos ⟨i, h1, h2, h3⟩, if_pos ⟨i, by omega, h2, h3⟩]
        · rw [if_neg hx, if_neg]
          rintro ⟨i, h1, h2, h3⟩
          by_cases hin : i = n
          · subst hin; exact he h2
          · exact hx ⟨i, by omega, h2, h3⟩
    · rw [if_neg hb, ih]
      by_cases hx : ∃ i, i < n ∧ j = 8 * l + i ∧ bitB m i = true
      · obtain ⟨i, h1, h2, h3⟩ := hx
        rw [if_pos ⟨i, h1, h2, h3⟩, if_pos ⟨i, by omega, h2, h3⟩]
      · rw [if_neg hx, if_neg]
        rintro ⟨i, h1, h2, h3⟩
        by_cases hin : i = n
        · subst hin; exact hb h3
        · exact hx ⟨i, by omega, h2, h3⟩
theorem bit255 {i : Nat} (h : i < 8) : bitB 255 i = true := by
  have : i = 0 ∨ i = 1 ∨ i = 2 ∨ i = 3 ∨ i = 4 ∨ i = 5 ∨ i = 6 ∨ i = 7 := by omega
  rcases this with rfl | rfl | rfl | rfl | rfl | rfl | rfl | rfl <;> decide
theorem step_K (who : Int) (s : NM) (l j : Nat) (hj : j < s.K.length) : (step who s l).K.getD j 0 = if j / 8 = l then s.W.getD j 0 else s.K.getD j 0 := by
  unfold step
  dsimp only
  rw [keepI_get _ _ _ _ _ _ hj]
  by_cases h : j / 8 = l
  · rw [if_pos h, if_pos ⟨j % 8, by omega, by omega, bit255 (by omega)⟩]
  · rw [if_neg h, if_neg]
    rintro ⟨i, h1, h2, -⟩
    omega
theorem steps_K (who : Int) (j : Nat) : ∀ (l : List Nat) (s : NM), j < s.K.length → (l.foldl (step who) s).K.getD j 0 = if j / 8 ∈ l then s.W.getD j 0 else s.K.getD j 0
  | [], s, _ => by simp
  | a :: l, s, hj => by
    have hl : j < (step who s a).K.length := by
      show j < (keepI _ _ _ _ _).length
      rw [keepI_len]; exact hj
    rw [List.foldl_cons, steps_K who j l (step who s a) hl, step_K who s a j hj]
    by_cases h1 : j / 8 ∈ l
    · rw [if_pos h1, if_pos (List.mem_cons_of_mem _ h1)]
      rfl
    · rw [if_neg h1]
      by_cases h2 : j / 8 = a
      · rw [if_pos h2, if_pos (by rw [h2]; exact List.mem_cons_self)]
      · rw [if_neg h2, if_neg (by simp; exact ⟨h2, h1⟩)]

theorem act_keeps_pend {s : NM} {a : A} {p : Int × Int} (h : p ∈ s.P) (h7 : a.d ≠ 7) (h5 : a.d ≠ 5 ∨ a.who ≠ p.1) : p ∈ (s.act a).2.P := by
  unfold act store swap flush evict
  repeat' split
  all_goals first | exact h | omega | exact mem_addP.2 (Or.inl h) | skip
  rename_i e5 _
  unfold fence
  dsimp only
  rw [steps_P]
  refine ⟨h, fun x _ e => ?_⟩
  rcases h5 with h5 | h5
  · exact h5 (by assumption)
  · rw [e] at h5; exact h5 rfl

/-- behind a fence of somebody and a crash a word of a line that was pending is as it was ahead of the fence. -/
theorem fence_word {s : NM} (hi : s.Inv) {who : Int} {j : Nat} (hj : j < s.W.length) (hp : (who, ((j / 8 : Nat) : Int)) ∈ s.P) : 1 ≤ (s.fence who).1 ∧ (s.fence who).2.K.getD j 0 = s.W.getD j 0 := by
  have hm : j / 8 ∈ s.pend who := by
    have ho := hi.oct
    simp only [pend, List.mem_filter, List.mem_range, decide_eq_true_eq]
    exact ⟨by omega, hp⟩
  constructor
  · show (1 : Int) ≤ ((s.pend who).length : Nat)
    have : 0 < (s.pend who).length := List.length_pos_of_mem hm
    omega
  · show ((s.pend who).foldl (step who) s).K.getD j 0 = _
    rw [steps_K who j _ s (by rw [hi.kl]; exact hj), if_pos hm]
end NM
end Go.Proofs.Ytdfjgaeiodjmnaa
