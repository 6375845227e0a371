/- FreshWords: configurations that are not right; the law's walk. -/
import Derived.Test.YtkfcjlampnjfbaaFreshY
import Derived.Test.YtkfcjlampnjfbaaFreshS
namespace Go.Proofs.Ytkfcjlampnjfbaa
open Go.RowKit

theorem fwords_wrong (t p s : Int) (w : World) (hr : rightB t p s = false) :
    Calls Try.prog 42 #[.agg #[.int .i64 t, .int .i64 p, .int .i64 s]] w (WordsP w []) := by
  have H1 := fun w => words_any t p s w
  have hcf : wordsF t p s = 0 := by simp [wordsF, hr]
  rw [hcf] at H1
  have HH1 := Lib.hid H1
  clear H1 hcf hr
  go_enter Try.func42, Try.ntmps42
  go_wp2_with fail
  refine (HH1.out _).mono ?_
  rintro e w1 ⟨rfl, ha⟩
  obtain ⟨hac, haf⟩ := bcell ha
  go_wp2
  go_ret
  refine ⟨_, rfl, World.ownsRow_nil _ _ _ _, by simp [Value.ownBlock], ?_⟩
  (repeat (first | exact Below.refl _ _ | assumption | refine Below.setCell ?_ (by first | omega | (simp; done) | (simp; omega)) _ | refine Below.alloc ?_ (by first | omega | (simp; done) | (simp; omega)) _ | refine Below.drew ?_ | refine Below.trans ?_ (Below.mono ‹Below _ _ _› (by first | omega | (simp; done) | (simp; omega)))))
theorem rwords_wrong (t p s : Int) (w : World) (hr : rightB t p s = false) :
    Calls Try.prog 82 #[.agg #[.int .i64 t, .int .i64 p, .int .i64 s]] w fun e w' => e = .returned (.int .i64 0) ∧ Below w.heap.size w w' := by
  have HC := Lib.hid (fun w => rright_any t p s w)
  rw [hr] at HC
  clear hr
  go_enter Try.func82, Try.ntmps82
  go_wp2_with fail
  refine (HC.out _).mono ?_
  rintro e w1 ⟨rfl, ha⟩
  obtain ⟨hac, haf⟩ := bcell ha
  go_wp2
  go_ret
  refine ⟨rfl, ?_⟩
  (repeat (first | exact Below.refl _ _ | assumption | refine Below.setCell ?_ (by first | omega | (simp; done) | (simp; omega)) _ | refine Below.alloc ?_ (by first | omega | (simp; done) | (simp; omega)) _ | refine Below.drew ?_ | refine Below.trans ?_ (Below.mono ‹Below _ _ _› (by first | omega | (simp; done) | (simp; omega)))))
theorem rwords25_wrong (t p s : Int) (w : World) (hr : rightB t p s = false) :
    Calls Try.prog 43 #[.agg #[.int .i64 t, .int .i64 p, .int .i64 s]] w (WordsP w []) := by
  have HH1 := Lib.hid (fun w => rwords_wrong t p s w hr)
  have hmk : ∀ w : World, (Instr.makeSlice 58 (.int .i64 0) (.int .i64 0)).run Try.prog w = .ok (.slice (some ⟨w.heap.size, 0, none⟩) 0 0) (w.alloc (.cells (madeCells #[.int .u64 0] 0) 100)) := run_make_row' (P := Try.prog) 58 100 (.int .u64 0) 8 Try.underlying58 infoU64 rfl .i64 .i64 0 (by omega) (by omega)
  clear hr
  go_enter Try.func43, Try.ntmps43
  go_wp2_with fail
  refine (HH1.out _).mono ?_
  rintro e w1 ⟨rfl, ha⟩
  obtain ⟨hac, haf⟩ := bcell ha
  go_wp2
  go_ret
  refine ⟨_, rfl, World.ownsRow_nil _ _ _ _, by simp [Value.ownBlock], ?_⟩
  have bel1 : Below w.heap.size w w1 := ((Below.refl _ _).alloc (Nat.le_refl _) _).trans (ha.mono (by simp))
  exact bel1.alloc bel1.size _

/-- both are the same list, of every configuration. -/
theorem fwords_both (t p s : Int) : ∃ l : List Int, l.length ≤ 100000 ∧ (∀ w, Calls Try.prog 42 #[.agg #[.int .i64 t, .int .i64 p, .int .i64 s]] w (WordsP w l)) ∧ (∀ w, Calls Try.prog 43 #[.agg #[.int .i64 t, .int .i64 p, .int .i64 s]] w (WordsP w l)) := by
  cases hr : rightB t p s
  · exact ⟨[], by simp, fun w => fwords_wrong t p s w hr, fun w => rwords25_wrong t p s w hr⟩
  · obtain ⟨b1, b2, b3, b4, b5, b6⟩ := right_bd hr
    obtain ⟨l, hl, hu, hV, hW⟩ := vals_both t p s hr
    obtain ⟨T, rfl⟩ : ∃ T : Nat, t = T := ⟨t.toNat, by omega⟩
    obtain ⟨P, rfl⟩ : ∃ P : Nat, p = P := ⟨p.toNat, by omega⟩
    obtain ⟨S, rfl⟩ : ∃ S : Nat, s = S := ⟨s.toNat, by omega⟩
    obtain ⟨C, hC⟩ : ∃ C : Nat, cellsN T P = C := ⟨(cellsN T P).toNat, by unfold cellsN; omega⟩
    obtain ⟨N, hN⟩ : ∃ N : Nat, wordsN T P = N := ⟨(wordsN T P).toNat, by unfold wordsN makersN cellsN; omega⟩
    have hlC : l.length = C := by omega
    have hN2 : N ≤ 100000 := by unfold wordsN makersN cellsN at hN; omega
    exact ⟨wordsL N (headL _ N) l, by rw [wordsL_len]; exact hN2, fun w => fwords_right T P S _ N C l w hr rfl hN hC hlC hu hV, fun w => rwords25_right T P S _ N C l w hr rfl hN hC hlC hu hW⟩

theorem hwords_same (l : List Int) (va vb : Value) (w : World) (ha : w.ownsRow 0 100 1 va l.length (ulongs l)) (hb : w.ownsRow 0 100 1 vb l.length (ulongs l)) (hn : l.length ≤ 100000) :
    Calls Try.prog 41 #[va, vb] w fun e w' => e = .returned (.bool true) ∧ Below w.heap.size w w' := by
  have h := hwords_any l l va vb w ha hb (by omega) (by omega)
  rwa [show decide (l = l) = true by simp] at h

set_option maxRecDepth 100000 in
theorem freshwords_any (t p s : Int) (w : World) : Calls Try.prog 8 #[.agg #[.int .i64 t, .int .i64 p, .int .i64 s]] w fun e w' => e = .returned (.bool true) ∧ Below w.heap.size w w' := by
  obtain ⟨l, hl, hA, hB⟩ := fwords_both t p s
  have HA := Lib.hid hA
  have HB := Lib.hid hB
  clear hA hB
  have HL := Lib.hid flive_any
  have c0 := loc_alloc w #[.int .i64 t, .int .i64 p, .int .i64 s] 23
  have S0 := ((BS.start w).alloc (.cells #[.int .i64 t, .int .i64 p, .int .i64 s] 23))
  go_enter Try.func8, Try.ntmps8
  go_wp2_with fail
  refine wp_region_noPanic ?_
  refine wp_region_held_drew (S := fun w' => (∀ o : Nat, w'.cell? ⟨w.heap.size, o, none⟩ = (#[.int .i64 t, .int .i64 p, .int .i64 s] : Array Value)[o]?)) (by kernel_rfl) ?_ (fun hHeld => ?_)
  · exact c0
  refine wpAnyH_take (i := 0) (oi := _) (v := ?_) rfl (by kernel_rfl) (by kernel_rfl) (by kernel_rfl) (fun _ _ _ h => h) (Or.inl ⟨by rfl, ?_⟩) (by assumption) ?_
  rotate_left
  · intro w hSw; (try dsimp only at hSw); go_simp; try with_reducible rfl
  try simp only [Act.put, List.getElem_toArray, List.getElem_cons_zero, List.setIfInBounds_toArray, List.set_cons_zero, List.set_cons_succ]
  refine wpAnyH_take (i := 2) (oi := _) (v := ?_) rfl (by kernel_rfl) (by kernel_rfl) (by kernel_rfl) (fun _ _ _ h => h) (Or.inl ⟨by rfl, ?_⟩) (by assumption) ?_
  rotate_left
  · intro w hSw; (try dsimp only at hSw); go_simp; try with_reducible rfl
  try simp only [Act.put, List.getElem_toArray, List.getElem_cons_zero, List.getElem_cons_succ, List.setIfInBounds_toArray, List.set_cons_zero, List.set_cons_succ]
  refine wpAnyH_ready (rs := [1]) (by kernel_rfl) (by simp) ?_
  refine AllReadyH.cons (o := _) rfl (fun K hK => ?_) AllReadyH.nil
  go_simp
  refine (HA.out _).mono ?_
  rintro e w1 ⟨v1, rfl, o1, -, b1⟩
  have S1 := S0.drew.below b1
  have c1 := ((BS.start _).below b1).oldbox hHeld (by simp)
  refine hK.out _ _ ?_ (fun hHeld => ?_)
  · exact c1
  clear hK K
  try simp only [Act.put, List.getElem_toArray, List.getElem_cons_zero, List.getElem_cons_succ, List.setIfInBounds_toArray, List.set_cons_zero, List.set_cons_succ]
  refine wpAnyH_ready (rs := [3]) (by kernel_rfl) (by simp) ?_
  refine AllReadyH.cons (o := _) rfl (fun K hK => ?_) AllReadyH.nil
  go_simp
  refine (HB.out _).mono ?_
  rintro e w2 ⟨v2, rfl, o2, -, b2⟩
  have S2 := S1.below b2
  have o1b := ((BS.start _).below b2).row o1
  have o2b := o2
  have c2 := ((BS.start _).below b2).oldbox hHeld (Nat.lt_of_lt_of_le (by simp) b1.size)
  refine hK.out _ _ ?_ (fun hHeld => ?_)
  · exact c2
  clear hK K
  try simp only [Act.put, List.getElem_toArray, List.getElem_cons_zero, List.getElem_cons_succ, List.setIfInBounds_toArray, List.set_cons_zero, List.set_cons_succ]
  refine wpAnyH_ready (rs := [4]) (by kernel_rfl) (by simp) ?_
  refine AllReadyH.cons (o := _) rfl (fun K hK => ?_) AllReadyH.nil
  go_simp
  refine (hwords_same l v1 v2 _ o1b o2b (by omega)).mono ?_
  rintro e w3 ⟨rfl, b3⟩
  have S3 := S2.below b3
  have c3 := ((BS.start _).below b3).oldbox hHeld (Nat.lt_of_lt_of_le (by simp) (Nat.le_trans b1.size b2.size))
  refine hK.out _ _ ?_ (fun hHeld => ?_)
  · exact c3
  clear hK K
  try simp only [Act.put, List.getElem_toArray, List.getElem_cons_zero, List.getElem_cons_succ, List.setIfInBounds_toArray, List.set_cons_zero, List.set_cons_succ]
  refine wpAnyH_take (i := 5) (oi := _) (v := ?_) rfl (by kernel_rfl) (by kernel_rfl) (by kernel_rfl) (fun _ _ _ h => h) (Or.inl ⟨by rfl, ?_⟩) (by assumption) ?_
  rotate_left
  · intro w hSw; (try dsimp only at hSw); go_simp; try with_reducible rfl
  try simp only [Act.put, List.getElem_toArray, List.getElem_cons_zero, List.getElem_cons_succ, List.setIfInBounds_toArray, List.set_cons_zero, List.set_cons_succ]
  refine wpAnyH_ready (rs := [6]) (by kernel_rfl) (by simp) ?_
  refine AllReadyH.cons (o := _) rfl (fun K hK => ?_) AllReadyH.nil
  go_simp
  refine (HL.out _).mono ?_
  rintro e w4 ⟨rfl, b4⟩
  have S4 := S3.below b4
  have c4 := ((BS.start _).below b4).oldbox hHeld (Nat.lt_of_lt_of_le (by simp) (Nat.le_trans (Nat.le_trans b1.size b2.size) b3.size))
  refine hK.out _ _ ?_ (fun hHeld => ?_)
  · exact c4
  clear hK K
  try simp only [Act.put, List.getElem_toArray, List.getElem_cons_zero, List.getElem_cons_succ, List.setIfInBounds_toArray, List.set_cons_zero, List.set_cons_succ]
  refine wpAnyH_take (i := 7) (oi := _) (v := ?_) rfl (by kernel_rfl) (by kernel_rfl) (by kernel_rfl) (fun _ _ _ h => h) (Or.inl ⟨by rfl, ?_⟩) (by assumption) ?_
  rotate_left
  · intro w hSw; (try dsimp only at hSw); go_simp; try with_reducible rfl
  try simp only [Act.put, List.getElem_toArray, List.getElem_cons_zero, List.getElem_cons_succ, List.setIfInBounds_toArray, List.set_cons_zero, List.set_cons_succ]
  refine wpAnyH_take (i := 8) (oi := _) (v := ?_) rfl (by kernel_rfl) (by kernel_rfl) (by kernel_rfl) (fun _ _ _ h => h) (Or.inl ⟨by rfl, ?_⟩) (by assumption) ?_
  rotate_left
  · intro w hSw; (try dsimp only at hSw); go_simp; try with_reducible rfl
  try simp only [Act.put, List.getElem_toArray, List.getElem_cons_zero, List.getElem_cons_succ, List.setIfInBounds_toArray, List.set_cons_zero, List.set_cons_succ]
  refine wpAnyH_done (by kernel_rfl) ?_ _
  refine NoPanic.normal ?_
  go_wp2
  go_ret
  exact ⟨rfl, S4.bel⟩
end Go.Proofs.Ytkfcjlampnjfbaa
