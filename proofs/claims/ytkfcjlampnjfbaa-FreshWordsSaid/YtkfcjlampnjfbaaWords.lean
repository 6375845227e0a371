/- words: rows of words against one another; places of words. -/
import Derived.Test.YtkfcjlampnjfbaaHead
import Derived.Test.YtkfcjlampnjfbaaVals
namespace Go.Proofs.Ytkfcjlampnjfbaa
open Go.RowKit

def ulongs (l : List Int) : List Value := l.map (.int .u64)

/-- two rows of words are held against one another. -/
theorem hwords_any (a b : List Int) (va vb : Value) (w : World) (ha : w.ownsRow 0 100 1 va a.length (ulongs a)) (hb : w.ownsRow 0 100 1 vb b.length (ulongs b)) (hna : a.length ≤ 4294967296) (hnb : b.length ≤ 4294967296) :
    Calls Try.prog 41 #[va, vb] w fun e w' => e = .returned (.bool (decide (a = b))) ∧ Below w.heap.size w w' := by
  have hca : ∀ wr, Below w.heap.size w wr → ∀ k, k < a.length → ∃ g m c, va = .slice (some ⟨g, 0, none⟩) m c ∧ wr.cell? ⟨g, k, none⟩ = some (.int .u64 (a.getD k 0)) := by
    intro wr hb0 k hk
    obtain ⟨g, cap, rfl⟩ := Joins.ownsRow_form ha (by omega)
    refine ⟨g, _, cap, rfl, ?_⟩
    have e0 : w.cell? ⟨g, k, none⟩ = some (.int .u64 (a.getD k 0)) := by
      rw [ha.cellAt k (by omega)]
      simp [ulongs, hk]
    exact (hb0.cell (World.block_lt_of_cell? w _ e0)).trans e0
  have hcb : ∀ wr, Below w.heap.size w wr → ∀ k, k < b.length → ∃ g m c, vb = .slice (some ⟨g, 0, none⟩) m c ∧ wr.cell? ⟨g, k, none⟩ = some (.int .u64 (b.getD k 0)) := by
    intro wr hb0 k hk
    obtain ⟨g, cap, rfl⟩ := Joins.ownsRow_form hb (by omega)
    refine ⟨g, _, cap, rfl, ?_⟩
    have e0 : w.cell? ⟨g, k, none⟩ = some (.int .u64 (b.getD k 0)) := by
      rw [hb.cellAt k (by omega)]
      simp [ulongs, hk]
    exact (hb0.cell (World.block_lt_of_cell? w _ e0)).trans e0
  obtain ⟨pa, ca, rfl⟩ := row_shape ha
  obtain ⟨pb, cb, rfl⟩ := row_shape hb
  clear ha hb
  generalize hr : decide (a = b) = r
  have HR := Lib.hid hr
  clear hr
  by_cases hl : a.length = b.length
  · have hlb : ((a.length : Int) != (b.length : Int)) = false := by simp [hl]
    have HL := Lib.hid hl
    clear hl
    go_enter Try.func41, Try.ntmps41
    go_wp2
    go_loopw [5] (fun i wr => ValsRel a b w i wr) (fun i _ => a.length - (intOf i).toNat)
    case atStart => exact ⟨0, by omega, rfl, by omega, Below.refl _ _⟩
    case round =>
      obtain ⟨k, hk, rfl, hno, hbw⟩ := hrel
      have HN := Lib.hid hno
      have HB := Lib.hid hbw
      have hca := hca _ hbw
      have hcb := hcb _ hbw
      clear hno hbw
      by_cases hlt : k < a.length
      · have hltb : k < b.length := by have := HL.out; omega
        obtain ⟨g, m, c', hv, c0⟩ := hca k hlt
        obtain ⟨g2, m2, c2', hv2, c1⟩ := hcb k hltb
        simp only [Value.slice.injEq] at hv hv2
        obtain ⟨rfl, rfl, rfl⟩ := hv
        obtain ⟨rfl, rfl, rfl⟩ := hv2
        clear hca hcb
        have HX := Lib.hid (show a[k]? = some (a.getD k 0) by simp [hlt])
        have HX2 := Lib.hid (show b[k]? = some (b.getD k 0) by simp [hltb])
        generalize a.getD k 0 = y at *
        generalize b.getD k 0 = z at *
        by_cases hy : y = z
        · have hb : (y != z) = false := by simp [hy]
          have HY := Lib.hid hy
          clear hy
          go_wp2
          refine wp_region_noPanic ?_
          refine wp_region_held_drew (S := fun w' => w'.cell? ⟨g, k, none⟩ = some (.int .u64 y) ∧ w'.cell? ⟨g2, k, none⟩ = some (.int .u64 z)) (by kernel_rfl) ?_ (fun hHeld => ?_)
          · exact ⟨c0, c1⟩
          refine wpAnyH_take (i := 0) (oi := _) (v := ?_) rfl (by kernel_rfl) (by kernel_rfl) (by kernel_rfl) (fun _ _ _ h => h) (Or.inl ⟨by rfl, ?_⟩) (by assumption) ?_
          rotate_left
          · intro w hSw; (try dsimp only at hSw); go_simp; try with_reducible rfl
          try simp only [Act.put, List.getElem_toArray, List.getElem_cons_zero, List.setIfInBounds_toArray, List.set_cons_zero, List.set_cons_succ]
          refine wpAnyH_take (i := 1) (oi := _) (v := ?_) rfl (by kernel_rfl) (by kernel_rfl) (by kernel_rfl) (fun _ _ _ h => h) (Or.inl ⟨by rfl, ?_⟩) (by assumption) ?_
          rotate_left
          · intro w hSw; (try dsimp only at hSw); go_simp; try with_reducible rfl
          try simp only [Act.put, List.getElem_toArray, List.getElem_cons_zero, List.getElem_cons_succ, List.setIfInBounds_toArray, List.set_cons_zero, List.set_cons_succ]
          refine wpAnyH_take (i := 2) (oi := _) (v := ?_) rfl (by kernel_rfl) (by kernel_rfl) (by kernel_rfl) (fun _ _ _ h => h) (Or.inl ⟨by rfl, ?_⟩) (by assumption) ?_
          rotate_left
          · intro w hSw; (try dsimp only at hSw); go_simp; try with_reducible rfl
          try simp only [Act.put, List.getElem_toArray, List.getElem_cons_zero, List.getElem_cons_succ, List.setIfInBounds_toArray, List.set_cons_zero, List.set_cons_succ]
          refine wpAnyH_take (i := 3) (oi := _) (v := ?_) rfl (by kernel_rfl) (by kernel_rfl) (by kernel_rfl) (fun _ _ _ h => h) (Or.inl ⟨by rfl, ?_⟩) (by assumption) ?_
          rotate_left
          · intro w hSw; (try dsimp only at hSw); go_simp; try with_reducible rfl
          try simp only [Act.put, List.getElem_toArray, List.getElem_cons_zero, List.getElem_cons_succ, List.setIfInBounds_toArray, List.set_cons_zero, List.set_cons_succ]
          refine wpAnyH_take (i := 4) (oi := _) (v := ?_) rfl (by kernel_rfl) (by kernel_rfl) (by kernel_rfl) (fun _ _ _ h => h) (Or.inl ⟨by rfl, ?_⟩) (by assumption) ?_
          rotate_left
          · intro w hSw; (try dsimp only at hSw); go_simp; try with_reducible rfl
          try simp only [Act.put, List.getElem_toArray, List.getElem_cons_zero, List.getElem_cons_succ, List.setIfInBounds_toArray, List.set_cons_zero, List.set_cons_succ]
          refine wpAnyH_take (i := 5) (oi := _) (v := ?_) rfl (by kernel_rfl) (by kernel_rfl) (by kernel_rfl) (fun _ _ _ h => h) (Or.inl ⟨by rfl, ?_⟩) (by assumption) ?_
          rotate_left
          · intro w hSw; (try dsimp only at hSw); go_simp; try with_reducible rfl
          try simp only [Act.put, List.getElem_toArray, List.getElem_cons_zero, List.getElem_cons_succ, List.setIfInBounds_toArray, List.set_cons_zero, List.set_cons_succ]
          refine wpAnyH_take (i := 6) (oi := _) (v := ?_) rfl (by kernel_rfl) (by kernel_rfl) (by kernel_rfl) (fun _ _ _ h => h) (Or.inl ⟨by rfl, ?_⟩) (by assumption) ?_
          rotate_left
          · intro w hSw; (try dsimp only at hSw); go_simp; try with_reducible rfl
          try simp only [Act.put, List.getElem_toArray, List.getElem_cons_zero, List.getElem_cons_succ, List.setIfInBounds_toArray, List.set_cons_zero, List.set_cons_succ]
          refine wpAnyH_take (i := 7) (oi := _) (v := ?_) rfl (by kernel_rfl) (by kernel_rfl) (by kernel_rfl) (fun _ _ _ h => h) (Or.inl ⟨by rfl, ?_⟩) (by assumption) ?_
          rotate_left
          · intro w hSw; (try dsimp only at hSw); go_simp; try with_reducible rfl
          try simp only [Act.put, List.getElem_toArray, List.getElem_cons_zero, List.getElem_cons_succ, List.setIfInBounds_toArray, List.set_cons_zero, List.set_cons_succ]
          refine wpAnyH_take (i := 8) (oi := _) (v := ?_) rfl (by kernel_rfl) (by kernel_rfl) (by kernel_rfl) (fun _ _ _ h => h) (Or.inl ⟨by rfl, ?_⟩) (by assumption) ?_
          rotate_left
          · intro w hSw; (try dsimp only at hSw); go_simp; try with_reducible rfl
          try simp only [Act.put, List.getElem_toArray, List.getElem_cons_zero, List.getElem_cons_succ, List.setIfInBounds_toArray, List.set_cons_zero, List.set_cons_succ]
          refine wpAnyH_done (by kernel_rfl) ?_ _
          refine NoPanic.normal ?_
          go_wp2
          go_roundw
          case rel =>
            refine ⟨k + 1, by omega, by go_num, fun j hj => ?_, HB.out.drew⟩
            by_cases e : j = k
            · subst e; rw [HX.out, HX2.out, HY.out]
            · exact HN.out j (by omega)
          case measure => simp [intOf]; omega
        · have hb : (y != z) = true := by simp [hy]
          have HY := Lib.hid hy
          clear hy
          go_wp2
          refine wp_region_noPanic ?_
          refine wp_region_held_drew (S := fun w' => w'.cell? ⟨g, k, none⟩ = some (.int .u64 y) ∧ w'.cell? ⟨g2, k, none⟩ = some (.int .u64 z)) (by kernel_rfl) ?_ (fun hHeld => ?_)
          · exact ⟨c0, c1⟩
          refine wpAnyH_take (i := 0) (oi := _) (v := ?_) rfl (by kernel_rfl) (by kernel_rfl) (by kernel_rfl) (fun _ _ _ h => h) (Or.inl ⟨by rfl, ?_⟩) (by assumption) ?_
          rotate_left
          · intro w hSw; (try dsimp only at hSw); go_simp; try with_reducible rfl
          try simp only [Act.put, List.getElem_toArray, List.getElem_cons_zero, List.setIfInBounds_toArray, List.set_cons_zero, List.set_cons_succ]
          refine wpAnyH_take (i := 1) (oi := _) (v := ?_) rfl (by kernel_rfl) (by kernel_rfl) (by kernel_rfl) (fun _ _ _ h => h) (Or.inl ⟨by rfl, ?_⟩) (by assumption) ?_
          rotate_left
          · intro w hSw; (try dsimp only at hSw); go_simp; try with_reducible rfl
          try simp only [Act.put, List.getElem_toArray, List.getElem_cons_zero, List.getElem_cons_succ, List.setIfInBounds_toArray, List.set_cons_zero, List.set_cons_succ]
          refine wpAnyH_take (i := 2) (oi := _) (v := ?_) rfl (by kernel_rfl) (by kernel_rfl) (by kernel_rfl) (fun _ _ _ h => h) (Or.inl ⟨by rfl, ?_⟩) (by assumption) ?_
          rotate_left
          · intro w hSw; (try dsimp only at hSw); go_simp; try with_reducible rfl
          try simp only [Act.put, List.getElem_toArray, List.getElem_cons_zero, List.getElem_cons_succ, List.setIfInBounds_toArray, List.set_cons_zero, List.set_cons_succ]
          refine wpAnyH_take (i := 3) (oi := _) (v := ?_) rfl (by kernel_rfl) (by kernel_rfl) (by kernel_rfl) (fun _ _ _ h => h) (Or.inl ⟨by rfl, ?_⟩) (by assumption) ?_
          rotate_left
          · intro w hSw; (try dsimp only at hSw); go_simp; try with_reducible rfl
          try simp only [Act.put, List.getElem_toArray, List.getElem_cons_zero, List.getElem_cons_succ, List.setIfInBounds_toArray, List.set_cons_zero, List.set_cons_succ]
          refine wpAnyH_take (i := 4) (oi := _) (v := ?_) rfl (by kernel_rfl) (by kernel_rfl) (by kernel_rfl) (fun _ _ _ h => h) (Or.inl ⟨by rfl, ?_⟩) (by assumption) ?_
          rotate_left
          · intro w hSw; (try dsimp only at hSw); go_simp; try with_reducible rfl
          try simp only [Act.put, List.getElem_toArray, List.getElem_cons_zero, List.getElem_cons_succ, List.setIfInBounds_toArray, List.set_cons_zero, List.set_cons_succ]
          refine wpAnyH_take (i := 5) (oi := _) (v := ?_) rfl (by kernel_rfl) (by kernel_rfl) (by kernel_rfl) (fun _ _ _ h => h) (Or.inl ⟨by rfl, ?_⟩) (by assumption) ?_
          rotate_left
          · intro w hSw; (try dsimp only at hSw); go_simp; try with_reducible rfl
          try simp only [Act.put, List.getElem_toArray, List.getElem_cons_zero, List.getElem_cons_succ, List.setIfInBounds_toArray, List.set_cons_zero, List.set_cons_succ]
          refine wpAnyH_take (i := 6) (oi := _) (v := ?_) rfl (by kernel_rfl) (by kernel_rfl) (by kernel_rfl) (fun _ _ _ h => h) (Or.inl ⟨by rfl, ?_⟩) (by assumption) ?_
          rotate_left
          · intro w hSw; (try dsimp only at hSw); go_simp; try with_reducible rfl
          try simp only [Act.put, List.getElem_toArray, List.getElem_cons_zero, List.getElem_cons_succ, List.setIfInBounds_toArray, List.set_cons_zero, List.set_cons_succ]
          refine wpAnyH_take (i := 7) (oi := _) (v := ?_) rfl (by kernel_rfl) (by kernel_rfl) (by kernel_rfl) (fun _ _ _ h => h) (Or.inl ⟨by rfl, ?_⟩) (by assumption) ?_
          rotate_left
          · intro w hSw; (try dsimp only at hSw); go_simp; try with_reducible rfl
          try simp only [Act.put, List.getElem_toArray, List.getElem_cons_zero, List.getElem_cons_succ, List.setIfInBounds_toArray, List.set_cons_zero, List.set_cons_succ]
          refine wpAnyH_take (i := 8) (oi := _) (v := ?_) rfl (by kernel_rfl) (by kernel_rfl) (by kernel_rfl) (fun _ _ _ h => h) (Or.inl ⟨by rfl, ?_⟩) (by assumption) ?_
          rotate_left
          · intro w hSw; (try dsimp only at hSw); go_simp; try with_reducible rfl
          try simp only [Act.put, List.getElem_toArray, List.getElem_cons_zero, List.getElem_cons_succ, List.setIfInBounds_toArray, List.set_cons_zero, List.set_cons_succ]
          refine wpAnyH_done (by kernel_rfl) ?_ _
          refine NoPanic.normal ?_
          go_wp2
          go_ret
          refine ⟨ret_bool ?_, HB.out.drew⟩
          rw [← HR.out]
          symm
          simp only [decide_eq_false_iff_not]
          intro hm
          subst hm
          have := HX.out.symm.trans HX2.out
          exact HY.out (Option.some.inj this)
      · clear hca hcb
        go_wp2
        go_ret
        refine ⟨ret_bool ?_, HB.out⟩
        rw [← HR.out]
        symm
        simp only [decide_eq_true_eq]
        apply List.ext_getElem?
        intro j
        by_cases hj : j < k
        · exact HN.out j hj
        · rw [List.getElem?_eq_none (by omega), List.getElem?_eq_none (by have := HL.out; omega)]
  · have hlb : ((a.length : Int) != (b.length : Int)) = true := by simp; omega
    have HL := Lib.hid hl
    clear hl hca hcb
    go_enter Try.func41, Try.ntmps41
    go_wp2
    go_ret
    refine ⟨ret_bool ?_, Below.refl _ _⟩
    rw [← HR.out]
    symm
    simp only [decide_eq_false_iff_not]
    intro hm
    exact HL.out (by rw [hm])



def FirstRel (n m : Int) (w : World) (a : Value) (wr : World) : Prop := ∃ k : Int, a = .int .i64 k ∧ n ≤ k ∧ k ≤ m ∧ Below w.heap.size w wr
theorem rfirst_any (t p s : Int) (w : World) (hr : rightB t p s = true) :
    Calls Try.prog 119 #[.agg #[.int .i64 t, .int .i64 p, .int .i64 s]] w fun e w' => e = .returned (.int .i64 (makersN t p)) ∧ Below w.heap.size w w' := by
  have H1 := fun w => rcells_any t p s w
  have hcf : cellsF t p s = cellsN t p := by simp [cellsF, hr]
  rw [hcf] at H1
  have HH1 := Lib.hid H1
  have hb : 0 ≤ cellsN t p ∧ cellsN t p ≤ 10000 := by have := right_bd hr; unfold cellsN; omega
  have hm : 16 + cellsN t p ≤ makersN t p ∧ makersN t p < 16 + cellsN t p + 8 ∧ makersN t p % 8 = 0 := by unfold makersN; omega
  generalize makersN t p = m at *
  generalize cellsN t p = n at *
  clear H1 hcf hr
  go_enter Try.func119, Try.ntmps119
  go_wp2_with fail
  refine (HH1.out _).mono ?_
  rintro e w1 ⟨rfl, ha⟩
  obtain ⟨hac, haf⟩ := bcell ha
  have haz0 : w.heap.size < w1.heap.size := by have := ha.size; first | omega | (simp at this; omega)
  go_wp2
  have HBel : Hid (Below w.heap.size w w1) := Lib.hid (by
    (repeat (first | exact Below.refl _ _ | assumption | refine Below.setCell ?_ (by first | omega | (simp; done) | (simp; omega)) _ | refine Below.alloc ?_ (by first | omega | (simp; done) | (simp; omega)) _ | refine Below.drew ?_ | refine Below.trans ?_ (Below.mono ‹Below _ _ _› (by first | omega | (simp; done) | (simp; omega))))))
  go_loopw [3] (fun a wr => FirstRel (16 + n) m w a wr) (fun a _ => (m - intOf a).toNat)
  case atStart => exact ⟨16 + n, rfl, by omega, by omega, HBel.out⟩
  case round =>
    obtain ⟨k, rfl, k1, k2, hb⟩ := hrel
    by_cases hlt : k = m
    · have hz : k % 8 = 0 := by omega
      go_wp2
      go_ret
      exact ⟨ret_int hlt, hb⟩
    · have hz : k % 8 ≠ 0 := by omega
      go_wp2
      go_roundw
      case rel => exact ⟨k + 1, rfl, by omega, by omega, hb⟩
      case measure => simp [intOf]; omega
theorem rwords_right (t p s : Int) (w : World) (hr : rightB t p s = true) :
    Calls Try.prog 82 #[.agg #[.int .i64 t, .int .i64 p, .int .i64 s]] w fun e w' => e = .returned (.int .i64 (wordsN t p)) ∧ Below w.heap.size w w' := by
  have HF := Lib.hid (fun w => rfirst_any t p s w hr)
  have HC := Lib.hid (fun w => rright_any t p s w)
  rw [hr] at HC
  have hm : 0 ≤ makersN t p ∧ makersN t p ≤ 10000 := by have := right_bd hr; unfold makersN cellsN; omega
  have hw : wordsN t p = makersN t p + 120 * (t + 1) := rfl
  have ht := (right_bd hr).1
  have ht2 := (right_bd hr).2.1
  rw [hw]
  generalize makersN t p = m at *
  have e1 : IntKind.i64.wrap (t + 1) = t + 1 := IntWalk.i64_in _ (by omega)
  have e2 : IntKind.i64.wrap (120 * (t + 1)) = 120 * (t + 1) := IntWalk.i64_in _ (by omega)
  have e3 : IntKind.i64.wrap (m + 120 * (t + 1)) = m + 120 * (t + 1) := IntWalk.i64_in _ (by omega)
  clear hw hr
  have c0 := loc_alloc w #[.int .i64 t, .int .i64 p, .int .i64 s] 23
  have S0 := ((BS.start w).alloc (.cells #[.int .i64 t, .int .i64 p, .int .i64 s] 23))
  go_enter Try.func82, Try.ntmps82
  go_wp2_with fail
  refine (calls_b S0 (HC.out _)).mono ?_
  rintro e w1 ⟨rfl, S1, S1l⟩
  have c1 := loc_step S1l (by simp) c0
  clear S1l
  go_wp2_with fail
  refine wp_region_noPanic ?_
  refine wp_region_held_drew (S := fun w' => (∀ o : Nat, w'.cell? ⟨w.heap.size, o, none⟩ = (#[.int .i64 t, .int .i64 p, .int .i64 s] : Array Value)[o]?)) (by kernel_rfl) ?_ (fun hHeld => ?_)
  · exact c1
  refine wpAnyH_take (i := 0) (oi := _) (v := ?_) rfl (by kernel_rfl) (by kernel_rfl) (by kernel_rfl) (fun _ _ _ h => h) (Or.inl ⟨by rfl, ?_⟩) (by assumption) ?_
  rotate_left
  · intro w hSw; (try dsimp only at hSw); go_simp; try with_reducible rfl
  try simp only [Act.put, List.getElem_toArray, List.getElem_cons_zero, List.setIfInBounds_toArray, List.set_cons_zero, List.set_cons_succ]
  refine wpAnyH_take (i := 2) (oi := _) (v := ?_) rfl (by kernel_rfl) (by kernel_rfl) (by kernel_rfl) (fun _ _ _ h => h) (Or.inl ⟨by rfl, ?_⟩) (by assumption) ?_
  rotate_left
  · intro w hSw; (try dsimp only at hSw); go_simp; try with_reducible rfl
  try simp only [Act.put, List.getElem_toArray, List.getElem_cons_zero, List.getElem_cons_succ, List.setIfInBounds_toArray, List.set_cons_zero, List.set_cons_succ]
  refine wpAnyH_take (i := 3) (oi := _) (v := ?_) rfl (by kernel_rfl) (by kernel_rfl) (by kernel_rfl) (fun _ _ _ h => h) (Or.inl ⟨by rfl, ?_⟩) (by assumption) ?_
  rotate_left
  · intro w hSw; (try dsimp only at hSw); go_simp; try with_reducible rfl
  try simp only [Act.put, List.getElem_toArray, List.getElem_cons_zero, List.getElem_cons_succ, List.setIfInBounds_toArray, List.set_cons_zero, List.set_cons_succ]
  refine wpAnyH_take (i := 4) (oi := _) (v := ?_) rfl (by kernel_rfl) (by kernel_rfl) (by kernel_rfl) (fun _ _ _ h => h) (Or.inl ⟨by rfl, ?_⟩) (by assumption) ?_
  rotate_left
  · intro w hSw; (try dsimp only at hSw); go_simp; try with_reducible rfl
  try simp only [Act.put, List.getElem_toArray, List.getElem_cons_zero, List.getElem_cons_succ, List.setIfInBounds_toArray, List.set_cons_zero, List.set_cons_succ]
  refine wpAnyH_take (i := 5) (oi := _) (v := ?_) rfl (by kernel_rfl) (by kernel_rfl) (by kernel_rfl) (fun _ _ _ h => h) (Or.inl ⟨by rfl, ?_⟩) (by assumption) ?_
  rotate_left
  · intro w hSw; (try dsimp only at hSw); go_simp; try with_reducible rfl
  try simp only [Act.put, List.getElem_toArray, List.getElem_cons_zero, List.getElem_cons_succ, List.setIfInBounds_toArray, List.set_cons_zero, List.set_cons_succ]
  refine wpAnyH_ready (rs := [1]) (by kernel_rfl) (by simp) ?_
  refine AllReadyH.cons (o := _) rfl (fun K hK => ?_) AllReadyH.nil
  go_simp
  refine (HF.out _).mono ?_
  rintro e w2 ⟨rfl, b2⟩
  have S2 := S1.drew.below b2
  have c2 := ((BS.start _).below b2).oldbox hHeld (S1.ls w.heap.size (by simp)).1
  refine hK.out _ _ ?_ (fun hHeld => ?_)
  · exact c2
  clear hK K
  try simp only [Act.put, List.getElem_toArray, List.getElem_cons_zero, List.getElem_cons_succ, List.setIfInBounds_toArray, List.set_cons_zero, List.set_cons_succ]
  refine wpAnyH_take (i := 6) (oi := _) (v := ?_) rfl (by kernel_rfl) (by kernel_rfl) (by kernel_rfl) (fun _ _ _ h => h) (Or.inl ⟨by rfl, ?_⟩) (by assumption) ?_
  rotate_left
  · intro w hSw; (try dsimp only at hSw); go_simp; try with_reducible rfl
  try simp only [Act.put, List.getElem_toArray, List.getElem_cons_zero, List.getElem_cons_succ, List.setIfInBounds_toArray, List.set_cons_zero, List.set_cons_succ]
  refine wpAnyH_take (i := 7) (oi := _) (v := ?_) rfl (by kernel_rfl) (by kernel_rfl) (by kernel_rfl) (fun _ _ _ h => h) (Or.inl ⟨by rfl, ?_⟩) (by assumption) ?_
  rotate_left
  · intro w hSw; (try dsimp only at hSw); go_simp; try with_reducible rfl
  try simp only [Act.put, List.getElem_toArray, List.getElem_cons_zero, List.getElem_cons_succ, List.setIfInBounds_toArray, List.set_cons_zero, List.set_cons_succ]
  refine wpAnyH_done (by kernel_rfl) ?_ _
  refine NoPanic.normal ?_
  go_wp2
  go_ret
  exact ⟨rfl, S2.bel⟩

theorem infoU64 : (Try.prog.info? 100).map (fun i => (i.zero, i.size, i.bytes)) = some (some (.int .u64 0), 1, 8) := by kernel_rfl
theorem row_built (w : World) (cs : List Value) (n : Nat) (hn : cs.length = n) (h : n ≤ 1000000) : (w.alloc (.cells cs.toArray 100)).ownsRow 0 100 1 (.slice (some ⟨w.heap.size, 0, none⟩) n n) n cs := by
  refine ⟨by simpa using hn, Or.inr ⟨w.heap.size, n, cs.toArray, rfl, Nat.zero_le _, heap_alloc_new w _, Nat.le_refl _, by unfold maxLen; omega, by simpa using hn, ?_⟩⟩
  simp [← hn]
def headB (x : Nat) (n : Int) : List Int := [5638862229071736881, 1, x, n, 0, 0, 0]
def headL (x : Nat) (n : Int) : List Int := headB x n ++ [sumF (headB x n)]
/-- what answers a row of words of its own. -/
def WordsP (w : World) (l : List Int) (e : Ending) (w' : World) : Prop :=
  ∃ v, e = .returned v ∧ w'.ownsRow 0 100 1 v l.length (ulongs l) ∧ (∀ k, v.ownBlock = some k → w.heap.size ≤ k) ∧ Below w.heap.size w w'
theorem headB_u64 {x : Nat} {n : Int} (hx : x < 18446744073709551616) (hn : 0 ≤ n) (hn2 : n ≤ 100000) : ∀ y ∈ headB x n, 0 ≤ y ∧ y < 18446744073709551616 := by
  intro y hy
  simp [headB] at hy
  omega
set_option maxHeartbeats 1000000 in
set_option maxRecDepth 100000 in
theorem encode_right (t p s x : Nat) (n : Int) (w : World) (hr : rightB t p s = true) (hx : t + p * 65536 + s * 4294967296 = x) (hn : wordsN t p = n) :
    Calls Try.prog 78 #[.agg #[.int .i64 t, .int .i64 p, .int .i64 s]] w (WordsP w (headL x n)) := by
  obtain ⟨b1, b2, b3, b4, b5, b6⟩ := right_bd hr
  have HC := Lib.hid (fun w => cword_right t p s w hr)
  rw [hx] at HC
  have HW := Lib.hid (fun w => words_any t p s w)
  have hwf : wordsF t p s = wordsN t p := by simp [wordsF, hr]
  rw [hwf, hn] at HW
  have hx2 : x < 18446744073709551616 := by omega
  have hn2 : 0 ≤ n ∧ n ≤ 100000 := by rw [← hn]; unfold wordsN makersN cellsN; omega
  have hwn : IntKind.u64.wrap n = n := wraps_u64 _ (by omega) (by omega)
  have hu := Lib.hid (headB_u64 hx2 hn2.1 hn2.2)
  have hsb := sumF_bd (headB x n)
  have hws : IntKind.u64.wrap (sumF (headB x n)) = sumF (headB x n) := wraps_u64 _ (by omega) (by omega)
  have hL : headL x n = headB x n ++ [sumF (headB x n)] := rfl
  have HL := Lib.hid hL
  have HS := Lib.hid (fun g w => ssum_any (headB x n) g w)
  generalize sumF (headB x n) = y at *
  obtain ⟨i0, hi0, hi1, hi2, hi3⟩ := info_parts infoU64
  have HI := Lib.hid (And.intro hi0 (And.intro hi1 (And.intro hi2 hi3)))
  clear hi0 hi1 hi2 hi3 hwf hr hx hn hL
  have c0 := loc_alloc w #[.int .i64 t, .int .i64 p, .int .i64 s] 23
  have S0 := ((BS.start w).alloc (.cells #[.int .i64 t, .int .i64 p, .int .i64 s] 23))
  go_enter Try.func78, Try.ntmps78
  go_wp2_with fail
  refine (calls_b S0 (HC.out _)).mono ?_
  rintro e w1 ⟨rfl, S1, S1l⟩
  have c1 := loc_step S1l (by simp) c0
  clear S1l
  go_wp2_with fail
  refine (calls_b S1 (HW.out _)).mono ?_
  rintro e w2 ⟨rfl, S2, S2l⟩
  have c2 := loc_step S2l (by simp) c1
  clear S2l
  have R2 : (w2.alloc (.cells #[.int .u64 5638862229071736881, .int .u64 1, .int .u64 x, .int .u64 n, .int .u64 0, .int .u64 0, .int .u64 0] 100)).ownsRow 0 100 1 (.slice (some ⟨w2.heap.size, 0, none⟩) 7 7) 7 (ulongs (headB x n)) := row_built w2 (ulongs (headB x n)) 7 (by simp [ulongs, headB]) (by omega)
  have S3 := S2.alloc (.cells #[.int .u64 5638862229071736881, .int .u64 1, .int .u64 x, .int .u64 n, .int .u64 0, .int .u64 0, .int .u64 0] 100)
  go_wp2_with fail
  refine (HS.out w2.heap.size _ (by simp [headB]) hu.out (by simp) (fun j hj => ?_)).mono ?_
  · have := R2.cellAt j (by simpa [headB] using hj)
    rw [this]
    simp [ulongs, hj]
  rintro e w3 ⟨rfl, b3⟩
  have R3 := ((BS.start _).below b3).row R2
  have S4 := S3.below b3
  have l2 : w2.heap.size < w3.heap.size := (S4.ls w2.heap.size (by simp)).1
  clear S0 S1 S2 S3 R2 c0 c1 c2 b3 HC HW HS hu
  go_wp2_with (at_builtin; go_must (refine wpL_append rfl _ _ rfl 100 i0 (.int .u64 0) 1 8 Try.underlying58 HI.out.1 HI.out.2.1 HI.out.2.2.1 HI.out.2.2.2 rfl (by decide) (.slice (some ⟨w2.heap.size, 0, none⟩) 7 7) 7 (ulongs (headB x n)) rfl (R3.alloc _) ⟨w3.heap.size, 0, none⟩ 1 1 [.int .u64 y] rfl rfl (cell_one_new _ _ _) ?c1 ?c2 ?c3 ?_); go_must (case c1 => (simp [Value.oneCell'])); go_must (case c2 => (unfold maxLen; omega)); go_must (case c3 => (omega)); go_must (intro v' w5 hown5 hg5 hnew5 hnil5); clear hnil5)
  go_ret
  have S5 := (S4.alloc (.cells #[.int .u64 y] 100)).grown hg5 (fun k hk => by simp [Value.ownBlock] at hk; simp [hk]) [] (by simp)
  refine ⟨v', rfl, ?_, fun k hk => ?_, S5.bel⟩
  · rw [HL.out]
    simpa [headB, ulongs] using hown5
  · have := S4.bel.size
    rcases hnew5 k hk with h | h
    · simp [Value.ownBlock] at h
      have := (S4.ls w2.heap.size (by simp)).2
      omega
    · simp at h; omega
theorem encode_wrong (t p s : Int) (w : World) (hr : rightB t p s = false) :
    Calls Try.prog 78 #[.agg #[.int .i64 t, .int .i64 p, .int .i64 s]] w (WordsP w []) := by
  have HC := Lib.hid (fun w => cword_wrong t p s w hr)
  go_enter Try.func78, Try.ntmps78
  go_wp2_with fail
  refine (HC.out _).mono ?_
  rintro e w1 ⟨rfl, ha⟩
  obtain ⟨hac, haf⟩ := bcell ha
  have haz0 : w.heap.size < w1.heap.size := by have := ha.size; first | omega | (simp at this; omega)
  go_wp2
  go_ret
  refine ⟨_, rfl, World.ownsRow_nil _ _ _ _, by simp [Value.ownBlock], ?_⟩
  (repeat (first | exact Below.refl _ _ | assumption | refine Below.setCell ?_ (by first | omega | (simp; done) | (simp; omega)) _ | refine Below.alloc ?_ (by first | omega | (simp; done) | (simp; omega)) _ | refine Below.drew ?_ | refine Below.trans ?_ (Below.mono ‹Below _ _ _› (by first | omega | (simp; done) | (simp; omega)))))
end Go.Proofs.Ytkfcjlampnjfbaa
