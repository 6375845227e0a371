/- the program's State; the same states. -/
import Derived.Test.YtcicmljnjdhkjaaGreatMck1
import Derived.Test.YtcicmljnjdhkjaaGreatMck2
import Derived.Test.YtcicmljnjdhkjaaGreatMck3
import Derived.Test.YtcicmljnjdhkjaaGreatMck4
import Derived.Test.YtcicmljnjdhkjaaGreatMck5
import Derived.Test.YtcicmljnjdhkjaaGreatMck6
import Derived.Test.YtcicmljnjdhkjaaGreatMck7
import Derived.Test.YtcicmljnjdhkjaaGreatMck8
import Derived.ChangeKeysEq
set_option linter.unusedSimpArgs false
set_option linter.unusedVariables false
namespace Go.Proofs.YtcicmljnjdhkjaaGreat
open Go.ChangeShapes Go.RowKit
/-- a state as a value: its blocks' row, and its roots. -/
def stV (v : Value) (f : Nat → Int) : Value := .agg #[v, .int .i64 (f 0), .int .i64 (f 1), .int .i64 (f 2), .int .i64 (f 3), .int .i64 (f 4), .int .i64 (f 5), .int .i64 (f 6), .int .i64 (f 7)]
def rootsV (vs : List Int) : Nat → Int := fun i => vs.getD (22 + i) 0
theorem stV_state (v : Value) (vs : List Int) : Value.agg (stateC v vs 8) = stV v (rootsV vs) := rfl
def eq8 (f g : Nat → Int) : Bool := f 0 == g 0 && (f 1 == g 1 && (f 2 == g 2 && (f 3 == g 3 && (f 4 == g 4 && (f 5 == g 5 && (f 6 == g 6 && f 7 == g 7))))))
theorem infoI64b : (Tryz.prog.info? 2).map (fun i => (i.zero, i.size, i.bytes)) = some (some (.int .i64 0), 1, 8) := by kernel_rfl
theorem run_items (P : Program) (d e c : Nat) (xs ys : Array Value) (W : World) (a b : Int) (k : IntKind) (i : Nat) (is : List Nat) (he : P.underlying e = some (.int k)) (hx : (part e xs (i * c)).run P W = .ok (.int k a) W) (hy : (part e ys (i * c)).run P W = .ok (.int k b) W) (r : Bool) (hr : (Op.eqItems (d + 1) e c xs ys is).run P W = .ok r W) :
    (Op.eqItems (d + 1) e c xs ys (i :: is)).run P W = .ok (a == b && r) W := by
  simp only [Op.eqItems, Sem.run_bind, hx, hy, Result.andThen_ok, run_equalIn_int W d e k k a b he]
  cases hab : a == b
  · simp
  · simp [hr]
theorem run_eq8 (f g : Nat → Int) (W : World) : (Op.equalIn 10000 31 (.agg #[.int .i64 (f 0), .int .i64 (f 1), .int .i64 (f 2), .int .i64 (f 3), .int .i64 (f 4), .int .i64 (f 5), .int .i64 (f 6), .int .i64 (f 7)]) (.agg #[.int .i64 (g 0), .int .i64 (g 1), .int .i64 (g 2), .int .i64 (g 3), .int .i64 (g 4), .int .i64 (g 5), .int .i64 (g 6), .int .i64 (g 7)])).run Tryz.prog W = .ok (eq8 f g) W := by
  obtain ⟨i0, hi0, -, -, -⟩ := info_parts infoI64b
  have hc : Tryz.prog.cellsOf 2 = 1 := by kernel_rfl
  rw [show (10000 : Nat) = 9999 + 1 from rfl, run_equalIn_array W 9999 _ _ Tryz.underlying31 hi0, hc]
  rw [show eq8 f g = (f 0 == g 0 && (f 1 == g 1 && (f 2 == g 2 && (f 3 == g 3 && (f 4 == g 4 && (f 5 == g 5 && (f 6 == g 6 && (f 7 == g 7 && true)))))))) by unfold eq8; simp]
  have hp : ∀ (h : Nat → Int) (i : Nat), i < 8 → (part 2 #[.int .i64 (h 0), .int .i64 (h 1), .int .i64 (h 2), .int .i64 (h 3), .int .i64 (h 4), .int .i64 (h 5), .int .i64 (h 6), .int .i64 (h 7)] (i * 1)).run Tryz.prog W = .ok (.int .i64 (h i)) W := by
    intro h i hi
    rcases (by omega : i = 0 ∨ i = 1 ∨ i = 2 ∨ i = 3 ∨ i = 4 ∨ i = 5 ∨ i = 6 ∨ i = 7) with rfl | rfl | rfl | rfl | rfl | rfl | rfl | rfl <;> simp [go_sem, Tryz.isAgg2]
  show (Op.eqItems 9999 2 1 _ _ [0, 1, 2, 3, 4, 5, 6, 7]).run Tryz.prog W = _
  refine run_items _ 9998 _ _ _ _ _ _ _ .i64 _ _ Tryz.underlying2 (hp f 0 (by omega)) (hp g 0 (by omega)) _ ?_
  refine run_items _ 9998 _ _ _ _ _ _ _ .i64 _ _ Tryz.underlying2 (hp f 1 (by omega)) (hp g 1 (by omega)) _ ?_
  refine run_items _ 9998 _ _ _ _ _ _ _ .i64 _ _ Tryz.underlying2 (hp f 2 (by omega)) (hp g 2 (by omega)) _ ?_
  refine run_items _ 9998 _ _ _ _ _ _ _ .i64 _ _ Tryz.underlying2 (hp f 3 (by omega)) (hp g 3 (by omega)) _ ?_
  refine run_items _ 9998 _ _ _ _ _ _ _ .i64 _ _ Tryz.underlying2 (hp f 4 (by omega)) (hp g 4 (by omega)) _ ?_
  refine run_items _ 9998 _ _ _ _ _ _ _ .i64 _ _ Tryz.underlying2 (hp f 5 (by omega)) (hp g 5 (by omega)) _ ?_
  refine run_items _ 9998 _ _ _ _ _ _ _ .i64 _ _ Tryz.underlying2 (hp f 6 (by omega)) (hp g 6 (by omega)) _ ?_
  refine run_items _ 9998 _ _ _ _ _ _ _ .i64 _ _ Tryz.underlying2 (hp f 7 (by omega)) (hp g 7 (by omega)) _ ?_
  simp [Op.eqItems]
/-- how far two lists are the same. -/
def EqTo (l1 l2 : List (Int × Int)) (k : Nat) : Prop := ∀ j, j < k → l1[j]? = l2[j]?
theorem eqL_no {l1 l2 : List (Int × Int)} {k : Nat} {x y : Int × Int} (hx : l1[k]? = some x) (hy : l2[k]? = some y) (h : x ≠ y) : decide (l1 = l2) = false := by
  rw [decide_eq_false_iff_not]
  intro e
  rw [e, hy] at hx
  exact h (Option.some.inj hx).symm
theorem eqL_step {l1 l2 : List (Int × Int)} {k : Nat} (h : EqTo l1 l2 k) (hk : l1[k]? = l2[k]?) : EqTo l1 l2 (k + 1) := fun j hj => by
  by_cases e : j = k
  · rw [e]; exact hk
  · exact h j (by omega)
theorem eqL_yes {l1 l2 : List (Int × Int)} (hl : l1.length = l2.length) (h : EqTo l1 l2 l1.length) : decide (l1 = l2) = true := by
  rw [decide_eq_true_iff]
  apply List.ext_getElem?
  intro j
  by_cases hj : j < l1.length
  · exact h j hj
  · rw [List.getElem?_eq_none (by omega), List.getElem?_eq_none (by omega)]
theorem eqL_len {l1 l2 : List (Int × Int)} (hl : l1.length ≠ l2.length) : decide (l1 = l2) = false := by
  rw [decide_eq_false_iff_not]
  exact fun e => hl (by rw [e])
def EqRel (l1 l2 : List (Int × Int)) (w : World) (i : Value) (wr : World) : Prop := ∃ k : Nat, k ≤ l1.length ∧ i = .int .i64 k ∧ EqTo l1 l2 k ∧ Below w.heap.size w wr
set_option maxHeartbeats 4000000 in
set_option maxRecDepth 100000 in
theorem pequal_any (l1 l2 : List (Int × Int)) (va vb : Value) (w : World) (ha : w.ownsRow 0 79 2 va l1.length (blockCells l1)) (hb : w.ownsRow 0 79 2 vb l2.length (blockCells l2)) (h1 : l1.length ≤ 4294967296) (h2 : l2.length ≤ 4294967296) :
    Calls Tryz.prog 73 #[va, vb] w fun e w' => e = .returned (.bool (decide (l1 = l2))) ∧ Below w.heap.size w w' := by
  have hca := blockCells_len l1
  have hcb := blockCells_len l2
  obtain ⟨pa, ca, rfl⟩ := row_shape ha
  obtain ⟨pb, cb, rfl⟩ := row_shape hb
  have HA := Lib.hid ha
  have HB := Lib.hid hb
  clear ha hb
  by_cases hll : l1.length = l2.length
  · have hlb : ((l1.length : Int) != l2.length) = false := by simp [hll]
    go_enter Tryz.func73, Tryz.ntmps73
    go_wp2
    go_loopw [5, 13] (fun _ i wr => EqRel l1 l2 w i wr) (fun _ i _ => l1.length - (intOf i).toNat)
    case atStart => exact ⟨0, by omega, rfl, fun j hj => by omega, Below.refl _ _⟩
    case round =>
      obtain ⟨k, hk, rfl, hno, hbe⟩ := hrel
      by_cases hlt : k < l1.length
      · have hkl : (k : Int) < l1.length := by omega
        obtain ⟨⟨a1, a2⟩, hx⟩ : ∃ x, l1[k]? = some x := ⟨_, List.getElem?_eq_getElem hlt⟩
        obtain ⟨⟨b1, b2⟩, hy⟩ : ∃ x, l2[k]? = some x := ⟨_, List.getElem?_eq_getElem (by omega)⟩
        have hra := ((BS.start w).below hbe).row HA.out
        have hrb := ((BS.start w).below hbe).row HB.out
        obtain ⟨ga, cap, hg⟩ := Joins.ownsRow_form hra (by omega)
        simp only [Value.slice.injEq, true_and] at hg
        obtain ⟨rfl, rfl⟩ := hg
        obtain ⟨gb, cap, hg⟩ := Joins.ownsRow_form hrb (by omega)
        simp only [Value.slice.injEq, true_and] at hg
        obtain ⟨rfl, rfl⟩ := hg
        obtain ⟨p0, p1⟩ := block_cell hx
        obtain ⟨r0, r1⟩ := block_cell hy
        have q0 := (hra.cellAt (k * 2) (by omega)).trans p0
        have q1 := (hra.cellAt (k * 2 + 1) (by omega)).trans p1
        have u0 := (hrb.cellAt (k * 2) (by omega)).trans r0
        have u1 := (hrb.cellAt (k * 2 + 1) (by omega)).trans r1
        have HNo := Lib.hid (fun h : (a1, a2) ≠ (b1, b2) => eqL_no hx hy h)
        have HYes := Lib.hid (fun h : (a1, a2) = (b1, b2) => eqL_step hno (hx.trans (h ▸ hy.symm)))
        clear p0 p1 r0 r1 hx hy hra hrb hno
        dsimp only at q0 q1 u0 u1
        by_cases e1 : a1 = b1
        · by_cases e2 : a2 = b2
          · have HS := Lib.hid (HYes.out (by rw [e1, e2]))
            subst e1 e2
            clear HNo HYes
            go_wp2_with fail
            refine wp_region_noPanic ?_
            refine wp_region_held_drew (S := fun w' => (w'.cell? ⟨ga, k * 2, none⟩ = some (.int .i64 a1) ∧ w'.cell? ⟨ga, k * 2 + 1, none⟩ = some (.int .i64 a2)) ∧ w'.cell? ⟨gb, k * 2, none⟩ = some (.int .i64 a1) ∧ w'.cell? ⟨gb, k * 2 + 1, none⟩ = some (.int .i64 a2)) (by kernel_rfl) ?_ (fun hHeld => ?_)
            · exact ⟨⟨q0, q1⟩, u0, u1⟩
            refine wpAnyH_take (i := 0) (oi := _) (v := ?_) rfl (by kernel_rfl) (by kernel_rfl) (by kernel_rfl) (fun _ _ _ h => h) (Or.inl ⟨by rfl, ?_⟩) (by assumption) ?_
            rotate_left
            · intro w hSw; (try dsimp only at hSw); go_simp; try with_reducible rfl
            try simp only [Act.put, zA, zB, zD, zE, zF]
            refine wpAnyH_take (i := 1) (oi := _) (v := ?_) rfl (by kernel_rfl) (by kernel_rfl) (by kernel_rfl) (fun _ _ _ h => h) (Or.inl ⟨by rfl, ?_⟩) (by assumption) ?_
            rotate_left
            · intro w hSw; (try dsimp only at hSw); go_simp; try with_reducible rfl
            try simp only [Act.put, zA, zB, zC, zD, zE, zF]
            refine wpAnyH_take (i := 2) (oi := _) (v := ?_) rfl (by kernel_rfl) (by kernel_rfl) (by kernel_rfl) (fun _ _ _ h => h) (Or.inl ⟨by rfl, ?_⟩) (by assumption) ?_
            rotate_left
            · intro w hSw; (try dsimp only at hSw); go_simp; try with_reducible rfl
            try simp only [Act.put, zA, zB, zC, zD, zE, zF]
            refine wpAnyH_take (i := 3) (oi := _) (v := ?_) rfl (by kernel_rfl) (by kernel_rfl) (by kernel_rfl) (fun _ _ _ h => h) (Or.inl ⟨by rfl, ?_⟩) (by assumption) ?_
            rotate_left
            · intro w hSw; (try dsimp only at hSw); go_simp; try with_reducible rfl
            try simp only [Act.put, zA, zB, zC, zD, zE, zF]
            refine wpAnyH_take (i := 4) (oi := _) (v := ?_) rfl (by kernel_rfl) (by kernel_rfl) (by kernel_rfl) (fun _ _ _ h => h) (Or.inl ⟨by rfl, ?_⟩) (by assumption) ?_
            rotate_left
            · intro w hSw; (try dsimp only at hSw); go_simp; try with_reducible rfl
            try simp only [Act.put, zA, zB, zC, zD, zE, zF]
            refine wpAnyH_take (i := 5) (oi := _) (v := ?_) rfl (by kernel_rfl) (by kernel_rfl) (by kernel_rfl) (fun _ _ _ h => h) (Or.inl ⟨by rfl, ?_⟩) (by assumption) ?_
            rotate_left
            · intro w hSw; (try dsimp only at hSw); go_simp; try with_reducible rfl
            try simp only [Act.put, zA, zB, zC, zD, zE, zF]
            refine wpAnyH_take (i := 6) (oi := _) (v := ?_) rfl (by kernel_rfl) (by kernel_rfl) (by kernel_rfl) (fun _ _ _ h => h) (Or.inl ⟨by rfl, ?_⟩) (by assumption) ?_
            rotate_left
            · intro w hSw; (try dsimp only at hSw); go_simp; try with_reducible rfl
            try simp only [Act.put, zA, zB, zC, zD, zE, zF]
            refine wpAnyH_take (i := 7) (oi := _) (v := ?_) rfl (by kernel_rfl) (by kernel_rfl) (by kernel_rfl) (fun _ _ _ h => h) (Or.inl ⟨by rfl, ?_⟩) (by assumption) ?_
            rotate_left
            · intro w hSw; (try dsimp only at hSw); go_simp; try with_reducible rfl
            try simp only [Act.put, zA, zB, zC, zD, zE, zF]
            refine wpAnyH_take (i := 8) (oi := _) (v := ?_) rfl (by kernel_rfl) (by kernel_rfl) (by kernel_rfl) (fun _ _ _ h => h) (Or.inl ⟨by rfl, ?_⟩) (by assumption) ?_
            rotate_left
            · intro w hSw; (try dsimp only at hSw); go_simp; try with_reducible rfl
            try simp only [Act.put, zA, zB, zC, zD, zE, zF]
            refine wpAnyH_done (by kernel_rfl) ?_ _
            refine NoPanic.normal ?_
            go_wp2_with fail
            go_roundw
            case rel => exact ⟨k + 1, by omega, by go_num, HS.out, hbe.drew⟩
            case measure => simp [intOf]; omega
          · have hb2 : (a2 == b2) = false := by simpa using e2
            have HN := Lib.hid (HNo.out (by simp [e2]))
            subst e1
            clear HNo HYes e2
            go_wp2_with fail
            refine wp_region_noPanic ?_
            refine wp_region_held_drew (S := fun w' => (w'.cell? ⟨ga, k * 2, none⟩ = some (.int .i64 a1) ∧ w'.cell? ⟨ga, k * 2 + 1, none⟩ = some (.int .i64 a2)) ∧ w'.cell? ⟨gb, k * 2, none⟩ = some (.int .i64 a1) ∧ w'.cell? ⟨gb, k * 2 + 1, none⟩ = some (.int .i64 b2)) (by kernel_rfl) ?_ (fun hHeld => ?_)
            · exact ⟨⟨q0, q1⟩, u0, u1⟩
            refine wpAnyH_take (i := 0) (oi := _) (v := ?_) rfl (by kernel_rfl) (by kernel_rfl) (by kernel_rfl) (fun _ _ _ h => h) (Or.inl ⟨by rfl, ?_⟩) (by assumption) ?_
            rotate_left
            · intro w hSw; (try dsimp only at hSw); go_simp; try with_reducible rfl
            try simp only [Act.put, zA, zB, zD, zE, zF]
            refine wpAnyH_take (i := 1) (oi := _) (v := ?_) rfl (by kernel_rfl) (by kernel_rfl) (by kernel_rfl) (fun _ _ _ h => h) (Or.inl ⟨by rfl, ?_⟩) (by assumption) ?_
            rotate_left
            · intro w hSw; (try dsimp only at hSw); go_simp; try with_reducible rfl
            try simp only [Act.put, zA, zB, zC, zD, zE, zF]
            refine wpAnyH_take (i := 2) (oi := _) (v := ?_) rfl (by kernel_rfl) (by kernel_rfl) (by kernel_rfl) (fun _ _ _ h => h) (Or.inl ⟨by rfl, ?_⟩) (by assumption) ?_
            rotate_left
            · intro w hSw; (try dsimp only at hSw); go_simp; try with_reducible rfl
            try simp only [Act.put, zA, zB, zC, zD, zE, zF]
            refine wpAnyH_take (i := 3) (oi := _) (v := ?_) rfl (by kernel_rfl) (by kernel_rfl) (by kernel_rfl) (fun _ _ _ h => h) (Or.inl ⟨by rfl, ?_⟩) (by assumption) ?_
            rotate_left
            · intro w hSw; (try dsimp only at hSw); go_simp; try with_reducible rfl
            try simp only [Act.put, zA, zB, zC, zD, zE, zF]
            refine wpAnyH_take (i := 4) (oi := _) (v := ?_) rfl (by kernel_rfl) (by kernel_rfl) (by kernel_rfl) (fun _ _ _ h => h) (Or.inl ⟨by rfl, ?_⟩) (by assumption) ?_
            rotate_left
            · intro w hSw; (try dsimp only at hSw); go_simp; try with_reducible rfl
            try simp only [Act.put, zA, zB, zC, zD, zE, zF]
            refine wpAnyH_take (i := 5) (oi := _) (v := ?_) rfl (by kernel_rfl) (by kernel_rfl) (by kernel_rfl) (fun _ _ _ h => h) (Or.inl ⟨by rfl, ?_⟩) (by assumption) ?_
            rotate_left
            · intro w hSw; (try dsimp only at hSw); go_simp; try with_reducible rfl
            try simp only [Act.put, zA, zB, zC, zD, zE, zF]
            refine wpAnyH_take (i := 6) (oi := _) (v := ?_) rfl (by kernel_rfl) (by kernel_rfl) (by kernel_rfl) (fun _ _ _ h => h) (Or.inl ⟨by rfl, ?_⟩) (by assumption) ?_
            rotate_left
            · intro w hSw; (try dsimp only at hSw); go_simp; try with_reducible rfl
            try simp only [Act.put, zA, zB, zC, zD, zE, zF]
            refine wpAnyH_take (i := 7) (oi := _) (v := ?_) rfl (by kernel_rfl) (by kernel_rfl) (by kernel_rfl) (fun _ _ _ h => h) (Or.inl ⟨by rfl, ?_⟩) (by assumption) ?_
            rotate_left
            · intro w hSw; (try dsimp only at hSw); go_simp; try with_reducible rfl
            try simp only [Act.put, zA, zB, zC, zD, zE, zF]
            refine wpAnyH_take (i := 8) (oi := _) (v := ?_) rfl (by kernel_rfl) (by kernel_rfl) (by kernel_rfl) (fun _ _ _ h => h) (Or.inl ⟨by rfl, ?_⟩) (by assumption) ?_
            rotate_left
            · intro w hSw; (try dsimp only at hSw); go_simp; try with_reducible rfl
            try simp only [Act.put, zA, zB, zC, zD, zE, zF]
            refine wpAnyH_done (by kernel_rfl) ?_ _
            refine NoPanic.normal ?_
            go_wp2
            go_ret
            exact ⟨ret_bool HN.out.symm, hbe.drew⟩
        · have hb1 : (a1 == b1) = false := by simpa using e1
          have HN := Lib.hid (HNo.out (by simp [e1]))
          clear HNo HYes e1
          go_wp2_with fail
          refine wp_region_noPanic ?_
          refine wp_region_held_drew (S := fun w' => (w'.cell? ⟨ga, k * 2, none⟩ = some (.int .i64 a1) ∧ w'.cell? ⟨ga, k * 2 + 1, none⟩ = some (.int .i64 a2)) ∧ w'.cell? ⟨gb, k * 2, none⟩ = some (.int .i64 b1) ∧ w'.cell? ⟨gb, k * 2 + 1, none⟩ = some (.int .i64 b2)) (by kernel_rfl) ?_ (fun hHeld => ?_)
          · exact ⟨⟨q0, q1⟩, u0, u1⟩
          refine wpAnyH_take (i := 0) (oi := _) (v := ?_) rfl (by kernel_rfl) (by kernel_rfl) (by kernel_rfl) (fun _ _ _ h => h) (Or.inl ⟨by rfl, ?_⟩) (by assumption) ?_
          rotate_left
          · intro w hSw; (try dsimp only at hSw); go_simp; try with_reducible rfl
          try simp only [Act.put, zA, zB, zD, zE, zF]
          refine wpAnyH_take (i := 1) (oi := _) (v := ?_) rfl (by kernel_rfl) (by kernel_rfl) (by kernel_rfl) (fun _ _ _ h => h) (Or.inl ⟨by rfl, ?_⟩) (by assumption) ?_
          rotate_left
          · intro w hSw; (try dsimp only at hSw); go_simp; try with_reducible rfl
          try simp only [Act.put, zA, zB, zC, zD, zE, zF]
          refine wpAnyH_take (i := 2) (oi := _) (v := ?_) rfl (by kernel_rfl) (by kernel_rfl) (by kernel_rfl) (fun _ _ _ h => h) (Or.inl ⟨by rfl, ?_⟩) (by assumption) ?_
          rotate_left
          · intro w hSw; (try dsimp only at hSw); go_simp; try with_reducible rfl
          try simp only [Act.put, zA, zB, zC, zD, zE, zF]
          refine wpAnyH_take (i := 3) (oi := _) (v := ?_) rfl (by kernel_rfl) (by kernel_rfl) (by kernel_rfl) (fun _ _ _ h => h) (Or.inl ⟨by rfl, ?_⟩) (by assumption) ?_
          rotate_left
          · intro w hSw; (try dsimp only at hSw); go_simp; try with_reducible rfl
          try simp only [Act.put, zA, zB, zC, zD, zE, zF]
          refine wpAnyH_take (i := 4) (oi := _) (v := ?_) rfl (by kernel_rfl) (by kernel_rfl) (by kernel_rfl) (fun _ _ _ h => h) (Or.inl ⟨by rfl, ?_⟩) (by assumption) ?_
          rotate_left
          · intro w hSw; (try dsimp only at hSw); go_simp; try with_reducible rfl
          try simp only [Act.put, zA, zB, zC, zD, zE, zF]
          refine wpAnyH_take (i := 5) (oi := _) (v := ?_) rfl (by kernel_rfl) (by kernel_rfl) (by kernel_rfl) (fun _ _ _ h => h) (Or.inl ⟨by rfl, ?_⟩) (by assumption) ?_
          rotate_left
          · intro w hSw; (try dsimp only at hSw); go_simp; try with_reducible rfl
          try simp only [Act.put, zA, zB, zC, zD, zE, zF]
          refine wpAnyH_take (i := 6) (oi := _) (v := ?_) rfl (by kernel_rfl) (by kernel_rfl) (by kernel_rfl) (fun _ _ _ h => h) (Or.inl ⟨by rfl, ?_⟩) (by assumption) ?_
          rotate_left
          · intro w hSw; (try dsimp only at hSw); go_simp; try with_reducible rfl
          try simp only [Act.put, zA, zB, zC, zD, zE, zF]
          refine wpAnyH_take (i := 7) (oi := _) (v := ?_) rfl (by kernel_rfl) (by kernel_rfl) (by kernel_rfl) (fun _ _ _ h => h) (Or.inl ⟨by rfl, ?_⟩) (by assumption) ?_
          rotate_left
          · intro w hSw; (try dsimp only at hSw); go_simp; try with_reducible rfl
          try simp only [Act.put, zA, zB, zC, zD, zE, zF]
          refine wpAnyH_take (i := 8) (oi := _) (v := ?_) rfl (by kernel_rfl) (by kernel_rfl) (by kernel_rfl) (fun _ _ _ h => h) (Or.inl ⟨by rfl, ?_⟩) (by assumption) ?_
          rotate_left
          · intro w hSw; (try dsimp only at hSw); go_simp; try with_reducible rfl
          try simp only [Act.put, zA, zB, zC, zD, zE, zF]
          refine wpAnyH_done (by kernel_rfl) ?_ _
          refine NoPanic.normal ?_
          go_wp2
          go_ret
          exact ⟨ret_bool HN.out.symm, hbe.drew⟩
      · have hkl : ¬ (k : Int) < l1.length := by omega
        have hke : k = l1.length := by omega
        rw [hke] at hno
        have HY := Lib.hid (eqL_yes hll hno)
        clear hno hke
        go_wp2
        go_ret
        exact ⟨ret_bool HY.out.symm, hbe⟩
  · have hlb : ((l1.length : Int) != l2.length) = true := by simp; omega
    have HN := Lib.hid (eqL_len hll)
    clear hll
    go_enter Tryz.func73, Tryz.ntmps73
    go_wp2
    go_ret
    exact ⟨ret_bool HN.out.symm, Below.refl _ _⟩
section
variable (l1 l2 : List (Int × Int)) (va vb : Value) (f g : Nat → Int) (w : World)
set_option maxHeartbeats 4000000 in
set_option maxRecDepth 100000 in
theorem psame_any (ha : w.ownsRow 0 79 2 va l1.length (blockCells l1)) (hb : w.ownsRow 0 79 2 vb l2.length (blockCells l2)) (h1 : l1.length ≤ 4294967296) (h2 : l2.length ≤ 4294967296) :
    Calls Tryz.prog 27 #[stV va f, stV vb g] w fun e w' => e = .returned (.bool (decide (l1 = l2) && eq8 f g)) ∧ Below w.heap.size w w' := by
  obtain ⟨pa, ca, rfl⟩ := row_shape ha
  obtain ⟨pb, cb, rfl⟩ := row_shape hb
  have S2 := ((BS.start w).alloc (.cells #[.slice pa l1.length ca, .int .i64 (f 0), .int .i64 (f 1), .int .i64 (f 2), .int .i64 (f 3), .int .i64 (f 4), .int .i64 (f 5), .int .i64 (f 6), .int .i64 (f 7)] 33)).alloc (.cells #[.slice pb l2.length cb, .int .i64 (g 0), .int .i64 (g 1), .int .i64 (g 2), .int .i64 (g 3), .int .i64 (g 4), .int .i64 (g 5), .int .i64 (g 6), .int .i64 (g 7)] 33)
  have HQ := Lib.hid (fun W h1' h2' => pequal_any l1 l2 (.slice pa l1.length ca) (.slice pb l2.length cb) W h1' h2' h1 h2)
  have c1 := loc_old (.cells #[.slice pb l2.length cb, .int .i64 (g 0), .int .i64 (g 1), .int .i64 (g 2), .int .i64 (g 3), .int .i64 (g 4), .int .i64 (g 5), .int .i64 (g 6), .int .i64 (g 7)] 33) (by simp) (loc_alloc w #[.slice pa l1.length ca, .int .i64 (f 0), .int .i64 (f 1), .int .i64 (f 2), .int .i64 (f 3), .int .i64 (f 4), .int .i64 (f 5), .int .i64 (f 6), .int .i64 (f 7)] 33)
  have c2 := loc_alloc (w.alloc (.cells #[.slice pa l1.length ca, .int .i64 (f 0), .int .i64 (f 1), .int .i64 (f 2), .int .i64 (f 3), .int .i64 (f 4), .int .i64 (f 5), .int .i64 (f 6), .int .i64 (f 7)] 33)) #[.slice pb l2.length cb, .int .i64 (g 0), .int .i64 (g 1), .int .i64 (g 2), .int .i64 (g 3), .int .i64 (g 4), .int .i64 (g 5), .int .i64 (g 6), .int .i64 (g 7)] 33
  have ha2 := S2.row ha
  have hb2 := S2.row hb
  have hE := run_eq8 f g
  unfold stV
  generalize decide (l1 = l2) = z at *
  generalize eq8 f g = y at *
  generalize f 0 = f0 at *
  generalize f 1 = f1 at *
  generalize f 2 = f2 at *
  generalize f 3 = f3 at *
  generalize f 4 = f4 at *
  generalize f 5 = f5 at *
  generalize f 6 = f6 at *
  generalize f 7 = f7 at *
  generalize g 0 = g0 at *
  generalize g 1 = g1 at *
  generalize g 2 = g2 at *
  generalize g 3 = g3 at *
  generalize g 4 = g4 at *
  generalize g 5 = g5 at *
  generalize g 6 = g6 at *
  generalize g 7 = g7 at *
  simp only [World.size_alloc] at c2
  have hAB := Lib.hid (fun _ : Unit => And.intro ha2 hb2)
  have HS2 := Lib.hid S2.bel
  clear ha hb h1 h2 ha2 hb2 S2
  go_enter Tryz.func27, Tryz.ntmps27
  go_wp2_with fail
  refine (HQ.out _ (hAB.out ()).1 (hAB.out ()).2).mono ?_
  rintro e w1 ⟨rfl, r1⟩
  have d1 := ((BS.start _).below r1).oldbox c1 (by simp; omega)
  have d2 := ((BS.start _).below r1).oldbox c2 (by simp)
  have HB := Lib.hid (HS2.out.trans (r1.mono HS2.out.size))
  clear c1 c2 hAB HQ HS2 r1
  cases z
  · go_wp2
    go_ret
    exact ⟨rfl, HB.out⟩
  · go_wp2
    go_ret
    exact ⟨ret_bool (by simp), HB.out⟩
set_option maxHeartbeats 4000000 in
set_option maxRecDepth 100000 in
theorem rsame_any (ha : w.ownsRow 0 79 2 va l1.length (blockCells l1)) (hb : w.ownsRow 0 79 2 vb l2.length (blockCells l2)) (h1 : l1.length ≤ 4294967296) (h2 : l2.length ≤ 4294967296) :
    Calls Tryz.prog 17 #[stV va f, stV vb g] w fun e w' => e = .returned (.bool (decide (l1 = l2) && eq8 f g)) ∧ Below w.heap.size w w' := by
  have hca := blockCells_len l1
  have hcb := blockCells_len l2
  obtain ⟨pa, ca, rfl⟩ := row_shape ha
  obtain ⟨pb, cb, rfl⟩ := row_shape hb
  have S2 := ((BS.start w).alloc (.cells #[.slice pa l1.length ca, .int .i64 (f 0), .int .i64 (f 1), .int .i64 (f 2), .int .i64 (f 3), .int .i64 (f 4), .int .i64 (f 5), .int .i64 (f 6), .int .i64 (f 7)] 33)).alloc (.cells #[.slice pb l2.length cb, .int .i64 (g 0), .int .i64 (g 1), .int .i64 (g 2), .int .i64 (g 3), .int .i64 (g 4), .int .i64 (g 5), .int .i64 (g 6), .int .i64 (g 7)] 33)
  have c1 := loc_old (.cells #[.slice pb l2.length cb, .int .i64 (g 0), .int .i64 (g 1), .int .i64 (g 2), .int .i64 (g 3), .int .i64 (g 4), .int .i64 (g 5), .int .i64 (g 6), .int .i64 (g 7)] 33) (by simp) (loc_alloc w #[.slice pa l1.length ca, .int .i64 (f 0), .int .i64 (f 1), .int .i64 (f 2), .int .i64 (f 3), .int .i64 (f 4), .int .i64 (f 5), .int .i64 (f 6), .int .i64 (f 7)] 33)
  have c2 := loc_alloc (w.alloc (.cells #[.slice pa l1.length ca, .int .i64 (f 0), .int .i64 (f 1), .int .i64 (f 2), .int .i64 (f 3), .int .i64 (f 4), .int .i64 (f 5), .int .i64 (f 6), .int .i64 (f 7)] 33)) #[.slice pb l2.length cb, .int .i64 (g 0), .int .i64 (g 1), .int .i64 (g 2), .int .i64 (g 3), .int .i64 (g 4), .int .i64 (g 5), .int .i64 (g 6), .int .i64 (g 7)] 33
  have ha2 := S2.row ha
  have hb2 := S2.row hb
  have hE := run_eq8 f g
  unfold stV
  generalize eq8 f g = y at *
  generalize f 0 = f0 at *
  generalize f 1 = f1 at *
  generalize f 2 = f2 at *
  generalize f 3 = f3 at *
  generalize f 4 = f4 at *
  generalize f 5 = f5 at *
  generalize f 6 = f6 at *
  generalize f 7 = f7 at *
  generalize g 0 = g0 at *
  generalize g 1 = g1 at *
  generalize g 2 = g2 at *
  generalize g 3 = g3 at *
  generalize g 4 = g4 at *
  generalize g 5 = g5 at *
  generalize g 6 = g6 at *
  generalize g 7 = g7 at *
  simp only [World.size_alloc] at c2
  have HA := Lib.hid (fun _ : Unit => ha2)
  have HB := Lib.hid (fun _ : Unit => hb2)
  have HS2 := Lib.hid S2.bel
  have HC := Lib.hid (fun _ : Unit => And.intro c1 c2)
  clear ha hb ha2 hb2 S2
  by_cases hll : l1.length = l2.length
  · have hlb : ((l1.length : Int) != l2.length) = false := by simp [hll]
    have HLL := Lib.hid hll
    clear hll
    cases y
    · skip
      go_enter Tryz.func17, Tryz.ntmps17
      go_wp2
      go_ret
      exact ⟨ret_bool (by simp), HS2.out⟩
    · skip
      go_enter Tryz.func17, Tryz.ntmps17
      go_wp2_with fail
      clear hE
      go_loopw [5] (fun i wr => EqRel l1 l2 ((w.alloc (.cells #[.slice pa l1.length ca, .int .i64 f0, .int .i64 f1, .int .i64 f2, .int .i64 f3, .int .i64 f4, .int .i64 f5, .int .i64 f6, .int .i64 f7] 33)).alloc (.cells #[.slice pb l2.length cb, .int .i64 g0, .int .i64 g1, .int .i64 g2, .int .i64 g3, .int .i64 g4, .int .i64 g5, .int .i64 g6, .int .i64 g7] 33)) i wr) (fun i _ => l1.length - (intOf i).toNat)
      case atStart => exact ⟨0, by omega, rfl, fun j hj => by omega, Below.refl _ _⟩
      case round =>
        clear c1 c2
        obtain ⟨k, hk, rfl, hno, hbe⟩ := hrel
        have s0 : wr.cell? ⟨w.heap.size, 0, none⟩ = some (.slice pa l1.length ca) := ((BS.start _).below hbe).oldbox (HC.out ()).1 (by simp; omega) 0
        have s1 : wr.cell? ⟨w.heap.size + 1, 0, none⟩ = some (.slice pb l2.length cb) := ((BS.start _).below hbe).oldbox (HC.out ()).2 (by simp) 0
        have HBe := Lib.hid (HS2.out.trans (hbe.mono HS2.out.size))
        have HB2 := Lib.hid (fun _ : Unit => hbe)
        by_cases hlt : k < l1.length
        · have hkl : (k : Int) < l1.length := by omega
          obtain ⟨⟨a1, a2⟩, hx⟩ : ∃ x, l1[k]? = some x := ⟨_, List.getElem?_eq_getElem hlt⟩
          obtain ⟨⟨b1, b2⟩, hy⟩ : ∃ x, l2[k]? = some x := ⟨_, List.getElem?_eq_getElem (by have := HLL.out; omega)⟩
          have hra := ((BS.start _).below hbe).row (HA.out ())
          have hrb := ((BS.start _).below hbe).row (HB.out ())
          obtain ⟨ga, cap, hg⟩ := Joins.ownsRow_form hra (by omega)
          simp only [Value.slice.injEq, true_and] at hg
          obtain ⟨rfl, rfl⟩ := hg
          obtain ⟨gb, cap, hg⟩ := Joins.ownsRow_form hrb (by have := HLL.out; omega)
          simp only [Value.slice.injEq, true_and] at hg
          obtain ⟨rfl, rfl⟩ := hg
          obtain ⟨p0, p1⟩ := block_cell hx
          obtain ⟨r0, r1⟩ := block_cell hy
          have q0 := (hra.cellAt (k * 2) (by omega)).trans p0
          have q1 := (hra.cellAt (k * 2 + 1) (by omega)).trans p1
          have u0 := (hrb.cellAt (k * 2) (by have := HLL.out; omega)).trans r0
          have u1 := (hrb.cellAt (k * 2 + 1) (by have := HLL.out; omega)).trans r1
          have HNo := Lib.hid (fun h : (a1, a2) ≠ (b1, b2) => eqL_no hx hy h)
          have HYes := Lib.hid (fun h : (a1, a2) = (b1, b2) => eqL_step hno (hx.trans (h ▸ hy.symm)))
          clear p0 p1 r0 r1 hx hy hra hrb hno hbe HA HB HC HS2
          have hkl2 : (k : Int) < l2.length := by have := HLL.out; omega
          dsimp only at q0 q1 u0 u1
          by_cases e1 : a1 = b1
          · by_cases e2 : a2 = b2
            · have HS := Lib.hid (HYes.out (by rw [e1, e2]))
              subst e1 e2
              clear HNo HYes
              go_wp2_with fail
              refine wp_region_noPanic ?_
              refine wp_region_held_drew (S := fun w' => (w'.cell? ⟨w.heap.size, 0, none⟩ = some (.slice (some ⟨ga, 0, none⟩) l1.length ca) ∧ w'.cell? ⟨w.heap.size + 1, 0, none⟩ = some (.slice (some ⟨gb, 0, none⟩) l2.length cb)) ∧ (w'.cell? ⟨ga, k * 2, none⟩ = some (.int .i64 a1) ∧ w'.cell? ⟨ga, k * 2 + 1, none⟩ = some (.int .i64 a2)) ∧ w'.cell? ⟨gb, k * 2, none⟩ = some (.int .i64 a1) ∧ w'.cell? ⟨gb, k * 2 + 1, none⟩ = some (.int .i64 a2)) (by kernel_rfl) ?_ (fun hHeld => ?_)
              · exact ⟨⟨s0, s1⟩, ⟨q0, q1⟩, u0, u1⟩
              refine wpAnyH_take (i := 0) (oi := _) (v := ?_) rfl (by kernel_rfl) (by kernel_rfl) (by kernel_rfl) (fun _ _ _ h => h) (Or.inl ⟨by rfl, ?_⟩) (by assumption) ?_
              rotate_left
              · intro w hSw; (try dsimp only at hSw); go_simp; try with_reducible rfl
              try simp only [Act.put, zA, zB, zD, zE, zF]
              refine wpAnyH_take (i := 1) (oi := _) (v := ?_) rfl (by kernel_rfl) (by kernel_rfl) (by kernel_rfl) (fun _ _ _ h => h) (Or.inl ⟨by rfl, ?_⟩) (by assumption) ?_
              rotate_left
              · intro w hSw; (try dsimp only at hSw); go_simp; try with_reducible rfl
              try simp only [Act.put, zA, zB, zC, zD, zE, zF]
              refine wpAnyH_take (i := 2) (oi := _) (v := ?_) rfl (by kernel_rfl) (by kernel_rfl) (by kernel_rfl) (fun _ _ _ h => h) (Or.inl ⟨by rfl, ?_⟩) (by assumption) ?_
              rotate_left
              · intro w hSw; (try dsimp only at hSw); go_simp; try with_reducible rfl
              try simp only [Act.put, zA, zB, zC, zD, zE, zF]
              refine wpAnyH_take (i := 3) (oi := _) (v := ?_) rfl (by kernel_rfl) (by kernel_rfl) (by kernel_rfl) (fun _ _ _ h => h) (Or.inl ⟨by rfl, ?_⟩) (by assumption) ?_
              rotate_left
              · intro w hSw; (try dsimp only at hSw); go_simp; try with_reducible rfl
              try simp only [Act.put, zA, zB, zC, zD, zE, zF]
              refine wpAnyH_take (i := 4) (oi := _) (v := ?_) rfl (by kernel_rfl) (by kernel_rfl) (by kernel_rfl) (fun _ _ _ h => h) (Or.inl ⟨by rfl, ?_⟩) (by assumption) ?_
              rotate_left
              · intro w hSw; (try dsimp only at hSw); go_simp; try with_reducible rfl
              try simp only [Act.put, zA, zB, zC, zD, zE, zF]
              refine wpAnyH_take (i := 5) (oi := _) (v := ?_) rfl (by kernel_rfl) (by kernel_rfl) (by kernel_rfl) (fun _ _ _ h => h) (Or.inl ⟨by rfl, ?_⟩) (by assumption) ?_
              rotate_left
              · intro w hSw; (try dsimp only at hSw); go_simp; try with_reducible rfl
              try simp only [Act.put, zA, zB, zC, zD, zE, zF]
              refine wpAnyH_take (i := 6) (oi := _) (v := ?_) rfl (by kernel_rfl) (by kernel_rfl) (by kernel_rfl) (fun _ _ _ h => h) (Or.inl ⟨by rfl, ?_⟩) (by assumption) ?_
              rotate_left
              · intro w hSw; (try dsimp only at hSw); go_simp; try with_reducible rfl
              try simp only [Act.put, zA, zB, zC, zD, zE, zF]
              refine wpAnyH_take (i := 7) (oi := _) (v := ?_) rfl (by kernel_rfl) (by kernel_rfl) (by kernel_rfl) (fun _ _ _ h => h) (Or.inl ⟨by rfl, ?_⟩) (by assumption) ?_
              rotate_left
              · intro w hSw; (try dsimp only at hSw); go_simp; try with_reducible rfl
              try simp only [Act.put, zA, zB, zC, zD, zE, zF]
              refine wpAnyH_take (i := 8) (oi := _) (v := ?_) rfl (by kernel_rfl) (by kernel_rfl) (by kernel_rfl) (fun _ _ _ h => h) (Or.inl ⟨by rfl, ?_⟩) (by assumption) ?_
              rotate_left
              · intro w hSw; (try dsimp only at hSw); go_simp; try with_reducible rfl
              try simp only [Act.put, zA, zB, zC, zD, zE, zF]
              refine wpAnyH_take (i := 9) (oi := _) (v := ?_) rfl (by kernel_rfl) (by kernel_rfl) (by kernel_rfl) (fun _ _ _ h => h) (Or.inl ⟨by rfl, ?_⟩) (by assumption) ?_
              rotate_left
              · intro w hSw; (try dsimp only at hSw); go_simp; try with_reducible rfl
              try simp only [Act.put, zA, zB, zC, zD, zE, zF]
              refine wpAnyH_take (i := 10) (oi := _) (v := ?_) rfl (by kernel_rfl) (by kernel_rfl) (by kernel_rfl) (fun _ _ _ h => h) (Or.inl ⟨by rfl, ?_⟩) (by assumption) ?_
              rotate_left
              · intro w hSw; (try dsimp only at hSw); go_simp; try with_reducible rfl
              try simp only [Act.put, zA, zB, zC, zD, zE, zF]
              refine wpAnyH_done (by kernel_rfl) ?_ _
              refine NoPanic.normal ?_
              go_wp2_with fail
              go_roundw
              case rel => exact ⟨k + 1, by omega, by go_num, HS.out, (HB2.out ()).drew⟩
              case measure => simp [intOf]; omega
            · have hb2 : (a2 == b2) = false := by simpa using e2
              have HN := Lib.hid (HNo.out (by simp [e2]))
              subst e1
              clear HNo HYes e2
              go_wp2_with fail
              refine wp_region_noPanic ?_
              refine wp_region_held_drew (S := fun w' => (w'.cell? ⟨w.heap.size, 0, none⟩ = some (.slice (some ⟨ga, 0, none⟩) l1.length ca) ∧ w'.cell? ⟨w.heap.size + 1, 0, none⟩ = some (.slice (some ⟨gb, 0, none⟩) l2.length cb)) ∧ (w'.cell? ⟨ga, k * 2, none⟩ = some (.int .i64 a1) ∧ w'.cell? ⟨ga, k * 2 + 1, none⟩ = some (.int .i64 a2)) ∧ w'.cell? ⟨gb, k * 2, none⟩ = some (.int .i64 a1) ∧ w'.cell? ⟨gb, k * 2 + 1, none⟩ = some (.int .i64 b2)) (by kernel_rfl) ?_ (fun hHeld => ?_)
              · exact ⟨⟨s0, s1⟩, ⟨q0, q1⟩, u0, u1⟩
              refine wpAnyH_take (i := 0) (oi := _) (v := ?_) rfl (by kernel_rfl) (by kernel_rfl) (by kernel_rfl) (fun _ _ _ h => h) (Or.inl ⟨by rfl, ?_⟩) (by assumption) ?_
              rotate_left
              · intro w hSw; (try dsimp only at hSw); go_simp; try with_reducible rfl
              try simp only [Act.put, zA, zB, zD, zE, zF]
              refine wpAnyH_take (i := 1) (oi := _) (v := ?_) rfl (by kernel_rfl) (by kernel_rfl) (by kernel_rfl) (fun _ _ _ h => h) (Or.inl ⟨by rfl, ?_⟩) (by assumption) ?_
              rotate_left
              · intro w hSw; (try dsimp only at hSw); go_simp; try with_reducible rfl
              try simp only [Act.put, zA, zB, zC, zD, zE, zF]
              refine wpAnyH_take (i := 2) (oi := _) (v := ?_) rfl (by kernel_rfl) (by kernel_rfl) (by kernel_rfl) (fun _ _ _ h => h) (Or.inl ⟨by rfl, ?_⟩) (by assumption) ?_
              rotate_left
              · intro w hSw; (try dsimp only at hSw); go_simp; try with_reducible rfl
              try simp only [Act.put, zA, zB, zC, zD, zE, zF]
              refine wpAnyH_take (i := 3) (oi := _) (v := ?_) rfl (by kernel_rfl) (by kernel_rfl) (by kernel_rfl) (fun _ _ _ h => h) (Or.inl ⟨by rfl, ?_⟩) (by assumption) ?_
              rotate_left
              · intro w hSw; (try dsimp only at hSw); go_simp; try with_reducible rfl
              try simp only [Act.put, zA, zB, zC, zD, zE, zF]
              refine wpAnyH_take (i := 4) (oi := _) (v := ?_) rfl (by kernel_rfl) (by kernel_rfl) (by kernel_rfl) (fun _ _ _ h => h) (Or.inl ⟨by rfl, ?_⟩) (by assumption) ?_
              rotate_left
              · intro w hSw; (try dsimp only at hSw); go_simp; try with_reducible rfl
              try simp only [Act.put, zA, zB, zC, zD, zE, zF]
              refine wpAnyH_take (i := 5) (oi := _) (v := ?_) rfl (by kernel_rfl) (by kernel_rfl) (by kernel_rfl) (fun _ _ _ h => h) (Or.inl ⟨by rfl, ?_⟩) (by assumption) ?_
              rotate_left
              · intro w hSw; (try dsimp only at hSw); go_simp; try with_reducible rfl
              try simp only [Act.put, zA, zB, zC, zD, zE, zF]
              refine wpAnyH_take (i := 6) (oi := _) (v := ?_) rfl (by kernel_rfl) (by kernel_rfl) (by kernel_rfl) (fun _ _ _ h => h) (Or.inl ⟨by rfl, ?_⟩) (by assumption) ?_
              rotate_left
              · intro w hSw; (try dsimp only at hSw); go_simp; try with_reducible rfl
              try simp only [Act.put, zA, zB, zC, zD, zE, zF]
              refine wpAnyH_take (i := 7) (oi := _) (v := ?_) rfl (by kernel_rfl) (by kernel_rfl) (by kernel_rfl) (fun _ _ _ h => h) (Or.inl ⟨by rfl, ?_⟩) (by assumption) ?_
              rotate_left
              · intro w hSw; (try dsimp only at hSw); go_simp; try with_reducible rfl
              try simp only [Act.put, zA, zB, zC, zD, zE, zF]
              refine wpAnyH_take (i := 8) (oi := _) (v := ?_) rfl (by kernel_rfl) (by kernel_rfl) (by kernel_rfl) (fun _ _ _ h => h) (Or.inl ⟨by rfl, ?_⟩) (by assumption) ?_
              rotate_left
              · intro w hSw; (try dsimp only at hSw); go_simp; try with_reducible rfl
              try simp only [Act.put, zA, zB, zC, zD, zE, zF]
              refine wpAnyH_take (i := 9) (oi := _) (v := ?_) rfl (by kernel_rfl) (by kernel_rfl) (by kernel_rfl) (fun _ _ _ h => h) (Or.inl ⟨by rfl, ?_⟩) (by assumption) ?_
              rotate_left
              · intro w hSw; (try dsimp only at hSw); go_simp; try with_reducible rfl
              try simp only [Act.put, zA, zB, zC, zD, zE, zF]
              refine wpAnyH_take (i := 10) (oi := _) (v := ?_) rfl (by kernel_rfl) (by kernel_rfl) (by kernel_rfl) (fun _ _ _ h => h) (Or.inl ⟨by rfl, ?_⟩) (by assumption) ?_
              rotate_left
              · intro w hSw; (try dsimp only at hSw); go_simp; try with_reducible rfl
              try simp only [Act.put, zA, zB, zC, zD, zE, zF]
              refine wpAnyH_done (by kernel_rfl) ?_ _
              refine NoPanic.normal ?_
              go_wp2
              go_ret
              exact ⟨ret_bool (by simp [HN.out]), HBe.out.drew⟩
          · have hb1 : (a1 == b1) = false := by simpa using e1
            have HN := Lib.hid (HNo.out (by simp [e1]))
            clear HNo HYes e1
            go_wp2_with fail
            refine wp_region_noPanic ?_
            refine wp_region_held_drew (S := fun w' => (w'.cell? ⟨w.heap.size, 0, none⟩ = some (.slice (some ⟨ga, 0, none⟩) l1.length ca) ∧ w'.cell? ⟨w.heap.size + 1, 0, none⟩ = some (.slice (some ⟨gb, 0, none⟩) l2.length cb)) ∧ (w'.cell? ⟨ga, k * 2, none⟩ = some (.int .i64 a1) ∧ w'.cell? ⟨ga, k * 2 + 1, none⟩ = some (.int .i64 a2)) ∧ w'.cell? ⟨gb, k * 2, none⟩ = some (.int .i64 b1) ∧ w'.cell? ⟨gb, k * 2 + 1, none⟩ = some (.int .i64 b2)) (by kernel_rfl) ?_ (fun hHeld => ?_)
            · exact ⟨⟨s0, s1⟩, ⟨q0, q1⟩, u0, u1⟩
            refine wpAnyH_take (i := 0) (oi := _) (v := ?_) rfl (by kernel_rfl) (by kernel_rfl) (by kernel_rfl) (fun _ _ _ h => h) (Or.inl ⟨by rfl, ?_⟩) (by assumption) ?_
            rotate_left
            · intro w hSw; (try dsimp only at hSw); go_simp; try with_reducible rfl
            try simp only [Act.put, zA, zB, zD, zE, zF]
            refine wpAnyH_take (i := 1) (oi := _) (v := ?_) rfl (by kernel_rfl) (by kernel_rfl) (by kernel_rfl) (fun _ _ _ h => h) (Or.inl ⟨by rfl, ?_⟩) (by assumption) ?_
            rotate_left
            · intro w hSw; (try dsimp only at hSw); go_simp; try with_reducible rfl
            try simp only [Act.put, zA, zB, zC, zD, zE, zF]
            refine wpAnyH_take (i := 2) (oi := _) (v := ?_) rfl (by kernel_rfl) (by kernel_rfl) (by kernel_rfl) (fun _ _ _ h => h) (Or.inl ⟨by rfl, ?_⟩) (by assumption) ?_
            rotate_left
            · intro w hSw; (try dsimp only at hSw); go_simp; try with_reducible rfl
            try simp only [Act.put, zA, zB, zC, zD, zE, zF]
            refine wpAnyH_take (i := 3) (oi := _) (v := ?_) rfl (by kernel_rfl) (by kernel_rfl) (by kernel_rfl) (fun _ _ _ h => h) (Or.inl ⟨by rfl, ?_⟩) (by assumption) ?_
            rotate_left
            · intro w hSw; (try dsimp only at hSw); go_simp; try with_reducible rfl
            try simp only [Act.put, zA, zB, zC, zD, zE, zF]
            refine wpAnyH_take (i := 4) (oi := _) (v := ?_) rfl (by kernel_rfl) (by kernel_rfl) (by kernel_rfl) (fun _ _ _ h => h) (Or.inl ⟨by rfl, ?_⟩) (by assumption) ?_
            rotate_left
            · intro w hSw; (try dsimp only at hSw); go_simp; try with_reducible rfl
            try simp only [Act.put, zA, zB, zC, zD, zE, zF]
            refine wpAnyH_take (i := 5) (oi := _) (v := ?_) rfl (by kernel_rfl) (by kernel_rfl) (by kernel_rfl) (fun _ _ _ h => h) (Or.inl ⟨by rfl, ?_⟩) (by assumption) ?_
            rotate_left
            · intro w hSw; (try dsimp only at hSw); go_simp; try with_reducible rfl
            try simp only [Act.put, zA, zB, zC, zD, zE, zF]
            refine wpAnyH_take (i := 6) (oi := _) (v := ?_) rfl (by kernel_rfl) (by kernel_rfl) (by kernel_rfl) (fun _ _ _ h => h) (Or.inl ⟨by rfl, ?_⟩) (by assumption) ?_
            rotate_left
            · intro w hSw; (try dsimp only at hSw); go_simp; try with_reducible rfl
            try simp only [Act.put, zA, zB, zC, zD, zE, zF]
            refine wpAnyH_take (i := 7) (oi := _) (v := ?_) rfl (by kernel_rfl) (by kernel_rfl) (by kernel_rfl) (fun _ _ _ h => h) (Or.inl ⟨by rfl, ?_⟩) (by assumption) ?_
            rotate_left
            · intro w hSw; (try dsimp only at hSw); go_simp; try with_reducible rfl
            try simp only [Act.put, zA, zB, zC, zD, zE, zF]
            refine wpAnyH_take (i := 8) (oi := _) (v := ?_) rfl (by kernel_rfl) (by kernel_rfl) (by kernel_rfl) (fun _ _ _ h => h) (Or.inl ⟨by rfl, ?_⟩) (by assumption) ?_
            rotate_left
            · intro w hSw; (try dsimp only at hSw); go_simp; try with_reducible rfl
            try simp only [Act.put, zA, zB, zC, zD, zE, zF]
            refine wpAnyH_take (i := 9) (oi := _) (v := ?_) rfl (by kernel_rfl) (by kernel_rfl) (by kernel_rfl) (fun _ _ _ h => h) (Or.inl ⟨by rfl, ?_⟩) (by assumption) ?_
            rotate_left
            · intro w hSw; (try dsimp only at hSw); go_simp; try with_reducible rfl
            try simp only [Act.put, zA, zB, zC, zD, zE, zF]
            refine wpAnyH_take (i := 10) (oi := _) (v := ?_) rfl (by kernel_rfl) (by kernel_rfl) (by kernel_rfl) (fun _ _ _ h => h) (Or.inl ⟨by rfl, ?_⟩) (by assumption) ?_
            rotate_left
            · intro w hSw; (try dsimp only at hSw); go_simp; try with_reducible rfl
            try simp only [Act.put, zA, zB, zC, zD, zE, zF]
            refine wpAnyH_done (by kernel_rfl) ?_ _
            refine NoPanic.normal ?_
            go_wp2
            go_ret
            exact ⟨ret_bool (by simp [HN.out]), HBe.out.drew⟩
        · have hkl : ¬ (k : Int) < l1.length := by omega
          have hke : k = l1.length := by omega
          rw [hke] at hno
          have HY := Lib.hid (eqL_yes HLL.out hno)
          clear hno hke hbe HA HB HC HS2
          go_wp2
          go_ret
          exact ⟨ret_bool (by simp [HY.out]), HBe.out⟩
  · have hlb : ((l1.length : Int) != l2.length) = true := by simp; omega
    have HN := Lib.hid (eqL_len hll)
    clear hll
    go_enter Tryz.func17, Tryz.ntmps17
    go_wp2
    go_ret
    exact ⟨ret_bool (by simp [HN.out]), HS2.out⟩
end
end Go.Proofs.YtcicmljnjdhkjaaGreat
