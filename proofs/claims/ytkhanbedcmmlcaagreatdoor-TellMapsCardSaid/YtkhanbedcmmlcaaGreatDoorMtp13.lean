/- parts of the proof, merged by a program. -/
import Derived.Test.YtkhanbedcmmlcaaGreatDoorMtp7
import Derived.Test.YtkhanbedcmmlcaaGreatDoorMtp8
import Derived.Test.YtkhanbedcmmlcaaGreatDoorMtp9
import Derived.Test.YtkhanbedcmmlcaaGreatDoorMtp10
import Derived.Test.YtkhanbedcmmlcaaGreatDoorMtp11
import Derived.Test.YtkhanbedcmmlcaaGreatDoorMtp12
import Derived.ProofKit
import Derived.OpenShut
import Derived.Deep.Slices
import Derived.Lib.SmallJoins
import Derived.Lib.LaidTab
import Derived.Stop.LaidErr
import Derived.Test.YtkhanbedcmmlcaaGreatDoorRows
set_option linter.unusedSimpArgs false
set_option linter.unusedVariables false
/- the map's letters, byte by byte; free pages are counted by dots. -/
set_option linter.unusedSimpArgs false
set_option linter.unusedVariables false
namespace Go.Proofs.YtkhanbedcmmlcaaGreatDoor
open Go.RowKit

theorem outN_length (vs : List Int) (t : Int) : ∀ q, (outN vs t q).length = q + (q - 1) / 64
  | 0 => rfl
  | q + 1 => by
    have ih := outN_length vs t q
    unfold outN feedN
    by_cases h : 0 < q ∧ q % 64 = 0
    · rw [if_pos h]; simp [ih]; omega
    · rw [if_neg h]; simp [ih]; omega
theorem outN_at (vs : List Int) (t : Int) : ∀ q i, i < (outN vs t q).length → (outN vs t q)[i]? = some (if i % 65 = 64 then 10 else u8 (chN vs t (64 * (i / 65) + i % 65)))
  | 0, i, h => by simp [outN] at h
  | q + 1, i, h => by
    have ih := outN_at vs t q
    have hl := outN_length vs t q
    by_cases hi : i < (outN vs t q).length
    · have := ih i hi
      unfold outN
      rw [List.append_assoc, List.getElem?_append_left hi]; exact this
    · have hl2 := outN_length vs t (q + 1)
      rw [hl2] at h
      unfold outN feedN
      by_cases hf : 0 < q ∧ q % 64 = 0
      · have hq : (q - 1) / 64 + 1 = q / 64 := by omega
        have hq2 : (q + 1 - 1) / 64 = q / 64 := by rw [Nat.add_sub_cancel]
        rw [hq2] at h
        rw [if_pos hf, List.append_assoc, List.getElem?_append_right (by omega), hl]
        have h2 : i - (q + (q - 1) / 64) = 0 ∨ i - (q + (q - 1) / 64) = 1 := by omega
        rcases h2 with e | e
        · rw [e, if_pos (by omega)]; rfl
        · rw [e, if_neg (by omega), show 64 * (i / 65) + i % 65 = q by omega]; rfl
      · have hq : (q - 1) / 64 = q / 64 := by omega
        have hq2 : (q + 1 - 1) / 64 = q / 64 := by rw [Nat.add_sub_cancel]
        rw [hq2] at h
        have hi2 : i = q + q / 64 := by omega
        rw [if_neg hf, List.append_nil, List.getElem?_append_right (by omega), hl, show i - (q + (q - 1) / 64) = 0 by omega, if_neg (by omega), show 64 * (i / 65) + i % 65 = q by omega]
        rfl
/-- how many of the first pages have a dot. -/
def dotN (vs : List Int) (t : Int) : Nat → Nat
  | 0 => 0
  | q + 1 => dotN vs t q + if chN vs t q = 46 then 1 else 0
theorem dotN_le (vs : List Int) (t : Int) : ∀ q, dotN vs t q ≤ q
  | 0 => Nat.le_refl _
  | q + 1 => by have := dotN_le vs t q; unfold dotN; split <;> omega
theorem mapB_length (vs : List Int) (t : Int) (P : Nat) : (mapB vs t P).length = P + (P - 1) / 64 + 1 := by simp [mapB, outN_length]
/-- what the law has counted ahead of a byte. -/
structure PgF (vs : List Int) (t : Int) (P i n free wide : Nat) : Prop where
  le : i ≤ P + (P - 1) / 64 + 1
  mid : i < P + (P - 1) / 64 + 1 → n = 64 * (i / 65) + i % 65 ∧ wide = i % 65
  fin : i = P + (P - 1) / 64 + 1 → n = P ∧ wide = 0
  free_ : free = dotN vs t n
  np : n ≤ P
  wd : wide ≤ 64
theorem PgF.start (vs : List Int) (t : Int) (P : Nat) : PgF vs t P 0 0 0 0 := ⟨by omega, fun _ => by omega, fun h => by omega, rfl, by omega, by omega⟩
/-- one byte more. -/
theorem PgF.next {vs : List Int} {t : Int} {P i n free wide : Nat} (h : PgF vs t P i n free wide) (hP : 0 < P) (hi : i < P + (P - 1) / 64 + 1) :
    (mapB vs t P)[i]? = some 10 ∧ wide ≠ 0 ∧ (wide = 64 ∨ i + 1 = P + (P - 1) / 64 + 1) ∧ PgF vs t P (i + 1) n free 0 ∨
    n < P ∧ (mapB vs t P)[i]? = some (u8 (chN vs t n)) ∧ PgF vs t P (i + 1) (n + 1) (free + if chN vs t n = 46 then 1 else 0) (wide + 1) := by
  obtain ⟨h1, h2⟩ := h.mid hi
  have hf := h.free_
  have hl := outN_length vs t P
  by_cases hlast : i = P + (P - 1) / 64
  · refine Or.inl ⟨?_, by omega, Or.inr (by omega), ⟨by omega, fun h => by omega, fun _ => by omega, hf, by omega, by omega⟩⟩
    unfold mapB
    rw [List.getElem?_append_right (by omega), hl, hlast, Nat.sub_self]; rfl
  · have hat := outN_at vs t P i (by omega)
    have hm : (mapB vs t P)[i]? = (outN vs t P)[i]? := by unfold mapB; rw [List.getElem?_append_left (by omega)]
    by_cases hc : i % 65 = 64
    · rw [if_pos hc] at hat
      exact Or.inl ⟨hm.trans hat, by omega, Or.inl (by omega), ⟨by omega, fun h => by omega, fun h => by omega, hf, by omega, by omega⟩⟩
    · rw [if_neg hc, ← h1] at hat
      refine Or.inr ⟨by omega, hm.trans hat, ⟨by omega, fun h => by omega, fun h => by omega, by rw [hf]; rfl, by omega, by omega⟩⟩
theorem let_dot {vs : List Int} {t q : Int} : letC vs t q = 46 ↔ iK (gv vs t q 0) = 1 := by
  have h := inf_bd (gv vs t q 0)
  unfold letC
  split
  · rename_i h1; simp [h1]
  · rename_i h1
    constructor
    · intro h2
      split at h2
      · omega
      · split at h2 <;> omega
    · intro h2; exact absurd h2 h1
theorem inf_len3 (v : Int) (h : iK v = 3) : iL v = 1 := by
  unfold iK at h
  split at h
  · rename_i ho
    have h2 := ho
    unfold okI rightI at h2
    rw [if_neg (by omega), if_neg (by omega), if_pos h] at h2
    simp at h2
    unfold iL
    rw [if_pos ho]
    exact h2.1.1
  · omega
/-- dots count free pages. -/
theorem dot_free {vs : List Int} {t : Int} {P : Nat} : ∀ (f q : Nat), P - q < f → q ≤ P → Tl vs t P q → (dotN vs t q : Int) = freeN vs t q → (dotN vs t P : Int) = freeN vs t P
  | 0, q, hf, _, _, _ => by omega
  | f + 1, q, hf, hq, h, e => by
    by_cases hlt : q < P
    · obtain ⟨hk, h1, h2, h3, hz⟩ := tl_step h hlt
      have hb := inf_bd (gv vs t q 0)
      refine dot_free f (q + (iL (gv vs t q 0)).toNat) (by omega) h2 h3 ?_
      have key : ∀ j, j < (iL (gv vs t q 0)).toNat → (dotN vs t (q + j + 1) : Int) = dotN vs t q + (if iK (gv vs t q 0) = 1 then (j : Int) + 1 else 0) ∧ freeN vs t (q + j + 1) = freeN vs t q + (if iK (gv vs t q 0) = 1 then iL (gv vs t q 0) else 0) := by
        intro j
        induction j with
        | zero =>
          intro _
          have hc : chN vs t q = letC vs t q := by unfold chN; rw [if_neg hk]
          refine ⟨?_, rfl⟩
          show ((dotN vs t q + if chN vs t q = 46 then 1 else 0 : Nat) : Int) = _
          rw [hc]
          by_cases h1 : iK (gv vs t q 0) = 1
          · rw [if_pos (let_dot.2 h1), if_pos h1]; omega
          · rw [if_neg (fun x => h1 (let_dot.1 x)), if_neg h1]; omega
        | succ j ih =>
          intro hj
          obtain ⟨i1, i2⟩ := ih (by omega)
          have hz2 := hz (q + j + 1) (by omega) (by omega)
          have hc : chN vs t (q + j + 1) = restC (gv vs t q 0) := by
            unfold chN
            rw [hz2, if_pos iK_zero]
            exact rest_in hk _ hz j (by omega)
          constructor
          · show ((dotN vs t (q + j + 1) + if chN vs t (q + j + 1) = 46 then 1 else 0 : Nat) : Int) = _
            rw [hc, Int.natCast_add, i1]
            have h3 : iK (gv vs t q 0) = 1 ∨ iK (gv vs t q 0) = 2 ∨ iK (gv vs t q 0) = 3 := by omega
            unfold restC
            rcases h3 with e | e | e
            · rw [e]; simp; omega
            · rw [e]; simp
            · have := inf_len3 _ e; omega
          · show freeN vs t (q + j + 1) + (if iK (gv vs t ((q + j + 1 : Nat) : Int) 0) = 1 then iL (gv vs t ((q + j + 1 : Nat) : Int) 0) else 0) = _
            rw [i2, hz2, if_neg (show ¬ iK 0 = 1 by decide)]; omega
      have := key ((iL (gv vs t q 0)).toNat - 1) (by omega)
      rw [show q + ((iL (gv vs t q 0)).toNat - 1) + 1 = q + (iL (gv vs t q 0)).toNat by omega] at this
      rw [this.1, this.2, e]
      split <;> omega
    · obtain rfl : q = P := by omega
      exact e
theorem chk_counts {vs : List Int} {t p s : Int} (h : (chkF vs t p s).2 = true) : tilesF vs t p = true ∧ countsF vs t p = true := by
  unfold chkF at h
  repeat (split at h; · cases h)
  refine ⟨?_, ?_⟩
  · cases e : tilesF vs t p
    · contradiction
    · rfl
  · cases e : countsF vs t p
    · contradiction
    · rfl
theorem dots_all {vs : List Int} {t s : Int} {P : Nat} (h : (chkF vs t P s).2 = true) : (dotN vs t P : Int) = vs.getD 0 0 := by
  obtain ⟨h1, h2⟩ := chk_counts h
  have := dot_free (P + 1) 0 (by omega) (by omega) (tl_start h1) rfl
  rw [this]
  unfold countsF at h2
  rw [Bool.and_eq_true] at h2
  have h3 := of_decide_eq_true (h2.1 : decide (vs.getD 0 0 = freeN vs t (P : Int).toNat) = true)
  rw [h3]; rfl
end Go.Proofs.YtkhanbedcmmlcaaGreatDoor
/- the program's audit: Check, Parts, Live. -/
set_option linter.unusedSimpArgs false
set_option linter.unusedVariables false
namespace Go.Proofs.YtkhanbedcmmlcaaGreatDoor
open Go.RowKit
theorem chk_eq (vs : List Int) (t p s : Int) : ((chkF vs t p s).1 == 0) = (chkF vs t p s).2 ∧ 0 ≤ (chkF vs t p s).1 ∧ ((chkF vs t p s).2 = false → 0 < (chkF vs t p s).1) ∧ ((chkF vs t p s).2 = true → (chkF vs t p s).1 = 0) := by
  unfold chkF
  repeat' split
  all_goals simp
section
variable {w : World} {t p s : Int}
set_option maxRecDepth 100000 in
theorem psize_no (a : Option Addr) (m c b : Nat) (e0 : w.cell? ⟨b, 0, none⟩ = some (.int .i64 t)) (e1 : w.cell? ⟨b, 1, none⟩ = some (.int .i64 p)) (e2 : w.cell? ⟨b, 2, none⟩ = some (.int .i64 s)) (e3 : w.cell? ⟨b, 3, none⟩ = some (.slice a m c)) (h : rightB t p s = false ∨ (m : Int) ≠ cellsN t p) :
    Calls Tryz.prog 59 #[.pointer (some ⟨b, 0, none⟩)] w fun e W' => e = .returned (.bool false) ∧ Below w.heap.size w W' := by
  cases hr : rightB t p s
  · have HC := Lib.hid (fun w => check_wrong t p s w hr)
    clear h hr
    go_enter Tryz.func59, Tryz.ntmps59
    go_wp2_with fail
    refine wp_region_noPanic ?_
    refine wp_region_held_drew (S := fun w' => w'.cell? ⟨b, 0, none⟩ = some (.int .i64 t) ∧ w'.cell? ⟨b, 1, none⟩ = some (.int .i64 p) ∧ w'.cell? ⟨b, 2, none⟩ = some (.int .i64 s) ∧ w'.cell? ⟨b, 3, none⟩ = some (.slice a m c)) (by kernel_rfl) ?_ (fun hHeld => ?_)
    · exact ⟨e0, e1, e2, e3⟩
    refine wT 0 ?_
    refine wT 1 ?_
    refine wT 2 ?_
    refine wT 3 ?_
    refine wR 4 fun K hK => ?_
    go_simp
    refine (HC.out _).mono ?_
    rintro e w1 ⟨rfl, r1⟩
    have k1 := held4g r1 hHeld
    refine hK.out _ _ ?_ (fun hHeld => ?_)
    · exact k1
    clear hK K
    try simp only [Act.put, zA, zB, zC, zD, zE, zF]
    refine wT 5 ?_
    refine wT 6 ?_
    refine wU 7 ?_
    refine wU 8 ?_
    refine wU 9 ?_
    refine wU 10 ?_
    refine wU 11 ?_
    refine wU 12 ?_
    refine wU 13 ?_
    refine wU 14 ?_
    refine wU 15 ?_
    refine wU 16 ?_
    refine wU 17 ?_
    refine wT 18 ?_
    refine wT 19 ?_
    refine wpAnyH_done (by kernel_rfl) (NoPanic.normal ?_) _
    go_wp2
    go_ret
    exact ⟨rfl, (Below.refl _ _).drew.trans r1⟩
  · have HC := Lib.hid (fun w => check_right t p s w hr)
    have hcf : cellsF t p s = cellsN t p := by simp [cellsF, hr]
    have HN := Lib.hid (fun w => cells_any t p s w)
    rw [hcf] at HN
    have hm : (m : Int) ≠ cellsN t p := h.resolve_left (by rw [hr]; simp)
    generalize cellsN t p = z at *
    have hmb : ((m : Int) == z) = false := by simpa using hm
    clear h hr hcf hm
    go_enter Tryz.func59, Tryz.ntmps59
    go_wp2_with fail
    refine wp_region_noPanic ?_
    refine wp_region_held_drew (S := fun w' => w'.cell? ⟨b, 0, none⟩ = some (.int .i64 t) ∧ w'.cell? ⟨b, 1, none⟩ = some (.int .i64 p) ∧ w'.cell? ⟨b, 2, none⟩ = some (.int .i64 s) ∧ w'.cell? ⟨b, 3, none⟩ = some (.slice a m c)) (by kernel_rfl) ?_ (fun hHeld => ?_)
    · exact ⟨e0, e1, e2, e3⟩
    refine wT 0 ?_
    refine wT 1 ?_
    refine wT 2 ?_
    refine wT 3 ?_
    refine wR 4 fun K hK => ?_
    go_simp
    refine (HC.out _).mono ?_
    rintro e w1 ⟨rfl, r1⟩
    have k1 := held4g r1 hHeld
    refine hK.out _ _ ?_ (fun hHeld => ?_)
    · exact k1
    clear hK K
    try simp only [Act.put, zA, zB, zC, zD, zE, zF]
    refine wT 5 ?_
    refine wT 6 ?_
    refine wT 7 ?_
    refine wT 8 ?_
    refine wT 9 ?_
    refine wT 10 ?_
    refine wT 11 ?_
    refine wT 12 ?_
    refine wT 13 ?_
    refine wT 14 ?_
    refine wT 15 ?_
    refine wR 16 fun K hK => ?_
    go_simp
    refine (HN.out _).mono ?_
    rintro e w2 ⟨rfl, r2⟩
    have k2 := held4g r2 hHeld
    refine hK.out _ _ ?_ (fun hHeld => ?_)
    · exact k2
    clear hK K
    try simp only [Act.put, zA, zB, zC, zD, zE, zF]
    refine wT 17 ?_
    refine wT 18 ?_
    refine wT 19 ?_
    refine wpAnyH_done (by kernel_rfl) (NoPanic.normal ?_) _
    go_wp2
    go_ret
    exact ⟨rfl, (Below.refl _ _).drew.trans (r1.trans (r2.mono r1.size))⟩
def SeeNo (w : World) (b R : Nat) (t p s : Int) (a : Option Addr) (m c : Nat) (v : Value) (wr : World) : Prop :=
  v = .int .i64 0 ∧ ((wr.cell? ⟨b, 0, none⟩ = some (.int .i64 t) ∧ wr.cell? ⟨b, 1, none⟩ = some (.int .i64 p)) ∧ wr.cell? ⟨b, 2, none⟩ = some (.int .i64 s) ∧ wr.cell? ⟨b, 3, none⟩ = some (.slice a m c)) ∧ wr.heap[R]? = some (.cells (fnC b) 27) ∧ Below w.heap.size w wr
set_option maxHeartbeats 4000000 in
set_option maxRecDepth 100000 in
theorem psee_no (a : Option Addr) (m c : Nat) (h : rightB t p s = false ∨ (m : Int) ≠ cellsN t p) : Calls Tryz.prog 28 #[.agg #[.int .i64 t, .int .i64 p, .int .i64 s], .slice a m c] w fun e W' => (∃ b : Nat, e = .returned (.tuple #[.pointer (some ⟨b, 0, none⟩), .int .i64 1])) ∧ Below w.heap.size w W' := by
  have h0 : SeeNo w (w.heap.size + 1 + 1) (w.heap.size + 1 + 1 + 1) t p s a m c (.int .i64 0) ((((w.alloc (.cells #[.int .i64 t, .int .i64 p, .int .i64 s] 23)).alloc (.map #[] 0)).alloc (.cells #[.int .i64 t, .int .i64 p, .int .i64 s, .slice a m c, .slice none 0 0, .map (some (w.heap.size + 1))] 96)).alloc (.cells (fnC (w.heap.size + 1 + 1)) 27)) := by
    have S := (((BS.start w).alloc (.cells #[.int .i64 t, .int .i64 p, .int .i64 s] 23)).alloc (.map #[] 0)).alloc (.cells #[.int .i64 t, .int .i64 p, .int .i64 s, .slice a m c, .slice none 0 0, .map (some (w.heap.size + 1))] 96)
    have S2 := S.alloc (.cells (fnC (w.heap.size + 1 + 1)) 27)
    have hb : ((((w.alloc (.cells #[.int .i64 t, .int .i64 p, .int .i64 s] 23)).alloc (.map #[] 0)).alloc (.cells #[.int .i64 t, .int .i64 p, .int .i64 s, .slice a m c, .slice none 0 0, .map (some (w.heap.size + 1))] 96)).alloc (.cells (fnC (w.heap.size + 1 + 1)) 27)).heap[w.heap.size + 1 + 1]? = some (.cells #[.int .i64 t, .int .i64 p, .int .i64 s, .slice a m c, .slice none 0 0, .map (some (w.heap.size + 1))] 96) := (heap_alloc_old _ _ (by simp)).trans (hb_alloc _ _ _ (by simp))
    exact ⟨rfl, ⟨⟨cell?_of_heap hb, cell?_of_heap hb⟩, cell?_of_heap hb, cell?_of_heap hb⟩, hb_alloc _ _ _ (by simp), S2.bel⟩
  have hmm := @run_makeMap Tryz.prog
  have H0 := Lib.hid h0
  clear h0
  go_enter Tryz.func28, Tryz.ntmps28
  go_wp2_with fail
  go_loopw [7, 8, 36] (fun _ _ v36 wr => SeeNo w (w.heap.size + 1 + 1) (w.heap.size + 1 + 1 + 1) t p s a m c v36 wr) (fun _ _ v36 _ => 10 - (intOf v36).toNat)
  case atStart => exact H0.out
  case round =>
    obtain ⟨rfl, ⟨⟨e0, e1⟩, e2, e3⟩, hfn, hb⟩ := hrel
    have cf : wr.cell? ⟨w.heap.size + 1 + 1 + 1, 0, none⟩ = some (.func (.func 59) #[.pointer (some ⟨w.heap.size + 1 + 1, 0, none⟩)] #[]) := cell?_of_heap hfn
    have HR := Lib.hid (psize_no a m c _ e0 e1 e2 e3 h)
    have HB := Lib.hid hb
    clear H0 hfn e0 e1 e2 e3 hb h
    go_wp2_with fail
    refine HR.out.mono ?_
    rintro e w2 ⟨rfl, r2⟩
    go_wp2
    refine bodyPost_ret (v := .tuple #[.pointer (some ⟨w.heap.size + 1 + 1, 0, none⟩), .int .i64 1]) (by simp [results, Tryz.results28, go_sem]) rfl ?_
    exact ⟨⟨_, rfl⟩, HB.out.trans (r2.mono HB.out.size)⟩
theorem pcheck_no (a : Option Addr) (m c : Nat) (h : rightB t p s = false ∨ (m : Int) ≠ cellsN t p) : Calls Tryz.prog 11 #[.agg #[.int .i64 t, .int .i64 p, .int .i64 s], .slice a m c] w fun e W' => e = .returned (.tuple #[.int .i64 1, .bool false]) ∧ Below w.heap.size w W' := by
  have H := Lib.hid (fun w => psee_no (w := w) a m c h)
  clear h
  go_enter Tryz.func11, Tryz.ntmps11
  go_wp2_with fail
  refine (H.out _).mono ?_
  rintro e w1 ⟨⟨b, rfl⟩, r1⟩
  go_wp2
  refine bodyPost_ret (v := .tuple #[.int .i64 1, .bool false]) (by simp [results, Tryz.results11, go_sem]) rfl ⟨rfl, ?_⟩
  exact ((Below.refl _ _).alloc (Nat.le_refl _) _).trans (r1.mono (by simp))
theorem pparts_no (a : Option Addr) (m c : Nat) (h : rightB t p s = false ∨ (m : Int) ≠ cellsN t p) : Calls Tryz.prog 22 #[.agg #[.int .i64 t, .int .i64 p, .int .i64 s], .slice a m c] w fun e W' => e = .returned (.slice none 0 0) ∧ Below w.heap.size w W' := by
  have H := Lib.hid (fun w => psee_no (w := w) a m c h)
  clear h
  go_enter Tryz.func22, Tryz.ntmps22
  go_wp2_with fail
  refine (H.out _).mono ?_
  rintro e w1 ⟨⟨b, rfl⟩, r1⟩
  go_wp2
  go_ret
  exact ⟨rfl, ((Below.refl _ _).alloc (Nat.le_refl _) _).trans (r1.mono (by simp))⟩
end
section
variable {w : World} {t s : Int} {P : Nat} {ad : Addr} {n : Nat} {vs : List Int}
theorem XV.old (h : XV w t P s ad n vs) : ad.block < w.heap.size := by
  have hn := h.bd
  have := World.block_lt_of_cell? _ _ (h.cells 0 (by omega))
  rwa [add_block] at this
theorem pcheck_any (h : XV w t P s ad n vs) (c : Nat) : Calls Tryz.prog 11 #[.agg #[.int .i64 t, .int .i64 P, .int .i64 s], .slice (some ad) n c] w fun e W' => e = .returned (.tuple #[.int .i64 (chkF vs t P s).1, .bool (chkF vs t P s).2]) ∧ Below w.heap.size w W' := by
  have hb := (Below.refl w.heap.size w).alloc (Nat.le_refl _) (.cells #[.int .i64 t, .int .i64 P, .int .i64 s] 23)
  have H := Lib.hid (psee_any (h.keep hb) c (h.keep hb).old)
  have HE := Lib.hid (chk_eq vs t P s).1
  unfold SeeP at H
  clear h
  generalize chkF vs t P s = r at *
  go_enter Tryz.func11, Tryz.ntmps11
  go_wp2_with fail
  refine H.out.mono ?_
  rintro e w1 ⟨b, mb, rfl, r1, -⟩
  go_wp2
  refine bodyPost_ret (v := .tuple #[.int .i64 r.1, .bool (r.1 == 0)]) (by simp [results, Tryz.results11, go_sem]) rfl ⟨by rw [HE.out], ?_⟩
  exact hb.trans (r1.mono hb.size)
theorem pparts_sick (h : XV w t P s ad n vs) (c : Nat) (hs : (chkF vs t P s).2 = false) : Calls Tryz.prog 22 #[.agg #[.int .i64 t, .int .i64 P, .int .i64 s], .slice (some ad) n c] w fun e W' => e = .returned (.slice none 0 0) ∧ Below w.heap.size w W' := by
  have hb := (Below.refl w.heap.size w).alloc (Nat.le_refl _) (.cells #[.int .i64 t, .int .i64 P, .int .i64 s] 23)
  have H := Lib.hid (psee_any (h.keep hb) c (h.keep hb).old)
  have hp := (chk_eq vs t P s).2.2.1 hs
  unfold SeeP at H
  clear h hs
  generalize chkF vs t P s = r at *
  go_enter Tryz.func22, Tryz.ntmps22
  go_wp2_with fail
  refine H.out.mono ?_
  rintro e w1 ⟨b, mb, rfl, r1, -⟩
  go_wp2
  go_ret
  exact ⟨rfl, hb.trans (r1.mono hb.size)⟩
theorem chk_tiles (hs : (chkF vs t P s).2 = true) : tilesF vs t P = true := by
  unfold chkF at hs
  split at hs
  · simp at hs
  · rename_i h
    simpa using h
theorem pparts_heap (h : XV w t P s ad n vs) (c : Nat) (hs : (chkF vs t P s).2 = true) : Calls Tryz.prog 22 #[.agg #[.int .i64 t, .int .i64 P, .int .i64 s], .slice (some ad) n c] w fun e W' => ∃ v, e = .returned v ∧ RowQ w (partsF vs t P s) v W' := by
  have hb := (Below.refl w.heap.size w).alloc (Nat.le_refl _) (.cells #[.int .i64 t, .int .i64 P, .int .i64 s] 23)
  have H := Lib.hid (psee_any (h.keep hb) c (h.keep hb).old)
  have hp := (chk_eq vs t P s).2.2.2 hs
  have ht := chk_tiles hs
  have HPl := Lib.hid (parts_law (s := s) ht)
  unfold SeeP at H
  rw [hp, hs] at H
  have HSp := Lib.hid (sp_in ht)
  clear h hs hp ht
  go_enter Tryz.func22, Tryz.ntmps22
  go_wp2_with fail
  refine H.out.mono ?_
  rintro e w1 ⟨b, mb, rfl, r1, hx⟩
  have HX := Lib.hid (hx trivial)
  clear hx
  go_wp2_with fail
  obtain ⟨g, ml, h1, h2⟩ := HX.out
  have HP := Lib.hid (pparts_any _ w1 ml g P _ h1 h2 HSp.out)
  rw [HPl.out] at HP
  clear h1 h2
  refine HP.out.mono ?_
  rintro e w2 ⟨v, rfl, q1, q2, q3⟩
  have hb2 := hb.trans (r1.mono hb.size)
  have HQ := Lib.hid (And.intro q1 (And.intro q2 q3))
  clear q1 q2 q3
  go_wp2
  go_ret
  exact ⟨v, rfl, HQ.out.1, fun k hk => Nat.le_trans hb2.size (HQ.out.2.1 k hk), hb2.trans (HQ.out.2.2.mono hb2.size)⟩
end
end Go.Proofs.YtkhanbedcmmlcaaGreatDoor
/- the document's audit: Sound, Live, Parts, State of values that are a heap. -/
set_option linter.unusedSimpArgs false
set_option linter.unusedVariables false
namespace Go.Proofs.YtkhanbedcmmlcaaGreatDoor
open Go.RowKit
section
variable {t p s : Int} {ad : Addr} {n c : Nat} {vs : List Int}

theorem rsound_any (c : Nat) (w : World) (h : XV w t p s ad n vs) :
    Calls Tryz.prog 6 #[.agg #[.int .i64 t, .int .i64 p, .int .i64 s], .slice (some ad) n c] w fun e w' => e = .returned (.bool (chkF vs t p s).2) ∧ Below w.heap.size w w' := by
  have H := Lib.hid (fun w (h : XV w t p s ad n vs) => rcheck_any c w h)
  have h2 := h.keep ((Below.refl _ _).alloc (Nat.le_refl _) (.cells #[.int .i64 t, .int .i64 p, .int .i64 s] 23))
  have HV := Lib.hid h
  have HV2 := Lib.hid h2
  generalize chkF vs t p s = r at *
  clear h h2
  go_enter Tryz.func6, Tryz.ntmps6
  go_wp2_with fail
  refine (H.out _ (by first | exact HV.out | exact HV2.out)).mono ?_
  rintro e w1 ⟨rfl, hb⟩
  go_wp2
  go_ret
  refine ⟨rfl, ?_⟩
  (repeat (first | exact Below.refl _ _ | assumption | refine Below.setCell ?_ (by first | omega | (simp; done) | (simp; omega)) _ | refine Below.alloc ?_ (by first | omega | (simp; done) | (simp; omega)) _ | refine Below.drew ?_ | refine Below.trans ?_ (Below.mono ‹Below _ _ _› (by first | omega | (simp; done) | (simp; omega)))))

theorem rparts_any (c : Nat) (w : World) (h : XV w t p s ad n vs) (hs : (chkF vs t p s).2 = true) :
    Calls Tryz.prog 25 #[.agg #[.int .i64 t, .int .i64 p, .int .i64 s], .slice (some ad) n c] w fun e w' => ∃ v, e = .returned v ∧ RowQ w (partsF vs t p s) v w' := by
  have H := Lib.hid (fun w (h : XV w t p s ad n vs) => rsound_any c w h)
  rw [hs] at H
  have HB := Lib.hid (fun w (h : XV w t p s ad n vs) => parts_any c w h)
  have h2 := h.keep ((Below.refl _ _).alloc (Nat.le_refl _) (.cells #[.int .i64 t, .int .i64 p, .int .i64 s] 23))
  have HV2 := Lib.hid h2
  generalize partsF vs t p s = l at *
  have c0 := loc_alloc w #[.int .i64 t, .int .i64 p, .int .i64 s] 23
  have S0 := ((BS.start w).alloc (.cells #[.int .i64 t, .int .i64 p, .int .i64 s] 23))
  have HV := Lib.hid h
  clear h hs h2
  go_enter Tryz.func25, Tryz.ntmps25
  go_wp2_with fail
  refine (calls_b S0 (H.out _ HV2.out)).mono ?_
  rintro e w1 ⟨rfl, S1, S1l⟩
  have c1 := loc_step S1l (by simp) c0
  clear S1l
  have HVa := Lib.hid ((HV.out.keep S1.bel).keep ((Below.refl _ _).alloc (Nat.le_refl _) (.cells #[.int .i64 t, .int .i64 p, .int .i64 s, .slice (some ad) n c] 59)))
  have S2 := S1.alloc (.cells #[.int .i64 t, .int .i64 p, .int .i64 s, .slice (some ad) n c] 59)
  go_wp2_with fail
  refine (HB.out _ HVa.out).mono ?_
  rintro e w2 ⟨v, rfl, hr, hf, hb⟩
  go_wp2
  go_ret
  exact ⟨v, rfl, hr, fun k hk => Nat.le_trans S2.bel.size (hf k hk), S2.bel.trans (hb.mono S2.bel.size)⟩


end
end Go.Proofs.YtkhanbedcmmlcaaGreatDoor
/- the laws of the audit: the page's example; Few; the same parts; values among the arguments. -/
set_option linter.unusedSimpArgs false
set_option linter.unusedVariables false
namespace Go.Proofs.YtkhanbedcmmlcaaGreatDoor
open Go.ChangeShapes Go.RowKit

section
variable {H : Type} {enc : TypeId × Value → H} {w : World} {base : Nat} {spare : Nat → Bool} {held : Bool}
theorem rd12_u32 {fuel : Nat} {cs : List Value} {x : DataW H × List MemPlace} (h : DataW.trod enc Tryz.prog w base spare held fuel 24 cs = some x) :
    ∃ v vals, cs = [v] ∧ Rd w v 1 vals.length (uints vals) ∧ ∀ u ∈ vals, VS.U32 u := by
  rcases open_ints Tryz.underlying24 Tryz.underlying28 (by kernel_rfl) h with ⟨rfl, -⟩ | ⟨a, len, cap, zs, rfl, -, hl, -, hz, -, hc, hw⟩
  · exact ⟨_, [], rfl, ⟨rfl, Or.inl ⟨rfl, rfl⟩⟩, by simp⟩
  · have hle : len ≤ zs.length := by rw [hz]; split <;> omega
    have e : (zs.take len).length = len := by simp; omega
    refine ⟨_, zs.take len, rfl, ⟨by simp [uints], Or.inr ⟨a, cap, by rw [e], ?_⟩⟩, ?_⟩
    · intro j u hj
      have hjl : j < len := by
        have := (List.getElem?_eq_some_iff.1 hj).1
        simp [uints] at this; omega
      rw [hc j (by omega), ← hj]
      simp [uints, hjl, show j < zs.length by omega]
    · intro u hu
      have := hw u (List.mem_of_mem_take hu)
      simp [Lit.wf] at this
      have e1 : IntKind.u32.min = 0 := by decide
      have e2 : IntKind.u32.max = 4294967295 := by decide
      exact ⟨by omega, by omega⟩
end
theorem rd12_len {w : World} {v : Value} {sz n : Nat} {xs : List Value} (h : Rd w v sz n xs) : ∃ a c, v = .slice a n c := by
  rcases h.2 with ⟨rfl, rfl⟩ | ⟨ad, c, rfl, -⟩
  · exact ⟨_, _, rfl⟩
  · exact ⟨_, _, rfl⟩
theorem Rd.keepB {w w' : World} {v : Value} {sz n : Nat} {xs : List Value} (h : Rd w v sz n xs) (hb : Below w.heap.size w w') : Rd w' v sz n xs :=
  ⟨h.1, h.2.imp id fun ⟨ad, c, e, hc⟩ => ⟨ad, c, e, fun j u hj => (hb.cell (World.block_lt_of_cell? _ _ (hc j u hj))).trans (hc j u hj)⟩⟩
/-- values that are as many as there must be. -/
theorem Rd.xv {w : World} {v : Value} {vals : List Int} {t p s : Int} (h : Rd w v 1 vals.length (uints vals)) (hu : ∀ u ∈ vals, VS.U32 u) (hr : rightB t p s = true) (hp : p ≤ 1024) (hn : (vals.length : Int) = cellsN t p) :
    ∃ ad c, v = .slice (some ad) vals.length c ∧ XV w t p s ad vals.length vals := by
  have bd := right_bd hr
  rcases h.2 with ⟨-, h0⟩ | ⟨ad, c, rfl, hc⟩
  · unfold cellsN at hn; omega
  · refine ⟨ad, c, rfl, hr, hp, rfl, by rw [hn]; rfl, hu, fun k hk => hc k _ ?_⟩
    simp [uints, hk]

end Go.Proofs.YtkhanbedcmmlcaaGreatDoor
/- the walk of AuditParts. -/
set_option linter.unusedSimpArgs false
set_option linter.unusedVariables false
namespace Go.Proofs.YtkhanbedcmmlcaaGreatDoor
open Go.ChangeShapes Go.RowKit
/-- the document's Sound, of what is none. -/
theorem rsound_no {t p s : Int} (a : Option Addr) (m c : Nat) (w : World) (h : rightB t p s = false ∨ (m : Int) ≠ cellsN t p) :
    Calls Tryz.prog 6 #[.agg #[.int .i64 t, .int .i64 p, .int .i64 s], .slice a m c] w fun e w' => e = .returned (.bool false) ∧ Below w.heap.size w w' := by
  have H := Lib.hid (fun w => rcheck_no a m c w h)
  clear h
  go_enter Tryz.func6, Tryz.ntmps6
  go_wp2_with fail
  refine (H.out _).mono ?_
  rintro e w1 ⟨rfl, hb⟩
  go_wp2
  go_ret
  refine ⟨rfl, ?_⟩
  (repeat (first | exact Below.refl _ _ | assumption | refine Below.setCell ?_ (by first | omega | (simp; done) | (simp; omega)) _ | refine Below.alloc ?_ (by first | omega | (simp; done) | (simp; omega)) _ | refine Below.drew ?_ | refine Below.trans ?_ (Below.mono ‹Below _ _ _› (by first | omega | (simp; done) | (simp; omega)))))
theorem rparts_none {t p s : Int} (sa : Option Addr) (m c : Nat) (w : World) (HS : ∀ W, Below w.heap.size w W → Calls Tryz.prog 6 #[.agg #[.int .i64 t, .int .i64 p, .int .i64 s], .slice sa m c] W fun e w' => e = .returned (.bool false) ∧ Below W.heap.size W w') :
    Calls Tryz.prog 25 #[.agg #[.int .i64 t, .int .i64 p, .int .i64 s], .slice sa m c] w fun e w' => e = .returned (.slice none 0 0) ∧ Below w.heap.size w w' := by
  have hb := (Below.refl w.heap.size w).alloc (Nat.le_refl _) (.cells #[.int .i64 t, .int .i64 p, .int .i64 s] 23)
  have H := Lib.hid (HS _ hb)
  clear HS
  go_enter Tryz.func25, Tryz.ntmps25
  go_wp2_with fail
  refine H.out.mono ?_
  rintro e w1 ⟨rfl, r1⟩
  go_wp2
  go_ret
  exact ⟨rfl, hb.trans (r1.mono hb.size)⟩
theorem rowQ_nil {w w' : World} (h : Below w.heap.size w w') : RowQ w [] (.slice none 0 0) w' := ⟨World.ownsRow_nil _ _ _ _, by simp [Value.ownBlock], h⟩
end Go.Proofs.YtkhanbedcmmlcaaGreatDoor
/- the law TellPages: the walk. -/
set_option linter.unusedSimpArgs false
set_option linter.unusedVariables false
namespace Go.Proofs.YtkhanbedcmmlcaaGreatDoor
open Go.RowKit

theorem maps_alike (t p s : Int) (sv : Value) (vals : List Int) (w : World) (hR : Rd w sv 1 vals.length (uints vals)) (hu : ∀ u ∈ vals, VS.U32 u) :
    (∃ (P : Nat) (ad : Addr) (c : Nat), p = P ∧ sv = .slice (some ad) vals.length c ∧ XV w t P s ad vals.length vals ∧ (chkF vals t P s).2 = true) ∨
    ((∀ W, Below w.heap.size w W → Calls Tryz.prog 6 #[.agg #[.int .i64 t, .int .i64 p, .int .i64 s], sv] W fun e W' => e = .returned (.bool false) ∧ Below W.heap.size W W') ∧
     (∃ r, ∀ W, Below w.heap.size w W → Calls Tryz.prog 11 #[.agg #[.int .i64 t, .int .i64 p, .int .i64 s], sv] W fun e W' => e = .returned (.tuple #[.int .i64 r, .bool false]) ∧ Below W.heap.size W W')) := by
  by_cases hp : p ≤ 1024
  · by_cases hg : rightB t p s = true ∧ (vals.length : Int) = cellsN t p
    · obtain ⟨hr, hn⟩ := hg
      have bd := right_bd hr
      obtain ⟨P, rfl⟩ : ∃ P : Nat, p = P := ⟨p.toNat, by omega⟩
      obtain ⟨ad, c, rfl, hx⟩ := hR.xv hu hr hp hn
      cases hs : (chkF vals t P s).2
      · refine Or.inr ⟨fun W hb => ?_, (chkF vals t P s).1, fun W hb => ?_⟩
        · have := rsound_any c W (hx.keep hb)
          rwa [hs] at this
        · have := pcheck_any (hx.keep hb) c
          rwa [hs] at this
      · exact Or.inl ⟨P, ad, c, rfl, rfl, hx, hs⟩
    · obtain ⟨a, c, rfl⟩ := rd12_len hR
      have hno : rightB t p s = false ∨ (vals.length : Int) ≠ cellsN t p := by
        cases hr : rightB t p s
        · exact Or.inl rfl
        · exact Or.inr fun h => hg ⟨hr, h⟩
      exact Or.inr ⟨fun W _ => rsound_no a _ c W hno, 1, fun W _ => pcheck_no a _ c hno⟩
  · obtain ⟨a, c, rfl⟩ := rd12_len hR
    have hno : rightB t p s = false ∨ (vals.length : Int) ≠ cellsN t p := by
      cases hr : rightB t p s
      · exact Or.inl rfl
      · exact absurd (right_bd hr).2.2.2.1 hp
    exact Or.inr ⟨fun W _ => rsound_no a _ c W hno, 1, fun W _ => pcheck_no a _ c hno⟩
theorem map_heap {t s : Int} {P n : Nat} {ad : Addr} {vals : List Int} {w : World} (hx : XV w t P s ad n vals) (c : Nat) (hs : (chkF vals t P s).2 = true) :
    Calls Tryz.prog 5 #[.agg #[.int .i64 t, .int .i64 P, .int .i64 s], .slice (some ad) n c] w fun e w' => e = .returned (.string (bs (mapB vals t P))) ∧ Below w.heap.size w w' :=
  tmap_any P c w hx (chk_counts hs).1 _ fun W hW => by
    have := pcheck_any hW c
    rwa [hs] at this
theorem sound_heap {t s : Int} {P n : Nat} {ad : Addr} {vals : List Int} {w : World} (hx : XV w t P s ad n vals) (c : Nat) (hs : (chkF vals t P s).2 = true) :
    Calls Tryz.prog 6 #[.agg #[.int .i64 t, .int .i64 P, .int .i64 s], .slice (some ad) n c] w fun e w' => e = .returned (.bool true) ∧ Below w.heap.size w w' := by
  have := rsound_any c w hx
  rwa [hs] at this

theorem u8_nat {z : Int} (h : 35 ≤ z ∧ z ≤ 105) : ((u8 z).toNat : Int) = z := by
  unfold u8
  rw [UInt8.toNat_ofNat']
  omega
def PgsRel (w1 : World) (vs : List Int) (t : Int) (P : Nat) (vn vf vw vi : Value) (wr : World) : Prop :=
  ∃ i n f d : Nat, vi = .int .i64 i ∧ vn = .int .i64 n ∧ vf = .int .i64 f ∧ vw = .int .i64 d ∧ PgF vs t P i n f d ∧ Below w1.heap.size w1 wr

set_option maxHeartbeats 2000000 in
set_option maxRecDepth 100000 in
theorem tellpages_any (t p s : Int) (sv : Value) (vals : List Int) (w : World) (hR : Rd w sv 1 vals.length (uints vals)) (hu : ∀ u ∈ vals, VS.U32 u) (hT : TabOk w) :
    Calls Tryz.prog 3 #[.agg #[.int .i64 t, .int .i64 p, .int .i64 s], sv] w fun e w' => e = .returned (.bool true) ∧ Below w.heap.size w w' := by
  have HL := Lib.hid (fun w hT => tlive_any w hT)
  have HT := Lib.hid hT
  have S0 := (BS.start w).alloc (.cells #[.int .i64 t, .int .i64 p, .int .i64 s] 23)
  have c0 := loc_alloc w #[.int .i64 t, .int .i64 p, .int .i64 s] 23
  clear hT
  rcases maps_alike t p s sv vals w hR hu with ⟨P, ad, c, rfl, rfl, hx, hs⟩ | ⟨hS, r, hC⟩
  · have HM := Lib.hid (fun (W : World) (hb : Below w.heap.size w W) => map_heap (hx.keep hb) c hs)
    have HSo := Lib.hid (fun (W : World) (hb : Below w.heap.size w W) => sound_heap (hx.keep hb) c hs)
    have HX := Lib.hid hx
    have HD := Lib.hid (dots_all hs)
    have bd := hx.bd
    clear hR hu hx hs
    by_cases h2 : 200 < P
    · have h2l : (200 : Int) < P := by omega
      go_enter Tryz.func3, Tryz.ntmps3
      go_wp2_with fail
      refine (calls_b S0 (HM.out _ S0.bel)).mono ?_
      rintro e w1 ⟨rfl, S1, S1l⟩
      have c1 := loc_step S1l (by simp) c0
      have q1 := c1 1
      simp at q1
      have hz1 : w.heap.size < w1.heap.size := (S1.ls w.heap.size (by simp)).1
      have HT1 := Lib.hid (HT.out.step S1.bel)
      go_wp2_with fail
      refine (HL.out _ HT1.out).mono ?_
      rintro e w2 ⟨rfl, r2⟩
      go_wp2
      go_ret
      exact ⟨rfl, S1.bel.trans (r2.mono S1.bel.size)⟩
    · have h2l : (P : Int) ≤ 200 := by omega
      go_enter Tryz.func3, Tryz.ntmps3
      go_wp2_with fail
      refine (calls_b S0 (HM.out _ S0.bel)).mono ?_
      rintro e w1 ⟨rfl, S1, S1l⟩
      have c1 := loc_step S1l (by simp) c0
      have q0 := c1 0
      have q1 := c1 1
      have q2 := c1 2
      simp at q0 q1 q2
      have hz1 : w.heap.size < w1.heap.size := (S1.ls w.heap.size (by simp)).1
      have HT1 := Lib.hid (HT.out.step S1.bel)
      go_wp2_with fail
      refine (calls_b S1 (HSo.out _ S1.bel)).mono ?_
      rintro e w2 ⟨rfl, S2, S2l⟩
      have c2 := loc_step S2l (by simp) c1
      have r0 := c2 0
      have r1 := c2 1
      have r2 := c2 2
      simp at r0 r1 r2
      have hz2 : w.heap.size < w2.heap.size := (S2.ls w.heap.size (by simp)).1
      have hlen : (bs (mapB vals t P)).size = P + (P - 1) / 64 + 1 := by simp [ByteArray.size, mapB_length]
      have hP : 0 < P := by omega
      clear S0 c0 S1 S1l c1 q0 q1 q2 HM HSo S2l HT1
      have HS2 := Lib.hid S2
      have HC2 := Lib.hid c2
      clear S2 c2
      go_wp2
      go_loopw [6, 7, 8, 9] (fun vn vf vw vi wr => PgsRel w2 vals t P vn vf vw vi wr) (fun _ _ _ vi _ => P + (P - 1) / 64 + 1 - (intOf vi).toNat)
      case atStart => exact ⟨0, 0, 0, 0, rfl, rfl, rfl, rfl, PgF.start vals t P, Below.refl _ _⟩
      case round =>
        obtain ⟨i, n, f, d, rfl, rfl, rfl, rfl, hF, hb⟩ := hrel
        have hle := hF.le
        have hnp := hF.np
        have hfl := dotN_le vals t n
        rw [← hF.free_] at hfl
        have hdw := hF.wd
        have HB2 := Lib.hid hb
        by_cases hi : i < P + (P - 1) / 64 + 1
        · have hsz : i < (bs (mapB vals t P)).size := by rw [hlen]; exact hi
          have hil : (i : Int) < (P : Int) + ((P - 1 : Nat) : Int) / 64 + 1 := by omega
          obtain ⟨cb, hcb⟩ : ∃ c, (mapB vals t P)[i]? = some c := ⟨_, List.getElem?_eq_getElem (by rw [mapB_length]; exact hi)⟩
          have hg : (bs (mapB vals t P))[i]'hsz = cb := by
            obtain ⟨h1, h2⟩ := List.getElem?_eq_some_iff.1 hcb
            rw [← h2]
            rfl
          rcases hF.next hP hi with ⟨h1, h2, h3, hN⟩ | ⟨h0, h1, hN⟩
          · have hc10 : cb = 10 := by rw [hcb] at h1; exact Option.some.inj h1
            have hq : ((cb.toNat : Int) == 10) = true := by rw [hc10]; rfl
            have HN := Lib.hid hN
            have hd0 : (d : Int) ≠ 0 := by omega
            have hcase : ¬ (d : Int) < 64 ∨ (d : Int) < 64 ∧ ¬ ((i : Int) + 1 < (P : Int) + ((P - 1 : Nat) : Int) / 64 + 1) := by omega
            clear hN h1 h2 h3 hF hb hc10 hcb
            rcases hcase with g1 | ⟨g1, g2⟩
            all_goals
              go_wp2
              go_roundw
              case rel => exact ⟨i + 1, n, f, 0, by go_num, rfl, rfl, rfl, HN.out, HB2.out⟩
              case measure => simp [intOf]; omega
          · have hc1 : cb = u8 (chN vals t n) := by rw [hcb] at h1; exact Option.some.inj h1
            have hz := u8_nat (ch_bd vals t n)
            rw [← hc1] at hz
            have hcd := ch_bd vals t n
            have hq : ((cb.toNat : Int) == 10) = false := by rw [hz]; simp; omega
            clear h1 hF hb hc1 hcb
            by_cases h46 : chN vals t n = 46
            · have hd : ((cb.toNat : Int) == 46) = true := by rw [hz]; simp; exact h46
              have HN := Lib.hid hN
              clear hN hz
              go_wp2
              go_roundw
              case rel => exact ⟨i + 1, n + 1, f + 1, d + 1, by go_num, by go_num, by go_num, by go_num, by have := HN.out; rwa [if_pos h46] at this, HB2.out⟩
              case measure => simp [intOf]; omega
            · have hd : ((cb.toNat : Int) == 46) = false := by rw [hz]; simp; exact h46
              have HN := Lib.hid hN
              clear hN hz
              go_wp2
              go_roundw
              case rel => exact ⟨i + 1, n + 1, f, d + 1, by go_num, by go_num, rfl, by go_num, by have := HN.out; rwa [if_neg h46] at this, HB2.out⟩
              case measure => simp [intOf]; omega
        · obtain rfl : i = P + (P - 1) / 64 + 1 := by omega
          obtain ⟨hn, hd⟩ := hF.fin rfl
          have hfr := hF.free_
          subst hn hd
          have hv : vals.getD 0 0 = (f : Int) := by rw [← HD.out, hfr]
          have hcell := ((HX.out.keep HS2.out.bel).keep hb).cells 0 (by omega)
          rw [hv, show ad.add 0 = ad by simp [Addr.add]] at hcell
          have e0 := (hb.cell (p := ⟨w.heap.size, 1, none⟩) hz2).trans r1
          have HT2 := Lib.hid (HT.out.step (HS2.out.bel.trans (hb.mono HS2.out.bel.size)))
          clear hF hb hfr hv
          go_wp2_with fail
          refine (HL.out _ HT2.out).mono ?_
          rintro e w3 ⟨rfl, b3⟩
          have HBB := Lib.hid (HS2.out.bel.trans (HB2.out.mono HS2.out.bel.size))
          go_wp2
          go_ret
          exact ⟨rfl, HBB.out.trans (b3.mono HBB.out.size)⟩
  · obtain ⟨sa, sc, rfl⟩ := rd12_len hR
    have HM := Lib.hid (fun (W : World) (hb : Below w.heap.size w W) => tmap_none t p s sa vals.length sc W r (fun W2 hb2 => hC W2 (hb.trans (hb2.mono hb.size))))
    have HSo := Lib.hid hS
    clear hR hu hS hC
    by_cases h2 : 200 < p
    · go_enter Tryz.func3, Tryz.ntmps3
      go_wp2_with fail
      refine (calls_b S0 (HM.out _ S0.bel)).mono ?_
      rintro e w1 ⟨rfl, S1, S1l⟩
      have c1 := loc_step S1l (by simp) c0
      have q1 := c1 1
      simp at q1
      have hz1 : w.heap.size < w1.heap.size := (S1.ls w.heap.size (by simp)).1
      have HT1 := Lib.hid (HT.out.step S1.bel)
      go_wp2_with fail
      refine (HL.out _ HT1.out).mono ?_
      rintro e w2 ⟨rfl, r2⟩
      go_wp2
      go_ret
      exact ⟨rfl, S1.bel.trans (r2.mono S1.bel.size)⟩
    · have h2l : p ≤ 200 := by omega
      clear h2
      go_enter Tryz.func3, Tryz.ntmps3
      go_wp2_with fail
      refine (calls_b S0 (HM.out _ S0.bel)).mono ?_
      rintro e w1 ⟨rfl, S1, S1l⟩
      have c1 := loc_step S1l (by simp) c0
      have q0 := c1 0
      have q1 := c1 1
      have q2 := c1 2
      simp at q0 q1 q2
      have hz1 : w.heap.size < w1.heap.size := (S1.ls w.heap.size (by simp)).1
      go_wp2_with fail
      refine (calls_b S1 (HSo.out _ S1.bel)).mono ?_
      rintro e w2 ⟨rfl, S2, S2l⟩
      have c2 := loc_step S2l (by simp) c1
      have r1 := c2 1
      simp at r1
      have hz2 : w.heap.size < w2.heap.size := (S2.ls w.heap.size (by simp)).1
      have HT2 := Lib.hid (HT.out.step S2.bel)
      go_wp2_with fail
      refine (HL.out _ HT2.out).mono ?_
      rintro e w3 ⟨rfl, r3⟩
      go_wp2
      go_ret
      exact ⟨rfl, S2.bel.trans (r3.mono S2.bel.size)⟩
end Go.Proofs.YtkhanbedcmmlcaaGreatDoor
/- the tables that the rows list: what their list gives, and a world that meets it. -/
set_option linter.unusedSimpArgs false
set_option linter.unusedVariables false
namespace Go.Proofs.YtkhanbedcmmlcaaGreatDoor
open Go.ChangeShapes Go.RowKit Go.Joins

theorem gTab : Tryz.prog.globalNamed "internal/strconv.uint64pow10" = some 0 := by kernel_rfl
theorem gTabType : (Tryz.prog.globals[0]?).map (·.type) = some 155 := by kernel_rfl
theorem cells20 : Tryz.prog.cellsOf 155 = 20 := by kernel_rfl
theorem cellsU64 : Tryz.prog.cellsOf 72 = 1 := by kernel_rfl
theorem pow_datum : (Rows.laid_internal_strconv_uint64pow10 : DataW Unit) = Lib.tabData .u64 Lib.pow10Tab := by kernel_rfl
theorem tab_ok {W : World} {x y : String × DataW Unit} {r : List (String × DataW Unit)} (h : laidMet Tryz.prog (x :: y :: ("internal/strconv.uint64pow10", Rows.laid_internal_strconv_uint64pow10) :: r) W) : TabOk W := by
  have h3 := h.tail.tail
  rw [pow_datum] at h3
  exact Lib.tabBelow_of_tabIs (Lib.tabIs_of_head gTab gTabType Tryz.underlying155 Tryz.underlying72 cellsU64 cells20 h3)

/-- the cells of a table's datum. -/
def litCells : DataW Unit → Array Value
  | .agg l => (l.map fun
    | .lit (.int k z) => Value.int k z
    | _ => undef).toArray
  | _ => #[]
def layCells (cs : Array Value) : Obj → Obj
  | .cells _ t frozen => .cells cs t frozen
  | o => o
/-- A world for the witness: the settled one, the tables holding what their initialisers lay. -/
noncomputable def laidWorld (os : Os) : World :=
  { World.holding Tryz.prog os ⟨#[], #[], []⟩ with heap := (((World.holding Tryz.prog os ⟨#[], #[], []⟩).heap.modify 0 (layCells (litCells Rows.laid_internal_strconv_uint64pow10))).modify 2 (layCells (litCells Rows.laid_math_bits_deBruijn32tab))).modify 3 (layCells (litCells Rows.laid_math_bits_deBruijn64tab)) }
end Go.Proofs.YtkhanbedcmmlcaaGreatDoor
/- the law TellMaps: the walk. -/
set_option linter.unusedSimpArgs false
set_option linter.unusedVariables false
namespace Go.Proofs.YtkhanbedcmmlcaaGreatDoor
open Go.RowKit

theorem maps2_alike (t p s : Int) (sv : Value) (vals : List Int) (w : World) (hR : Rd w sv 1 vals.length (uints vals)) (hu : ∀ u ∈ vals, VS.U32 u) :
    (∃ (P : Nat) (ad : Addr) (c : Nat), p = P ∧ sv = .slice (some ad) vals.length c ∧ XV w t P s ad vals.length vals ∧ (chkF vals t P s).2 = true) ∨
    ((∀ W, Below w.heap.size w W → Calls Tryz.prog 6 #[.agg #[.int .i64 t, .int .i64 p, .int .i64 s], sv] W fun e W' => e = .returned (.bool false) ∧ Below W.heap.size W W') ∧
     (∃ r, ∀ W, Below w.heap.size w W → Calls Tryz.prog 11 #[.agg #[.int .i64 t, .int .i64 p, .int .i64 s], sv] W fun e W' => e = .returned (.tuple #[.int .i64 r, .bool false]) ∧ Below W.heap.size W W') ∧
     (∀ W, Below w.heap.size w W → Calls Tryz.prog 22 #[.agg #[.int .i64 t, .int .i64 p, .int .i64 s], sv] W fun e W' => e = .returned (.slice none 0 0) ∧ Below W.heap.size W W')) := by
  by_cases hp : p ≤ 1024
  · by_cases hg : rightB t p s = true ∧ (vals.length : Int) = cellsN t p
    · obtain ⟨hr, hn⟩ := hg
      have bd := right_bd hr
      obtain ⟨P, rfl⟩ : ∃ P : Nat, p = P := ⟨p.toNat, by omega⟩
      obtain ⟨ad, c, rfl, hx⟩ := hR.xv hu hr hp hn
      cases hs : (chkF vals t P s).2
      · refine Or.inr ⟨fun W hb => ?_, ⟨(chkF vals t P s).1, fun W hb => ?_⟩, fun W hb => pparts_sick (hx.keep hb) c hs⟩
        · have := rsound_any c W (hx.keep hb)
          rwa [hs] at this
        · have := pcheck_any (hx.keep hb) c
          rwa [hs] at this
      · exact Or.inl ⟨P, ad, c, rfl, rfl, hx, hs⟩
    · obtain ⟨a, c, rfl⟩ := rd12_len hR
      have hno : rightB t p s = false ∨ (vals.length : Int) ≠ cellsN t p := by
        cases hr : rightB t p s
        · exact Or.inl rfl
        · exact Or.inr fun h => hg ⟨hr, h⟩
      exact Or.inr ⟨fun W _ => rsound_no a _ c W hno, ⟨1, fun W _ => pcheck_no a _ c hno⟩, fun W _ => pparts_no a _ c hno⟩
  · obtain ⟨a, c, rfl⟩ := rd12_len hR
    have hno : rightB t p s = false ∨ (vals.length : Int) ≠ cellsN t p := by
      cases hr : rightB t p s
      · exact Or.inl rfl
      · exact absurd (right_bd hr).2.2.2.1 hp
    exact Or.inr ⟨fun W _ => rsound_no a _ c W hno, ⟨1, fun W _ => pcheck_no a _ c hno⟩, fun W _ => pparts_no a _ c hno⟩
/-- both tell one map, and one text of the parts. -/
theorem texts_alike (t p s : Int) (sv : Value) (vals : List Int) (w : World) (hR : Rd w sv 1 vals.length (uints vals)) (hu : ∀ u ∈ vals, VS.U32 u) (hT : TabOk w) (hp : p ≤ 200) :
    ∃ M T : List UInt8,
      (∀ W, Below w.heap.size w W → Calls Tryz.prog 5 #[.agg #[.int .i64 t, .int .i64 p, .int .i64 s], sv] W fun e W' => e = .returned (.string (bs M)) ∧ Below W.heap.size W W') ∧
      (∀ W, Below w.heap.size w W → Calls Tryz.prog 8 #[.agg #[.int .i64 t, .int .i64 p, .int .i64 s], sv] W fun e W' => e = .returned (.string (bs M)) ∧ Below W.heap.size W W') ∧
      (∀ W, Below w.heap.size w W → Calls Tryz.prog 9 #[.agg #[.int .i64 t, .int .i64 p, .int .i64 s], sv] W fun e W' => e = .returned (.string (bs T)) ∧ Below W.heap.size W W') ∧
      (∀ W, Below w.heap.size w W → Calls Tryz.prog 10 #[.agg #[.int .i64 t, .int .i64 p, .int .i64 s], sv] W fun e W' => e = .returned (.string (bs T)) ∧ Below W.heap.size W W') := by
  rcases maps2_alike t p s sv vals w hR hu with ⟨P, ad, c, rfl, rfl, hx, hs⟩ | ⟨h3, ⟨r, h4⟩, h1⟩
  · have bd := hx.bd
    have hl : (partsF vals t P s).length ≤ 33792 := by
      have := partsL_len vals t s (P : Int).toNat
      unfold partsF; omega
    have hok := parts_ok vals t s P (by omega) (by omega)
    refine ⟨mapB vals t P, partsB (partsF vals t P s), fun W hb => map_heap (hx.keep hb) c hs, fun W hb => rmap_any P c W (hx.keep hb) (chk_counts hs).1 (fun W2 hW2 => sound_heap hW2 c hs), fun W hb => ?_, fun W hb => ?_⟩
    · exact pparts_text t P s _ _ c W _ (hT.step hb) hl hok (fun W2 hb2 => pparts_heap ((hx.keep hb).keep hb2) c hs)
    · exact rparts_text t P s _ _ c W _ hl hok (fun W2 hb2 => rparts_any c W2 ((hx.keep hb).keep hb2) hs)
  · obtain ⟨sa, sc, rfl⟩ := rd12_len hR
    refine ⟨[], [], fun W hb => tmap_none t p s sa _ sc W r (fun W2 hb2 => h4 W2 (hb.trans (hb2.mono hb.size))), fun W hb => rmap_none t p s sa _ sc W (fun W2 hb2 => h3 W2 (hb.trans (hb2.mono hb.size))), fun W hb => ?_, fun W hb => ?_⟩
    · refine pparts_text t p s sa _ sc W [] (hT.step hb) (by simp) (by simp) (fun W2 hb2 => (h1 W2 (hb.trans (hb2.mono hb.size))).mono ?_)
      rintro e W' ⟨rfl, r⟩; exact ⟨_, rfl, rowQ_nil r⟩
    · refine rparts_text t p s sa _ sc W [] (by simp) (by simp) (fun W2 hb2 => (rparts_none sa _ sc W2 (fun W3 hb3 => h3 W3 ((hb.trans (hb2.mono hb.size)).trans (hb3.mono (hb.trans (hb2.mono hb.size)).size)))).mono ?_)
      rintro e W' ⟨rfl, r⟩; exact ⟨_, rfl, rowQ_nil r⟩

set_option maxHeartbeats 2000000 in
set_option maxRecDepth 100000 in
theorem tellmaps_any (t p s : Int) (sv : Value) (vals : List Int) (w : World) (hR : Rd w sv 1 vals.length (uints vals)) (hu : ∀ u ∈ vals, VS.U32 u) (hT : TabOk w) :
    Calls Tryz.prog 4 #[.agg #[.int .i64 t, .int .i64 p, .int .i64 s], sv] w fun e w' => e = .returned (.bool true) ∧ Below w.heap.size w w' := by
  have HL := Lib.hid (fun w hT => tlive_any w hT)
  have HT := Lib.hid hT
  have S0 := (BS.start w).alloc (.cells #[.int .i64 t, .int .i64 p, .int .i64 s] 23)
  have c0 := loc_alloc w #[.int .i64 t, .int .i64 p, .int .i64 s] 23
  obtain ⟨sa, sc, rfl⟩ := rd12_len hR
  by_cases hg : 10000 < vals.length ∨ 200 < p
  · clear hR hu hT
    rcases (by omega : 10000 < vals.length ∨ vals.length ≤ 10000 ∧ 200 < p) with h1 | ⟨h1, h2⟩
    · have h1l : (10000 : Int) < vals.length := by omega
      go_enter Tryz.func4, Tryz.ntmps4
      go_wp2_with fail
      refine (HL.out _ (HT.out.step S0.bel)).mono ?_
      rintro e w2 ⟨rfl, r2⟩
      go_wp2
      go_ret
      exact ⟨rfl, S0.bel.trans (r2.mono S0.bel.size)⟩
    · have h1l : (vals.length : Int) ≤ 10000 := by omega
      go_enter Tryz.func4, Tryz.ntmps4
      go_wp2_with fail
      refine (HL.out _ (HT.out.step S0.bel)).mono ?_
      rintro e w2 ⟨rfl, r2⟩
      go_wp2
      go_ret
      exact ⟨rfl, S0.bel.trans (r2.mono S0.bel.size)⟩
  · obtain ⟨M, T, h1, h2, h3, h4⟩ := texts_alike t p s (.slice sa vals.length sc) vals w hR hu hT (by omega)
    have H1 := Lib.hid h1
    have H2 := Lib.hid h2
    have H3 := Lib.hid h3
    have H4 := Lib.hid h4
    have g1 : (vals.length : Int) ≤ 10000 := by omega
    have g2 : p ≤ 200 := by omega
    clear h1 h2 h3 h4 hR hu hT hg
    go_enter Tryz.func4, Tryz.ntmps4
    go_wp2_with fail
    refine wp_region_noPanic ?_
    refine wp_region_held_drew (S := fun w' => BS w [w.heap.size] w' ∧ ∀ o : Nat, w'.cell? ⟨w.heap.size, o, none⟩ = (#[.int .i64 t, .int .i64 p, .int .i64 s] : Array Value)[o]?) (by kernel_rfl) ?_ (fun hHeld => ?_)
    · exact ⟨S0.drew, c0⟩
    refine wT 0 ?_
    refine wT 1 ?_
    refine wT 3 ?_
    refine wT 4 ?_
    refine wR 2 fun K hK => ?_
    go_simp
    refine (calls_b hHeld.1 (H1.out _ hHeld.1.bel)).mono ?_
    rintro e wa ⟨rfl, hV, hVl⟩
    dsimp only
    refine hK.out _ _ ?_ (fun hHeld => ?_)
    · exact ⟨hV, loc_step hVl (by simp) hHeld.2⟩
    clear hK K
    try simp only [Act.put, zA, zB, zC, zD, zE, zF]
    refine wR 5 fun K hK => ?_
    go_simp
    refine (calls_b hHeld.1 (H2.out _ hHeld.1.bel)).mono ?_
    rintro e wb ⟨rfl, hV, hVl⟩
    dsimp only
    refine hK.out _ _ ?_ (fun hHeld => ?_)
    · exact ⟨hV, loc_step hVl (by simp) hHeld.2⟩
    clear hK K
    try simp only [Act.put, zA, zB, zC, zD, zE, zF]
    refine wT 6 ?_
    refine wT 7 ?_
    refine wT 8 ?_
    refine wT 9 ?_
    refine wT 11 ?_
    refine wT 12 ?_
    refine wR 10 fun K hK => ?_
    go_simp
    refine (calls_b hHeld.1 (H3.out _ hHeld.1.bel)).mono ?_
    rintro e wc ⟨rfl, hV, hVl⟩
    dsimp only
    refine hK.out _ _ ?_ (fun hHeld => ?_)
    · exact ⟨hV, loc_step hVl (by simp) hHeld.2⟩
    clear hK K
    try simp only [Act.put, zA, zB, zC, zD, zE, zF]
    refine wR 13 fun K hK => ?_
    go_simp
    refine (calls_b hHeld.1 (H4.out _ hHeld.1.bel)).mono ?_
    rintro e wd ⟨rfl, hV, hVl⟩
    dsimp only
    refine hK.out _ _ ?_ (fun hHeld => ?_)
    · exact ⟨hV, loc_step hVl (by simp) hHeld.2⟩
    clear hK K
    try simp only [Act.put, zA, zB, zC, zD, zE, zF]
    refine wT 14 ?_
    refine wT 15 ?_
    refine wT 16 ?_
    refine wR 17 fun K hK => ?_
    go_simp
    refine (calls_b hHeld.1 (HL.out _ (HT.out.step hHeld.1.bel))).mono ?_
    rintro e we ⟨rfl, hV, hVl⟩
    dsimp only
    refine hK.out _ _ ?_ (fun hHeld => ?_)
    · exact ⟨hV, loc_step hVl (by simp) hHeld.2⟩
    clear hK K
    try simp only [Act.put, zA, zB, zC, zD, zE, zF]
    refine wT 18 ?_
    refine wT 19 ?_
    refine wpAnyH_done (by kernel_rfl) (NoPanic.normal ?_) _
    have bel := hHeld.1.bel
    clear hHeld
    go_wp2
    go_ret
    exact ⟨by simp, bel⟩
end Go.Proofs.YtkhanbedcmmlcaaGreatDoor
