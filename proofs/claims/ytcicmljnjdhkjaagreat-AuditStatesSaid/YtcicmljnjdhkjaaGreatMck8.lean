/- parts of the proof, merged by a program. -/
import Derived.Test.YtcicmljnjdhkjaaGreatMck7
import Derived.ProofKit
import Derived.OpenShut
import Derived.Deep.Slices
set_option linter.unusedSimpArgs false
set_option linter.unusedVariables false
/- the program's audit: Check, Parts, Live. -/
namespace Go.Proofs.YtcicmljnjdhkjaaGreat
open Go.RowKit
theorem chk_eq (vs : List Int) (t p s : Int) : ((chkF vs t p s).1 == 0) = (chkF vs t p s).2 ∧ 0 ≤ (chkF vs t p s).1 ∧ ((chkF vs t p s).2 = false → 0 < (chkF vs t p s).1) ∧ ((chkF vs t p s).2 = true → (chkF vs t p s).1 = 0) := by
  unfold chkF
  repeat' split
  all_goals simp
section
variable {w : World} {t p s : Int}
set_option maxRecDepth 100000 in
theorem psize_no (a : Option Addr) (m c b : Nat) (e0 : w.cell? ⟨b, 0, none⟩ = some (.int .i64 t)) (e1 : w.cell? ⟨b, 1, none⟩ = some (.int .i64 p)) (e2 : w.cell? ⟨b, 2, none⟩ = some (.int .i64 s)) (e3 : w.cell? ⟨b, 3, none⟩ = some (.slice a m c)) (h : rightB t p s = false ∨ (m : Int) ≠ cellsN t p) :
    Calls Tryz.prog 122 #[.pointer (some ⟨b, 0, none⟩)] w fun e W' => e = .returned (.bool false) ∧ Below w.heap.size w W' := by
  cases hr : rightB t p s
  · have HC := Lib.hid (fun w => check_wrong t p s w hr)
    clear h hr
    go_enter Tryz.func122, Tryz.ntmps122
    go_wp2_with fail
    refine wp_region_noPanic ?_
    refine wp_region_held_drew (S := fun w' => w'.cell? ⟨b, 0, none⟩ = some (.int .i64 t) ∧ w'.cell? ⟨b, 1, none⟩ = some (.int .i64 p) ∧ w'.cell? ⟨b, 2, none⟩ = some (.int .i64 s) ∧ w'.cell? ⟨b, 3, none⟩ = some (.slice a m c)) (by kernel_rfl) ?_ (fun hHeld => ?_)
    · exact ⟨e0, e1, e2, e3⟩
    refine wpAnyH_take (i := 0) (oi := _) (v := ?_) rfl (by kernel_rfl) (by kernel_rfl) (by kernel_rfl) (fun _ _ _ h => h) (Or.inl ⟨by rfl, ?_⟩) (by assumption) ?_
    rotate_left
    · intro w hSw; (try dsimp only at hSw); go_simp; try with_reducible rfl
    try simp only [Act.put, zA, zB, zD, zE, zF]
    refine wpAnyH_take (i := 1) (oi := _) (v := ?_) rfl (by kernel_rfl) (by kernel_rfl) (by kernel_rfl) (fun _ _ _ h => h) (Or.inl ⟨by rfl, ?_⟩) (by assumption) ?_
    rotate_left
    · intro w hSw; (try dsimp only at hSw); go_simp; try with_reducible rfl
    try simp only [Act.put, zA, zB, zC, zD, zE, zF]
    refine wpAnyH_take (i := 2) (oi := _) (v := ?_) rfl (by kernel_rfl) (by kernel_rfl) (by kernel_rfl) (fun _ _ _ h => h) (Or.inl ⟨by rfl, ?_⟩) (by assumption) ?_
    rotate_left
    · intro w hSw; (try dsimp only at hSw); go_simp; try with_reducible rfl
    try simp only [Act.put, zA, zB, zC, zD, zE, zF]
    refine wpAnyH_take (i := 3) (oi := _) (v := ?_) rfl (by kernel_rfl) (by kernel_rfl) (by kernel_rfl) (fun _ _ _ h => h) (Or.inl ⟨by rfl, ?_⟩) (by assumption) ?_
    rotate_left
    · intro w hSw; (try dsimp only at hSw); go_simp; try with_reducible rfl
    try simp only [Act.put, zA, zB, zC, zD, zE, zF]
    refine wpAnyH_ready (rs := [4]) (by kernel_rfl) (by simp) ?_
    refine AllReadyH.cons (o := _) rfl (fun K hK => ?_) AllReadyH.nil
    go_simp
    refine (HC.out _).mono ?_
    rintro e w1 ⟨rfl, r1⟩
    have k1 := held4g r1 hHeld
    refine hK.out _ _ ?_ (fun hHeld => ?_)
    · exact k1
    clear hK K
    try simp only [Act.put, zA, zB, zC, zD, zE, zF]
    refine wpAnyH_take (i := 5) (oi := _) (v := ?_) rfl (by kernel_rfl) (by kernel_rfl) (by kernel_rfl) (fun _ _ _ h => h) (Or.inl ⟨by rfl, ?_⟩) (by assumption) ?_
    rotate_left
    · intro w hSw; (try dsimp only at hSw); go_simp; try with_reducible rfl
    try simp only [Act.put, zA, zB, zC, zD, zE, zF]
    refine wpAnyH_take (i := 6) (oi := _) (v := ?_) rfl (by kernel_rfl) (by kernel_rfl) (by kernel_rfl) (fun _ _ _ h => h) (Or.inl ⟨by rfl, ?_⟩) (by assumption) ?_
    rotate_left
    · intro w hSw; (try dsimp only at hSw); go_simp; try with_reducible rfl
    try simp only [Act.put, zA, zB, zC, zD, zE, zF]
    refine wpAnyH_take (i := 7) (oi := _) (v := undef) rfl (by kernel_rfl) (by kernel_rfl) (by kernel_rfl) (fun _ _ _ h => h) (Or.inr ⟨by rfl, rfl⟩) (by assumption) ?_
    try simp only [Act.put, zA, zB, zC, zD, zE, zF]
    refine wpAnyH_take (i := 8) (oi := _) (v := undef) rfl (by kernel_rfl) (by kernel_rfl) (by kernel_rfl) (fun _ _ _ h => h) (Or.inr ⟨by rfl, rfl⟩) (by assumption) ?_
    try simp only [Act.put, zA, zB, zC, zD, zE, zF]
    refine wpAnyH_take (i := 9) (oi := _) (v := undef) rfl (by kernel_rfl) (by kernel_rfl) (by kernel_rfl) (fun _ _ _ h => h) (Or.inr ⟨by rfl, rfl⟩) (by assumption) ?_
    try simp only [Act.put, zA, zB, zC, zD, zE, zF]
    refine wpAnyH_take (i := 10) (oi := _) (v := undef) rfl (by kernel_rfl) (by kernel_rfl) (by kernel_rfl) (fun _ _ _ h => h) (Or.inr ⟨by rfl, rfl⟩) (by assumption) ?_
    try simp only [Act.put, zA, zB, zC, zD, zE, zF]
    refine wpAnyH_take (i := 11) (oi := _) (v := undef) rfl (by kernel_rfl) (by kernel_rfl) (by kernel_rfl) (fun _ _ _ h => h) (Or.inr ⟨by rfl, rfl⟩) (by assumption) ?_
    try simp only [Act.put, zA, zB, zC, zD, zE, zF]
    refine wpAnyH_take (i := 12) (oi := _) (v := undef) rfl (by kernel_rfl) (by kernel_rfl) (by kernel_rfl) (fun _ _ _ h => h) (Or.inr ⟨by rfl, rfl⟩) (by assumption) ?_
    try simp only [Act.put, zA, zB, zC, zD, zE, zF]
    refine wpAnyH_take (i := 13) (oi := _) (v := undef) rfl (by kernel_rfl) (by kernel_rfl) (by kernel_rfl) (fun _ _ _ h => h) (Or.inr ⟨by rfl, rfl⟩) (by assumption) ?_
    try simp only [Act.put, zA, zB, zC, zD, zE, zF]
    refine wpAnyH_take (i := 14) (oi := _) (v := undef) rfl (by kernel_rfl) (by kernel_rfl) (by kernel_rfl) (fun _ _ _ h => h) (Or.inr ⟨by rfl, rfl⟩) (by assumption) ?_
    try simp only [Act.put, zA, zB, zC, zD, zE, zF]
    refine wpAnyH_take (i := 15) (oi := _) (v := undef) rfl (by kernel_rfl) (by kernel_rfl) (by kernel_rfl) (fun _ _ _ h => h) (Or.inr ⟨by rfl, rfl⟩) (by assumption) ?_
    try simp only [Act.put, zA, zB, zC, zD, zE, zF]
    refine wpAnyH_take (i := 16) (oi := _) (v := undef) rfl (by kernel_rfl) (by kernel_rfl) (by kernel_rfl) (fun _ _ _ h => h) (Or.inr ⟨by rfl, rfl⟩) (by assumption) ?_
    try simp only [Act.put, zA, zB, zC, zD, zE, zF]
    refine wpAnyH_take (i := 17) (oi := _) (v := undef) rfl (by kernel_rfl) (by kernel_rfl) (by kernel_rfl) (fun _ _ _ h => h) (Or.inr ⟨by rfl, rfl⟩) (by assumption) ?_
    try simp only [Act.put, zA, zB, zC, zD, zE, zF]
    refine wpAnyH_take (i := 18) (oi := _) (v := ?_) rfl (by kernel_rfl) (by kernel_rfl) (by kernel_rfl) (fun _ _ _ h => h) (Or.inl ⟨by rfl, ?_⟩) (by assumption) ?_
    rotate_left
    · intro w hSw; (try dsimp only at hSw); go_simp; try with_reducible rfl
    try simp only [Act.put, zA, zB, zC, zD, zE, zF]
    refine wpAnyH_take (i := 19) (oi := _) (v := ?_) rfl (by kernel_rfl) (by kernel_rfl) (by kernel_rfl) (fun _ _ _ h => h) (Or.inl ⟨by rfl, ?_⟩) (by assumption) ?_
    rotate_left
    · intro w hSw; (try dsimp only at hSw); go_simp; try with_reducible rfl
    try simp only [Act.put, zA, zB, zC, zD, zE, zF]
    refine wpAnyH_done (by kernel_rfl) ?_ _
    refine NoPanic.normal ?_
    go_wp2
    go_ret
    exact ⟨rfl, (Below.refl _ _).drew.trans r1⟩
  · have HC := Lib.hid (fun w => check_right t p s w hr)
    have hcf : cellsF t p s = cellsN t p := by simp [cellsF, hr]
    have HN := Lib.hid (fun w => cells_any t p s w)
    rw [hcf] at HN
    have hm : (m : Int) ≠ cellsN t p := h.resolve_left (by rw [hr]; simp)
    generalize cellsN t p = z at *
    have hmb : ((m : Int) == z) = false := by simpa using hm
    clear h hr hcf hm
    go_enter Tryz.func122, Tryz.ntmps122
    go_wp2_with fail
    refine wp_region_noPanic ?_
    refine wp_region_held_drew (S := fun w' => w'.cell? ⟨b, 0, none⟩ = some (.int .i64 t) ∧ w'.cell? ⟨b, 1, none⟩ = some (.int .i64 p) ∧ w'.cell? ⟨b, 2, none⟩ = some (.int .i64 s) ∧ w'.cell? ⟨b, 3, none⟩ = some (.slice a m c)) (by kernel_rfl) ?_ (fun hHeld => ?_)
    · exact ⟨e0, e1, e2, e3⟩
    refine wpAnyH_take (i := 0) (oi := _) (v := ?_) rfl (by kernel_rfl) (by kernel_rfl) (by kernel_rfl) (fun _ _ _ h => h) (Or.inl ⟨by rfl, ?_⟩) (by assumption) ?_
    rotate_left
    · intro w hSw; (try dsimp only at hSw); go_simp; try with_reducible rfl
    try simp only [Act.put, zA, zB, zD, zE, zF]
    refine wpAnyH_take (i := 1) (oi := _) (v := ?_) rfl (by kernel_rfl) (by kernel_rfl) (by kernel_rfl) (fun _ _ _ h => h) (Or.inl ⟨by rfl, ?_⟩) (by assumption) ?_
    rotate_left
    · intro w hSw; (try dsimp only at hSw); go_simp; try with_reducible rfl
    try simp only [Act.put, zA, zB, zC, zD, zE, zF]
    refine wpAnyH_take (i := 2) (oi := _) (v := ?_) rfl (by kernel_rfl) (by kernel_rfl) (by kernel_rfl) (fun _ _ _ h => h) (Or.inl ⟨by rfl, ?_⟩) (by assumption) ?_
    rotate_left
    · intro w hSw; (try dsimp only at hSw); go_simp; try with_reducible rfl
    try simp only [Act.put, zA, zB, zC, zD, zE, zF]
    refine wpAnyH_take (i := 3) (oi := _) (v := ?_) rfl (by kernel_rfl) (by kernel_rfl) (by kernel_rfl) (fun _ _ _ h => h) (Or.inl ⟨by rfl, ?_⟩) (by assumption) ?_
    rotate_left
    · intro w hSw; (try dsimp only at hSw); go_simp; try with_reducible rfl
    try simp only [Act.put, zA, zB, zC, zD, zE, zF]
    refine wpAnyH_ready (rs := [4]) (by kernel_rfl) (by simp) ?_
    refine AllReadyH.cons (o := _) rfl (fun K hK => ?_) AllReadyH.nil
    go_simp
    refine (HC.out _).mono ?_
    rintro e w1 ⟨rfl, r1⟩
    have k1 := held4g r1 hHeld
    refine hK.out _ _ ?_ (fun hHeld => ?_)
    · exact k1
    clear hK K
    try simp only [Act.put, zA, zB, zC, zD, zE, zF]
    refine wpAnyH_take (i := 5) (oi := _) (v := ?_) rfl (by kernel_rfl) (by kernel_rfl) (by kernel_rfl) (fun _ _ _ h => h) (Or.inl ⟨by rfl, ?_⟩) (by assumption) ?_
    rotate_left
    · intro w hSw; (try dsimp only at hSw); go_simp; try with_reducible rfl
    try simp only [Act.put, zA, zB, zC, zD, zE, zF]
    refine wpAnyH_take (i := 6) (oi := _) (v := ?_) rfl (by kernel_rfl) (by kernel_rfl) (by kernel_rfl) (fun _ _ _ h => h) (Or.inl ⟨by rfl, ?_⟩) (by assumption) ?_
    rotate_left
    · intro w hSw; (try dsimp only at hSw); go_simp; try with_reducible rfl
    try simp only [Act.put, zA, zB, zC, zD, zE, zF]
    refine wpAnyH_take (i := 7) (oi := _) (v := ?_) rfl (by kernel_rfl) (by kernel_rfl) (by kernel_rfl) (fun _ _ _ h => h) (Or.inl ⟨by rfl, ?_⟩) (by assumption) ?_
    rotate_left
    · intro w hSw; (try dsimp only at hSw); go_simp; try with_reducible rfl
    try simp only [Act.put, zA, zB, zC, zD, zE, zF]
    refine wpAnyH_take (i := 8) (oi := _) (v := ?_) rfl (by kernel_rfl) (by kernel_rfl) (by kernel_rfl) (fun _ _ _ h => h) (Or.inl ⟨by rfl, ?_⟩) (by assumption) ?_
    rotate_left
    · intro w hSw; (try dsimp only at hSw); go_simp; try with_reducible rfl
    try simp only [Act.put, zA, zB, zC, zD, zE, zF]
    refine wpAnyH_take (i := 9) (oi := _) (v := ?_) rfl (by kernel_rfl) (by kernel_rfl) (by kernel_rfl) (fun _ _ _ h => h) (Or.inl ⟨by rfl, ?_⟩) (by assumption) ?_
    rotate_left
    · intro w hSw; (try dsimp only at hSw); go_simp; try with_reducible rfl
    try simp only [Act.put, zA, zB, zC, zD, zE, zF]
    refine wpAnyH_take (i := 10) (oi := _) (v := ?_) rfl (by kernel_rfl) (by kernel_rfl) (by kernel_rfl) (fun _ _ _ h => h) (Or.inl ⟨by rfl, ?_⟩) (by assumption) ?_
    rotate_left
    · intro w hSw; (try dsimp only at hSw); go_simp; try with_reducible rfl
    try simp only [Act.put, zA, zB, zC, zD, zE, zF]
    refine wpAnyH_take (i := 11) (oi := _) (v := ?_) rfl (by kernel_rfl) (by kernel_rfl) (by kernel_rfl) (fun _ _ _ h => h) (Or.inl ⟨by rfl, ?_⟩) (by assumption) ?_
    rotate_left
    · intro w hSw; (try dsimp only at hSw); go_simp; try with_reducible rfl
    try simp only [Act.put, zA, zB, zC, zD, zE, zF]
    refine wpAnyH_take (i := 12) (oi := _) (v := ?_) rfl (by kernel_rfl) (by kernel_rfl) (by kernel_rfl) (fun _ _ _ h => h) (Or.inl ⟨by rfl, ?_⟩) (by assumption) ?_
    rotate_left
    · intro w hSw; (try dsimp only at hSw); go_simp; try with_reducible rfl
    try simp only [Act.put, zA, zB, zC, zD, zE, zF]
    refine wpAnyH_take (i := 13) (oi := _) (v := ?_) rfl (by kernel_rfl) (by kernel_rfl) (by kernel_rfl) (fun _ _ _ h => h) (Or.inl ⟨by rfl, ?_⟩) (by assumption) ?_
    rotate_left
    · intro w hSw; (try dsimp only at hSw); go_simp; try with_reducible rfl
    try simp only [Act.put, zA, zB, zC, zD, zE, zF]
    refine wpAnyH_take (i := 14) (oi := _) (v := ?_) rfl (by kernel_rfl) (by kernel_rfl) (by kernel_rfl) (fun _ _ _ h => h) (Or.inl ⟨by rfl, ?_⟩) (by assumption) ?_
    rotate_left
    · intro w hSw; (try dsimp only at hSw); go_simp; try with_reducible rfl
    try simp only [Act.put, zA, zB, zC, zD, zE, zF]
    refine wpAnyH_take (i := 15) (oi := _) (v := ?_) rfl (by kernel_rfl) (by kernel_rfl) (by kernel_rfl) (fun _ _ _ h => h) (Or.inl ⟨by rfl, ?_⟩) (by assumption) ?_
    rotate_left
    · intro w hSw; (try dsimp only at hSw); go_simp; try with_reducible rfl
    try simp only [Act.put, zA, zB, zC, zD, zE, zF]
    refine wpAnyH_ready (rs := [16]) (by kernel_rfl) (by simp) ?_
    refine AllReadyH.cons (o := _) rfl (fun K hK => ?_) AllReadyH.nil
    go_simp
    refine (HN.out _).mono ?_
    rintro e w2 ⟨rfl, r2⟩
    have k2 := held4g r2 hHeld
    refine hK.out _ _ ?_ (fun hHeld => ?_)
    · exact k2
    clear hK K
    try simp only [Act.put, zA, zB, zC, zD, zE, zF]
    refine wpAnyH_take (i := 17) (oi := _) (v := ?_) rfl (by kernel_rfl) (by kernel_rfl) (by kernel_rfl) (fun _ _ _ h => h) (Or.inl ⟨by rfl, ?_⟩) (by assumption) ?_
    rotate_left
    · intro w hSw; (try dsimp only at hSw); go_simp; try with_reducible rfl
    try simp only [Act.put, zA, zB, zC, zD, zE, zF]
    refine wpAnyH_take (i := 18) (oi := _) (v := ?_) rfl (by kernel_rfl) (by kernel_rfl) (by kernel_rfl) (fun _ _ _ h => h) (Or.inl ⟨by rfl, ?_⟩) (by assumption) ?_
    rotate_left
    · intro w hSw; (try dsimp only at hSw); go_simp; try with_reducible rfl
    try simp only [Act.put, zA, zB, zC, zD, zE, zF]
    refine wpAnyH_take (i := 19) (oi := _) (v := ?_) rfl (by kernel_rfl) (by kernel_rfl) (by kernel_rfl) (fun _ _ _ h => h) (Or.inl ⟨by rfl, ?_⟩) (by assumption) ?_
    rotate_left
    · intro w hSw; (try dsimp only at hSw); go_simp; try with_reducible rfl
    try simp only [Act.put, zA, zB, zC, zD, zE, zF]
    refine wpAnyH_done (by kernel_rfl) ?_ _
    refine NoPanic.normal ?_
    go_wp2
    go_ret
    exact ⟨rfl, (Below.refl _ _).drew.trans (r1.trans (r2.mono r1.size))⟩
def SeeNo (w : World) (b R : Nat) (t p s : Int) (a : Option Addr) (m c : Nat) (v : Value) (wr : World) : Prop :=
  v = .int .i64 0 ∧ ((wr.cell? ⟨b, 0, none⟩ = some (.int .i64 t) ∧ wr.cell? ⟨b, 1, none⟩ = some (.int .i64 p)) ∧ wr.cell? ⟨b, 2, none⟩ = some (.int .i64 s) ∧ wr.cell? ⟨b, 3, none⟩ = some (.slice a m c)) ∧ wr.heap[R]? = some (.cells (fnC b) 29) ∧ Below w.heap.size w wr
set_option maxHeartbeats 4000000 in
set_option maxRecDepth 100000 in
theorem psee_no (a : Option Addr) (m c : Nat) (h : rightB t p s = false ∨ (m : Int) ≠ cellsN t p) : Calls Tryz.prog 57 #[.agg #[.int .i64 t, .int .i64 p, .int .i64 s], .slice a m c] w fun e W' => (∃ b : Nat, e = .returned (.tuple #[.pointer (some ⟨b, 0, none⟩), .int .i64 1])) ∧ Below w.heap.size w W' := by
  have h0 : SeeNo w (w.heap.size + 1 + 1) (w.heap.size + 1 + 1 + 1) t p s a m c (.int .i64 0) ((((w.alloc (.cells #[.int .i64 t, .int .i64 p, .int .i64 s] 23)).alloc (.map #[] 0)).alloc (.cells #[.int .i64 t, .int .i64 p, .int .i64 s, .slice a m c, .slice none 0 0, .map (some (w.heap.size + 1))] 145)).alloc (.cells (fnC (w.heap.size + 1 + 1)) 29)) := by
    have S := (((BS.start w).alloc (.cells #[.int .i64 t, .int .i64 p, .int .i64 s] 23)).alloc (.map #[] 0)).alloc (.cells #[.int .i64 t, .int .i64 p, .int .i64 s, .slice a m c, .slice none 0 0, .map (some (w.heap.size + 1))] 145)
    have S2 := S.alloc (.cells (fnC (w.heap.size + 1 + 1)) 29)
    have hb : ((((w.alloc (.cells #[.int .i64 t, .int .i64 p, .int .i64 s] 23)).alloc (.map #[] 0)).alloc (.cells #[.int .i64 t, .int .i64 p, .int .i64 s, .slice a m c, .slice none 0 0, .map (some (w.heap.size + 1))] 145)).alloc (.cells (fnC (w.heap.size + 1 + 1)) 29)).heap[w.heap.size + 1 + 1]? = some (.cells #[.int .i64 t, .int .i64 p, .int .i64 s, .slice a m c, .slice none 0 0, .map (some (w.heap.size + 1))] 145) := (heap_alloc_old _ _ (by simp)).trans (hb_alloc _ _ _ (by simp))
    exact ⟨rfl, ⟨⟨cell?_of_heap hb, cell?_of_heap hb⟩, cell?_of_heap hb, cell?_of_heap hb⟩, hb_alloc _ _ _ (by simp), S2.bel⟩
  have hmm := @run_makeMap Tryz.prog
  have H0 := Lib.hid h0
  clear h0
  go_enter Tryz.func57, Tryz.ntmps57
  go_wp2_with fail
  go_loopw [7, 8, 36] (fun _ _ v36 wr => SeeNo w (w.heap.size + 1 + 1) (w.heap.size + 1 + 1 + 1) t p s a m c v36 wr) (fun _ _ v36 _ => 10 - (intOf v36).toNat)
  case atStart => exact H0.out
  case round =>
    obtain ⟨rfl, ⟨⟨e0, e1⟩, e2, e3⟩, hfn, hb⟩ := hrel
    have cf : wr.cell? ⟨w.heap.size + 1 + 1 + 1, 0, none⟩ = some (.func (.func 122) #[.pointer (some ⟨w.heap.size + 1 + 1, 0, none⟩)] #[]) := cell?_of_heap hfn
    have HR := Lib.hid (psize_no a m c _ e0 e1 e2 e3 h)
    have HB := Lib.hid hb
    clear H0 hfn e0 e1 e2 e3 hb h
    go_wp2_with fail
    refine HR.out.mono ?_
    rintro e w2 ⟨rfl, r2⟩
    go_wp2
    refine bodyPost_ret (v := .tuple #[.pointer (some ⟨w.heap.size + 1 + 1, 0, none⟩), .int .i64 1]) (by simp [results, Tryz.results57, go_sem]) rfl ?_
    exact ⟨⟨_, rfl⟩, HB.out.trans (r2.mono HB.out.size)⟩
theorem pcheck_no (a : Option Addr) (m c : Nat) (h : rightB t p s = false ∨ (m : Int) ≠ cellsN t p) : Calls Tryz.prog 20 #[.agg #[.int .i64 t, .int .i64 p, .int .i64 s], .slice a m c] w fun e W' => e = .returned (.tuple #[.int .i64 1, .bool false]) ∧ Below w.heap.size w W' := by
  have H := Lib.hid (fun w => psee_no (w := w) a m c h)
  clear h
  go_enter Tryz.func20, Tryz.ntmps20
  go_wp2_with fail
  refine (H.out _).mono ?_
  rintro e w1 ⟨⟨b, rfl⟩, r1⟩
  go_wp2
  refine bodyPost_ret (v := .tuple #[.int .i64 1, .bool false]) (by simp [results, Tryz.results20, go_sem]) rfl ⟨rfl, ?_⟩
  exact ((Below.refl _ _).alloc (Nat.le_refl _) _).trans (r1.mono (by simp))
theorem pparts_no (a : Option Addr) (m c : Nat) (h : rightB t p s = false ∨ (m : Int) ≠ cellsN t p) : Calls Tryz.prog 23 #[.agg #[.int .i64 t, .int .i64 p, .int .i64 s], .slice a m c] w fun e W' => e = .returned (.slice none 0 0) ∧ Below w.heap.size w W' := by
  have H := Lib.hid (fun w => psee_no (w := w) a m c h)
  clear h
  go_enter Tryz.func23, Tryz.ntmps23
  go_wp2_with fail
  refine (H.out _).mono ?_
  rintro e w1 ⟨⟨b, rfl⟩, r1⟩
  go_wp2
  go_ret
  exact ⟨rfl, ((Below.refl _ _).alloc (Nat.le_refl _) _).trans (r1.mono (by simp))⟩
theorem plive_no (a : Option Addr) (m c : Nat) (h : rightB t p s = false ∨ (m : Int) ≠ cellsN t p) : Calls Tryz.prog 26 #[.agg #[.int .i64 t, .int .i64 p, .int .i64 s], .slice a m c] w fun e W' => e = .returned (.slice none 0 0) ∧ Below w.heap.size w W' := by
  have H := Lib.hid (fun w => psee_no (w := w) a m c h)
  clear h
  go_enter Tryz.func26, Tryz.ntmps26
  go_wp2_with fail
  refine (H.out _).mono ?_
  rintro e w1 ⟨⟨b, rfl⟩, r1⟩
  go_wp2
  go_ret
  exact ⟨rfl, ((Below.refl _ _).alloc (Nat.le_refl _) _).trans (r1.mono (by simp))⟩
end
section
variable {w : World} {t s : Int} {P : Nat} {ad : Addr} {n : Nat} {vs : List Int}
theorem XV.old (h : XV w t P s ad n vs) : ad.block < w.heap.size := by
  have hn := h.bd
  have := World.block_lt_of_cell? _ _ (h.cells 0 (by omega))
  rwa [add_block] at this
theorem pcheck_any (h : XV w t P s ad n vs) (c : Nat) : Calls Tryz.prog 20 #[.agg #[.int .i64 t, .int .i64 P, .int .i64 s], .slice (some ad) n c] w fun e W' => e = .returned (.tuple #[.int .i64 (chkF vs t P s).1, .bool (chkF vs t P s).2]) ∧ Below w.heap.size w W' := by
  have hb := (Below.refl w.heap.size w).alloc (Nat.le_refl _) (.cells #[.int .i64 t, .int .i64 P, .int .i64 s] 23)
  have H := Lib.hid (psee_any (h.keep hb) c (h.keep hb).old)
  have HE := Lib.hid (chk_eq vs t P s).1
  unfold SeeP at H
  clear h
  generalize chkF vs t P s = r at *
  go_enter Tryz.func20, Tryz.ntmps20
  go_wp2_with fail
  refine H.out.mono ?_
  rintro e w1 ⟨b, mb, rfl, r1, -⟩
  go_wp2
  refine bodyPost_ret (v := .tuple #[.int .i64 r.1, .bool (r.1 == 0)]) (by simp [results, Tryz.results20, go_sem]) rfl ⟨by rw [HE.out], ?_⟩
  exact hb.trans (r1.mono hb.size)
theorem pparts_sick (h : XV w t P s ad n vs) (c : Nat) (hs : (chkF vs t P s).2 = false) : Calls Tryz.prog 23 #[.agg #[.int .i64 t, .int .i64 P, .int .i64 s], .slice (some ad) n c] w fun e W' => e = .returned (.slice none 0 0) ∧ Below w.heap.size w W' := by
  have hb := (Below.refl w.heap.size w).alloc (Nat.le_refl _) (.cells #[.int .i64 t, .int .i64 P, .int .i64 s] 23)
  have H := Lib.hid (psee_any (h.keep hb) c (h.keep hb).old)
  have hp := (chk_eq vs t P s).2.2.1 hs
  unfold SeeP at H
  clear h hs
  generalize chkF vs t P s = r at *
  go_enter Tryz.func23, Tryz.ntmps23
  go_wp2_with fail
  refine H.out.mono ?_
  rintro e w1 ⟨b, mb, rfl, r1, -⟩
  go_wp2
  go_ret
  exact ⟨rfl, hb.trans (r1.mono hb.size)⟩
theorem plive_sick (h : XV w t P s ad n vs) (c : Nat) (hs : (chkF vs t P s).2 = false) : Calls Tryz.prog 26 #[.agg #[.int .i64 t, .int .i64 P, .int .i64 s], .slice (some ad) n c] w fun e W' => e = .returned (.slice none 0 0) ∧ Below w.heap.size w W' := by
  have hb := (Below.refl w.heap.size w).alloc (Nat.le_refl _) (.cells #[.int .i64 t, .int .i64 P, .int .i64 s] 23)
  have H := Lib.hid (psee_any (h.keep hb) c (h.keep hb).old)
  have hp := (chk_eq vs t P s).2.2.1 hs
  unfold SeeP at H
  clear h hs
  generalize chkF vs t P s = r at *
  go_enter Tryz.func26, Tryz.ntmps26
  go_wp2_with fail
  refine H.out.mono ?_
  rintro e w1 ⟨b, mb, rfl, r1, -⟩
  go_wp2
  go_ret
  exact ⟨rfl, hb.trans (r1.mono hb.size)⟩
theorem chk_tiles (hs : (chkF vs t P s).2 = true) : tilesF vs t P = true := by
  unfold chkF at hs
  split at hs
  · simp at hs
  · rename_i h
    simpa using h
theorem pparts_heap (h : XV w t P s ad n vs) (c : Nat) (hs : (chkF vs t P s).2 = true) : Calls Tryz.prog 23 #[.agg #[.int .i64 t, .int .i64 P, .int .i64 s], .slice (some ad) n c] w fun e W' => ∃ v, e = .returned v ∧ RowQ w (partsF vs t P s) v W' := by
  have hb := (Below.refl w.heap.size w).alloc (Nat.le_refl _) (.cells #[.int .i64 t, .int .i64 P, .int .i64 s] 23)
  have H := Lib.hid (psee_any (h.keep hb) c (h.keep hb).old)
  have hp := (chk_eq vs t P s).2.2.2 hs
  have ht := chk_tiles hs
  have HPl := Lib.hid (parts_law (s := s) ht)
  unfold SeeP at H
  rw [hp, hs] at H
  have HSp := Lib.hid (sp_in ht)
  clear h hs hp ht
  go_enter Tryz.func23, Tryz.ntmps23
  go_wp2_with fail
  refine H.out.mono ?_
  rintro e w1 ⟨b, mb, rfl, r1, hx⟩
  have HX := Lib.hid (hx trivial)
  clear hx
  go_wp2_with fail
  obtain ⟨g, ml, h1, h2⟩ := HX.out
  have HP := Lib.hid (pparts_any _ w1 ml g P _ h1 h2 HSp.out)
  rw [HPl.out] at HP
  clear h1 h2
  refine HP.out.mono ?_
  rintro e w2 ⟨v, rfl, q1, q2, q3⟩
  have hb2 := hb.trans (r1.mono hb.size)
  have HQ := Lib.hid (And.intro q1 (And.intro q2 q3))
  clear q1 q2 q3
  go_wp2
  go_ret
  exact ⟨v, rfl, HQ.out.1, fun k hk => Nat.le_trans hb2.size (HQ.out.2.1 k hk), hb2.trans (HQ.out.2.2.mono hb2.size)⟩
theorem plive_heap (h : XV w t P s ad n vs) (c : Nat) (hs : (chkF vs t P s).2 = true) : Calls Tryz.prog 26 #[.agg #[.int .i64 t, .int .i64 P, .int .i64 s], .slice (some ad) n c] w fun e W' => ∃ v, e = .returned v ∧ RowB w (blocksF vs t P s) v W' := by
  have hb := (Below.refl w.heap.size w).alloc (Nat.le_refl _) (.cells #[.int .i64 t, .int .i64 P, .int .i64 s] 23)
  have H := Lib.hid (psee_any (h.keep hb) c (h.keep hb).old)
  have hp := (chk_eq vs t P s).2.2.2 hs
  have ht := chk_tiles hs
  have HPl := Lib.hid (parts_law (s := s) ht)
  unfold SeeP at H
  rw [hp, hs] at H
  have HSp := Lib.hid (sp_in ht)
  clear h hs hp ht
  go_enter Tryz.func26, Tryz.ntmps26
  go_wp2_with fail
  refine H.out.mono ?_
  rintro e w1 ⟨b, mb, rfl, r1, hx⟩
  have HX := Lib.hid (hx trivial)
  clear hx
  go_wp2_with fail
  obtain ⟨g, ml, h1, h2⟩ := HX.out
  have HP := Lib.hid (pblocks_any _ w1 ml g P _ h1 h2 HSp.out)
  rw [HPl.out] at HP
  clear h1 h2
  refine HP.out.mono ?_
  rintro e w2 ⟨v, rfl, q1, q2, q3⟩
  have hb2 := hb.trans (r1.mono hb.size)
  have HQ := Lib.hid (And.intro q1 (And.intro q2 q3))
  clear q1 q2 q3
  go_wp2
  go_ret
  exact ⟨v, rfl, HQ.out.1, fun k hk => Nat.le_trans hb2.size (HQ.out.2.1 k hk), hb2.trans (HQ.out.2.2.mono hb2.size)⟩
end
end Go.Proofs.YtcicmljnjdhkjaaGreat
/- the document's audit: Sound, Live, Parts, State of values that are a heap. -/
namespace Go.Proofs.YtcicmljnjdhkjaaGreat
open Go.RowKit
section
variable {t p s : Int} {ad : Addr} {n c : Nat} {vs : List Int}

theorem rsound_any (c : Nat) (w : World) (h : XV w t p s ad n vs) :
    Calls Tryz.prog 31 #[.agg #[.int .i64 t, .int .i64 p, .int .i64 s], .slice (some ad) n c] w fun e w' => e = .returned (.bool (chkF vs t p s).2) ∧ Below w.heap.size w w' := by
  have H := Lib.hid (fun w (h : XV w t p s ad n vs) => rcheck_any c w h)
  have h2 := h.keep ((Below.refl _ _).alloc (Nat.le_refl _) (.cells #[.int .i64 t, .int .i64 p, .int .i64 s] 23))
  have HV := Lib.hid h
  have HV2 := Lib.hid h2
  generalize chkF vs t p s = r at *
  clear h h2
  go_enter Tryz.func31, Tryz.ntmps31
  go_wp2_with fail
  refine (H.out _ (by first | exact HV.out | exact HV2.out)).mono ?_
  rintro e w1 ⟨rfl, hb⟩
  go_wp2
  go_ret
  refine ⟨rfl, ?_⟩
  (repeat (first | exact Below.refl _ _ | assumption | refine Below.setCell ?_ (by first | omega | (simp; done) | (simp; omega)) _ | refine Below.alloc ?_ (by first | omega | (simp; done) | (simp; omega)) _ | refine Below.drew ?_ | refine Below.trans ?_ (Below.mono ‹Below _ _ _› (by first | omega | (simp; done) | (simp; omega)))))

theorem rlive_any (c : Nat) (w : World) (h : XV w t p s ad n vs) (hs : (chkF vs t p s).2 = true) :
    Calls Tryz.prog 52 #[.agg #[.int .i64 t, .int .i64 p, .int .i64 s], .slice (some ad) n c] w fun e w' => ∃ v, e = .returned v ∧ RowB w (blocksF vs t p s) v w' := by
  have H := Lib.hid (fun w (h : XV w t p s ad n vs) => rsound_any c w h)
  rw [hs] at H
  have HB := Lib.hid (fun w (h : XV w t p s ad n vs) => blocks_any c w h)
  have h2 := h.keep ((Below.refl _ _).alloc (Nat.le_refl _) (.cells #[.int .i64 t, .int .i64 p, .int .i64 s] 23))
  have HV2 := Lib.hid h2
  generalize blocksF vs t p s = l at *
  have c0 := loc_alloc w #[.int .i64 t, .int .i64 p, .int .i64 s] 23
  have S0 := ((BS.start w).alloc (.cells #[.int .i64 t, .int .i64 p, .int .i64 s] 23))
  have HV := Lib.hid h
  clear h hs h2
  go_enter Tryz.func52, Tryz.ntmps52
  go_wp2_with fail
  refine (calls_b S0 (H.out _ HV2.out)).mono ?_
  rintro e w1 ⟨rfl, S1, S1l⟩
  have c1 := loc_step S1l (by simp) c0
  clear S1l
  have HVa := Lib.hid ((HV.out.keep S1.bel).keep ((Below.refl _ _).alloc (Nat.le_refl _) (.cells #[.int .i64 t, .int .i64 p, .int .i64 s, .slice (some ad) n c] 89)))
  have S2 := S1.alloc (.cells #[.int .i64 t, .int .i64 p, .int .i64 s, .slice (some ad) n c] 89)
  go_wp2_with fail
  refine (HB.out _ HVa.out).mono ?_
  rintro e w2 ⟨v, rfl, hr, hf, hb⟩
  go_wp2
  go_ret
  exact ⟨v, rfl, hr, fun k hk => Nat.le_trans S2.bel.size (hf k hk), S2.bel.trans (hb.mono S2.bel.size)⟩

theorem rparts_any (c : Nat) (w : World) (h : XV w t p s ad n vs) (hs : (chkF vs t p s).2 = true) :
    Calls Tryz.prog 24 #[.agg #[.int .i64 t, .int .i64 p, .int .i64 s], .slice (some ad) n c] w fun e w' => ∃ v, e = .returned v ∧ RowQ w (partsF vs t p s) v w' := by
  have H := Lib.hid (fun w (h : XV w t p s ad n vs) => rsound_any c w h)
  rw [hs] at H
  have HB := Lib.hid (fun w (h : XV w t p s ad n vs) => parts_any c w h)
  have h2 := h.keep ((Below.refl _ _).alloc (Nat.le_refl _) (.cells #[.int .i64 t, .int .i64 p, .int .i64 s] 23))
  have HV2 := Lib.hid h2
  generalize partsF vs t p s = l at *
  have c0 := loc_alloc w #[.int .i64 t, .int .i64 p, .int .i64 s] 23
  have S0 := ((BS.start w).alloc (.cells #[.int .i64 t, .int .i64 p, .int .i64 s] 23))
  have HV := Lib.hid h
  clear h hs h2
  go_enter Tryz.func24, Tryz.ntmps24
  go_wp2_with fail
  refine (calls_b S0 (H.out _ HV2.out)).mono ?_
  rintro e w1 ⟨rfl, S1, S1l⟩
  have c1 := loc_step S1l (by simp) c0
  clear S1l
  have HVa := Lib.hid ((HV.out.keep S1.bel).keep ((Below.refl _ _).alloc (Nat.le_refl _) (.cells #[.int .i64 t, .int .i64 p, .int .i64 s, .slice (some ad) n c] 89)))
  have S2 := S1.alloc (.cells #[.int .i64 t, .int .i64 p, .int .i64 s, .slice (some ad) n c] 89)
  go_wp2_with fail
  refine (HB.out _ HVa.out).mono ?_
  rintro e w2 ⟨v, rfl, hr, hf, hb⟩
  go_wp2
  go_ret
  exact ⟨v, rfl, hr, fun k hk => Nat.le_trans S2.bel.size (hf k hk), S2.bel.trans (hb.mono S2.bel.size)⟩


def rootV (vs : List Int) (k i : Nat) : Value := .int .i64 (if i < k then vs.getD (22 + i) 0 else 0)
def stateC (lv : Value) (vs : List Int) (k : Nat) : Array Value := #[lv, rootV vs k 0, rootV vs k 1, rootV vs k 2, rootV vs k 3, rootV vs k 4, rootV vs k 5, rootV vs k 6, rootV vs k 7]
structure StateR (w : World) (l : List (Int × Int)) (v : Value) (vs : List Int) (g : Nat) (wr : World) (k : Nat) : Prop where
  le : k ≤ 8
  box : BA w [w.heap.size + 1, w.heap.size] g (stateC v vs k) 33 wr
  res : wr.heap[w.heap.size + 1]? = some (.cells #[.slice none 0 0, .int .i64 0, .int .i64 0, .int .i64 0, .int .i64 0, .int .i64 0, .int .i64 0, .int .i64 0, .int .i64 0] 33)
  row : wr.ownsRow 0 79 2 v l.length (blockCells l)
  far : ∀ k, v.ownBlock = some k → w.heap.size + 2 ≤ k ∧ k < g
theorem StateR.below {w wr w' : World} {l : List (Int × Int)} {v : Value} {g k : Nat} (h : StateR w l v vs g wr k) (hb : Below wr.heap.size wr w') : StateR w l v vs g w' k := by
  obtain ⟨h1, h2, h3, h4, h5⟩ := h
  refine ⟨h1, ⟨h2.bs.below hb, (hb.block g (h2.bs.ls g (by simp)).1).trans h2.box, h2.ne⟩, (hb.block _ (h2.bs.ls (w.heap.size + 1) (by simp)).1).trans h3, ((BS.start _).below hb).row h4, h5⟩
theorem stateC_step (v : Value) (vs : List Int) (k : Nat) (hk : k < 8) : (stateC v vs k).setIfInBounds (1 + k) (.int .i64 (vs.getD (22 + k) 0)) = stateC v vs (k + 1) := by
  rcases (by omega : k = 0 ∨ k = 1 ∨ k = 2 ∨ k = 3 ∨ k = 4 ∨ k = 5 ∨ k = 6 ∨ k = 7) with rfl | rfl | rfl | rfl | rfl | rfl | rfl | rfl <;> simp [stateC, rootV]
theorem StateR.step {w wr : World} {l : List (Int × Int)} {v : Value} {g k : Nat} (h : StateR w l v vs g wr k) (hk : k < 8) : StateR w l v vs g (wr.setCell ⟨g, 1 + k, none⟩ (.int .i64 (vs.getD (22 + k) 0))) (k + 1) := by
  obtain ⟨h1, h2, h3, h4, h5⟩ := h
  refine ⟨by omega, ?_, h2.hloc (by simp) _ _ h3, ownsRow_block h4 (fun b hb => heap_setCell_other (by have := h5 b hb; omega)), h5⟩
  have := h2.set (1 + k) (.int .i64 (vs.getD (22 + k) 0))
  rwa [stateC_step v vs k hk] at this
theorem stateC_at (v : Value) (vs : List Int) (k : Nat) (hk : k < 8) : ∃ z, (stateC v vs k)[1 + k]? = some z := by
  rcases (by omega : k = 0 ∨ k = 1 ∨ k = 2 ∨ k = 3 ∨ k = 4 ∨ k = 5 ∨ k = 6 ∨ k = 7) with rfl | rfl | rfl | rfl | rfl | rfl | rfl | rfl <;> exact ⟨_, rfl⟩
def StateRel (w : World) (l : List (Int × Int)) (v : Value) (vs : List Int) (g : Nat) (i : Value) (wr : World) : Prop := ∃ k : Nat, i = .int .i64 k ∧ StateR w l v vs g wr k
theorem rstate_any (c : Nat) (w : World) (h : XV w t p s ad n vs) (hs : (chkF vs t p s).2 = true) :
    Calls Tryz.prog 16 #[.agg #[.int .i64 t, .int .i64 p, .int .i64 s], .slice (some ad) n c] w fun e w' => ∃ v, e = .returned (.tuple #[.agg (stateC v vs 8), .bool true]) ∧ RowB w (blocksF vs t p s) v w' := by
  have H := Lib.hid (fun w (h : XV w t p s ad n vs) => rsound_any c w h)
  rw [hs] at H
  have HB := Lib.hid (fun w (h : XV w t p s ad n vs) => rlive_any c w h hs)
  have HRo := Lib.hid (fun (k : Nat) w (h : k < 8) => rroot_any k w h)
  generalize blocksF vs t p s = l at *
  have c0 := loc_old (.cells (stateC (.slice none 0 0) vs 0) 33) (by simp) (loc_alloc w #[.int .i64 t, .int .i64 p, .int .i64 s] 23)
  have S0 := ((BS.start w).alloc (.cells #[.int .i64 t, .int .i64 p, .int .i64 s] 23)).alloc (.cells (stateC (.slice none 0 0) vs 0) 33)
  have HV2 := Lib.hid (h.keep S0.bel)
  have HV := Lib.hid h
  clear h hs
  have hz : stateC (.slice none 0 0) vs 0 = #[.slice none 0 0, .int .i64 0, .int .i64 0, .int .i64 0, .int .i64 0, .int .i64 0, .int .i64 0, .int .i64 0, .int .i64 0] := by simp [stateC, rootV]
  rw [hz] at c0 S0 HV2
  simp only [World.size_alloc] at S0
  go_enter Tryz.func16, Tryz.ntmps16
  go_wp2_with fail
  refine (calls_b S0 (H.out _ HV2.out)).mono ?_
  rintro e w1 ⟨rfl, S1, S1k⟩
  have c1 := loc_step S1k (by simp) c0
  have HVa := Lib.hid (HV.out.keep S1.bel)
  have r1 : w1.heap[w.heap.size + 1]? = some (.cells #[.slice none 0 0, .int .i64 0, .int .i64 0, .int .i64 0, .int .i64 0, .int .i64 0, .int .i64 0, .int .i64 0, .int .i64 0] 33) := by
    rw [S1k (w.heap.size + 1) (by simp), ← hz]
    exact hb_alloc _ _ _ (by simp)
  clear S0 c0 HV2 S1k
  go_wp2_with fail
  refine (HB.out _ HVa.out).mono ?_
  rintro e w2 ⟨v, rfl, hr, hf, hb⟩
  obtain ⟨va, vc, rfl⟩ := row_shape hr
  have S2 := S1.below hb
  have r2 := (hb.block (w.heap.size + 1) (S1.ls (w.heap.size + 1) (by simp)).1).trans r1
  have A2 := S2.allocd (stateC (.slice va l.length vc) vs 0) 33
  have HR : StateR w l (.slice va l.length vc) vs w2.heap.size (w2.alloc (.cells (stateC (.slice va l.length vc) vs 0) 33)) 0 := by
    refine ⟨by omega, A2, (heap_alloc_old _ _ (S2.ls (w.heap.size + 1) (by simp)).1).trans r2, hr.alloc _, fun k hk => ⟨?_, ownsRow_lt hr hk⟩⟩
    have := hf k hk
    have := (S1.ls (w.heap.size + 1) (by simp)).1
    omega
  have hz2 : stateC (.slice va l.length vc) vs 0 = #[.slice va l.length vc, .int .i64 0, .int .i64 0, .int .i64 0, .int .i64 0, .int .i64 0, .int .i64 0, .int .i64 0, .int .i64 0] := by simp [stateC, rootV]
  have HVb := Lib.hid (HVa.out.keep hb)
  have hbw2 := S2.bel.size
  have HRs : StateRel w l (.slice va l.length vc) vs w2.heap.size (.int .i64 0) (w2.alloc (.cells (stateC (.slice va l.length vc) vs 0) 33)) := ⟨0, rfl, HR⟩
  rw [hz2] at HRs
  have hg1 : w.heap.size + 1 < w2.heap.size := (S2.ls (w.heap.size + 1) (by simp)).1
  clear r1 r2 A2 hr hf hb S1 S2 HR
  go_wp2
  go_loopw [7] (fun i wr => StateRel w l (.slice va l.length vc) vs w2.heap.size i wr) (fun i _ => 8 - (intOf i).toNat)
  case atStart => exact HRs
  case round =>
    clear HRs
    obtain ⟨k, rfl, hR⟩ := hrel
    have HX := Lib.hid hR
    have hle := hR.le
    clear hR
    by_cases hlt : k < 8
    · go_wp2_with fail
      refine (HRo.out k _ hlt).mono ?_
      rintro e w3 ⟨rfl, b3⟩
      have hR3 := HX.out.below b3
      obtain ⟨z, hz3⟩ := stateC_at (.slice va l.length vc) vs k hlt
      have q3 : w3.cell? ⟨w2.heap.size, 1 + k, none⟩ = some z := (cell?_of_heap hR3.box.box).trans hz3
      have f3 : w3.frozen? ⟨w2.heap.size, 1 + k, none⟩ = false := frozen?_of_heap hR3.box.box
      have hx3 := HV.out.keep hR3.box.bs.bel
      have hnum := hx3.num
      have hbd := hx3.bd
      have c3 := hx3.cells (22 + k) (by omega)
      have hlt2 : ((22 + k : Nat) : Int) < n := by omega
      have hub := getD_u32 hx3.u32 (22 + k)
      unfold VS.U32 at hub
      have hw : IntKind.i64.wrap (vs.getD (22 + k) 0) = vs.getD (22 + k) 0 := wrap_in _ (by omega)
      have HS3 := Lib.hid (hR3.step hlt)
      clear hR3 hz3 hx3 hnum hbd b3
      generalize vs.getD (22 + k) 0 = x at *
      generalize 22 + k = m at *
      go_wp2
      go_roundw
      case rel => exact ⟨k + 1, by go_num, HS3.out⟩
      case measure => simp [intOf]; omega
    · have h8 : k = 8 := by omega
      have hB := HX.out.box
      have h0 := HX.out.res
      rw [h8] at hB
      have hS8 : stateC (.slice va l.length vc) vs 8 = #[.slice va l.length vc, rootV vs 8 0, rootV vs 8 1, rootV vs 8 2, rootV vs 8 3, rootV vs 8 4, rootV vs 8 5, rootV vs 8 6, rootV vs 8 7] := rfl
      have hrow := HX.out.row
      have hfar := HX.out.far
      have hne : w.heap.size + 1 ≠ w2.heap.size := by omega
      have HS8 := Lib.hid hS8
      rw [hS8] at hB
      have hroot : ∀ i, ∃ y, rootV vs 8 i = .int .i64 y := fun i => ⟨_, rfl⟩
      obtain ⟨y0, e0⟩ := hroot 0
      obtain ⟨y1, e1⟩ := hroot 1
      obtain ⟨y2, e2⟩ := hroot 2
      obtain ⟨y3, e3⟩ := hroot 3
      obtain ⟨y4, e4⟩ := hroot 4
      obtain ⟨y5, e5⟩ := hroot 5
      obtain ⟨y6, e6⟩ := hroot 6
      obtain ⟨y7, e7⟩ := hroot 7
      rw [e0, e1, e2, e3, e4, e5, e6, e7] at hB
      rw [e0, e1, e2, e3, e4, e5, e6, e7] at HS8
      have a0 := cell?_of_heap (o := 0) hB.box
      have a1 := cell?_of_heap (o := 1) hB.box
      have a2 := cell?_of_heap (o := 2) hB.box
      have a3 := cell?_of_heap (o := 3) hB.box
      have a4 := cell?_of_heap (o := 4) hB.box
      have a5 := cell?_of_heap (o := 5) hB.box
      have a6 := cell?_of_heap (o := 6) hB.box
      have a7 := cell?_of_heap (o := 7) hB.box
      have a8 := cell?_of_heap (o := 8) hB.box
      have d0 := cell?_of_heap (o := 0) h0
      have d1 := cell?_of_heap (o := 1) h0
      have d2 := cell?_of_heap (o := 2) h0
      have d3 := cell?_of_heap (o := 3) h0
      have d4 := cell?_of_heap (o := 4) h0
      have d5 := cell?_of_heap (o := 5) h0
      have d6 := cell?_of_heap (o := 6) h0
      have d7 := cell?_of_heap (o := 7) h0
      have d8 := cell?_of_heap (o := 8) h0
      have j0 := frozen?_of_heap (o := 0) h0
      have j1 := frozen?_of_heap (o := 1) h0
      have j2 := frozen?_of_heap (o := 2) h0
      have j3 := frozen?_of_heap (o := 3) h0
      have j4 := frozen?_of_heap (o := 4) h0
      have j5 := frozen?_of_heap (o := 5) h0
      have j6 := frozen?_of_heap (o := 6) h0
      have j7 := frozen?_of_heap (o := 7) h0
      have j8 := frozen?_of_heap (o := 8) h0
      simp at a0 a1 a2 a3 a4 a5 a6 a7 a8 d0 d1 d2 d3 d4 d5 d6 d7 d8
      have HBs := Lib.hid hB.bs
      have HRow := Lib.hid hrow
      have HFar := Lib.hid hfar
      clear hB h0 hrow hfar hS8 hroot e0 e1 e2 e3 e4 e5 e6 e7
      go_wp2
      refine bodyPost_ret (v := .tuple #[.agg #[.slice va l.length vc, .int .i64 y0, .int .i64 y1, .int .i64 y2, .int .i64 y3, .int .i64 y4, .int .i64 y5, .int .i64 y6, .int .i64 y7], .bool true]) (by simp [results, Tryz.results16, go_sem, *]) rfl ⟨_, by rw [HS8.out], ownsRow_block HRow.out (fun b hb => ?_), fun b hb => by have := HFar.out b hb; omega, ?_⟩
      · have hnb : b ≠ w.heap.size + 1 := by have := HFar.out b hb; omega
        repeat rw [heap_setCell_other hnb]
      · have hm : w.heap.size + 1 ∈ [w2.heap.size, w.heap.size + 1, w.heap.size] := by simp
        exact (((((((((HBs.out.setCell hm 0 _).setCell hm 1 _).setCell hm 2 _).setCell hm 3 _).setCell hm 4 _).setCell hm 5 _).setCell hm 6 _).setCell hm 7 _).setCell hm 8 _).bel
end
end Go.Proofs.YtcicmljnjdhkjaaGreat
/- the laws of the audit: the page's example; Few; the same parts; values among the arguments. -/
namespace Go.Proofs.YtcicmljnjdhkjaaGreat
open Go.ChangeShapes Go.RowKit

theorem few12_any (t p s : Int) (w : World) :
    Calls Tryz.prog 15 #[.agg #[.int .i64 t, .int .i64 p, .int .i64 s]] w fun e w' => e = .returned (.bool (decide (p ≤ 64))) ∧ Below w.heap.size w w' := by
  go_enter Tryz.func15, Tryz.ntmps15
  go_wp2
  go_ret
  refine ⟨rfl, ?_⟩
  (repeat (first | exact Below.refl _ _ | assumption | refine Below.setCell ?_ (by first | omega | (simp; done) | (simp; omega)) _ | refine Below.alloc ?_ (by first | omega | (simp; done) | (simp; omega)) _ | refine Below.drew ?_ | refine Below.trans ?_ (Below.mono ‹Below _ _ _› (by first | omega | (simp; done) | (simp; omega)))))
section
variable {H : Type} {enc : TypeId × Value → H} {w : World} {base : Nat} {spare : Nat → Bool} {held : Bool}
theorem rd12_u32 {fuel : Nat} {cs : List Value} {x : DataW H × List MemPlace} (h : DataW.trod enc Tryz.prog w base spare held fuel 24 cs = some x) :
    ∃ v vals, cs = [v] ∧ Rd w v 1 vals.length (uints vals) ∧ ∀ u ∈ vals, VS.U32 u := by
  rcases open_ints Tryz.underlying24 Tryz.underlying37 (by kernel_rfl) h with ⟨rfl, -⟩ | ⟨a, len, cap, zs, rfl, -, hl, -, hz, -, hc, hw⟩
  · exact ⟨_, [], rfl, ⟨rfl, Or.inl ⟨rfl, rfl⟩⟩, by simp⟩
  · have hle : len ≤ zs.length := by rw [hz]; split <;> omega
    have e : (zs.take len).length = len := by simp; omega
    refine ⟨_, zs.take len, rfl, ⟨by simp [uints], Or.inr ⟨a, cap, by rw [e], ?_⟩⟩, ?_⟩
    · intro j u hj
      have hjl : j < len := by
        have := (List.getElem?_eq_some_iff.1 hj).1
        simp [uints] at this; omega
      rw [hc j (by omega), ← hj]
      simp [uints, hjl, show j < zs.length by omega]
    · intro u hu
      have := hw u (List.mem_of_mem_take hu)
      simp [Lit.wf] at this
      have e1 : IntKind.u32.min = 0 := by decide
      have e2 : IntKind.u32.max = 4294967295 := by decide
      exact ⟨by omega, by omega⟩
end
theorem rd12_len {w : World} {v : Value} {sz n : Nat} {xs : List Value} (h : Rd w v sz n xs) : ∃ a c, v = .slice a n c := by
  rcases h.2 with ⟨rfl, rfl⟩ | ⟨ad, c, rfl, -⟩
  · exact ⟨_, _, rfl⟩
  · exact ⟨_, _, rfl⟩
theorem Rd.keepB {w w' : World} {v : Value} {sz n : Nat} {xs : List Value} (h : Rd w v sz n xs) (hb : Below w.heap.size w w') : Rd w' v sz n xs :=
  ⟨h.1, h.2.imp id fun ⟨ad, c, e, hc⟩ => ⟨ad, c, e, fun j u hj => (hb.cell (World.block_lt_of_cell? _ _ (hc j u hj))).trans (hc j u hj)⟩⟩
/-- values that are as many as there must be. -/
theorem Rd.xv {w : World} {v : Value} {vals : List Int} {t p s : Int} (h : Rd w v 1 vals.length (uints vals)) (hu : ∀ u ∈ vals, VS.U32 u) (hr : rightB t p s = true) (hp : p ≤ 64) (hn : (vals.length : Int) = cellsN t p) :
    ∃ ad c, v = .slice (some ad) vals.length c ∧ XV w t p s ad vals.length vals := by
  have bd := right_bd hr
  rcases h.2 with ⟨-, h0⟩ | ⟨ad, c, rfl, hc⟩
  · unfold cellsN at hn; omega
  · refine ⟨ad, c, rfl, hr, hp, rfl, by rw [hn]; rfl, hu, fun k hk => hc k _ ?_⟩
    simp [uints, hk]

theorem cell_set_other {W : World} {g L o : Nat} {x : Value} (h : L ≠ g) (k : Nat) (v : Value) (hc : W.cell? ⟨L, o, none⟩ = some x) : (W.setCell ⟨g, k, none⟩ v).cell? ⟨L, o, none⟩ = some x := (World.cell?_of_block (a := ⟨L, o, none⟩) (heap_setCell_other h)).trans hc
theorem held3a {w w' : World} {a0 a1 a2 : Addr} {u0 u1 u2 : Value} (hb : Below w.heap.size w w') (h : (w.cell? a0 = some u0 ∧ w.cell? a1 = some u1) ∧ w.cell? a2 = some u2) :
    (w'.cell? a0 = some u0 ∧ w'.cell? a1 = some u1) ∧ w'.cell? a2 = some u2 := by
  have cc : ∀ {a : Addr} {v : Value}, w.cell? a = some v → w'.cell? a = some v := fun hc => (hb.cell (World.block_lt_of_cell? _ _ hc)).trans hc
  exact ⟨⟨cc h.1.1, cc h.1.2⟩, cc h.2⟩
def lvWs : List Int := [4, 0, 0, 0, 1, 0, 0, 0, 0, 0, 0, 0, 0, 0, 0, 0, 0, 0, 0, 0, 0, 0, 0, 0, 0, 0, 0, 0, 0, 0, 0, 0, 0, 0, 65, 0, 0, 0, 0, 0, 0, 0, 0, 0, 0, 0, 0, 0, 0, 0, 0, 0, 0, 1, 0, 0, 0, 0]
theorem lv_set : ((((List.replicate 58 (0 : Int)).set 0 4).set 4 1).set 34 65).set 53 1 = lvWs := by decide +kernel
theorem lv_chk : chkF lvWs 1 ((4 : Nat) : Int) 10 = (0, true) := by decide +kernel
theorem lv_parts : partsF lvWs 1 ((4 : Nat) : Int) 10 = [(1, 1024, 4096)] := by decide +kernel
theorem lv_xv {W : World} {g : Nat} (h : WtAt W g lvWs) : XV W 1 ((4 : Nat) : Int) 10 ⟨g, 0, none⟩ 58 lvWs := by
  refine ⟨by decide, by decide, by decide, by decide, by unfold VS.U32; decide, fun k hk => ?_⟩
  have e : (⟨g, 0, none⟩ : Addr).add k = ⟨g, k, none⟩ := by unfold Addr.add; split <;> simp_all
  rw [e]
  exact h.cell (by show k < 58; exact hk)
set_option maxHeartbeats 2000000 in
set_option maxRecDepth 100000 in
theorem alive_any (w : World) : Calls Tryz.prog 19 #[] w fun e w' => e = .returned (.bool true) ∧ Below w.heap.size w w' := by
  have hmk : ∀ w : World, (Instr.makeSlice 24 (.int .i64 58) (.int .i64 58)).run Tryz.prog w = .ok (.slice (some ⟨w.heap.size, 0, none⟩) 58 58) (w.alloc (.cells (madeCells #[.int .u32 0] 58) 37)) := run_make_row' (P := Tryz.prog) 24 37 (.int .u32 0) 4 Tryz.underlying24 infoU32 rfl .i64 .i64 58 (by omega) (by omega)
  simp only [made_u32] at hmk
  obtain ⟨A0, hA0⟩ : ∃ A, (uints (List.replicate 58 0)).toArray = A := ⟨_, rfl⟩
  rw [hA0] at hmk
  have hsz : A0.size = 58 := by rw [← hA0]; simp [uints]
  obtain ⟨z0, k0⟩ : ∃ z, A0[0]? = some z := ⟨_, Array.getElem?_eq_getElem (by omega)⟩
  obtain ⟨z4, k4⟩ : ∃ z, A0[4]? = some z := ⟨_, Array.getElem?_eq_getElem (by omega)⟩
  obtain ⟨z34, k34⟩ : ∃ z, A0[34]? = some z := ⟨_, Array.getElem?_eq_getElem (by omega)⟩
  obtain ⟨z53, k53⟩ : ∃ z, A0[53]? = some z := ⟨_, Array.getElem?_eq_getElem (by omega)⟩
  have hSet : (((A0.setIfInBounds 0 (.int .u32 4)).setIfInBounds 4 (.int .u32 1)).setIfInBounds 34 (.int .u32 65)).setIfInBounds 53 (.int .u32 1) = (uints lvWs).toArray := by rw [← hA0]; kernel_rfl
  have H1 : ∀ W g, WtAt W g lvWs → Calls Tryz.prog 20 #[.agg #[.int .i64 1, .int .i64 4, .int .i64 10], .slice (some ⟨g, 0, none⟩) 58 58] W (fun e W' => e = .returned (.tuple #[.int .i64 0, .bool true]) ∧ Below W.heap.size W W') := fun W g h => by
    have := pcheck_any (lv_xv h) 58
    rw [lv_chk] at this
    exact this
  have H2 : ∀ W (g : Nat), Calls Tryz.prog 20 #[.agg #[.int .i64 1, .int .i64 4, .int .i64 10], .slice (some ⟨g, 1, none⟩) 57 57] W (fun e W' => e = .returned (.tuple #[.int .i64 1, .bool false]) ∧ Below W.heap.size W W') := fun W g => pcheck_no (some ⟨g, 1, none⟩) 57 57 (Or.inr (by decide))
  have H3 : ∀ W g, WtAt W g lvWs → Calls Tryz.prog 23 #[.agg #[.int .i64 1, .int .i64 4, .int .i64 10], .slice (some ⟨g, 0, none⟩) 58 58] W (fun e W' => ∃ v, e = .returned v ∧ RowQ W [(1, 1024, 4096)] v W') := fun W g h => by
    have := pparts_heap (lv_xv h) 58 (by rw [lv_chk])
    rw [lv_parts] at this
    exact this
  have hE : ∀ W, (Op.equalIn 10000 82 (.agg #[.int .i64 1, .int .i64 1024, .int .i64 4096]) (.agg #[.int .i64 1, .int .i64 1024, .int .i64 4096])).run Tryz.prog W = .ok true W := fun W => by kernel_rfl
  generalize lvWs = ws at *
  have HH1 := Lib.hid H1
  have HH2 := Lib.hid H2
  have HH3 := Lib.hid H3
  have HSet := Lib.hid (fun _ : Unit => hSet)
  clear H1 H2 H3 hSet hA0
  have hne : w.heap.size ≠ w.heap.size + 1 := by omega
  go_enter Tryz.func19, Tryz.ntmps19
  go_wp2_with fail
  rw [HSet.out ()]
  have hw4 : WtAt ((w.alloc (.cells #[.int .i64 1, .int .i64 4, .int .i64 10] 23)).alloc (.cells (uints ws).toArray 37)) (w.heap.size + 1) ws := hb_alloc _ _ _ (by simp)
  have s4 := ((BS.start w).alloc (.cells #[.int .i64 1, .int .i64 4, .int .i64 10] 23)).alloc (.cells (uints ws).toArray 37)
  have c0 := loc_old (.cells (uints ws).toArray 37) (by simp) (loc_alloc w #[.int .i64 1, .int .i64 4, .int .i64 10] 23)
  refine (HH1.out _ _ hw4).mono ?_
  rintro e w1 ⟨rfl, r1⟩
  have S1 := s4.below r1
  have W1 := Lib.hid (fun _ : Unit => hw4.keep r1)
  have c1 := ((BS.start _).below r1).oldbox c0 (by simp; omega)
  have e0 : w1.cell? ⟨w.heap.size, 0, none⟩ = some (.int .i64 1) := c1 0
  have e1 : w1.cell? ⟨w.heap.size, 1, none⟩ = some (.int .i64 4) := c1 1
  have e2 : w1.cell? ⟨w.heap.size, 2, none⟩ = some (.int .i64 10) := c1 2
  clear hw4 s4 HH1 r1 c0 c1 HSet
  go_wp2_with fail
  refine wp_region_noPanic ?_
  refine wp_region_held_drew (S := fun w' => (w'.cell? ⟨w.heap.size, 0, none⟩ = some (.int .i64 1) ∧ w'.cell? ⟨w.heap.size, 1, none⟩ = some (.int .i64 4)) ∧ w'.cell? ⟨w.heap.size, 2, none⟩ = some (.int .i64 10)) (by kernel_rfl) ?_ (fun hHeld => ?_)
  · exact ⟨⟨e0, e1⟩, e2⟩
  refine wpAnyH_take (i := 0) (oi := _) (v := ?_) rfl (by kernel_rfl) (by kernel_rfl) (by kernel_rfl) (fun _ _ _ h => h) (Or.inl ⟨by rfl, ?_⟩) (by assumption) ?_
  rotate_left
  · intro w hSw; (try dsimp only at hSw); go_simp; try with_reducible rfl
  try simp only [Act.put, zA, zB, zD, zE, zF]
  refine wpAnyH_take (i := 1) (oi := _) (v := ?_) rfl (by kernel_rfl) (by kernel_rfl) (by kernel_rfl) (fun _ _ _ h => h) (Or.inl ⟨by rfl, ?_⟩) (by assumption) ?_
  rotate_left
  · intro w hSw; (try dsimp only at hSw); go_simp; try with_reducible rfl
  try simp only [Act.put, zA, zB, zC, zD, zE, zF]
  refine wpAnyH_take (i := 2) (oi := _) (v := ?_) rfl (by kernel_rfl) (by kernel_rfl) (by kernel_rfl) (fun _ _ _ h => h) (Or.inl ⟨by rfl, ?_⟩) (by assumption) ?_
  rotate_left
  · intro w hSw; (try dsimp only at hSw); go_simp; try with_reducible rfl
  try simp only [Act.put, zA, zB, zC, zD, zE, zF]
  refine wpAnyH_ready (rs := [3]) (by kernel_rfl) (by simp) ?_
  refine AllReadyH.cons (o := _) rfl (fun K hK => ?_) AllReadyH.nil
  go_simp
  refine (HH2.out _ _).mono ?_
  rintro e w2 ⟨rfl, r2⟩
  have k2 := held3a r2 hHeld
  refine hK.out _ _ ?_ (fun hHeld => ?_)
  · exact k2
  clear hK K
  try simp only [Act.put, zA, zB, zC, zD, zE, zF]
  refine wpAnyH_take (i := 4) (oi := _) (v := ?_) rfl (by kernel_rfl) (by kernel_rfl) (by kernel_rfl) (fun _ _ _ h => h) (Or.inl ⟨by rfl, ?_⟩) (by assumption) ?_
  rotate_left
  · intro w hSw; (try dsimp only at hSw); go_simp; try with_reducible rfl
  try simp only [Act.put, zA, zB, zC, zD, zE, zF]
  refine wpAnyH_take (i := 5) (oi := _) (v := ?_) rfl (by kernel_rfl) (by kernel_rfl) (by kernel_rfl) (fun _ _ _ h => h) (Or.inl ⟨by rfl, ?_⟩) (by assumption) ?_
  rotate_left
  · intro w hSw; (try dsimp only at hSw); go_simp; try with_reducible rfl
  try simp only [Act.put, zA, zB, zC, zD, zE, zF]
  refine wpAnyH_take (i := 6) (oi := _) (v := ?_) rfl (by kernel_rfl) (by kernel_rfl) (by kernel_rfl) (fun _ _ _ h => h) (Or.inl ⟨by rfl, ?_⟩) (by assumption) ?_
  rotate_left
  · intro w hSw; (try dsimp only at hSw); go_simp; try with_reducible rfl
  try simp only [Act.put, zA, zB, zC, zD, zE, zF]
  refine wpAnyH_take (i := 7) (oi := _) (v := ?_) rfl (by kernel_rfl) (by kernel_rfl) (by kernel_rfl) (fun _ _ _ h => h) (Or.inl ⟨by rfl, ?_⟩) (by assumption) ?_
  rotate_left
  · intro w hSw; (try dsimp only at hSw); go_simp; try with_reducible rfl
  try simp only [Act.put, zA, zB, zC, zD, zE, zF]
  refine wpAnyH_take (i := 8) (oi := _) (v := ?_) rfl (by kernel_rfl) (by kernel_rfl) (by kernel_rfl) (fun _ _ _ h => h) (Or.inl ⟨by rfl, ?_⟩) (by assumption) ?_
  rotate_left
  · intro w hSw; (try dsimp only at hSw); go_simp; try with_reducible rfl
  try simp only [Act.put, zA, zB, zC, zD, zE, zF]
  refine wpAnyH_done (by kernel_rfl) ?_ _
  refine NoPanic.normal ?_
  have r2d := (Below.refl w1.heap.size w1).drew.trans r2
  have S2 := S1.below r2d
  have W2 := Lib.hid (fun _ : Unit => (W1.out ()).keep r2d)
  obtain ⟨⟨h0, h1⟩, h2⟩ := hHeld
  clear e0 e1 e2 r2 r2d k2 W1 S1 HH2
  go_wp2_with fail
  refine (HH3.out _ _ (W2.out ())).mono ?_
  rintro e w3 ⟨v, rfl, hq⟩
  obtain ⟨g3, c3, rfl⟩ := hq.shape (by decide)
  have q0 := hq.1.cellAt 0 (by decide)
  have q1 := hq.1.cellAt 1 (by decide)
  have q2 := hq.1.cellAt 2 (by decide)
  simp [partCells] at q0 q1 q2
  have S3 := S2.below hq.2.2
  clear hq W2 HH3 S2 h0 h1 h2
  go_wp2
  go_ret
  exact ⟨rfl, S3.bel⟩
end Go.Proofs.YtcicmljnjdhkjaaGreat
/- the walk of AuditChecks. -/
namespace Go.Proofs.YtcicmljnjdhkjaaGreat
open Go.ChangeShapes Go.RowKit
/-- the program's Check and the document's answer alike. -/
theorem checks_alike (t p s : Int) (sv : Value) (vals : List Int) (w : World) (hR : Rd w sv 1 vals.length (uints vals)) (hu : ∀ u ∈ vals, VS.U32 u) (hp : p ≤ 64) :
    ∃ (r1 : Int) (r2 : Bool), (∀ W, Below w.heap.size w W → Calls Tryz.prog 20 #[.agg #[.int .i64 t, .int .i64 p, .int .i64 s], sv] W fun e W' => e = .returned (.tuple #[.int .i64 r1, .bool r2]) ∧ Below W.heap.size W W') ∧
      (∀ W, Below w.heap.size w W → Calls Tryz.prog 21 #[.agg #[.int .i64 t, .int .i64 p, .int .i64 s], sv] W fun e W' => e = .returned (.tuple #[.int .i64 r1, .bool r2]) ∧ Below W.heap.size W W') := by
  by_cases hg : rightB t p s = true ∧ (vals.length : Int) = cellsN t p
  · obtain ⟨hr, hn⟩ := hg
    have bd := right_bd hr
    obtain ⟨P, rfl⟩ : ∃ P : Nat, p = P := ⟨p.toNat, by omega⟩
    obtain ⟨ad, c, rfl, hx⟩ := hR.xv hu hr hp hn
    exact ⟨_, _, fun W hb => pcheck_any (hx.keep hb) c, fun W hb => rcheck_any c W (hx.keep hb)⟩
  · obtain ⟨a, c, rfl⟩ := rd12_len hR
    have hno : rightB t p s = false ∨ (vals.length : Int) ≠ cellsN t p := by
      cases hr : rightB t p s
      · exact Or.inl rfl
      · exact Or.inr fun h => hg ⟨hr, h⟩
    exact ⟨1, false, fun W _ => pcheck_no a _ c hno, fun W _ => rcheck_no a _ c W hno⟩
set_option maxRecDepth 100000 in
theorem achecks_any (t p s : Int) (sv : Value) (vals : List Int) (w : World) (hR : Rd w sv 1 vals.length (uints vals)) (hu : ∀ u ∈ vals, VS.U32 u) :
    Calls Tryz.prog 4 #[.agg #[.int .i64 t, .int .i64 p, .int .i64 s], sv] w fun e W' => e = .returned (.bool true) ∧ Below w.heap.size w W' := by
  have HF := Lib.hid (fun w => few12_any t p s w)
  have HL := Lib.hid (fun w => alive_any w)
  have c0 := loc_alloc w #[.int .i64 t, .int .i64 p, .int .i64 s] 23
  have S0 := ((BS.start w).alloc (.cells #[.int .i64 t, .int .i64 p, .int .i64 s] 23))
  by_cases hp : p ≤ 64
  · have hd : decide (p ≤ 64) = true := by simpa using hp
    rw [hd] at HF
    obtain ⟨r1, r2, h1, h2⟩ := checks_alike t p s sv vals w hR hu hp
    obtain ⟨sa, sc, rfl⟩ := rd12_len hR
    have H1 := Lib.hid h1
    have H2 := Lib.hid h2
    clear h1 h2 hd hp hR hu
    go_enter Tryz.func4, Tryz.ntmps4
    go_wp2_with fail
    refine (calls_b S0 (HF.out _)).mono ?_
    rintro e w1 ⟨rfl, S1, S1l⟩
    have c1 := loc_step S1l (by simp) c0
    clear S1l
    clear S0 c0
    go_wp2_with fail
    refine (calls_b S1 (H1.out _ S1.bel)).mono ?_
    rintro e w2 ⟨rfl, S2, S2l⟩
    have c2 := loc_step S2l (by simp) c1
    clear S2l
    clear S1 c1
    go_wp2_with fail
    refine (calls_b S2 (H2.out _ S2.bel)).mono ?_
    rintro e w3 ⟨rfl, S3, S3l⟩
    have c3 := loc_step S3l (by simp) c2
    clear S3l
    clear S2 c2
    go_wp2_with fail
    refine (HL.out _).mono ?_
    rintro e w4 ⟨rfl, r4⟩
    go_wp2
    go_ret
    exact ⟨rfl, S3.bel.trans (r4.mono S3.bel.size)⟩
  · have hd : decide (p ≤ 64) = false := by simpa using hp
    rw [hd] at HF
    obtain ⟨sa, sc, rfl⟩ := rd12_len hR
    clear hd hp hR hu
    go_enter Tryz.func4, Tryz.ntmps4
    go_wp2_with fail
    refine (calls_b S0 (HF.out _)).mono ?_
    rintro e w1 ⟨rfl, S1, S1l⟩
    have c1 := loc_step S1l (by simp) c0
    clear S1l
    go_wp2_with fail
    refine (HL.out _).mono ?_
    rintro e w4 ⟨rfl, r4⟩
    go_wp2
    go_ret
    exact ⟨rfl, S1.bel.trans (r4.mono S1.bel.size)⟩
end Go.Proofs.YtcicmljnjdhkjaaGreat
/- the walk of AuditParts. -/
namespace Go.Proofs.YtcicmljnjdhkjaaGreat
open Go.ChangeShapes Go.RowKit
/-- the document's Sound, of what is none. -/
theorem rsound_no {t p s : Int} (a : Option Addr) (m c : Nat) (w : World) (h : rightB t p s = false ∨ (m : Int) ≠ cellsN t p) :
    Calls Tryz.prog 31 #[.agg #[.int .i64 t, .int .i64 p, .int .i64 s], .slice a m c] w fun e w' => e = .returned (.bool false) ∧ Below w.heap.size w w' := by
  have H := Lib.hid (fun w => rcheck_no a m c w h)
  clear h
  go_enter Tryz.func31, Tryz.ntmps31
  go_wp2_with fail
  refine (H.out _).mono ?_
  rintro e w1 ⟨rfl, hb⟩
  go_wp2
  go_ret
  refine ⟨rfl, ?_⟩
  (repeat (first | exact Below.refl _ _ | assumption | refine Below.setCell ?_ (by first | omega | (simp; done) | (simp; omega)) _ | refine Below.alloc ?_ (by first | omega | (simp; done) | (simp; omega)) _ | refine Below.drew ?_ | refine Below.trans ?_ (Below.mono ‹Below _ _ _› (by first | omega | (simp; done) | (simp; omega)))))
theorem rparts_none {t p s : Int} (sa : Option Addr) (m c : Nat) (w : World) (HS : ∀ W, Below w.heap.size w W → Calls Tryz.prog 31 #[.agg #[.int .i64 t, .int .i64 p, .int .i64 s], .slice sa m c] W fun e w' => e = .returned (.bool false) ∧ Below W.heap.size W w') :
    Calls Tryz.prog 24 #[.agg #[.int .i64 t, .int .i64 p, .int .i64 s], .slice sa m c] w fun e w' => e = .returned (.slice none 0 0) ∧ Below w.heap.size w w' := by
  have hb := (Below.refl w.heap.size w).alloc (Nat.le_refl _) (.cells #[.int .i64 t, .int .i64 p, .int .i64 s] 23)
  have H := Lib.hid (HS _ hb)
  clear HS
  go_enter Tryz.func24, Tryz.ntmps24
  go_wp2_with fail
  refine H.out.mono ?_
  rintro e w1 ⟨rfl, r1⟩
  go_wp2
  go_ret
  exact ⟨rfl, hb.trans (r1.mono hb.size)⟩
theorem rlive_none {t p s : Int} (sa : Option Addr) (m c : Nat) (w : World) (HS : ∀ W, Below w.heap.size w W → Calls Tryz.prog 31 #[.agg #[.int .i64 t, .int .i64 p, .int .i64 s], .slice sa m c] W fun e w' => e = .returned (.bool false) ∧ Below W.heap.size W w') :
    Calls Tryz.prog 52 #[.agg #[.int .i64 t, .int .i64 p, .int .i64 s], .slice sa m c] w fun e w' => e = .returned (.slice none 0 0) ∧ Below w.heap.size w w' := by
  have hb := (Below.refl w.heap.size w).alloc (Nat.le_refl _) (.cells #[.int .i64 t, .int .i64 p, .int .i64 s] 23)
  have H := Lib.hid (HS _ hb)
  clear HS
  go_enter Tryz.func52, Tryz.ntmps52
  go_wp2_with fail
  refine H.out.mono ?_
  rintro e w1 ⟨rfl, r1⟩
  go_wp2
  go_ret
  exact ⟨rfl, hb.trans (r1.mono hb.size)⟩
theorem rowQ_nil {w w' : World} (h : Below w.heap.size w w') : RowQ w [] (.slice none 0 0) w' := ⟨World.ownsRow_nil _ _ _ _, by simp [Value.ownBlock], h⟩
/-- values are a heap, or none: one answer of both. -/
theorem sick_alike (t p s : Int) (sv : Value) (vals : List Int) (w : World) (hR : Rd w sv 1 vals.length (uints vals)) (hu : ∀ u ∈ vals, VS.U32 u) (hp : p ≤ 64) :
    (∃ (P : Nat) (ad : Addr) (c : Nat), p = P ∧ sv = .slice (some ad) vals.length c ∧ XV w t P s ad vals.length vals ∧ (chkF vals t P s).2 = true) ∨
    ((∀ W, Below w.heap.size w W → Calls Tryz.prog 23 #[.agg #[.int .i64 t, .int .i64 p, .int .i64 s], sv] W fun e W' => e = .returned (.slice none 0 0) ∧ Below W.heap.size W W') ∧
     (∀ W, Below w.heap.size w W → Calls Tryz.prog 26 #[.agg #[.int .i64 t, .int .i64 p, .int .i64 s], sv] W fun e W' => e = .returned (.slice none 0 0) ∧ Below W.heap.size W W') ∧
     (∀ W, Below w.heap.size w W → Calls Tryz.prog 31 #[.agg #[.int .i64 t, .int .i64 p, .int .i64 s], sv] W fun e W' => e = .returned (.bool false) ∧ Below W.heap.size W W') ∧
     (∃ r, ∀ W, Below w.heap.size w W → Calls Tryz.prog 20 #[.agg #[.int .i64 t, .int .i64 p, .int .i64 s], sv] W fun e W' => e = .returned (.tuple #[.int .i64 r, .bool false]) ∧ Below W.heap.size W W')) := by
  by_cases hg : rightB t p s = true ∧ (vals.length : Int) = cellsN t p
  · obtain ⟨hr, hn⟩ := hg
    have bd := right_bd hr
    obtain ⟨P, rfl⟩ : ∃ P : Nat, p = P := ⟨p.toNat, by omega⟩
    obtain ⟨ad, c, rfl, hx⟩ := hR.xv hu hr hp hn
    cases hs : (chkF vals t P s).2
    · refine Or.inr ⟨fun W hb => pparts_sick (hx.keep hb) c hs, fun W hb => plive_sick (hx.keep hb) c hs, fun W hb => ?_, (chkF vals t P s).1, fun W hb => ?_⟩
      · have := rsound_any c W (hx.keep hb)
        rwa [hs] at this
      · have := pcheck_any (hx.keep hb) c
        rwa [hs] at this
    · exact Or.inl ⟨P, ad, c, rfl, rfl, hx, hs⟩
  · obtain ⟨a, c, rfl⟩ := rd12_len hR
    have hno : rightB t p s = false ∨ (vals.length : Int) ≠ cellsN t p := by
      cases hr : rightB t p s
      · exact Or.inl rfl
      · exact Or.inr fun h => hg ⟨hr, h⟩
    exact Or.inr ⟨fun W _ => pparts_no a _ c hno, fun W _ => plive_no a _ c hno, fun W _ => rsound_no a _ c W hno, 1, fun W _ => pcheck_no a _ c hno⟩
theorem parts_alike (t p s : Int) (sv : Value) (vals : List Int) (w : World) (hR : Rd w sv 1 vals.length (uints vals)) (hu : ∀ u ∈ vals, VS.U32 u) (hp : p ≤ 64) :
    ∃ l, l.length ≤ 2112 ∧ (∀ W, Below w.heap.size w W → Calls Tryz.prog 23 #[.agg #[.int .i64 t, .int .i64 p, .int .i64 s], sv] W fun e W' => ∃ v, e = .returned v ∧ RowQ W l v W') ∧
      (∀ W, Below w.heap.size w W → Calls Tryz.prog 24 #[.agg #[.int .i64 t, .int .i64 p, .int .i64 s], sv] W fun e W' => ∃ v, e = .returned v ∧ RowQ W l v W') := by
  rcases sick_alike t p s sv vals w hR hu hp with ⟨P, ad, c, rfl, rfl, hx, hs⟩ | ⟨h1, -, h3, -⟩
  · refine ⟨partsF vals t P s, ?_, fun W hb => pparts_heap (hx.keep hb) c hs, fun W hb => rparts_any c W (hx.keep hb) hs⟩
    have := partsL_len vals t s (P : Int).toNat
    have := hx.bd
    unfold partsF; omega
  · obtain ⟨sa, sc, rfl⟩ := rd12_len hR
    refine ⟨[], by simp, fun W hb => (h1 W hb).mono ?_, fun W hb => (rparts_none sa _ sc W (fun W2 hb2 => h3 W2 (hb.trans (hb2.mono hb.size)))).mono ?_⟩
    · rintro e W' ⟨rfl, r⟩; exact ⟨_, rfl, rowQ_nil r⟩
    · rintro e W' ⟨rfl, r⟩; exact ⟨_, rfl, rowQ_nil r⟩
def SamRel (l : List (Int × Int × Int)) (w : World) (i : Value) (wr : World) : Prop := ∃ k : Nat, k ≤ l.length ∧ i = .int .i64 k ∧ Below w.heap.size w wr
set_option maxHeartbeats 2000000 in
set_option maxRecDepth 100000 in
theorem rsameparts_any (l : List (Int × Int × Int)) (va vb : Value) (w : World) (ha : w.ownsRow 0 82 3 va l.length (partCells l)) (hb : w.ownsRow 0 82 3 vb l.length (partCells l)) (hl : l.length ≤ 4294967296) :
    Calls Tryz.prog 22 #[va, vb] w fun e w' => e = .returned (.bool true) ∧ Below w.heap.size w w' := by
  obtain ⟨pa, ca, rfl⟩ := row_shape ha
  obtain ⟨pb, cb, rfl⟩ := row_shape hb
  have HA := Lib.hid ha
  have HB := Lib.hid hb
  clear ha hb
  go_enter Tryz.func22, Tryz.ntmps22
  go_wp2
  go_loopw [5] (fun i wr => SamRel l w i wr) (fun i _ => l.length - (intOf i).toNat)
  case atStart => exact ⟨0, by omega, rfl, Below.refl _ _⟩
  case round =>
    obtain ⟨k, hk, rfl, hbe⟩ := hrel
    by_cases hlt : k < l.length
    · have hkl : (k : Int) < l.length := by omega
      obtain ⟨⟨y1, y2, y3⟩, hx⟩ : ∃ x, l[k]? = some x := ⟨_, List.getElem?_eq_getElem hlt⟩
      have hra := ((BS.start w).below hbe).row HA.out
      have hrb := ((BS.start w).below hbe).row HB.out
      obtain ⟨ga, cap, hg⟩ := Joins.ownsRow_form hra (by omega)
      simp only [Value.slice.injEq, true_and] at hg
      obtain ⟨rfl, rfl⟩ := hg
      obtain ⟨gb, cap, hg⟩ := Joins.ownsRow_form hrb (by omega)
      simp only [Value.slice.injEq, true_and] at hg
      obtain ⟨rfl, rfl⟩ := hg
      obtain ⟨p0, p1, p2⟩ := part_cell hx
      have q0 := (hra.cellAt (k * 3) (by omega)).trans p0
      have q1 := (hra.cellAt (k * 3 + 1) (by omega)).trans p1
      have q2 := (hra.cellAt (k * 3 + 2) (by omega)).trans p2
      have u0 := (hrb.cellAt (k * 3) (by omega)).trans p0
      have u1 := (hrb.cellAt (k * 3 + 1) (by omega)).trans p1
      have u2 := (hrb.cellAt (k * 3 + 2) (by omega)).trans p2
      clear p0 p1 p2 hx hra hrb
      dsimp only at q0 q1 q2 u0 u1 u2
      go_wp2_with fail
      refine wp_region_noPanic ?_
      refine wp_region_held_drew (S := fun w' => (w'.cell? ⟨ga, k * 3, none⟩ = some (.int .i64 y1) ∧ w'.cell? ⟨ga, k * 3 + 1, none⟩ = some (.int .i64 y2) ∧ w'.cell? ⟨ga, k * 3 + 2, none⟩ = some (.int .i64 y3)) ∧ w'.cell? ⟨gb, k * 3, none⟩ = some (.int .i64 y1) ∧ w'.cell? ⟨gb, k * 3 + 1, none⟩ = some (.int .i64 y2) ∧ w'.cell? ⟨gb, k * 3 + 2, none⟩ = some (.int .i64 y3)) (by kernel_rfl) ?_ (fun hHeld => ?_)
      · exact ⟨⟨q0, q1, q2⟩, u0, u1, u2⟩
      refine wpAnyH_take (i := 0) (oi := _) (v := ?_) rfl (by kernel_rfl) (by kernel_rfl) (by kernel_rfl) (fun _ _ _ h => h) (Or.inl ⟨by rfl, ?_⟩) (by assumption) ?_
      rotate_left
      · intro w hSw; (try dsimp only at hSw); go_simp; try with_reducible rfl
      try simp only [Act.put, zA, zB, zD, zE, zF]
      refine wpAnyH_take (i := 1) (oi := _) (v := ?_) rfl (by kernel_rfl) (by kernel_rfl) (by kernel_rfl) (fun _ _ _ h => h) (Or.inl ⟨by rfl, ?_⟩) (by assumption) ?_
      rotate_left
      · intro w hSw; (try dsimp only at hSw); go_simp; try with_reducible rfl
      try simp only [Act.put, zA, zB, zC, zD, zE, zF]
      refine wpAnyH_take (i := 2) (oi := _) (v := ?_) rfl (by kernel_rfl) (by kernel_rfl) (by kernel_rfl) (fun _ _ _ h => h) (Or.inl ⟨by rfl, ?_⟩) (by assumption) ?_
      rotate_left
      · intro w hSw; (try dsimp only at hSw); go_simp; try with_reducible rfl
      try simp only [Act.put, zA, zB, zC, zD, zE, zF]
      refine wpAnyH_take (i := 3) (oi := _) (v := ?_) rfl (by kernel_rfl) (by kernel_rfl) (by kernel_rfl) (fun _ _ _ h => h) (Or.inl ⟨by rfl, ?_⟩) (by assumption) ?_
      rotate_left
      · intro w hSw; (try dsimp only at hSw); go_simp; try with_reducible rfl
      try simp only [Act.put, zA, zB, zC, zD, zE, zF]
      refine wpAnyH_take (i := 4) (oi := _) (v := ?_) rfl (by kernel_rfl) (by kernel_rfl) (by kernel_rfl) (fun _ _ _ h => h) (Or.inl ⟨by rfl, ?_⟩) (by assumption) ?_
      rotate_left
      · intro w hSw; (try dsimp only at hSw); go_simp; try with_reducible rfl
      try simp only [Act.put, zA, zB, zC, zD, zE, zF]
      refine wpAnyH_take (i := 5) (oi := _) (v := ?_) rfl (by kernel_rfl) (by kernel_rfl) (by kernel_rfl) (fun _ _ _ h => h) (Or.inl ⟨by rfl, ?_⟩) (by assumption) ?_
      rotate_left
      · intro w hSw; (try dsimp only at hSw); go_simp; try with_reducible rfl
      try simp only [Act.put, zA, zB, zC, zD, zE, zF]
      refine wpAnyH_take (i := 6) (oi := _) (v := ?_) rfl (by kernel_rfl) (by kernel_rfl) (by kernel_rfl) (fun _ _ _ h => h) (Or.inl ⟨by rfl, ?_⟩) (by assumption) ?_
      rotate_left
      · intro w hSw; (try dsimp only at hSw); go_simp; try with_reducible rfl
      try simp only [Act.put, zA, zB, zC, zD, zE, zF]
      refine wpAnyH_take (i := 7) (oi := _) (v := ?_) rfl (by kernel_rfl) (by kernel_rfl) (by kernel_rfl) (fun _ _ _ h => h) (Or.inl ⟨by rfl, ?_⟩) (by assumption) ?_
      rotate_left
      · intro w hSw; (try dsimp only at hSw); go_simp; try with_reducible rfl
      try simp only [Act.put, zA, zB, zC, zD, zE, zF]
      refine wpAnyH_take (i := 8) (oi := _) (v := ?_) rfl (by kernel_rfl) (by kernel_rfl) (by kernel_rfl) (fun _ _ _ h => h) (Or.inl ⟨by rfl, ?_⟩) (by assumption) ?_
      rotate_left
      · intro w hSw; (try dsimp only at hSw); go_simp; try with_reducible rfl
      try simp only [Act.put, zA, zB, zC, zD, zE, zF]
      refine wpAnyH_done (by kernel_rfl) ?_ _
      refine NoPanic.normal ?_
      go_wp2_with fail
      go_roundw
      case rel => exact ⟨k + 1, by omega, by go_num, hbe.drew⟩
      case measure => simp [intOf]; omega
    · have hkl : ¬ (k : Int) < l.length := by omega
      go_wp2
      go_ret
      exact ⟨rfl, hbe⟩
set_option maxRecDepth 100000 in
theorem aparts_any (t p s : Int) (sv : Value) (vals : List Int) (w : World) (hR : Rd w sv 1 vals.length (uints vals)) (hu : ∀ u ∈ vals, VS.U32 u) :
    Calls Tryz.prog 5 #[.agg #[.int .i64 t, .int .i64 p, .int .i64 s], sv] w fun e W' => e = .returned (.bool true) ∧ Below w.heap.size w W' := by
  have HF := Lib.hid (fun w => few12_any t p s w)
  have HL := Lib.hid (fun w => alive_any w)
  have c0 := loc_alloc w #[.int .i64 t, .int .i64 p, .int .i64 s] 23
  have S0 := ((BS.start w).alloc (.cells #[.int .i64 t, .int .i64 p, .int .i64 s] 23))
  by_cases hp : p ≤ 64
  · have hd : decide (p ≤ 64) = true := by simpa using hp
    rw [hd] at HF
    obtain ⟨l, hll, h1, h2⟩ := parts_alike t p s sv vals w hR hu hp
    obtain ⟨sa, sc, rfl⟩ := rd12_len hR
    have H1 := Lib.hid h1
    have H2 := Lib.hid h2
    have H3 := Lib.hid (fun va vb w ha hb => rsameparts_any l va vb w ha hb (by omega))
    clear h1 h2 hd hp hR hu
    go_enter Tryz.func5, Tryz.ntmps5
    go_wp2_with fail
    refine (calls_b S0 (HF.out _)).mono ?_
    rintro e w1 ⟨rfl, S1, S1l⟩
    have c1 := loc_step S1l (by simp) c0
    clear S1l
    clear S0 c0
    go_wp2_with fail
    refine wp_region_noPanic ?_
    refine wp_region_held_drew (S := fun w' => (∀ o : Nat, w'.cell? ⟨w.heap.size, o, none⟩ = (#[.int .i64 t, .int .i64 p, .int .i64 s] : Array Value)[o]?)) (by kernel_rfl) ?_ (fun hHeld => ?_)
    · exact c1
    refine wpAnyH_take (i := 0) (oi := _) (v := ?_) rfl (by kernel_rfl) (by kernel_rfl) (by kernel_rfl) (fun _ _ _ h => h) (Or.inl ⟨by rfl, ?_⟩) (by assumption) ?_
    rotate_left
    · intro w hSw; (try dsimp only at hSw); go_simp; try with_reducible rfl
    try simp only [Act.put, zA, zB, zD, zE, zF]
    refine wpAnyH_take (i := 1) (oi := _) (v := ?_) rfl (by kernel_rfl) (by kernel_rfl) (by kernel_rfl) (fun _ _ _ h => h) (Or.inl ⟨by rfl, ?_⟩) (by assumption) ?_
    rotate_left
    · intro w hSw; (try dsimp only at hSw); go_simp; try with_reducible rfl
    try simp only [Act.put, zA, zB, zC, zD, zE, zF]
    refine wpAnyH_take (i := 3) (oi := _) (v := ?_) rfl (by kernel_rfl) (by kernel_rfl) (by kernel_rfl) (fun _ _ _ h => h) (Or.inl ⟨by rfl, ?_⟩) (by assumption) ?_
    rotate_left
    · intro w hSw; (try dsimp only at hSw); go_simp; try with_reducible rfl
    try simp only [Act.put, zA, zB, zC, zD, zE, zF]
    refine wpAnyH_take (i := 4) (oi := _) (v := ?_) rfl (by kernel_rfl) (by kernel_rfl) (by kernel_rfl) (fun _ _ _ h => h) (Or.inl ⟨by rfl, ?_⟩) (by assumption) ?_
    rotate_left
    · intro w hSw; (try dsimp only at hSw); go_simp; try with_reducible rfl
    try simp only [Act.put, zA, zB, zC, zD, zE, zF]
    refine wpAnyH_ready (rs := [2]) (by kernel_rfl) (by simp) ?_
    refine AllReadyH.cons (o := _) rfl (fun K hK => ?_) AllReadyH.nil
    go_simp
    refine (H1.out _ S1.drew.bel).mono ?_
    rintro e w2 ⟨v2, rfl, o2, -, b2⟩
    have S2 := S1.drew.below b2
    have c2 := ((BS.start _).below b2).oldbox hHeld (S1.drew.ls w.heap.size (by simp)).1
    refine hK.out _ _ ?_ (fun hHeld => ?_)
    · exact c2
    clear hK K
    try simp only [Act.put, zA, zB, zC, zD, zE, zF]
    refine wpAnyH_ready (rs := [5]) (by kernel_rfl) (by simp) ?_
    refine AllReadyH.cons (o := _) rfl (fun K hK => ?_) AllReadyH.nil
    go_simp
    refine (H2.out _ S2.bel).mono ?_
    rintro e w3 ⟨v3, rfl, o3, -, b3⟩
    have S3 := S2.below b3
    have o2b := ((BS.start _).below b3).row o2
    have c3 := ((BS.start _).below b3).oldbox hHeld (S2.ls w.heap.size (by simp)).1
    refine hK.out _ _ ?_ (fun hHeld => ?_)
    · exact c3
    clear hK K
    try simp only [Act.put, zA, zB, zC, zD, zE, zF]
    refine wpAnyH_ready (rs := [6]) (by kernel_rfl) (by simp) ?_
    refine AllReadyH.cons (o := _) rfl (fun K hK => ?_) AllReadyH.nil
    go_simp
    refine (H3.out v2 v3 _ o2b o3).mono ?_
    rintro e w4 ⟨rfl, b4⟩
    have S4 := S3.below b4
    have c4 := ((BS.start _).below b4).oldbox hHeld (S3.ls w.heap.size (by simp)).1
    refine hK.out _ _ ?_ (fun hHeld => ?_)
    · exact c4
    clear hK K
    try simp only [Act.put, zA, zB, zC, zD, zE, zF]
    refine wpAnyH_take (i := 7) (oi := _) (v := ?_) rfl (by kernel_rfl) (by kernel_rfl) (by kernel_rfl) (fun _ _ _ h => h) (Or.inl ⟨by rfl, ?_⟩) (by assumption) ?_
    rotate_left
    · intro w hSw; (try dsimp only at hSw); go_simp; try with_reducible rfl
    try simp only [Act.put, zA, zB, zC, zD, zE, zF]
    refine wpAnyH_ready (rs := [8]) (by kernel_rfl) (by simp) ?_
    refine AllReadyH.cons (o := _) rfl (fun K hK => ?_) AllReadyH.nil
    go_simp
    refine (HL.out _).mono ?_
    rintro e w5 ⟨rfl, b5⟩
    have S5 := S4.below b5
    have c5 := ((BS.start _).below b5).oldbox hHeld (S4.ls w.heap.size (by simp)).1
    refine hK.out _ _ ?_ (fun hHeld => ?_)
    · exact c5
    clear hK K
    try simp only [Act.put, zA, zB, zC, zD, zE, zF]
    refine wpAnyH_take (i := 9) (oi := _) (v := ?_) rfl (by kernel_rfl) (by kernel_rfl) (by kernel_rfl) (fun _ _ _ h => h) (Or.inl ⟨by rfl, ?_⟩) (by assumption) ?_
    rotate_left
    · intro w hSw; (try dsimp only at hSw); go_simp; try with_reducible rfl
    try simp only [Act.put, zA, zB, zC, zD, zE, zF]
    refine wpAnyH_take (i := 10) (oi := _) (v := ?_) rfl (by kernel_rfl) (by kernel_rfl) (by kernel_rfl) (fun _ _ _ h => h) (Or.inl ⟨by rfl, ?_⟩) (by assumption) ?_
    rotate_left
    · intro w hSw; (try dsimp only at hSw); go_simp; try with_reducible rfl
    try simp only [Act.put, zA, zB, zC, zD, zE, zF]
    refine wpAnyH_done (by kernel_rfl) ?_ _
    refine NoPanic.normal ?_
    go_wp2
    go_ret
    exact ⟨rfl, S5.bel⟩
  · have hd : decide (p ≤ 64) = false := by simpa using hp
    rw [hd] at HF
    obtain ⟨sa, sc, rfl⟩ := rd12_len hR
    clear hd hp hR hu
    go_enter Tryz.func5, Tryz.ntmps5
    go_wp2_with fail
    refine (calls_b S0 (HF.out _)).mono ?_
    rintro e w1 ⟨rfl, S1, S1l⟩
    have c1 := loc_step S1l (by simp) c0
    clear S1l
    go_wp2_with fail
    refine (HL.out _).mono ?_
    rintro e w4 ⟨rfl, r4⟩
    go_wp2
    go_ret
    exact ⟨rfl, S1.bel.trans (r4.mono S1.bel.size)⟩
end Go.Proofs.YtcicmljnjdhkjaaGreat
