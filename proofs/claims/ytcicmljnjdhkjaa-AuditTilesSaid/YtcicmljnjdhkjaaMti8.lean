/- parts of the proof, merged by a program. -/
import Derived.Test.YtcicmljnjdhkjaaMti7
import Derived.ProofKit
import Derived.OpenShut
import Derived.Deep.Slices
set_option linter.unusedSimpArgs false
set_option linter.unusedVariables false
/- the program's audit: Check, Parts, Live. -/
set_option linter.unusedSimpArgs false
set_option linter.unusedVariables false
namespace Go.Proofs.Ytcicmljnjdhkjaa
open Go.RowKit
theorem chk_eq (vs : List Int) (t p s : Int) : ((chkF vs t p s).1 == 0) = (chkF vs t p s).2 ∧ 0 ≤ (chkF vs t p s).1 ∧ ((chkF vs t p s).2 = false → 0 < (chkF vs t p s).1) ∧ ((chkF vs t p s).2 = true → (chkF vs t p s).1 = 0) := by
  unfold chkF
  repeat' split
  all_goals simp
section
variable {w : World} {t p s : Int}
set_option maxRecDepth 100000 in
theorem psize_no (a : Option Addr) (m c b : Nat) (e0 : w.cell? ⟨b, 0, none⟩ = some (.int .i64 t)) (e1 : w.cell? ⟨b, 1, none⟩ = some (.int .i64 p)) (e2 : w.cell? ⟨b, 2, none⟩ = some (.int .i64 s)) (e3 : w.cell? ⟨b, 3, none⟩ = some (.slice a m c)) (h : rightB t p s = false ∨ (m : Int) ≠ cellsN t p) :
    Calls Try.prog 12 #[.pointer (some ⟨b, 0, none⟩)] w fun e W' => e = .returned (.bool false) ∧ Below w.heap.size w W' := by
  cases hr : rightB t p s
  · have HC := Lib.hid (fun w => check_wrong t p s w hr)
    clear h hr
    go_enter Try.func12, Try.ntmps12
    go_wp2_with fail
    refine wp_region_noPanic ?_
    refine wp_region_held_drew (S := fun w' => w'.cell? ⟨b, 0, none⟩ = some (.int .i64 t) ∧ w'.cell? ⟨b, 1, none⟩ = some (.int .i64 p) ∧ w'.cell? ⟨b, 2, none⟩ = some (.int .i64 s) ∧ w'.cell? ⟨b, 3, none⟩ = some (.slice a m c)) (by kernel_rfl) ?_ (fun hHeld => ?_)
    · exact ⟨e0, e1, e2, e3⟩
    refine wpAnyH_take (i := 0) (oi := _) (v := ?_) rfl (by kernel_rfl) (by kernel_rfl) (by kernel_rfl) (fun _ _ _ h => h) (Or.inl ⟨by rfl, ?_⟩) (by assumption) ?_
    rotate_left
    · intro w hSw; (try dsimp only at hSw); go_simp; try with_reducible rfl
    try simp only [Act.put, zA, zB, zD, zE, zF]
    refine wpAnyH_take (i := 1) (oi := _) (v := ?_) rfl (by kernel_rfl) (by kernel_rfl) (by kernel_rfl) (fun _ _ _ h => h) (Or.inl ⟨by rfl, ?_⟩) (by assumption) ?_
    rotate_left
    · intro w hSw; (try dsimp only at hSw); go_simp; try with_reducible rfl
    try simp only [Act.put, zA, zB, zC, zD, zE, zF]
    refine wpAnyH_take (i := 2) (oi := _) (v := ?_) rfl (by kernel_rfl) (by kernel_rfl) (by kernel_rfl) (fun _ _ _ h => h) (Or.inl ⟨by rfl, ?_⟩) (by assumption) ?_
    rotate_left
    · intro w hSw; (try dsimp only at hSw); go_simp; try with_reducible rfl
    try simp only [Act.put, zA, zB, zC, zD, zE, zF]
    refine wpAnyH_take (i := 3) (oi := _) (v := ?_) rfl (by kernel_rfl) (by kernel_rfl) (by kernel_rfl) (fun _ _ _ h => h) (Or.inl ⟨by rfl, ?_⟩) (by assumption) ?_
    rotate_left
    · intro w hSw; (try dsimp only at hSw); go_simp; try with_reducible rfl
    try simp only [Act.put, zA, zB, zC, zD, zE, zF]
    refine wpAnyH_ready (rs := [4]) (by kernel_rfl) (by simp) ?_
    refine AllReadyH.cons (o := _) rfl (fun K hK => ?_) AllReadyH.nil
    go_simp
    refine (HC.out _).mono ?_
    rintro e w1 ⟨rfl, r1⟩
    have k1 := held4g r1 hHeld
    refine hK.out _ _ ?_ (fun hHeld => ?_)
    · exact k1
    clear hK K
    try simp only [Act.put, zA, zB, zC, zD, zE, zF]
    refine wpAnyH_take (i := 5) (oi := _) (v := ?_) rfl (by kernel_rfl) (by kernel_rfl) (by kernel_rfl) (fun _ _ _ h => h) (Or.inl ⟨by rfl, ?_⟩) (by assumption) ?_
    rotate_left
    · intro w hSw; (try dsimp only at hSw); go_simp; try with_reducible rfl
    try simp only [Act.put, zA, zB, zC, zD, zE, zF]
    refine wpAnyH_take (i := 6) (oi := _) (v := ?_) rfl (by kernel_rfl) (by kernel_rfl) (by kernel_rfl) (fun _ _ _ h => h) (Or.inl ⟨by rfl, ?_⟩) (by assumption) ?_
    rotate_left
    · intro w hSw; (try dsimp only at hSw); go_simp; try with_reducible rfl
    try simp only [Act.put, zA, zB, zC, zD, zE, zF]
    refine wpAnyH_take (i := 7) (oi := _) (v := undef) rfl (by kernel_rfl) (by kernel_rfl) (by kernel_rfl) (fun _ _ _ h => h) (Or.inr ⟨by rfl, rfl⟩) (by assumption) ?_
    try simp only [Act.put, zA, zB, zC, zD, zE, zF]
    refine wpAnyH_take (i := 8) (oi := _) (v := undef) rfl (by kernel_rfl) (by kernel_rfl) (by kernel_rfl) (fun _ _ _ h => h) (Or.inr ⟨by rfl, rfl⟩) (by assumption) ?_
    try simp only [Act.put, zA, zB, zC, zD, zE, zF]
    refine wpAnyH_take (i := 9) (oi := _) (v := undef) rfl (by kernel_rfl) (by kernel_rfl) (by kernel_rfl) (fun _ _ _ h => h) (Or.inr ⟨by rfl, rfl⟩) (by assumption) ?_
    try simp only [Act.put, zA, zB, zC, zD, zE, zF]
    refine wpAnyH_take (i := 10) (oi := _) (v := undef) rfl (by kernel_rfl) (by kernel_rfl) (by kernel_rfl) (fun _ _ _ h => h) (Or.inr ⟨by rfl, rfl⟩) (by assumption) ?_
    try simp only [Act.put, zA, zB, zC, zD, zE, zF]
    refine wpAnyH_take (i := 11) (oi := _) (v := undef) rfl (by kernel_rfl) (by kernel_rfl) (by kernel_rfl) (fun _ _ _ h => h) (Or.inr ⟨by rfl, rfl⟩) (by assumption) ?_
    try simp only [Act.put, zA, zB, zC, zD, zE, zF]
    refine wpAnyH_take (i := 12) (oi := _) (v := undef) rfl (by kernel_rfl) (by kernel_rfl) (by kernel_rfl) (fun _ _ _ h => h) (Or.inr ⟨by rfl, rfl⟩) (by assumption) ?_
    try simp only [Act.put, zA, zB, zC, zD, zE, zF]
    refine wpAnyH_take (i := 13) (oi := _) (v := undef) rfl (by kernel_rfl) (by kernel_rfl) (by kernel_rfl) (fun _ _ _ h => h) (Or.inr ⟨by rfl, rfl⟩) (by assumption) ?_
    try simp only [Act.put, zA, zB, zC, zD, zE, zF]
    refine wpAnyH_take (i := 14) (oi := _) (v := undef) rfl (by kernel_rfl) (by kernel_rfl) (by kernel_rfl) (fun _ _ _ h => h) (Or.inr ⟨by rfl, rfl⟩) (by assumption) ?_
    try simp only [Act.put, zA, zB, zC, zD, zE, zF]
    refine wpAnyH_take (i := 15) (oi := _) (v := undef) rfl (by kernel_rfl) (by kernel_rfl) (by kernel_rfl) (fun _ _ _ h => h) (Or.inr ⟨by rfl, rfl⟩) (by assumption) ?_
    try simp only [Act.put, zA, zB, zC, zD, zE, zF]
    refine wpAnyH_take (i := 16) (oi := _) (v := undef) rfl (by kernel_rfl) (by kernel_rfl) (by kernel_rfl) (fun _ _ _ h => h) (Or.inr ⟨by rfl, rfl⟩) (by assumption) ?_
    try simp only [Act.put, zA, zB, zC, zD, zE, zF]
    refine wpAnyH_take (i := 17) (oi := _) (v := undef) rfl (by kernel_rfl) (by kernel_rfl) (by kernel_rfl) (fun _ _ _ h => h) (Or.inr ⟨by rfl, rfl⟩) (by assumption) ?_
    try simp only [Act.put, zA, zB, zC, zD, zE, zF]
    refine wpAnyH_take (i := 18) (oi := _) (v := ?_) rfl (by kernel_rfl) (by kernel_rfl) (by kernel_rfl) (fun _ _ _ h => h) (Or.inl ⟨by rfl, ?_⟩) (by assumption) ?_
    rotate_left
    · intro w hSw; (try dsimp only at hSw); go_simp; try with_reducible rfl
    try simp only [Act.put, zA, zB, zC, zD, zE, zF]
    refine wpAnyH_take (i := 19) (oi := _) (v := ?_) rfl (by kernel_rfl) (by kernel_rfl) (by kernel_rfl) (fun _ _ _ h => h) (Or.inl ⟨by rfl, ?_⟩) (by assumption) ?_
    rotate_left
    · intro w hSw; (try dsimp only at hSw); go_simp; try with_reducible rfl
    try simp only [Act.put, zA, zB, zC, zD, zE, zF]
    refine wpAnyH_done (by kernel_rfl) ?_ _
    refine NoPanic.normal ?_
    go_wp2
    go_ret
    exact ⟨rfl, (Below.refl _ _).drew.trans r1⟩
  · have HC := Lib.hid (fun w => check_right t p s w hr)
    have hcf : cellsF t p s = cellsN t p := by simp [cellsF, hr]
    have HN := Lib.hid (fun w => cells_any t p s w)
    rw [hcf] at HN
    have hm : (m : Int) ≠ cellsN t p := h.resolve_left (by rw [hr]; simp)
    generalize cellsN t p = z at *
    have hmb : ((m : Int) == z) = false := by simpa using hm
    clear h hr hcf hm
    go_enter Try.func12, Try.ntmps12
    go_wp2_with fail
    refine wp_region_noPanic ?_
    refine wp_region_held_drew (S := fun w' => w'.cell? ⟨b, 0, none⟩ = some (.int .i64 t) ∧ w'.cell? ⟨b, 1, none⟩ = some (.int .i64 p) ∧ w'.cell? ⟨b, 2, none⟩ = some (.int .i64 s) ∧ w'.cell? ⟨b, 3, none⟩ = some (.slice a m c)) (by kernel_rfl) ?_ (fun hHeld => ?_)
    · exact ⟨e0, e1, e2, e3⟩
    refine wpAnyH_take (i := 0) (oi := _) (v := ?_) rfl (by kernel_rfl) (by kernel_rfl) (by kernel_rfl) (fun _ _ _ h => h) (Or.inl ⟨by rfl, ?_⟩) (by assumption) ?_
    rotate_left
    · intro w hSw; (try dsimp only at hSw); go_simp; try with_reducible rfl
    try simp only [Act.put, zA, zB, zD, zE, zF]
    refine wpAnyH_take (i := 1) (oi := _) (v := ?_) rfl (by kernel_rfl) (by kernel_rfl) (by kernel_rfl) (fun _ _ _ h => h) (Or.inl ⟨by rfl, ?_⟩) (by assumption) ?_
    rotate_left
    · intro w hSw; (try dsimp only at hSw); go_simp; try with_reducible rfl
    try simp only [Act.put, zA, zB, zC, zD, zE, zF]
    refine wpAnyH_take (i := 2) (oi := _) (v := ?_) rfl (by kernel_rfl) (by kernel_rfl) (by kernel_rfl) (fun _ _ _ h => h) (Or.inl ⟨by rfl, ?_⟩) (by assumption) ?_
    rotate_left
    · intro w hSw; (try dsimp only at hSw); go_simp; try with_reducible rfl
    try simp only [Act.put, zA, zB, zC, zD, zE, zF]
    refine wpAnyH_take (i := 3) (oi := _) (v := ?_) rfl (by kernel_rfl) (by kernel_rfl) (by kernel_rfl) (fun _ _ _ h => h) (Or.inl ⟨by rfl, ?_⟩) (by assumption) ?_
    rotate_left
    · intro w hSw; (try dsimp only at hSw); go_simp; try with_reducible rfl
    try simp only [Act.put, zA, zB, zC, zD, zE, zF]
    refine wpAnyH_ready (rs := [4]) (by kernel_rfl) (by simp) ?_
    refine AllReadyH.cons (o := _) rfl (fun K hK => ?_) AllReadyH.nil
    go_simp
    refine (HC.out _).mono ?_
    rintro e w1 ⟨rfl, r1⟩
    have k1 := held4g r1 hHeld
    refine hK.out _ _ ?_ (fun hHeld => ?_)
    · exact k1
    clear hK K
    try simp only [Act.put, zA, zB, zC, zD, zE, zF]
    refine wpAnyH_take (i := 5) (oi := _) (v := ?_) rfl (by kernel_rfl) (by kernel_rfl) (by kernel_rfl) (fun _ _ _ h => h) (Or.inl ⟨by rfl, ?_⟩) (by assumption) ?_
    rotate_left
    · intro w hSw; (try dsimp only at hSw); go_simp; try with_reducible rfl
    try simp only [Act.put, zA, zB, zC, zD, zE, zF]
    refine wpAnyH_take (i := 6) (oi := _) (v := ?_) rfl (by kernel_rfl) (by kernel_rfl) (by kernel_rfl) (fun _ _ _ h => h) (Or.inl ⟨by rfl, ?_⟩) (by assumption) ?_
    rotate_left
    · intro w hSw; (try dsimp only at hSw); go_simp; try with_reducible rfl
    try simp only [Act.put, zA, zB, zC, zD, zE, zF]
    refine wpAnyH_take (i := 7) (oi := _) (v := ?_) rfl (by kernel_rfl) (by kernel_rfl) (by kernel_rfl) (fun _ _ _ h => h) (Or.inl ⟨by rfl, ?_⟩) (by assumption) ?_
    rotate_left
    · intro w hSw; (try dsimp only at hSw); go_simp; try with_reducible rfl
    try simp only [Act.put, zA, zB, zC, zD, zE, zF]
    refine wpAnyH_take (i := 8) (oi := _) (v := ?_) rfl (by kernel_rfl) (by kernel_rfl) (by kernel_rfl) (fun _ _ _ h => h) (Or.inl ⟨by rfl, ?_⟩) (by assumption) ?_
    rotate_left
    · intro w hSw; (try dsimp only at hSw); go_simp; try with_reducible rfl
    try simp only [Act.put, zA, zB, zC, zD, zE, zF]
    refine wpAnyH_take (i := 9) (oi := _) (v := ?_) rfl (by kernel_rfl) (by kernel_rfl) (by kernel_rfl) (fun _ _ _ h => h) (Or.inl ⟨by rfl, ?_⟩) (by assumption) ?_
    rotate_left
    · intro w hSw; (try dsimp only at hSw); go_simp; try with_reducible rfl
    try simp only [Act.put, zA, zB, zC, zD, zE, zF]
    refine wpAnyH_take (i := 10) (oi := _) (v := ?_) rfl (by kernel_rfl) (by kernel_rfl) (by kernel_rfl) (fun _ _ _ h => h) (Or.inl ⟨by rfl, ?_⟩) (by assumption) ?_
    rotate_left
    · intro w hSw; (try dsimp only at hSw); go_simp; try with_reducible rfl
    try simp only [Act.put, zA, zB, zC, zD, zE, zF]
    refine wpAnyH_take (i := 11) (oi := _) (v := ?_) rfl (by kernel_rfl) (by kernel_rfl) (by kernel_rfl) (fun _ _ _ h => h) (Or.inl ⟨by rfl, ?_⟩) (by assumption) ?_
    rotate_left
    · intro w hSw; (try dsimp only at hSw); go_simp; try with_reducible rfl
    try simp only [Act.put, zA, zB, zC, zD, zE, zF]
    refine wpAnyH_take (i := 12) (oi := _) (v := ?_) rfl (by kernel_rfl) (by kernel_rfl) (by kernel_rfl) (fun _ _ _ h => h) (Or.inl ⟨by rfl, ?_⟩) (by assumption) ?_
    rotate_left
    · intro w hSw; (try dsimp only at hSw); go_simp; try with_reducible rfl
    try simp only [Act.put, zA, zB, zC, zD, zE, zF]
    refine wpAnyH_take (i := 13) (oi := _) (v := ?_) rfl (by kernel_rfl) (by kernel_rfl) (by kernel_rfl) (fun _ _ _ h => h) (Or.inl ⟨by rfl, ?_⟩) (by assumption) ?_
    rotate_left
    · intro w hSw; (try dsimp only at hSw); go_simp; try with_reducible rfl
    try simp only [Act.put, zA, zB, zC, zD, zE, zF]
    refine wpAnyH_take (i := 14) (oi := _) (v := ?_) rfl (by kernel_rfl) (by kernel_rfl) (by kernel_rfl) (fun _ _ _ h => h) (Or.inl ⟨by rfl, ?_⟩) (by assumption) ?_
    rotate_left
    · intro w hSw; (try dsimp only at hSw); go_simp; try with_reducible rfl
    try simp only [Act.put, zA, zB, zC, zD, zE, zF]
    refine wpAnyH_take (i := 15) (oi := _) (v := ?_) rfl (by kernel_rfl) (by kernel_rfl) (by kernel_rfl) (fun _ _ _ h => h) (Or.inl ⟨by rfl, ?_⟩) (by assumption) ?_
    rotate_left
    · intro w hSw; (try dsimp only at hSw); go_simp; try with_reducible rfl
    try simp only [Act.put, zA, zB, zC, zD, zE, zF]
    refine wpAnyH_ready (rs := [16]) (by kernel_rfl) (by simp) ?_
    refine AllReadyH.cons (o := _) rfl (fun K hK => ?_) AllReadyH.nil
    go_simp
    refine (HN.out _).mono ?_
    rintro e w2 ⟨rfl, r2⟩
    have k2 := held4g r2 hHeld
    refine hK.out _ _ ?_ (fun hHeld => ?_)
    · exact k2
    clear hK K
    try simp only [Act.put, zA, zB, zC, zD, zE, zF]
    refine wpAnyH_take (i := 17) (oi := _) (v := ?_) rfl (by kernel_rfl) (by kernel_rfl) (by kernel_rfl) (fun _ _ _ h => h) (Or.inl ⟨by rfl, ?_⟩) (by assumption) ?_
    rotate_left
    · intro w hSw; (try dsimp only at hSw); go_simp; try with_reducible rfl
    try simp only [Act.put, zA, zB, zC, zD, zE, zF]
    refine wpAnyH_take (i := 18) (oi := _) (v := ?_) rfl (by kernel_rfl) (by kernel_rfl) (by kernel_rfl) (fun _ _ _ h => h) (Or.inl ⟨by rfl, ?_⟩) (by assumption) ?_
    rotate_left
    · intro w hSw; (try dsimp only at hSw); go_simp; try with_reducible rfl
    try simp only [Act.put, zA, zB, zC, zD, zE, zF]
    refine wpAnyH_take (i := 19) (oi := _) (v := ?_) rfl (by kernel_rfl) (by kernel_rfl) (by kernel_rfl) (fun _ _ _ h => h) (Or.inl ⟨by rfl, ?_⟩) (by assumption) ?_
    rotate_left
    · intro w hSw; (try dsimp only at hSw); go_simp; try with_reducible rfl
    try simp only [Act.put, zA, zB, zC, zD, zE, zF]
    refine wpAnyH_done (by kernel_rfl) ?_ _
    refine NoPanic.normal ?_
    go_wp2
    go_ret
    exact ⟨rfl, (Below.refl _ _).drew.trans (r1.trans (r2.mono r1.size))⟩
def SeeNo (w : World) (b R : Nat) (t p s : Int) (a : Option Addr) (m c : Nat) (v : Value) (wr : World) : Prop :=
  v = .int .i64 0 ∧ ((wr.cell? ⟨b, 0, none⟩ = some (.int .i64 t) ∧ wr.cell? ⟨b, 1, none⟩ = some (.int .i64 p)) ∧ wr.cell? ⟨b, 2, none⟩ = some (.int .i64 s) ∧ wr.cell? ⟨b, 3, none⟩ = some (.slice a m c)) ∧ wr.heap[R]? = some (.cells (fnC b) 26) ∧ Below w.heap.size w wr
set_option maxHeartbeats 4000000 in
set_option maxRecDepth 100000 in
theorem psee_no (a : Option Addr) (m c : Nat) (h : rightB t p s = false ∨ (m : Int) ≠ cellsN t p) : Calls Try.prog 9 #[.agg #[.int .i64 t, .int .i64 p, .int .i64 s], .slice a m c] w fun e W' => (∃ b : Nat, e = .returned (.tuple #[.pointer (some ⟨b, 0, none⟩), .int .i64 1])) ∧ Below w.heap.size w W' := by
  have h0 : SeeNo w (w.heap.size + 1 + 1) (w.heap.size + 1 + 1 + 1) t p s a m c (.int .i64 0) ((((w.alloc (.cells #[.int .i64 t, .int .i64 p, .int .i64 s] 23)).alloc (.map #[] 0)).alloc (.cells #[.int .i64 t, .int .i64 p, .int .i64 s, .slice a m c, .slice none 0 0, .map (some (w.heap.size + 1))] 48)).alloc (.cells (fnC (w.heap.size + 1 + 1)) 26)) := by
    have S := (((BS.start w).alloc (.cells #[.int .i64 t, .int .i64 p, .int .i64 s] 23)).alloc (.map #[] 0)).alloc (.cells #[.int .i64 t, .int .i64 p, .int .i64 s, .slice a m c, .slice none 0 0, .map (some (w.heap.size + 1))] 48)
    have S2 := S.alloc (.cells (fnC (w.heap.size + 1 + 1)) 26)
    have hb : ((((w.alloc (.cells #[.int .i64 t, .int .i64 p, .int .i64 s] 23)).alloc (.map #[] 0)).alloc (.cells #[.int .i64 t, .int .i64 p, .int .i64 s, .slice a m c, .slice none 0 0, .map (some (w.heap.size + 1))] 48)).alloc (.cells (fnC (w.heap.size + 1 + 1)) 26)).heap[w.heap.size + 1 + 1]? = some (.cells #[.int .i64 t, .int .i64 p, .int .i64 s, .slice a m c, .slice none 0 0, .map (some (w.heap.size + 1))] 48) := (heap_alloc_old _ _ (by simp)).trans (hb_alloc _ _ _ (by simp))
    exact ⟨rfl, ⟨⟨cell?_of_heap hb, cell?_of_heap hb⟩, cell?_of_heap hb, cell?_of_heap hb⟩, hb_alloc _ _ _ (by simp), S2.bel⟩
  have hmm := @run_makeMap Try.prog
  have H0 := Lib.hid h0
  clear h0
  go_enter Try.func9, Try.ntmps9
  go_wp2_with fail
  go_loopw [7, 8, 36] (fun _ _ v36 wr => SeeNo w (w.heap.size + 1 + 1) (w.heap.size + 1 + 1 + 1) t p s a m c v36 wr) (fun _ _ v36 _ => 10 - (intOf v36).toNat)
  case atStart => exact H0.out
  case round =>
    obtain ⟨rfl, ⟨⟨e0, e1⟩, e2, e3⟩, hfn, hb⟩ := hrel
    have cf : wr.cell? ⟨w.heap.size + 1 + 1 + 1, 0, none⟩ = some (.func (.func 12) #[.pointer (some ⟨w.heap.size + 1 + 1, 0, none⟩)] #[]) := cell?_of_heap hfn
    have HR := Lib.hid (psize_no a m c _ e0 e1 e2 e3 h)
    have HB := Lib.hid hb
    clear H0 hfn e0 e1 e2 e3 hb h
    go_wp2_with fail
    refine HR.out.mono ?_
    rintro e w2 ⟨rfl, r2⟩
    go_wp2
    refine bodyPost_ret (v := .tuple #[.pointer (some ⟨w.heap.size + 1 + 1, 0, none⟩), .int .i64 1]) (by simp [results, Try.results9, go_sem]) rfl ?_
    exact ⟨⟨_, rfl⟩, HB.out.trans (r2.mono HB.out.size)⟩
theorem pcheck_no (a : Option Addr) (m c : Nat) (h : rightB t p s = false ∨ (m : Int) ≠ cellsN t p) : Calls Try.prog 8 #[.agg #[.int .i64 t, .int .i64 p, .int .i64 s], .slice a m c] w fun e W' => e = .returned (.tuple #[.int .i64 1, .bool false]) ∧ Below w.heap.size w W' := by
  have H := Lib.hid (fun w => psee_no (w := w) a m c h)
  clear h
  go_enter Try.func8, Try.ntmps8
  go_wp2_with fail
  refine (H.out _).mono ?_
  rintro e w1 ⟨⟨b, rfl⟩, r1⟩
  go_wp2
  refine bodyPost_ret (v := .tuple #[.int .i64 1, .bool false]) (by simp [results, Try.results8, go_sem]) rfl ⟨rfl, ?_⟩
  exact ((Below.refl _ _).alloc (Nat.le_refl _) _).trans (r1.mono (by simp))
theorem pparts_no (a : Option Addr) (m c : Nat) (h : rightB t p s = false ∨ (m : Int) ≠ cellsN t p) : Calls Try.prog 6 #[.agg #[.int .i64 t, .int .i64 p, .int .i64 s], .slice a m c] w fun e W' => e = .returned (.slice none 0 0) ∧ Below w.heap.size w W' := by
  have H := Lib.hid (fun w => psee_no (w := w) a m c h)
  clear h
  go_enter Try.func6, Try.ntmps6
  go_wp2_with fail
  refine (H.out _).mono ?_
  rintro e w1 ⟨⟨b, rfl⟩, r1⟩
  go_wp2
  go_ret
  exact ⟨rfl, ((Below.refl _ _).alloc (Nat.le_refl _) _).trans (r1.mono (by simp))⟩
theorem plive_no (a : Option Addr) (m c : Nat) (h : rightB t p s = false ∨ (m : Int) ≠ cellsN t p) : Calls Try.prog 7 #[.agg #[.int .i64 t, .int .i64 p, .int .i64 s], .slice a m c] w fun e W' => e = .returned (.slice none 0 0) ∧ Below w.heap.size w W' := by
  have H := Lib.hid (fun w => psee_no (w := w) a m c h)
  clear h
  go_enter Try.func7, Try.ntmps7
  go_wp2_with fail
  refine (H.out _).mono ?_
  rintro e w1 ⟨⟨b, rfl⟩, r1⟩
  go_wp2
  go_ret
  exact ⟨rfl, ((Below.refl _ _).alloc (Nat.le_refl _) _).trans (r1.mono (by simp))⟩
end
section
variable {w : World} {t s : Int} {P : Nat} {ad : Addr} {n : Nat} {vs : List Int}
theorem XV.old (h : XV w t P s ad n vs) : ad.block < w.heap.size := by
  have hn := h.bd
  have := World.block_lt_of_cell? _ _ (h.cells 0 (by omega))
  rwa [add_block] at this
theorem pcheck_any (h : XV w t P s ad n vs) (c : Nat) : Calls Try.prog 8 #[.agg #[.int .i64 t, .int .i64 P, .int .i64 s], .slice (some ad) n c] w fun e W' => e = .returned (.tuple #[.int .i64 (chkF vs t P s).1, .bool (chkF vs t P s).2]) ∧ Below w.heap.size w W' := by
  have hb := (Below.refl w.heap.size w).alloc (Nat.le_refl _) (.cells #[.int .i64 t, .int .i64 P, .int .i64 s] 23)
  have H := Lib.hid (psee_any (h.keep hb) c (h.keep hb).old)
  have HE := Lib.hid (chk_eq vs t P s).1
  unfold SeeP at H
  clear h
  generalize chkF vs t P s = r at *
  go_enter Try.func8, Try.ntmps8
  go_wp2_with fail
  refine H.out.mono ?_
  rintro e w1 ⟨b, mb, rfl, r1, -⟩
  go_wp2
  refine bodyPost_ret (v := .tuple #[.int .i64 r.1, .bool (r.1 == 0)]) (by simp [results, Try.results8, go_sem]) rfl ⟨by rw [HE.out], ?_⟩
  exact hb.trans (r1.mono hb.size)
theorem pparts_sick (h : XV w t P s ad n vs) (c : Nat) (hs : (chkF vs t P s).2 = false) : Calls Try.prog 6 #[.agg #[.int .i64 t, .int .i64 P, .int .i64 s], .slice (some ad) n c] w fun e W' => e = .returned (.slice none 0 0) ∧ Below w.heap.size w W' := by
  have hb := (Below.refl w.heap.size w).alloc (Nat.le_refl _) (.cells #[.int .i64 t, .int .i64 P, .int .i64 s] 23)
  have H := Lib.hid (psee_any (h.keep hb) c (h.keep hb).old)
  have hp := (chk_eq vs t P s).2.2.1 hs
  unfold SeeP at H
  clear h hs
  generalize chkF vs t P s = r at *
  go_enter Try.func6, Try.ntmps6
  go_wp2_with fail
  refine H.out.mono ?_
  rintro e w1 ⟨b, mb, rfl, r1, -⟩
  go_wp2
  go_ret
  exact ⟨rfl, hb.trans (r1.mono hb.size)⟩
theorem plive_sick (h : XV w t P s ad n vs) (c : Nat) (hs : (chkF vs t P s).2 = false) : Calls Try.prog 7 #[.agg #[.int .i64 t, .int .i64 P, .int .i64 s], .slice (some ad) n c] w fun e W' => e = .returned (.slice none 0 0) ∧ Below w.heap.size w W' := by
  have hb := (Below.refl w.heap.size w).alloc (Nat.le_refl _) (.cells #[.int .i64 t, .int .i64 P, .int .i64 s] 23)
  have H := Lib.hid (psee_any (h.keep hb) c (h.keep hb).old)
  have hp := (chk_eq vs t P s).2.2.1 hs
  unfold SeeP at H
  clear h hs
  generalize chkF vs t P s = r at *
  go_enter Try.func7, Try.ntmps7
  go_wp2_with fail
  refine H.out.mono ?_
  rintro e w1 ⟨b, mb, rfl, r1, -⟩
  go_wp2
  go_ret
  exact ⟨rfl, hb.trans (r1.mono hb.size)⟩
theorem chk_tiles (hs : (chkF vs t P s).2 = true) : tilesF vs t P = true := by
  unfold chkF at hs
  split at hs
  · simp at hs
  · rename_i h
    simpa using h
theorem pparts_heap (h : XV w t P s ad n vs) (c : Nat) (hs : (chkF vs t P s).2 = true) : Calls Try.prog 6 #[.agg #[.int .i64 t, .int .i64 P, .int .i64 s], .slice (some ad) n c] w fun e W' => ∃ v, e = .returned v ∧ RowQ w (partsF vs t P s) v W' := by
  have hb := (Below.refl w.heap.size w).alloc (Nat.le_refl _) (.cells #[.int .i64 t, .int .i64 P, .int .i64 s] 23)
  have H := Lib.hid (psee_any (h.keep hb) c (h.keep hb).old)
  have hp := (chk_eq vs t P s).2.2.2 hs
  have ht := chk_tiles hs
  have HPl := Lib.hid (parts_law (s := s) ht)
  unfold SeeP at H
  rw [hp, hs] at H
  have HSp := Lib.hid (sp_in ht)
  clear h hs hp ht
  go_enter Try.func6, Try.ntmps6
  go_wp2_with fail
  refine H.out.mono ?_
  rintro e w1 ⟨b, mb, rfl, r1, hx⟩
  have HX := Lib.hid (hx trivial)
  clear hx
  go_wp2_with fail
  obtain ⟨g, ml, h1, h2⟩ := HX.out
  have HP := Lib.hid (pparts_any _ w1 ml g P _ h1 h2 HSp.out)
  rw [HPl.out] at HP
  clear h1 h2
  refine HP.out.mono ?_
  rintro e w2 ⟨v, rfl, q1, q2, q3⟩
  have hb2 := hb.trans (r1.mono hb.size)
  have HQ := Lib.hid (And.intro q1 (And.intro q2 q3))
  clear q1 q2 q3
  go_wp2
  go_ret
  exact ⟨v, rfl, HQ.out.1, fun k hk => Nat.le_trans hb2.size (HQ.out.2.1 k hk), hb2.trans (HQ.out.2.2.mono hb2.size)⟩
theorem plive_heap (h : XV w t P s ad n vs) (c : Nat) (hs : (chkF vs t P s).2 = true) : Calls Try.prog 7 #[.agg #[.int .i64 t, .int .i64 P, .int .i64 s], .slice (some ad) n c] w fun e W' => ∃ v, e = .returned v ∧ RowB w (blocksF vs t P s) v W' := by
  have hb := (Below.refl w.heap.size w).alloc (Nat.le_refl _) (.cells #[.int .i64 t, .int .i64 P, .int .i64 s] 23)
  have H := Lib.hid (psee_any (h.keep hb) c (h.keep hb).old)
  have hp := (chk_eq vs t P s).2.2.2 hs
  have ht := chk_tiles hs
  have HPl := Lib.hid (parts_law (s := s) ht)
  unfold SeeP at H
  rw [hp, hs] at H
  have HSp := Lib.hid (sp_in ht)
  clear h hs hp ht
  go_enter Try.func7, Try.ntmps7
  go_wp2_with fail
  refine H.out.mono ?_
  rintro e w1 ⟨b, mb, rfl, r1, hx⟩
  have HX := Lib.hid (hx trivial)
  clear hx
  go_wp2_with fail
  obtain ⟨g, ml, h1, h2⟩ := HX.out
  have HP := Lib.hid (pblocks_any _ w1 ml g P _ h1 h2 HSp.out)
  rw [HPl.out] at HP
  clear h1 h2
  refine HP.out.mono ?_
  rintro e w2 ⟨v, rfl, q1, q2, q3⟩
  have hb2 := hb.trans (r1.mono hb.size)
  have HQ := Lib.hid (And.intro q1 (And.intro q2 q3))
  clear q1 q2 q3
  go_wp2
  go_ret
  exact ⟨v, rfl, HQ.out.1, fun k hk => Nat.le_trans hb2.size (HQ.out.2.1 k hk), hb2.trans (HQ.out.2.2.mono hb2.size)⟩
end
end Go.Proofs.Ytcicmljnjdhkjaa
/- the laws of the audit: the page's example; Few; the same parts; values among the arguments. -/
set_option linter.unusedSimpArgs false
set_option linter.unusedVariables false
namespace Go.Proofs.Ytcicmljnjdhkjaa
open Go.ChangeShapes Go.RowKit

theorem few12_any (t p s : Int) (w : World) :
    Calls Try.prog 4 #[.agg #[.int .i64 t, .int .i64 p, .int .i64 s]] w fun e w' => e = .returned (.bool (decide (p ≤ 64))) ∧ Below w.heap.size w w' := by
  go_enter Try.func4, Try.ntmps4
  go_wp2
  go_ret
  refine ⟨rfl, ?_⟩
  (repeat (first | exact Below.refl _ _ | assumption | refine Below.setCell ?_ (by first | omega | (simp; done) | (simp; omega)) _ | refine Below.alloc ?_ (by first | omega | (simp; done) | (simp; omega)) _ | refine Below.drew ?_ | refine Below.trans ?_ (Below.mono ‹Below _ _ _› (by first | omega | (simp; done) | (simp; omega)))))
section
variable {H : Type} {enc : TypeId × Value → H} {w : World} {base : Nat} {spare : Nat → Bool} {held : Bool}
theorem rd12_u32 {fuel : Nat} {cs : List Value} {x : DataW H × List MemPlace} (h : DataW.trod enc Try.prog w base spare held fuel 24 cs = some x) :
    ∃ v vals, cs = [v] ∧ Rd w v 1 vals.length (uints vals) ∧ ∀ u ∈ vals, VS.U32 u := by
  rcases open_ints Try.underlying24 Try.underlying39 (by kernel_rfl) h with ⟨rfl, -⟩ | ⟨a, len, cap, zs, rfl, -, hl, -, hz, -, hc, hw⟩
  · exact ⟨_, [], rfl, ⟨rfl, Or.inl ⟨rfl, rfl⟩⟩, by simp⟩
  · have hle : len ≤ zs.length := by rw [hz]; split <;> omega
    have e : (zs.take len).length = len := by simp; omega
    refine ⟨_, zs.take len, rfl, ⟨by simp [uints], Or.inr ⟨a, cap, by rw [e], ?_⟩⟩, ?_⟩
    · intro j u hj
      have hjl : j < len := by
        have := (List.getElem?_eq_some_iff.1 hj).1
        simp [uints] at this; omega
      rw [hc j (by omega), ← hj]
      simp [uints, hjl, show j < zs.length by omega]
    · intro u hu
      have := hw u (List.mem_of_mem_take hu)
      simp [Lit.wf] at this
      have e1 : IntKind.u32.min = 0 := by decide
      have e2 : IntKind.u32.max = 4294967295 := by decide
      exact ⟨by omega, by omega⟩
end
theorem rd12_len {w : World} {v : Value} {sz n : Nat} {xs : List Value} (h : Rd w v sz n xs) : ∃ a c, v = .slice a n c := by
  rcases h.2 with ⟨rfl, rfl⟩ | ⟨ad, c, rfl, -⟩
  · exact ⟨_, _, rfl⟩
  · exact ⟨_, _, rfl⟩
theorem Rd.keepB {w w' : World} {v : Value} {sz n : Nat} {xs : List Value} (h : Rd w v sz n xs) (hb : Below w.heap.size w w') : Rd w' v sz n xs :=
  ⟨h.1, h.2.imp id fun ⟨ad, c, e, hc⟩ => ⟨ad, c, e, fun j u hj => (hb.cell (World.block_lt_of_cell? _ _ (hc j u hj))).trans (hc j u hj)⟩⟩
/-- values that are as many as there must be. -/
theorem Rd.xv {w : World} {v : Value} {vals : List Int} {t p s : Int} (h : Rd w v 1 vals.length (uints vals)) (hu : ∀ u ∈ vals, VS.U32 u) (hr : rightB t p s = true) (hp : p ≤ 64) (hn : (vals.length : Int) = cellsN t p) :
    ∃ ad c, v = .slice (some ad) vals.length c ∧ XV w t p s ad vals.length vals := by
  have bd := right_bd hr
  rcases h.2 with ⟨-, h0⟩ | ⟨ad, c, rfl, hc⟩
  · unfold cellsN at hn; omega
  · refine ⟨ad, c, rfl, hr, hp, rfl, by rw [hn]; rfl, hu, fun k hk => hc k _ ?_⟩
    simp [uints, hk]

theorem held3a {w w' : World} {a0 a1 a2 : Addr} {u0 u1 u2 : Value} (hb : Below w.heap.size w w') (h : (w.cell? a0 = some u0 ∧ w.cell? a1 = some u1) ∧ w.cell? a2 = some u2) :
    (w'.cell? a0 = some u0 ∧ w'.cell? a1 = some u1) ∧ w'.cell? a2 = some u2 := by
  have cc : ∀ {a : Addr} {v : Value}, w.cell? a = some v → w'.cell? a = some v := fun hc => (hb.cell (World.block_lt_of_cell? _ _ hc)).trans hc
  exact ⟨⟨cc h.1.1, cc h.1.2⟩, cc h.2⟩
def lvWs : List Int := [4, 0, 0, 0, 1, 0, 0, 0, 0, 0, 0, 0, 0, 0, 0, 0, 0, 0, 0, 0, 0, 0, 0, 0, 0, 0, 0, 0, 0, 0, 0, 0, 0, 0, 65, 0, 0, 0, 0, 0, 0, 0, 0, 0, 0, 0, 0, 0, 0, 0, 0, 0, 0, 1, 0, 0, 0, 0]
theorem lv_chk : chkF lvWs 1 ((4 : Nat) : Int) 10 = (0, true) := by decide +kernel
theorem lv_parts : partsF lvWs 1 ((4 : Nat) : Int) 10 = [(1, 1024, 4096)] := by decide +kernel
theorem lv_xv {W : World} {g : Nat} (h : WtAt W g lvWs) : XV W 1 ((4 : Nat) : Int) 10 ⟨g, 0, none⟩ 58 lvWs := by
  refine ⟨by decide, by decide, by decide, by decide, by unfold VS.U32; decide, fun k hk => ?_⟩
  have e : (⟨g, 0, none⟩ : Addr).add k = ⟨g, k, none⟩ := by unfold Addr.add; split <;> simp_all
  rw [e]
  exact h.cell (by show k < 58; exact hk)
set_option maxHeartbeats 2000000 in
set_option maxRecDepth 100000 in
theorem alive_any (w : World) : Calls Try.prog 5 #[] w fun e w' => e = .returned (.bool true) ∧ Below w.heap.size w w' := by
  have hmk : ∀ w : World, (Instr.makeSlice 24 (.int .i64 58) (.int .i64 58)).run Try.prog w = .ok (.slice (some ⟨w.heap.size, 0, none⟩) 58 58) (w.alloc (.cells (madeCells #[.int .u32 0] 58) 39)) := run_make_row' (P := Try.prog) 24 39 (.int .u32 0) 4 Try.underlying24 infoU32 rfl .i64 .i64 58 (by omega) (by omega)
  simp only [made_u32] at hmk
  obtain ⟨A0, hA0⟩ : ∃ A, (uints (List.replicate 58 0)).toArray = A := ⟨_, rfl⟩
  rw [hA0] at hmk
  have hsz : A0.size = 58 := by rw [← hA0]; simp [uints]
  obtain ⟨z0, k0⟩ : ∃ z, A0[0]? = some z := ⟨_, Array.getElem?_eq_getElem (by omega)⟩
  obtain ⟨z4, k4⟩ : ∃ z, A0[4]? = some z := ⟨_, Array.getElem?_eq_getElem (by omega)⟩
  obtain ⟨z34, k34⟩ : ∃ z, A0[34]? = some z := ⟨_, Array.getElem?_eq_getElem (by omega)⟩
  obtain ⟨z53, k53⟩ : ∃ z, A0[53]? = some z := ⟨_, Array.getElem?_eq_getElem (by omega)⟩
  have hSet : (((A0.setIfInBounds 0 (.int .u32 4)).setIfInBounds 4 (.int .u32 1)).setIfInBounds 34 (.int .u32 65)).setIfInBounds 53 (.int .u32 1) = (uints lvWs).toArray := by rw [← hA0]; kernel_rfl
  have H1 : ∀ W g, WtAt W g lvWs → Calls Try.prog 8 #[.agg #[.int .i64 1, .int .i64 4, .int .i64 10], .slice (some ⟨g, 0, none⟩) 58 58] W (fun e W' => e = .returned (.tuple #[.int .i64 0, .bool true]) ∧ Below W.heap.size W W') := fun W g h => by
    have := pcheck_any (lv_xv h) 58
    rw [lv_chk] at this
    exact this
  have H2 : ∀ W (g : Nat), Calls Try.prog 8 #[.agg #[.int .i64 1, .int .i64 4, .int .i64 10], .slice (some ⟨g, 1, none⟩) 57 57] W (fun e W' => e = .returned (.tuple #[.int .i64 1, .bool false]) ∧ Below W.heap.size W W') := fun W g => pcheck_no (some ⟨g, 1, none⟩) 57 57 (Or.inr (by decide))
  have H3 : ∀ W g, WtAt W g lvWs → Calls Try.prog 6 #[.agg #[.int .i64 1, .int .i64 4, .int .i64 10], .slice (some ⟨g, 0, none⟩) 58 58] W (fun e W' => ∃ v, e = .returned v ∧ RowQ W [(1, 1024, 4096)] v W') := fun W g h => by
    have := pparts_heap (lv_xv h) 58 (by rw [lv_chk])
    rw [lv_parts] at this
    exact this
  have hE : ∀ W, (Op.equalIn 10000 35 (.agg #[.int .i64 1, .int .i64 1024, .int .i64 4096]) (.agg #[.int .i64 1, .int .i64 1024, .int .i64 4096])).run Try.prog W = .ok true W := fun W => by kernel_rfl
  generalize lvWs = ws at *
  have HH1 := Lib.hid H1
  have HH2 := Lib.hid H2
  have HH3 := Lib.hid H3
  have HSet := Lib.hid (fun _ : Unit => hSet)
  clear H1 H2 H3 hSet hA0
  have hne : w.heap.size ≠ w.heap.size + 1 := by omega
  go_enter Try.func5, Try.ntmps5
  go_wp2_with fail
  rw [HSet.out ()]
  have hw4 : WtAt ((w.alloc (.cells #[.int .i64 1, .int .i64 4, .int .i64 10] 23)).alloc (.cells (uints ws).toArray 39)) (w.heap.size + 1) ws := hb_alloc _ _ _ (by simp)
  have s4 := ((BS.start w).alloc (.cells #[.int .i64 1, .int .i64 4, .int .i64 10] 23)).alloc (.cells (uints ws).toArray 39)
  have c0 := loc_old (.cells (uints ws).toArray 39) (by simp) (loc_alloc w #[.int .i64 1, .int .i64 4, .int .i64 10] 23)
  refine (HH1.out _ _ hw4).mono ?_
  rintro e w1 ⟨rfl, r1⟩
  have S1 := s4.below r1
  have W1 := Lib.hid (fun _ : Unit => hw4.keep r1)
  have c1 := ((BS.start _).below r1).oldbox c0 (by simp; omega)
  have e0 : w1.cell? ⟨w.heap.size, 0, none⟩ = some (.int .i64 1) := c1 0
  have e1 : w1.cell? ⟨w.heap.size, 1, none⟩ = some (.int .i64 4) := c1 1
  have e2 : w1.cell? ⟨w.heap.size, 2, none⟩ = some (.int .i64 10) := c1 2
  clear hw4 s4 HH1 r1 c0 c1 HSet
  go_wp2_with fail
  refine wp_region_noPanic ?_
  refine wp_region_held_drew (S := fun w' => (w'.cell? ⟨w.heap.size, 0, none⟩ = some (.int .i64 1) ∧ w'.cell? ⟨w.heap.size, 1, none⟩ = some (.int .i64 4)) ∧ w'.cell? ⟨w.heap.size, 2, none⟩ = some (.int .i64 10)) (by kernel_rfl) ?_ (fun hHeld => ?_)
  · exact ⟨⟨e0, e1⟩, e2⟩
  refine wpAnyH_take (i := 0) (oi := _) (v := ?_) rfl (by kernel_rfl) (by kernel_rfl) (by kernel_rfl) (fun _ _ _ h => h) (Or.inl ⟨by rfl, ?_⟩) (by assumption) ?_
  rotate_left
  · intro w hSw; (try dsimp only at hSw); go_simp; try with_reducible rfl
  try simp only [Act.put, zA, zB, zD, zE, zF]
  refine wpAnyH_take (i := 1) (oi := _) (v := ?_) rfl (by kernel_rfl) (by kernel_rfl) (by kernel_rfl) (fun _ _ _ h => h) (Or.inl ⟨by rfl, ?_⟩) (by assumption) ?_
  rotate_left
  · intro w hSw; (try dsimp only at hSw); go_simp; try with_reducible rfl
  try simp only [Act.put, zA, zB, zC, zD, zE, zF]
  refine wpAnyH_take (i := 2) (oi := _) (v := ?_) rfl (by kernel_rfl) (by kernel_rfl) (by kernel_rfl) (fun _ _ _ h => h) (Or.inl ⟨by rfl, ?_⟩) (by assumption) ?_
  rotate_left
  · intro w hSw; (try dsimp only at hSw); go_simp; try with_reducible rfl
  try simp only [Act.put, zA, zB, zC, zD, zE, zF]
  refine wpAnyH_ready (rs := [3]) (by kernel_rfl) (by simp) ?_
  refine AllReadyH.cons (o := _) rfl (fun K hK => ?_) AllReadyH.nil
  go_simp
  refine (HH2.out _ _).mono ?_
  rintro e w2 ⟨rfl, r2⟩
  have k2 := held3a r2 hHeld
  refine hK.out _ _ ?_ (fun hHeld => ?_)
  · exact k2
  clear hK K
  try simp only [Act.put, zA, zB, zC, zD, zE, zF]
  refine wpAnyH_take (i := 4) (oi := _) (v := ?_) rfl (by kernel_rfl) (by kernel_rfl) (by kernel_rfl) (fun _ _ _ h => h) (Or.inl ⟨by rfl, ?_⟩) (by assumption) ?_
  rotate_left
  · intro w hSw; (try dsimp only at hSw); go_simp; try with_reducible rfl
  try simp only [Act.put, zA, zB, zC, zD, zE, zF]
  refine wpAnyH_take (i := 5) (oi := _) (v := ?_) rfl (by kernel_rfl) (by kernel_rfl) (by kernel_rfl) (fun _ _ _ h => h) (Or.inl ⟨by rfl, ?_⟩) (by assumption) ?_
  rotate_left
  · intro w hSw; (try dsimp only at hSw); go_simp; try with_reducible rfl
  try simp only [Act.put, zA, zB, zC, zD, zE, zF]
  refine wpAnyH_take (i := 6) (oi := _) (v := ?_) rfl (by kernel_rfl) (by kernel_rfl) (by kernel_rfl) (fun _ _ _ h => h) (Or.inl ⟨by rfl, ?_⟩) (by assumption) ?_
  rotate_left
  · intro w hSw; (try dsimp only at hSw); go_simp; try with_reducible rfl
  try simp only [Act.put, zA, zB, zC, zD, zE, zF]
  refine wpAnyH_take (i := 7) (oi := _) (v := ?_) rfl (by kernel_rfl) (by kernel_rfl) (by kernel_rfl) (fun _ _ _ h => h) (Or.inl ⟨by rfl, ?_⟩) (by assumption) ?_
  rotate_left
  · intro w hSw; (try dsimp only at hSw); go_simp; try with_reducible rfl
  try simp only [Act.put, zA, zB, zC, zD, zE, zF]
  refine wpAnyH_take (i := 8) (oi := _) (v := ?_) rfl (by kernel_rfl) (by kernel_rfl) (by kernel_rfl) (fun _ _ _ h => h) (Or.inl ⟨by rfl, ?_⟩) (by assumption) ?_
  rotate_left
  · intro w hSw; (try dsimp only at hSw); go_simp; try with_reducible rfl
  try simp only [Act.put, zA, zB, zC, zD, zE, zF]
  refine wpAnyH_done (by kernel_rfl) ?_ _
  refine NoPanic.normal ?_
  have r2d := (Below.refl w1.heap.size w1).drew.trans r2
  have S2 := S1.below r2d
  have W2 := Lib.hid (fun _ : Unit => (W1.out ()).keep r2d)
  obtain ⟨⟨h0, h1⟩, h2⟩ := hHeld
  clear e0 e1 e2 r2 r2d k2 W1 S1 HH2
  go_wp2_with fail
  refine (HH3.out _ _ (W2.out ())).mono ?_
  rintro e w3 ⟨v, rfl, hq⟩
  obtain ⟨g3, c3, rfl⟩ := hq.shape (by decide)
  have q0 := hq.1.cellAt 0 (by decide)
  have q1 := hq.1.cellAt 1 (by decide)
  have q2 := hq.1.cellAt 2 (by decide)
  simp [partCells] at q0 q1 q2
  have S3 := S2.below hq.2.2
  clear hq W2 HH3 S2 h0 h1 h2
  go_wp2
  go_ret
  exact ⟨rfl, S3.bel⟩
end Go.Proofs.Ytcicmljnjdhkjaa
/- values are a heap, or none. -/
set_option linter.unusedSimpArgs false
set_option linter.unusedVariables false
namespace Go.Proofs.Ytcicmljnjdhkjaa
open Go.ChangeShapes Go.RowKit
/-- values are a heap, or none: one answer of both. -/
theorem sickp_alike (t p s : Int) (sv : Value) (vals : List Int) (w : World) (hR : Rd w sv 1 vals.length (uints vals)) (hu : ∀ u ∈ vals, VS.U32 u) (hp : p ≤ 64) :
    (∃ (P : Nat) (ad : Addr) (c : Nat), p = P ∧ sv = .slice (some ad) vals.length c ∧ XV w t P s ad vals.length vals ∧ (chkF vals t P s).2 = true) ∨
    ((∀ W, Below w.heap.size w W → Calls Try.prog 6 #[.agg #[.int .i64 t, .int .i64 p, .int .i64 s], sv] W fun e W' => e = .returned (.slice none 0 0) ∧ Below W.heap.size W W') ∧
     (∀ W, Below w.heap.size w W → Calls Try.prog 7 #[.agg #[.int .i64 t, .int .i64 p, .int .i64 s], sv] W fun e W' => e = .returned (.slice none 0 0) ∧ Below W.heap.size W W') ∧
     (∃ r, ∀ W, Below w.heap.size w W → Calls Try.prog 8 #[.agg #[.int .i64 t, .int .i64 p, .int .i64 s], sv] W fun e W' => e = .returned (.tuple #[.int .i64 r, .bool false]) ∧ Below W.heap.size W W')) := by
  by_cases hg : rightB t p s = true ∧ (vals.length : Int) = cellsN t p
  · obtain ⟨hr, hn⟩ := hg
    have bd := right_bd hr
    obtain ⟨P, rfl⟩ : ∃ P : Nat, p = P := ⟨p.toNat, by omega⟩
    obtain ⟨ad, c, rfl, hx⟩ := hR.xv hu hr hp hn
    cases hs : (chkF vals t P s).2
    · refine Or.inr ⟨fun W hb => pparts_sick (hx.keep hb) c hs, fun W hb => plive_sick (hx.keep hb) c hs, (chkF vals t P s).1, fun W hb => ?_⟩
      · have := pcheck_any (hx.keep hb) c
        rwa [hs] at this
    · exact Or.inl ⟨P, ad, c, rfl, rfl, hx, hs⟩
  · obtain ⟨a, c, rfl⟩ := rd12_len hR
    have hno : rightB t p s = false ∨ (vals.length : Int) ≠ cellsN t p := by
      cases hr : rightB t p s
      · exact Or.inl rfl
      · exact Or.inr fun h => hg ⟨hr, h⟩
    exact Or.inr ⟨fun W _ => pparts_no a _ c hno, fun W _ => plive_no a _ c hno, 1, fun W _ => pcheck_no a _ c hno⟩
end Go.Proofs.Ytcicmljnjdhkjaa
/- the plain law of AuditTiles: parts of a heap stand one behind the other. -/
set_option linter.unusedSimpArgs false
set_option linter.unusedVariables false
namespace Go.Proofs.Ytcicmljnjdhkjaa
open Go.RowKit
/-- where parts end that begin at a. -/
def endA (a : Int) : List (Int × Int × Int) → Int
  | [] => a
  | x :: l => endA (a + x.2.2) l
/-- parts stand one behind the other, from a on. -/
def chainA (a : Int) : List (Int × Int × Int) → Prop
  | [] => True
  | x :: l => (x.2.1 = a ∧ 1 ≤ x.2.2 ∧ 1 ≤ x.1 ∧ x.1 ≤ 5) ∧ chainA (a + x.2.2) l
theorem endA_app : ∀ (l m : List (Int × Int × Int)) (a : Int), endA a (l ++ m) = endA (endA a l) m
  | [], _, _ => rfl
  | x :: l, m, a => by
    show endA (a + x.2.2) (l ++ m) = endA (endA (a + x.2.2) l) m
    exact endA_app l m _
theorem chainA_app : ∀ (l m : List (Int × Int × Int)) (a : Int), chainA a l → chainA (endA a l) m → chainA a (l ++ m)
  | [], _, _, _, h => h
  | _ :: l, m, _, h1, h2 => ⟨h1.1, chainA_app l m _ h1.2 h2⟩
section
variable {vs : List Int} {t s : Int} {P : Nat}
theorem inf_slab (v : Int) (h : iK v = 3) : iL v = 1 := by
  unfold iK at h
  split at h
  · rename_i ho
    have h2 := ho
    unfold okI rightI at h2
    rw [if_neg (by omega), if_neg (by omega), if_pos h] at h2
    simp at h2
    unfold iL
    rw [if_pos ho]
    exact h2.1.1
  · omega
theorem slab_chain (q k : Int) (hz : 1 ≤ sizeF s k) : ∀ b : Nat, chainA ((q + 1) * pageF s) (slabL vs t s q k b) ∧ endA ((q + 1) * pageF s) (slabL vs t s q k b) = (q + 1) * pageF s + (b : Int) * sizeF s k
  | 0 => ⟨trivial, by simp [slabL, endA]⟩
  | b + 1 => by
    obtain ⟨i1, i2⟩ := slab_chain q k hz b
    have hk : 1 ≤ kindF (bitB (gv vs t q 4) b) (bitB (gv vs t q 5) b) ∧ kindF (bitB (gv vs t q 4) b) (bitB (gv vs t q 5) b) ≤ 5 := by
      unfold kindF; split <;> (try split) <;> omega
    have e : ((b + 1 : Nat) : Int) * sizeF s k = (b : Int) * sizeF s k + sizeF s k := by rw [Int.natCast_add, Int.add_mul]; simp
    refine ⟨chainA_app _ _ _ i1 ?_, ?_⟩
    · rw [i2]
      exact ⟨⟨rfl, hz, hk.1, hk.2⟩, trivial⟩
    · show endA _ (slabL vs t s q k b ++ _) = _
      rw [endA_app, i2, e]
      simp [endA]
      omega
theorem slabF_chain (q k : Int) (hs : 10 ≤ s ∧ s ≤ 20) (h0 : 0 ≤ k) (h8 : k ≤ 8) : chainA ((q + 1) * pageF s) (slabF vs t s q k) ∧ endA ((q + 1) * pageF s) (slabF vs t s q k) = (q + 1) * pageF s + pageF s := by
  have hk1 : 1 ≤ slotsF k := by
    rcases (by omega : k = 0 ∨ k = 1 ∨ k = 2 ∨ k = 3 ∨ k = 4 ∨ k = 5 ∨ k = 6 ∨ k = 7 ∨ k = 8) with rfl | rfl | rfl | rfl | rfl | rfl | rfl | rfl | rfl <;> decide
  obtain ⟨z1, z2, z3, z4, -⟩ := size_bd (s := s) (k := k) hs
  have z5 := z4 (by omega)
  obtain ⟨c1, c2⟩ := slab_chain (vs := vs) (t := t) q k z5 (slotsF k).toNat
  have en : (((slotsF k).toNat : Nat) : Int) = slotsF k := by omega
  rw [en] at c2
  have hr : restF s k = pageF s - sizeF s k * slotsF k := rfl
  have hm : slotsF k * sizeF s k = sizeF s k * slotsF k := Int.mul_comm _ _
  unfold slabF
  by_cases h : 0 < restF s k
  · rw [if_pos h]
    refine ⟨chainA_app _ _ _ c1 ?_, ?_⟩
    · rw [c2]
      refine ⟨⟨?_, (show (1 : Int) ≤ restF s k by omega), (show (1 : Int) ≤ 5 by decide), (show (5 : Int) ≤ 5 by decide)⟩, trivial⟩
      show addrF s q (pageF s - restF s k) = _
      unfold addrF
      omega
    · rw [endA_app, c2]
      simp only [endA]
      omega
  · rw [if_neg h, List.append_nil]
    exact ⟨c1, by rw [c2]; omega⟩
theorem parts_chain (h : allN (pgB vs t P) P = true) (hs : 10 ≤ s ∧ s ≤ 20) : ∀ k, k ≤ P → chainA (pageF s) (partsL vs t s k) ∧ ∃ j : Int, (j = nxN vs t k ∨ k = 0 ∧ j = 0) ∧ endA (pageF s) (partsL vs t s k) = (j + 1) * pageF s
  | 0, _ => ⟨trivial, 0, Or.inr ⟨rfl, rfl⟩, by simp [partsL, endA]⟩
  | k + 1, hk => by
    obtain ⟨i1, j, hj, i2⟩ := parts_chain h hs k (by omega)
    have hj2 : j = nxN vs t k := by
      rcases hj with hj | ⟨rfl, rfl⟩
      · exact hj
      · rfl
    have hK := st_kind h (show k < P by omega)
    have hb := inf_bd (gv vs t k 0)
    have hp := pageF_bd hs
    by_cases hst : stB vs t k = true
    · have hK0 := hK.1 hst
      obtain ⟨s1, s2, s3, s4⟩ := st_at h (by omega) hst
      have hjk : j = k := by omega
      have hq : chainA (((k : Int) + 1) * pageF s) (partQ vs t s k) ∧ endA (((k : Int) + 1) * pageF s) (partQ vs t s k) = ((k : Int) + 1) * pageF s + iL (gv vs t k 0) * pageF s := by
        unfold partQ
        by_cases h12 : iK (gv vs t k 0) = 1 ∨ iK (gv vs t k 0) = 2
        · rw [if_pos h12]
          have hm := Int.mul_le_mul_of_nonneg_right s2 (show 0 ≤ pageF s by omega)
          rw [Int.one_mul] at hm
          refine ⟨⟨⟨?_, (show (1 : Int) ≤ iL (gv vs t k 0) * pageF s by omega), (show (1 : Int) ≤ iK (gv vs t k 0) by omega), (show iK (gv vs t k 0) ≤ 5 by omega)⟩, trivial⟩, rfl⟩
          show addrF s k 0 = _
          unfold addrF
          omega
        · rw [if_neg h12, if_pos (by omega), inf_slab _ (by omega)]
          have := slabF_chain (vs := vs) (t := t) (k : Int) (iC (gv vs t k 0)) hs hb.2.2.2.2.1 hb.2.2.2.2.2.1
          refine ⟨this.1, ?_⟩
          rw [this.2]
          omega
      refine ⟨chainA_app _ _ _ i1 (by rw [i2, hjk]; exact hq.1), nxN vs t (k + 1), Or.inl rfl, ?_⟩
      show endA _ (partsL vs t s k ++ partQ vs t s k) = _
      rw [endA_app, i2, hjk, hq.2, s4]
      have : ((k : Int) + iL (gv vs t k 0) + 1) * pageF s = ((k : Int) + 1) * pageF s + iL (gv vs t k 0) * pageF s := by rw [← Int.add_mul]; congr 1; omega
      omega
    · have hK0 : iK (gv vs t k 0) = 0 := Classical.byContradiction fun hn => hst (hK.2 hn)
      have hQ : partQ vs t s k = [] := by unfold partQ; rw [if_neg (by omega), if_neg (by omega)]
      have en : nxN vs t (k + 1) = nxN vs t k := by rw [nxN, if_pos (by simpa [stB] using hst)]
      refine ⟨?_, j, Or.inl (by rw [en]; exact hj2), ?_⟩
      · show chainA _ (partsL vs t s k ++ partQ vs t s k)
        rw [hQ, List.append_nil]; exact i1
      · show endA _ (partsL vs t s k ++ partQ vs t s k) = _
        rw [hQ, List.append_nil]; exact i2
theorem parts_tile (h : tilesF vs t P = true) (hP : 0 < P) (hs : 10 ≤ s ∧ s ≤ 20) : chainA (pageF s) (partsF vs t P s) ∧ endA (pageF s) (partsF vs t P s) = ((P : Int) + 1) * pageF s := by
  obtain ⟨c1, j, hj, c2⟩ := parts_chain (s := s) (tiles_pg h) hs P (Nat.le_refl _)
  have hst := tiles_starts h
  have hend : nxN vs t P = P := by
    unfold tilesF at h
    rw [hst] at h
    simp only [Bool.and_eq_true, beq_iff_eq] at h
    exact h.1
  unfold partsF
  rw [Int.toNat_natCast]
  refine ⟨c1, ?_⟩
  rw [c2]
  rcases hj with hj | ⟨h0, -⟩
  · rw [hj, hend]
  · omega
end
end Go.Proofs.Ytcicmljnjdhkjaa
/- the walk of AuditTiles. -/
set_option linter.unusedSimpArgs false
set_option linter.unusedVariables false
namespace Go.Proofs.Ytcicmljnjdhkjaa
open Go.ChangeShapes Go.RowKit
theorem chain_at : ∀ (l : List (Int × Int × Int)) (a : Int) (k : Nat) (x : Int × Int × Int), chainA a l → l[k]? = some x → x.2.1 = endA a (l.take k) ∧ 1 ≤ x.2.2 ∧ 1 ≤ x.1 ∧ x.1 ≤ 5
  | [], _, _, _, _, h => by simp at h
  | y :: l, a, 0, x, hc, h => by
    simp at h
    subst h
    exact hc.1
  | y :: l, a, k + 1, x, hc, h => by
    have h2 : l[k]? = some x := by simpa using h
    exact chain_at l (a + y.2.2) k x hc.2 h2
theorem end_take {l : List (Int × Int × Int)} {k : Nat} {x : Int × Int × Int} (a : Int) (h : l[k]? = some x) : endA a (l.take (k + 1)) = endA a (l.take k) + x.2.2 := by
  rw [List.take_add_one, h, endA_app]
  rfl
theorem end_le : ∀ (l : List (Int × Int × Int)) (a : Int), chainA a l → a ≤ endA a l
  | [], _, _ => Int.le_refl _
  | x :: l, a, h => by
    have := end_le l (a + x.2.2) h.2
    have := h.1.2.1
    show a ≤ endA (a + x.2.2) l
    omega
theorem chain_drop : ∀ (l : List (Int × Int × Int)) (a : Int) (k : Nat), chainA a l → chainA (endA a (l.take k)) (l.drop k)
  | [], _, k, _ => by simp [chainA]
  | _ :: _, _, 0, h => h
  | x :: l, a, k + 1, h => chain_drop l (a + x.2.2) k h.2
theorem end_take_le {l : List (Int × Int × Int)} {a : Int} (h : chainA a l) (k : Nat) : endA a (l.take k) ≤ endA a l := by
  have h1 := end_le _ _ (chain_drop l a k h)
  rw [← endA_app, List.take_append_drop] at h1
  exact h1
theorem chain_take : ∀ (l : List (Int × Int × Int)) (a : Int) (k : Nat), chainA a l → chainA a (l.take k)
  | [], _, k, _ => by simp [chainA]
  | _ :: _, _, 0, _ => trivial
  | x :: l, a, k + 1, h => ⟨h.1, chain_take l (a + x.2.2) k h.2⟩
theorem live_at {l : List (Int × Int × Int)} {k : Nat} {y2 y3 : Int} (h : l[k]? = some (2, y2, y3)) : (liveL l)[(liveL (l.take k)).length]? = some (y2, y3) := by
  have hk := (List.getElem?_eq_some_iff.1 h).1
  have e : l = l.take k ++ (2, y2, y3) :: l.drop (k + 1) := by
    have h1 := List.take_append_drop k l
    rw [List.drop_eq_getElem_cons hk, (List.getElem?_eq_some_iff.1 h).2] at h1
    exact h1.symm
  have e2 : liveL l = liveL (l.take k) ++ ((y2, y3) :: liveL (l.drop (k + 1))) := by
    conv => lhs; rw [e]
    rw [liveL_app]
    simp [liveL]
  rw [e2, List.getElem?_append_right (Nat.le_refl _)]
  simp
/-- the loop of AuditTiles. -/
def TiRel (pg : Int) (l : List (Int × Int × Int)) (w : World) (v10 v11 v12 : Value) (wr : World) : Prop := ∃ k : Nat, k ≤ l.length ∧ v12 = .int .i64 k ∧ v10 = .int .i64 (endA pg (l.take k)) ∧ v11 = .int .i64 ((liveL (l.take k)).length : Nat) ∧ Below w.heap.size w wr
set_option maxHeartbeats 4000000 in
set_option maxRecDepth 100000 in
theorem atiles_heap (t s : Int) (P : Nat) (ad : Addr) (n c : Nat) (vals : List Int) (w : World) (hx : XV w t P s ad n vals) (hs : (chkF vals t P s).2 = true) :
    Calls Try.prog 3 #[.agg #[.int .i64 t, .int .i64 P, .int .i64 s], .slice (some ad) n c] w fun e W' => e = .returned (.bool true) ∧ Below w.heap.size w W' := by
  have bd := hx.bd
  have HF := Lib.hid (fun w => few12_any t P s w)
  have hd : decide ((P : Int) ≤ 64) = true := by simp; omega
  rw [hd] at HF
  have HL := Lib.hid (fun w => alive_any w)
  have c0 := loc_alloc w #[.int .i64 t, .int .i64 P, .int .i64 s] 23
  have S0 := ((BS.start w).alloc (.cells #[.int .i64 t, .int .i64 P, .int .i64 s] 23))
  have H1 := Lib.hid (fun W (hb : Below w.heap.size w W) => pparts_heap (hx.keep hb) c hs)
  have h2 := fun W (hb : Below w.heap.size w W) => plive_heap (hx.keep hb) c hs
  have hbl : blocksF vals t P s = liveL (partsF vals t P s) := rfl
  rw [hbl] at h2
  have H2 := Lib.hid h2
  have h3 := fun W (hb : Below w.heap.size w W) => pcheck_any (hx.keep hb) c
  rw [hs] at h3
  have H3 := Lib.hid h3
  obtain ⟨q1, q2⟩ := parts_tile (s := s) (chk_tiles hs) (by omega) (by omega)
  have hpw := pageF_wrap (s := s) (by omega)
  have hpb := pageF_bd (s := s) (by omega)
  have hll : (partsF vals t P s).length ≤ 2112 := by
    have h1 := partsL_len vals t s (P : Int).toNat
    have h4 : (partsF vals t P s).length = (partsL vals t s (P : Int).toNat).length := rfl
    omega
  have hs0 : 10 ≤ s ∧ s ≤ 20 := by omega
  have hws : IntKind.u64.wrap s = s := wrapsA_u64 _ (by omega) (by omega)
  have hP1 : IntKind.i64.wrap ((P : Int) + 1) = (P : Int) + 1 := wrap_in _ (by omega)
  generalize (chkF vals t P s).1 = r1 at *
  generalize partsF vals t P s = l at *
  generalize pageF s = pg at *
  have hm1 : 0 ≤ ((P : Int) + 1) * pg ∧ ((P : Int) + 1) * pg ≤ 65 * 1048576 := ⟨Int.mul_nonneg (by omega) (by omega), Int.mul_le_mul (by omega) (by omega) (by omega) (by omega)⟩
  have hmc : pg * ((P : Int) + 1) = ((P : Int) + 1) * pg := Int.mul_comm _ _
  have hend : endA pg l = pg * ((P : Int) + 1) := by rw [q2, hmc]
  have hmw : IntKind.i64.wrap (pg * ((P : Int) + 1)) = pg * ((P : Int) + 1) := wrap_in _ (by omega)
  have HQ1 := Lib.hid q1
  have HEnd := Lib.hid hend
  have HMul := Lib.hid (show 0 ≤ pg * ((P : Int) + 1) ∧ pg * ((P : Int) + 1) ≤ 65 * 1048576 by omega)
  clear h2 h3 hbl hd q1 q2 hend hm1 hmc hx hs bd
  go_enter Try.func3, Try.ntmps3
  go_wp2_with fail
  refine (calls_b S0 (HF.out _)).mono ?_
  rintro e w1 ⟨rfl, S1, S1l⟩
  have c1 := loc_step S1l (by simp) c0
  clear S1l
  clear S0 c0 HF
  go_wp2_with fail
  refine wp_region_noPanic ?_
  refine wp_region_held_drew (S := fun w' => (∀ o : Nat, w'.cell? ⟨w.heap.size, o, none⟩ = (#[.int .i64 t, .int .i64 P, .int .i64 s] : Array Value)[o]?)) (by kernel_rfl) ?_ (fun hHeld => ?_)
  · exact c1
  refine wpAnyH_take (i := 0) (oi := _) (v := ?_) rfl (by kernel_rfl) (by kernel_rfl) (by kernel_rfl) (fun _ _ _ h => h) (Or.inl ⟨by rfl, ?_⟩) (by assumption) ?_
  rotate_left
  · intro w hSw; (try dsimp only at hSw); go_simp; try with_reducible rfl
  try simp only [Act.put, zA, zB, zD, zE, zF]
  refine wpAnyH_take (i := 1) (oi := _) (v := ?_) rfl (by kernel_rfl) (by kernel_rfl) (by kernel_rfl) (fun _ _ _ h => h) (Or.inl ⟨by rfl, ?_⟩) (by assumption) ?_
  rotate_left
  · intro w hSw; (try dsimp only at hSw); go_simp; try with_reducible rfl
  try simp only [Act.put, zA, zB, zC, zD, zE, zF]
  refine wpAnyH_take (i := 3) (oi := _) (v := ?_) rfl (by kernel_rfl) (by kernel_rfl) (by kernel_rfl) (fun _ _ _ h => h) (Or.inl ⟨by rfl, ?_⟩) (by assumption) ?_
  rotate_left
  · intro w hSw; (try dsimp only at hSw); go_simp; try with_reducible rfl
  try simp only [Act.put, zA, zB, zC, zD, zE, zF]
  refine wpAnyH_take (i := 4) (oi := _) (v := ?_) rfl (by kernel_rfl) (by kernel_rfl) (by kernel_rfl) (fun _ _ _ h => h) (Or.inl ⟨by rfl, ?_⟩) (by assumption) ?_
  rotate_left
  · intro w hSw; (try dsimp only at hSw); go_simp; try with_reducible rfl
  try simp only [Act.put, zA, zB, zC, zD, zE, zF]
  refine wpAnyH_ready (rs := [2]) (by kernel_rfl) (by simp) ?_
  refine AllReadyH.cons (o := _) rfl (fun K hK => ?_) AllReadyH.nil
  go_simp
  refine (H1.out _ S1.drew.bel).mono ?_
  rintro e w2 ⟨v2, rfl, o2, -, b2⟩
  have S2 := S1.drew.below b2
  have c2 := ((BS.start _).below b2).oldbox hHeld (S1.drew.ls w.heap.size (by simp)).1
  refine hK.out _ _ ?_ (fun hHeld => ?_)
  · exact c2
  clear hK K
  try simp only [Act.put, zA, zB, zC, zD, zE, zF]
  refine wpAnyH_ready (rs := [5]) (by kernel_rfl) (by simp) ?_
  refine AllReadyH.cons (o := _) rfl (fun K hK => ?_) AllReadyH.nil
  go_simp
  refine (H2.out _ S2.bel).mono ?_
  rintro e w3 ⟨v3, rfl, o3, -, b3⟩
  have S3 := S2.below b3
  have o2b := ((BS.start _).below b3).row o2
  have c3 := ((BS.start _).below b3).oldbox hHeld (S2.ls w.heap.size (by simp)).1
  refine hK.out _ _ ?_ (fun hHeld => ?_)
  · exact c3
  clear hK K
  try simp only [Act.put, zA, zB, zC, zD, zE, zF]
  refine wpAnyH_take (i := 6) (oi := _) (v := ?_) rfl (by kernel_rfl) (by kernel_rfl) (by kernel_rfl) (fun _ _ _ h => h) (Or.inl ⟨by rfl, ?_⟩) (by assumption) ?_
  rotate_left
  · intro w hSw; (try dsimp only at hSw); go_simp; try with_reducible rfl
  try simp only [Act.put, zA, zB, zC, zD, zE, zF]
  refine wpAnyH_take (i := 7) (oi := _) (v := ?_) rfl (by kernel_rfl) (by kernel_rfl) (by kernel_rfl) (fun _ _ _ h => h) (Or.inl ⟨by rfl, ?_⟩) (by assumption) ?_
  rotate_left
  · intro w hSw; (try dsimp only at hSw); go_simp; try with_reducible rfl
  try simp only [Act.put, zA, zB, zC, zD, zE, zF]
  refine wpAnyH_done (by kernel_rfl) ?_ _
  refine NoPanic.normal ?_
  obtain ⟨pa, ca, rfl⟩ := row_shape o2b
  obtain ⟨pb, cb, rfl⟩ := row_shape o3
  clear S1 c1 S2 c2 o2 b2 b3 hHeld H1 H2
  go_wp2_with fail
  refine (H3.out _ S3.bel).mono ?_
  rintro e w4 ⟨rfl, b4⟩
  have S4 := S3.below b4
  have c4 := ((BS.start _).below b4).oldbox c3 (S3.ls w.heap.size (by simp)).1
  have c40 : w4.cell? ⟨w.heap.size, 0, none⟩ = some (.int .i64 t) := c4 0
  have c41 : w4.cell? ⟨w.heap.size, 1, none⟩ = some (.int .i64 P) := c4 1
  have c42 : w4.cell? ⟨w.heap.size, 2, none⟩ = some (.int .i64 s) := c4 2
  have HA := Lib.hid (((BS.start _).below b4).row o2b)
  have HB := Lib.hid (((BS.start _).below b4).row o3)
  have HS4 := Lib.hid S4
  clear S3 c3 o2b o3 b4 H3 c4 S4
  go_wp2_with fail
  simp only [hpw]
  go_loopw [10, 11, 12] (fun v10 v11 v12 wr => TiRel pg l w4 v10 v11 v12 wr) (fun _ _ v12 _ => l.length - (intOf v12).toNat)
  case atStart => exact ⟨0, by omega, rfl, by first | rfl | (rw [hpw]; rfl), rfl, Below.refl _ _⟩
  case round =>
    obtain ⟨k, hk, rfl, hat, hn, hbe⟩ := hrel
    obtain ⟨a, ha⟩ : ∃ a, endA pg (l.take k) = a := ⟨_, rfl⟩
    obtain ⟨j, hj⟩ : ∃ j, (liveL (l.take k)).length = j := ⟨_, rfl⟩
    rw [ha] at hat
    rw [hj] at hn
    subst hat hn
    have hal := end_take_le HQ1.out k
    have hag := end_le _ _ (chain_take l pg k HQ1.out)
    rw [ha] at hal hag
    rw [HEnd.out] at hal
    have hmb := HMul.out
    by_cases hlt : k < l.length
    · have hkl : (k : Int) < l.length := by omega
      obtain ⟨⟨y1, y2, y3⟩, hx⟩ : ∃ x, l[k]? = some x := ⟨_, List.getElem?_eq_getElem hlt⟩
      obtain ⟨e1, e2, e3, e4⟩ := chain_at l pg k _ HQ1.out hx
      have hE := end_take pg hx
      have hal2 := end_take_le HQ1.out (k + 1)
      have hLt := liveL_take hx
      have hLa := fun y2 y3 (h : l[k]? = some (2, y2, y3)) => live_at h
      rw [ha] at e1 hE
      rw [HEnd.out] at hal2
      dsimp only at e1 e2 e3 e4 hE hLt
      subst e1
      have hra := ((BS.start _).below hbe).row HA.out
      have hrb := ((BS.start _).below hbe).row HB.out
      obtain ⟨ga, cap, hg⟩ := Joins.ownsRow_form hra (by omega)
      simp only [Value.slice.injEq, true_and] at hg
      obtain ⟨rfl, rfl⟩ := hg
      obtain ⟨p0, p1, p2⟩ := part_cell hx
      have hpl := partCells_len l
      have q0 := (hra.cellAt (k * 3) (by omega)).trans p0
      have q1 := (hra.cellAt (k * 3 + 1) (by omega)).trans p1
      have q2 := (hra.cellAt (k * 3 + 2) (by omega)).trans p2
      have hw1 : IntKind.i64.wrap (y2 + y3) = y2 + y3 := wrap_in _ (by omega)
      have d1 : decide (y3 < 1) = false := by simp; omega
      have d2 : decide (y1 < 1) = false := by simp; omega
      have d3 : decide (5 < y1) = false := by simp; omega
      dsimp only at q0 q1 q2
      have HE := Lib.hid hE
      have HLt := Lib.hid hLt
      have HBe := Lib.hid hbe
      by_cases hy : y1 = 2
      · subst hy
        have hb := hLa _ _ hx
        rw [hj] at hb
        have hjb := (List.getElem?_eq_some_iff.1 hb).1
        have hjl : (j : Int) < (liveL l).length := by omega
        obtain ⟨gb, cap, hg⟩ := Joins.ownsRow_form hrb (by omega)
        simp only [Value.slice.injEq, true_and] at hg
        obtain ⟨rfl, rfl⟩ := hg
        obtain ⟨r0, r1⟩ := block_cell hb
        have hbl := blockCells_len (liveL l)
        have u0 := (hrb.cellAt (j * 2) (by omega)).trans r0
        have u1 := (hrb.cellAt (j * 2 + 1) (by omega)).trans r1
        dsimp only at u0 u1
        have hjn : decide (((liveL l).length : Int) ≤ j) = false := by simp; omega
        have hjn2 : decide ((j : Int) < (liveL l).length) = true := by simp; omega
        have hjn3 : ¬ ((liveL l).length : Int) ≤ j := by omega
        have hjn4 : ¬ (liveL l).length ≤ j := by omega
        have hjw : IntKind.i64.wrap ((j : Int) + 1) = (j : Int) + 1 := by
          have := liveL_len l
          exact wrap_in _ (by omega)
        clear hra hrb p0 p1 p2 hx hE hLt hLa hb r0 r1 hbe ha hal hag hal2 hmb hpl hbl
        go_wp2_with fail
        refine wp_region_noPanic ?_
        refine wp_region_held_drew (S := fun w' => (w'.cell? ⟨ga, k * 3, none⟩ = some (.int .i64 2) ∧ w'.cell? ⟨ga, k * 3 + 1, none⟩ = some (.int .i64 y2) ∧ w'.cell? ⟨ga, k * 3 + 2, none⟩ = some (.int .i64 y3)) ∧ w'.cell? ⟨gb, j * 2, none⟩ = some (.int .i64 y2) ∧ w'.cell? ⟨gb, j * 2 + 1, none⟩ = some (.int .i64 y3)) (by kernel_rfl) ?_ (fun hHeld => ?_)
        · exact ⟨⟨q0, q1, q2⟩, u0, u1⟩
        refine wpAnyH_take (i := 0) (oi := _) (v := ?_) rfl (by kernel_rfl) (by kernel_rfl) (by kernel_rfl) (fun _ _ _ h => h) (Or.inl ⟨by rfl, ?_⟩) (by assumption) ?_
        rotate_left
        · intro w hSw; (try dsimp only at hSw); go_simp; try with_reducible rfl
        try simp only [Act.put, zA, zB, zD, zE, zF]
        refine wpAnyH_take (i := 1) (oi := _) (v := ?_) rfl (by kernel_rfl) (by kernel_rfl) (by kernel_rfl) (fun _ _ _ h => h) (Or.inl ⟨by rfl, ?_⟩) (by assumption) ?_
        rotate_left
        · intro w hSw; (try dsimp only at hSw); go_simp; try with_reducible rfl
        try simp only [Act.put, zA, zB, zC, zD, zE, zF]
        refine wpAnyH_take (i := 2) (oi := _) (v := ?_) rfl (by kernel_rfl) (by kernel_rfl) (by kernel_rfl) (fun _ _ _ h => h) (Or.inl ⟨by rfl, ?_⟩) (by assumption) ?_
        rotate_left
        · intro w hSw; (try dsimp only at hSw); go_simp; try with_reducible rfl
        try simp only [Act.put, zA, zB, zC, zD, zE, zF]
        refine wpAnyH_take (i := 3) (oi := _) (v := ?_) rfl (by kernel_rfl) (by kernel_rfl) (by kernel_rfl) (fun _ _ _ h => h) (Or.inl ⟨by rfl, ?_⟩) (by assumption) ?_
        rotate_left
        · intro w hSw; (try dsimp only at hSw); go_simp; try with_reducible rfl
        try simp only [Act.put, zA, zB, zC, zD, zE, zF]
        refine wpAnyH_take (i := 4) (oi := _) (v := ?_) rfl (by kernel_rfl) (by kernel_rfl) (by kernel_rfl) (fun _ _ _ h => h) (Or.inl ⟨by rfl, ?_⟩) (by assumption) ?_
        rotate_left
        · intro w hSw; (try dsimp only at hSw); go_simp; try with_reducible rfl
        try simp only [Act.put, zA, zB, zC, zD, zE, zF]
        refine wpAnyH_take (i := 5) (oi := _) (v := ?_) rfl (by kernel_rfl) (by kernel_rfl) (by kernel_rfl) (fun _ _ _ h => h) (Or.inl ⟨by rfl, ?_⟩) (by assumption) ?_
        rotate_left
        · intro w hSw; (try dsimp only at hSw); go_simp; try with_reducible rfl
        try simp only [Act.put, zA, zB, zC, zD, zE, zF]
        refine wpAnyH_take (i := 6) (oi := _) (v := ?_) rfl (by kernel_rfl) (by kernel_rfl) (by kernel_rfl) (fun _ _ _ h => h) (Or.inl ⟨by rfl, ?_⟩) (by assumption) ?_
        rotate_left
        · intro w hSw; (try dsimp only at hSw); go_simp; try with_reducible rfl
        try simp only [Act.put, zA, zB, zC, zD, zE, zF]
        refine wpAnyH_take (i := 7) (oi := _) (v := ?_) rfl (by kernel_rfl) (by kernel_rfl) (by kernel_rfl) (fun _ _ _ h => h) (Or.inl ⟨by rfl, ?_⟩) (by assumption) ?_
        rotate_left
        · intro w hSw; (try dsimp only at hSw); go_simp; try with_reducible rfl
        try simp only [Act.put, zA, zB, zC, zD, zE, zF]
        refine wpAnyH_take (i := 8) (oi := _) (v := ?_) rfl (by kernel_rfl) (by kernel_rfl) (by kernel_rfl) (fun _ _ _ h => h) (Or.inl ⟨by rfl, ?_⟩) (by assumption) ?_
        rotate_left
        · intro w hSw; (try dsimp only at hSw); go_simp; try with_reducible rfl
        try simp only [Act.put, zA, zB, zC, zD, zE, zF]
        refine wpAnyH_take (i := 9) (oi := _) (v := ?_) rfl (by kernel_rfl) (by kernel_rfl) (by kernel_rfl) (fun _ _ _ h => h) (Or.inl ⟨by rfl, ?_⟩) (by assumption) ?_
        rotate_left
        · intro w hSw; (try dsimp only at hSw); go_simp; try with_reducible rfl
        try simp only [Act.put, zA, zB, zC, zD, zE, zF]
        refine wpAnyH_take (i := 10) (oi := _) (v := ?_) rfl (by kernel_rfl) (by kernel_rfl) (by kernel_rfl) (fun _ _ _ h => h) (Or.inl ⟨by rfl, ?_⟩) (by assumption) ?_
        rotate_left
        · intro w hSw; (try dsimp only at hSw); go_simp; try with_reducible rfl
        try simp only [Act.put, zA, zB, zC, zD, zE, zF]
        refine wpAnyH_take (i := 11) (oi := _) (v := ?_) rfl (by kernel_rfl) (by kernel_rfl) (by kernel_rfl) (fun _ _ _ h => h) (Or.inl ⟨by rfl, ?_⟩) (by assumption) ?_
        rotate_left
        · intro w hSw; (try dsimp only at hSw); go_simp; try with_reducible rfl
        try simp only [Act.put, zA, zB, zC, zD, zE, zF]
        refine wpAnyH_take (i := 12) (oi := _) (v := ?_) rfl (by kernel_rfl) (by kernel_rfl) (by kernel_rfl) (fun _ _ _ h => h) (Or.inl ⟨by rfl, ?_⟩) (by assumption) ?_
        rotate_left
        · intro w hSw; (try dsimp only at hSw); go_simp; try with_reducible rfl
        try simp only [Act.put, zA, zB, zC, zD, zE, zF]
        refine wpAnyH_take (i := 13) (oi := _) (v := ?_) rfl (by kernel_rfl) (by kernel_rfl) (by kernel_rfl) (fun _ _ _ h => h) (Or.inl ⟨by rfl, ?_⟩) (by assumption) ?_
        rotate_left
        · intro w hSw; (try dsimp only at hSw); go_simp; try with_reducible rfl
        try simp only [Act.put, zA, zB, zC, zD, zE, zF]
        refine wpAnyH_take (i := 14) (oi := _) (v := ?_) rfl (by kernel_rfl) (by kernel_rfl) (by kernel_rfl) (fun _ _ _ h => h) (Or.inl ⟨by rfl, ?_⟩) (by assumption) ?_
        rotate_left
        · intro w hSw; (try dsimp only at hSw); go_simp; try with_reducible rfl
        try simp only [Act.put, zA, zB, zC, zD, zE, zF]
        refine wpAnyH_take (i := 15) (oi := _) (v := ?_) rfl (by kernel_rfl) (by kernel_rfl) (by kernel_rfl) (fun _ _ _ h => h) (Or.inl ⟨by rfl, ?_⟩) (by assumption) ?_
        rotate_left
        · intro w hSw; (try dsimp only at hSw); go_simp; try with_reducible rfl
        try simp only [Act.put, zA, zB, zC, zD, zE, zF]
        refine wpAnyH_take (i := 16) (oi := _) (v := ?_) rfl (by kernel_rfl) (by kernel_rfl) (by kernel_rfl) (fun _ _ _ h => h) (Or.inl ⟨by rfl, ?_⟩) (by assumption) ?_
        rotate_left
        · intro w hSw; (try dsimp only at hSw); go_simp; try with_reducible rfl
        try simp only [Act.put, zA, zB, zC, zD, zE, zF]
        refine wpAnyH_take (i := 17) (oi := _) (v := ?_) rfl (by kernel_rfl) (by kernel_rfl) (by kernel_rfl) (fun _ _ _ h => h) (Or.inl ⟨by rfl, ?_⟩) (by assumption) ?_
        rotate_left
        · intro w hSw; (try dsimp only at hSw); go_simp; try with_reducible rfl
        try simp only [Act.put, zA, zB, zC, zD, zE, zF]
        refine wpAnyH_take (i := 18) (oi := _) (v := ?_) rfl (by kernel_rfl) (by kernel_rfl) (by kernel_rfl) (fun _ _ _ h => h) (Or.inl ⟨by rfl, ?_⟩) (by assumption) ?_
        rotate_left
        · intro w hSw; (try dsimp only at hSw); go_simp; try with_reducible rfl
        try simp only [Act.put, zA, zB, zC, zD, zE, zF]
        refine wpAnyH_take (i := 19) (oi := _) (v := ?_) rfl (by kernel_rfl) (by kernel_rfl) (by kernel_rfl) (fun _ _ _ h => h) (Or.inl ⟨by rfl, ?_⟩) (by assumption) ?_
        rotate_left
        · intro w hSw; (try dsimp only at hSw); go_simp; try with_reducible rfl
        try simp only [Act.put, zA, zB, zC, zD, zE, zF]
        refine wpAnyH_take (i := 20) (oi := _) (v := ?_) rfl (by kernel_rfl) (by kernel_rfl) (by kernel_rfl) (fun _ _ _ h => h) (Or.inl ⟨by rfl, ?_⟩) (by assumption) ?_
        rotate_left
        · intro w hSw; (try dsimp only at hSw); go_simp; try with_reducible rfl
        try simp only [Act.put, zA, zB, zC, zD, zE, zF]
        refine wpAnyH_take (i := 21) (oi := _) (v := ?_) rfl (by kernel_rfl) (by kernel_rfl) (by kernel_rfl) (fun _ _ _ h => h) (Or.inl ⟨by rfl, ?_⟩) (by assumption) ?_
        rotate_left
        · intro w hSw; (try dsimp only at hSw); go_simp; try with_reducible rfl
        try simp only [Act.put, zA, zB, zC, zD, zE, zF]
        refine wpAnyH_done (by kernel_rfl) ?_ _
        refine NoPanic.normal ?_
        go_wp2_with fail
        go_roundw
        case rel => exact ⟨k + 1, by omega, by go_num, by rw [HE.out], by rw [HLt.out]; simp [hj], HBe.out.drew⟩
        case measure => simp [intOf]; omega
      · have hyb : (y1 != 2) = true := by simpa using hy
        have hyb2 : (y1 == 2) = false := by simpa using hy
        rw [if_neg hy, List.append_nil] at hLt
        have HLt2 := Lib.hid hLt
        clear hra hrb p0 p1 p2 hx hE hLt hLa hbe ha hal hag hal2 hmb hpl hy HLt
        go_wp2_with fail
        go_roundw
        case rel => exact ⟨k + 1, by omega, by go_num, by rw [HE.out], by rw [HLt2.out, hj], HBe.out⟩
        case measure => simp [intOf]; omega
    · have hkl : ¬ (k : Int) < l.length := by omega
      have hke : k = l.length := by omega
      rw [hke, List.take_length] at ha hj
      have hae : a = pg * ((P : Int) + 1) := by rw [← ha]; exact HEnd.out
      subst hae
      subst hj
      have d41 := (hbe.cell (World.block_lt_of_cell? _ _ c41)).trans c41
      have HBe := Lib.hid hbe
      clear hke ha hal hag hbe
      go_wp2_with fail
      refine (HL.out _).mono ?_
      rintro e w5 ⟨rfl, b5⟩
      have HFin := Lib.hid (HS4.out.bel.trans ((HBe.out.trans (b5.mono HBe.out.size)).mono HS4.out.bel.size))
      clear b5 HBe
      go_wp2
      go_ret
      exact ⟨rfl, HFin.out⟩
set_option maxRecDepth 100000 in
theorem atiles_any (t p s : Int) (sv : Value) (vals : List Int) (w : World) (hR : Rd w sv 1 vals.length (uints vals)) (hu : ∀ u ∈ vals, VS.U32 u) :
    Calls Try.prog 3 #[.agg #[.int .i64 t, .int .i64 p, .int .i64 s], sv] w fun e W' => e = .returned (.bool true) ∧ Below w.heap.size w W' := by
  have HF := Lib.hid (fun w => few12_any t p s w)
  have HL := Lib.hid (fun w => alive_any w)
  have c0 := loc_alloc w #[.int .i64 t, .int .i64 p, .int .i64 s] 23
  have S0 := ((BS.start w).alloc (.cells #[.int .i64 t, .int .i64 p, .int .i64 s] 23))
  by_cases hp : p ≤ 64
  · rcases sickp_alike t p s sv vals w hR hu hp with ⟨P, ad, c, rfl, rfl, hx, hs⟩ | ⟨h1, h2, r, h3⟩
    · exact atiles_heap t s P ad vals.length c vals w hx hs
    · have hd : decide (p ≤ 64) = true := by simpa using hp
      rw [hd] at HF
      obtain ⟨sa, sc, rfl⟩ := rd12_len hR
      have H1 := Lib.hid h1
      have H2 := Lib.hid h2
      have H3 := Lib.hid h3
      clear h1 h2 h3 hd hp hR hu
      go_enter Try.func3, Try.ntmps3
      go_wp2_with fail
      refine (calls_b S0 (HF.out _)).mono ?_
      rintro e w1 ⟨rfl, S1, S1l⟩
      have c1 := loc_step S1l (by simp) c0
      clear S1l
      clear S0 c0 HF
      go_wp2_with fail
      refine wp_region_noPanic ?_
      refine wp_region_held_drew (S := fun w' => (∀ o : Nat, w'.cell? ⟨w.heap.size, o, none⟩ = (#[.int .i64 t, .int .i64 p, .int .i64 s] : Array Value)[o]?)) (by kernel_rfl) ?_ (fun hHeld => ?_)
      · exact c1
      refine wpAnyH_take (i := 0) (oi := _) (v := ?_) rfl (by kernel_rfl) (by kernel_rfl) (by kernel_rfl) (fun _ _ _ h => h) (Or.inl ⟨by rfl, ?_⟩) (by assumption) ?_
      rotate_left
      · intro w hSw; (try dsimp only at hSw); go_simp; try with_reducible rfl
      try simp only [Act.put, zA, zB, zD, zE, zF]
      refine wpAnyH_take (i := 1) (oi := _) (v := ?_) rfl (by kernel_rfl) (by kernel_rfl) (by kernel_rfl) (fun _ _ _ h => h) (Or.inl ⟨by rfl, ?_⟩) (by assumption) ?_
      rotate_left
      · intro w hSw; (try dsimp only at hSw); go_simp; try with_reducible rfl
      try simp only [Act.put, zA, zB, zC, zD, zE, zF]
      refine wpAnyH_take (i := 3) (oi := _) (v := ?_) rfl (by kernel_rfl) (by kernel_rfl) (by kernel_rfl) (fun _ _ _ h => h) (Or.inl ⟨by rfl, ?_⟩) (by assumption) ?_
      rotate_left
      · intro w hSw; (try dsimp only at hSw); go_simp; try with_reducible rfl
      try simp only [Act.put, zA, zB, zC, zD, zE, zF]
      refine wpAnyH_take (i := 4) (oi := _) (v := ?_) rfl (by kernel_rfl) (by kernel_rfl) (by kernel_rfl) (fun _ _ _ h => h) (Or.inl ⟨by rfl, ?_⟩) (by assumption) ?_
      rotate_left
      · intro w hSw; (try dsimp only at hSw); go_simp; try with_reducible rfl
      try simp only [Act.put, zA, zB, zC, zD, zE, zF]
      refine wpAnyH_ready (rs := [2]) (by kernel_rfl) (by simp) ?_
      refine AllReadyH.cons (o := _) rfl (fun K hK => ?_) AllReadyH.nil
      go_simp
      refine (H1.out _ S1.drew.bel).mono ?_
      rintro e w2 ⟨rfl, b2⟩
      have S2 := S1.drew.below b2
      have c2 := ((BS.start _).below b2).oldbox hHeld (S1.drew.ls w.heap.size (by simp)).1
      refine hK.out _ _ ?_ (fun hHeld => ?_)
      · exact c2
      clear hK K
      try simp only [Act.put, zA, zB, zC, zD, zE, zF]
      refine wpAnyH_ready (rs := [5]) (by kernel_rfl) (by simp) ?_
      refine AllReadyH.cons (o := _) rfl (fun K hK => ?_) AllReadyH.nil
      go_simp
      refine (H2.out _ S2.bel).mono ?_
      rintro e w3 ⟨rfl, b3⟩
      have S3 := S2.below b3
      have c3 := ((BS.start _).below b3).oldbox hHeld (S2.ls w.heap.size (by simp)).1
      refine hK.out _ _ ?_ (fun hHeld => ?_)
      · exact c3
      clear hK K
      try simp only [Act.put, zA, zB, zC, zD, zE, zF]
      refine wpAnyH_take (i := 6) (oi := _) (v := ?_) rfl (by kernel_rfl) (by kernel_rfl) (by kernel_rfl) (fun _ _ _ h => h) (Or.inl ⟨by rfl, ?_⟩) (by assumption) ?_
      rotate_left
      · intro w hSw; (try dsimp only at hSw); go_simp; try with_reducible rfl
      try simp only [Act.put, zA, zB, zC, zD, zE, zF]
      refine wpAnyH_take (i := 7) (oi := _) (v := ?_) rfl (by kernel_rfl) (by kernel_rfl) (by kernel_rfl) (fun _ _ _ h => h) (Or.inl ⟨by rfl, ?_⟩) (by assumption) ?_
      rotate_left
      · intro w hSw; (try dsimp only at hSw); go_simp; try with_reducible rfl
      try simp only [Act.put, zA, zB, zC, zD, zE, zF]
      refine wpAnyH_done (by kernel_rfl) ?_ _
      refine NoPanic.normal ?_
      clear S1 c1 S2 c2 b2 b3 hHeld H1 H2
      go_wp2_with fail
      refine (H3.out _ S3.bel).mono ?_
      rintro e w4 ⟨rfl, b4⟩
      have S4 := S3.below b4
      clear S3 c3 b4 H3
      go_wp2_with fail
      refine (HL.out _).mono ?_
      rintro e w5 ⟨rfl, b5⟩
      have HFin := Lib.hid (S4.bel.trans (b5.mono S4.bel.size))
      clear b5 S4
      go_wp2
      go_ret
      exact ⟨rfl, HFin.out⟩
  · have hd : decide (p ≤ 64) = false := by simpa using hp
    rw [hd] at HF
    obtain ⟨sa, sc, rfl⟩ := rd12_len hR
    clear hd hp hR hu
    go_enter Try.func3, Try.ntmps3
    go_wp2_with fail
    refine (calls_b S0 (HF.out _)).mono ?_
    rintro e w1 ⟨rfl, S1, S1l⟩
    have c1 := loc_step S1l (by simp) c0
    clear S1l
    go_wp2_with fail
    refine (HL.out _).mono ?_
    rintro e w4 ⟨rfl, r4⟩
    go_wp2
    go_ret
    exact ⟨rfl, S1.bel.trans (r4.mono S1.bel.size)⟩
end Go.Proofs.Ytcicmljnjdhkjaa
