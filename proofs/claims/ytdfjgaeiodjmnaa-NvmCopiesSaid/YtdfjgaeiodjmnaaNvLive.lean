/- memories: the law's own example. -/
import Derived.Test.YtdfjgaeiodjmnaaNvZ
import Derived.Test.YtdfjgaeiodjmnaaNvW
set_option linter.unusedSimpArgs false
set_option linter.unusedVariables false
namespace Go.Proofs.Ytdfjgaeiodjmnaa
open Go.RowKit

def lv0 : NM := ⟨List.replicate 8 0, List.replicate 8 0, []⟩
def lv1 : NM := (lv0.store 3 9).2
def lv2 : NM := lv1.crash
def lv3 : NM := (lv2.store 3 9).2
def lv4 : NM := (lv3.flush 0 3).2
def lv5 : NM := (lv4.fence 0).2
def lv6 : NM := lv5.crash

theorem lv_1 : (lv0.store 3 9).1 = true := by decide
theorem lv_2 : lv2.load 3 = (0, true) := by decide
theorem lv_3 : (lv2.store 3 9).1 = true := by decide
theorem lv_4 : (lv3.flush 0 3).1 = true := by decide
theorem lv_5 : (lv4.fence 0).1 = 1 := by decide
theorem lv_6 : lv6.load 3 = (9, true) := by decide

theorem run_make8 : ∀ w : World, (Instr.makeSlice 22 (.int .i64 8) (.int .i64 8)).run Try.prog w = .ok (.slice (some ⟨w.heap.size, 0, none⟩) 8 8) (w.alloc (.cells (madeCells #[.int .u64 0] 8) 24)) :=
  run_make_row' (P := Try.prog) 22 24 (.int .u64 0) 8 Try.underlying22 infoU64 rfl .i64 .i64 8 (by omega) (by omega)

theorem nlive_any (w : World) : Calls Try.prog 8 #[] w fun e w' => e = .returned (.bool true) ∧ Below w.heap.size w w' := by
  have hmk := run_make8
  go_enter Try.func8, Try.ntmps8
  go_wp2_with fail
  refine (mnew_any ⟨w.heap.size, 0, none⟩ 8 8 (List.replicate 8 0) _ rfl (by decide) (by decide) (by decide) (fun v hv => by rw [List.eq_of_mem_replicate hv]; exact ⟨by decide, by decide⟩) ?_).mono ?_
  · intro j hj
    have : j = 0 ∨ j = 1 ∨ j = 2 ∨ j = 3 ∨ j = 4 ∨ j = 5 ∨ j = 6 ∨ j = 7 := by omega
    have e8 : madeCells #[.int .u64 0] 8 = #[.int .u64 0, .int .u64 0, .int .u64 0, .int .u64 0, .int .u64 0, .int .u64 0, .int .u64 0, .int .u64 0] := Array.ext' (toList_madeCells_one _ _)
    rw [e8]
    rcases this with rfl | rfl | rfl | rfl | rfl | rfl | rfl | rfl <;> exact (cell?_of_heap (heap_alloc_new w _)).trans rfl
  rintro e w1 ⟨b, rfl, hb, ⟨S, hp, hS⟩, bel⟩
  rw [World.size_alloc] at hb hS
  have B1 := Lib.hid (show Below w.heap.size w w1 from ((Below.refl w.heap.size w).alloc (Nat.le_refl _) _).trans (bel.mono (by simp)))
  have HS := Lib.hid (fun i hi => Nat.le_of_succ_le (hS i hi))
  have H1 := Lib.hid (NSt.start keepsPM (s := lv0) hp)
  clear hb hp hS bel hmk
  go_wp2_with fail
  refine (calls_nst (val := .bool true) (s' := lv1) H1.out (fun S1 h1 => by have h := mstore_any b 3 9 _ S1 lv0 h1 ⟨by decide, by decide⟩; rw [lv_1] at h; exact h)).mono ?_
  rintro e w2 ⟨rfl, hn, -⟩
  have H2 := Lib.hid hn
  clear hn
  go_wp2_with fail
  refine (calls_nst (val := .tuple #[]) (s' := lv2) H2.out (fun S1 h1 => mcrash_any b _ S1 lv1 h1)).mono ?_
  rintro e w3 ⟨rfl, hn, -⟩
  have H3 := Lib.hid hn
  clear hn
  go_wp2_with fail
  obtain ⟨S4, h4⟩ := H3.out.get
  have L4 := Lib.hid (mload_any b 3 _ S4 lv2 h4)
  rw [lv_2] at L4
  refine L4.out.mono ?_
  rintro e w4 ⟨rfl, rfl⟩
  clear h4 L4
  go_wp2_with fail
  refine (calls_nst (val := .bool true) (s' := lv3) H3.out (fun S1 h1 => by have h := mstore_any b 3 9 _ S1 lv2 h1 ⟨by decide, by decide⟩; rw [lv_3] at h; exact h)).mono ?_
  rintro e w5 ⟨rfl, hn, -⟩
  have H5 := Lib.hid hn
  clear hn
  go_wp2_with fail
  refine (calls_nst (val := .bool true) (s' := lv4) H5.out (fun S1 h1 => by have h := mflush_any b 0 3 _ S1 lv3 h1; rw [lv_4] at h; exact h)).mono ?_
  rintro e w6 ⟨rfl, hn, -⟩
  have H6 := Lib.hid hn
  clear hn
  go_wp2_with fail
  refine (calls_nst (val := .int .i64 1) (s' := lv5) H6.out (fun S1 h1 => by have h := mfence_any b 0 _ S1 lv4 h1; rw [lv_5] at h; exact h)).mono ?_
  rintro e w7 ⟨rfl, hn, -⟩
  have H7 := Lib.hid hn
  clear hn
  go_wp2_with fail
  refine (calls_nst (val := .tuple #[]) (s' := lv6) H7.out (fun S1 h1 => mcrash_any b _ S1 lv5 h1)).mono ?_
  rintro e w8 ⟨rfl, hn, -⟩
  have H8 := Lib.hid hn
  clear hn
  go_wp2_with fail
  obtain ⟨S9, h9⟩ := H8.out.get
  have L9 := Lib.hid (mload_any b 3 _ S9 lv6 h9)
  rw [lv_6] at L9
  refine L9.out.mono ?_
  rintro e w9 ⟨rfl, rfl⟩
  clear h9 L9
  go_wp2
  go_ret
  exact ⟨rfl, B1.out.trans (H8.out.fr.below B1.out.size HS.out)⟩
end Go.Proofs.Ytdfjgaeiodjmnaa
