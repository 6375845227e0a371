/- parts of the proof, merged by a program. -/
import Derived.Test.YtcbikgafdclhaaaGreatMoc1
import Derived.Shelf.Strconv.Itoa0
import Derived.Lib.BitFns
import Derived.Lib.Tables
import Derived.Laws.BitsLemmas
import Derived.Test.YtcbikgafdclhaaaGreatRows
import Derived.Lib.Hide
import Derived.DeepKeys4
import Derived.Maps.RangeWalk
import Derived.BigRegion
import Derived.Lib.Walk
import Derived.Lib.SliceRun
import Derived.Laws.CopyRow
import Derived.Carry
import Derived.Laws.Slices
import Derived.Deep.OwnRows
set_option linter.unusedSimpArgs false
set_option linter.unusedVariables false
/- bin: a free span is added. -/
set_option linter.unusedSimpArgs false
set_option linter.unusedVariables false
namespace Go.Proofs.YtcbikgafdclhaaaGreat
open Go.RowKit

theorem pinfo_any (t p s q : Int) (w : World) :
 Calls Tryz.prog 144 #[.agg #[.int .i64 t, .int .i64 p, .int .i64 s], .int .i64 q] w fun e w' => e = .returned (.int .i64 (ofF t p s q 0)) ∧ Below w.heap.size w w' := by
 go_enter Tryz.func144, Tryz.ntmps144
 go_wp2_with fail
 refine (of_any _ _ _ _ _ _ (by omega) (by omega)).mono ?_
 rintro e w1 ⟨rfl, ha⟩
 obtain ⟨hac, haf⟩ := bcell ha
 go_wp2
 go_ret
 refine ⟨rfl, ?_⟩
 (repeat (first | exact Below.refl _ _ | assumption | refine Below.setCell ?_ (by first | omega | (simp; done) | (simp; omega)) _ | refine Below.alloc ?_ (by first | omega | (simp; done) | (simp; omega)) _ | refine Below.drew ?_ | refine Below.trans ?_ (Below.mono ‹Below _ _ _› (by first | omega | (simp; done) | (simp; omega)))))
theorem pfoot_any (t p s q : Int) (w : World) :
 Calls Tryz.prog 147 #[.agg #[.int .i64 t, .int .i64 p, .int .i64 s], .int .i64 q] w fun e w' => e = .returned (.int .i64 (ofF t p s q 1)) ∧ Below w.heap.size w w' := by
 go_enter Tryz.func147, Tryz.ntmps147
 go_wp2_with fail
 refine (of_any _ _ _ _ _ _ (by omega) (by omega)).mono ?_
 rintro e w1 ⟨rfl, ha⟩
 obtain ⟨hac, haf⟩ := bcell ha
 go_wp2
 go_ret
 refine ⟨rfl, ?_⟩
 (repeat (first | exact Below.refl _ _ | assumption | refine Below.setCell ?_ (by first | omega | (simp; done) | (simp; omega)) _ | refine Below.alloc ?_ (by first | omega | (simp; done) | (simp; omega)) _ | refine Below.drew ?_ | refine Below.trans ?_ (Below.mono ‹Below _ _ _› (by first | omega | (simp; done) | (simp; omega)))))
theorem pbin_any (k : Int) (w : World) :
 Calls Tryz.prog 196 #[.int .i64 k] w fun e w' => e = .returned (.int .i64 (withinF 2 k 11)) ∧ Below w.heap.size w w' := by
 go_enter Tryz.func196, Tryz.ntmps196
 go_wp2_with fail
 refine (within_any 2 k 11 w (by omega) (by omega) (by omega)).mono ?_
 rintro e w1 ⟨rfl, rfl⟩
 go_wp2
 go_ret
 exact ⟨rfl, Below.refl _ _⟩
/-- math/bits.Len64 by the library's contract: the body is the one that the contract speaks of. -/
def lenRen : Go.Shelf.Ren := ⟨fun | 129 => 234 | n => n, fun | 3 => 3 | 4 => 4 | 5 => 5 | 9 => 9 | 46 => 66 | 53 => 61 | n => n, fun n => n⟩
theorem lenLays : Go.Proofs.Lays.n129 Tryz.prog lenRen where
 mixed := by kernel_rfl
 f129 := Tryz.func234.trans (congrArg some (by kernel_rfl))
 t3 := Tryz.underlying3
 a3 := Tryz.isAgg3
 z3 := Tryz.sizeOf3
 v3 := Tryz.zeroValue3
 t4 := Tryz.underlying4
 a4 := Tryz.isAgg4
 z4 := Tryz.sizeOf4
 v4 := Tryz.zeroValue4
 t5 := Tryz.underlying5
 a5 := Tryz.isAgg5
 z5 := Tryz.sizeOf5
 v5 := Tryz.zeroValue5
 t9 := Tryz.underlying9
 a9 := Tryz.isAgg9
 z9 := Tryz.sizeOf9
 v9 := Tryz.zeroValue9
 t46 := Tryz.underlying66
 a46 := Tryz.isAgg66
 z46 := Tryz.sizeOf66
 v46 := Tryz.zeroValue66
 t53 := Tryz.underlying61
 a53 := Tryz.isAgg61
 z53 := Tryz.sizeOf61
 v53 := Tryz.zeroValue61
theorem len64_any (n : Int) (w : World) (h1 : 0 ≤ n) (h2 : n ≤ 18446744073709551615) :
 Calls Tryz.prog 234 #[.int .u64 n] w fun e w' => e = .returned (.int .i64 (Lib.bitLen n.toNat)) ∧ Below w.heap.size w w' :=
 (Go.Proofs.Any.bits_Len64 lenLays n w h1 h2).mono fun _ _ ⟨he, hw⟩ => ⟨he, by rw [hw]; exact Below.refl _ _⟩

theorem bitLen_le : ∀ n : Nat, n < 1025 → Lib.bitLen n = bitsN n := by decide +kernel
theorem hlog_any (n : Nat) (w : World) (h1 : 1 ≤ n) (h2 : n ≤ 1024) :
 Calls Tryz.prog 194 #[.int .i64 n] w fun e w' => e = .returned (.int .i64 (logF n)) ∧ Below w.heap.size w w' := by
 have H := Lib.hid (fun w => len64_any n w (by omega) (by omega))
 have hb := bitLen_le n (by omega)
 have hl : logF n = (Lib.bitLen n : Int) - 1 := by rw [hb]; simp [logF]
 have hbl := bitsN_le n
 have HL := Lib.hid hl
 rw [← hb] at hbl
 simp only [Int.toNat_natCast] at H
 generalize Lib.bitLen n = m at *
 clear hb hl
 go_enter Tryz.func194, Tryz.ntmps194
 go_wp2_with fail
 refine (H.out _).mono ?_
 rintro e w1 ⟨rfl, b1⟩
 go_wp2
 go_ret
 exact ⟨ret_int HL.out.symm, b1⟩
end Go.Proofs.YtcbikgafdclhaaaGreat
/- the program's small functions that its audit calls: fields of infos, bits. -/
set_option linter.unusedSimpArgs false
set_option linter.unusedVariables false
namespace Go.Proofs.YtcbikgafdclhaaaGreat
open Go.RowKit

theorem wrapsA_u32 (n : Int) (h₀ : 0 ≤ n) (h₁ : n < 2 ^ 32) : IntKind.u32.wrap n = n := by rw [IntKind.wrap_u32]; omega
theorem wrapsA_u64 (n : Int) (h₀ : 0 ≤ n) (h₁ : n < 2 ^ 64) : IntKind.u64.wrap n = n := by rw [IntKind.wrap_u64]; omega
theorem and255 {x : Int} (h0 : 0 ≤ x) (h1 : x < 4294967296) : bits .and .u32 x 255 = x % 256 := bits_mask .u32 32 (by decide) wrapsA_u32 8 (by decide) x h0 (by omega)
theorem byte_bit (v : Int) (a i : Nat) (h : a + 8 ≤ 32) (hi : i < 8) : bitB (v / 2 ^ a % 256) i = bitB v (a + i) := by
 have e : (256 : Int) = 2 ^ i * (2 * 2 ^ (7 - i)) := by
  rw [← Int.pow_succ', ← Int.pow_add, show i + (7 - i + 1) = 8 by omega]
  rfl
 have hp : (0 : Int) < 2 ^ i := Int.pow_pos (by omega)
 unfold bitB
 have h1 : decide (i < 32) = true := by simp; omega
 have h2 : decide (a + i < 32) = true := by simp; omega
 rw [h1, h2]
 have hq : v / 2 ^ a % 256 / 2 ^ i % 2 = v / 2 ^ (a + i) % 2 := by
  rw [Int.pow_add, ← Int.ediv_ediv_of_nonneg (Int.pow_nonneg (by omega))]
  generalize v / 2 ^ a = x
  have hx := Int.emod_def x 256
  generalize x / 256 = q at hx
  rw [hx, e, show x - 2 ^ i * (2 * 2 ^ (7 - i)) * q = x + (-(2 * 2 ^ (7 - i) * q)) * 2 ^ i by rw [Int.neg_mul, Int.mul_comm (2 * 2 ^ (7 - i) * q), Int.mul_assoc (2 ^ i)]; rfl, Int.add_mul_ediv_right _ _ (by omega), Int.mul_assoc]
  generalize 2 ^ (7 - i) * q = z
  omega
 rw [hq]
theorem ones_byte (v : Int) (a : Nat) (h : a + 8 ≤ 32) : ∀ k, k ≤ 8 → onesN v (a + k) = onesN v a + onesN (v / 2 ^ a % 256) k
 | 0, _ => by simp [onesN]
 | k + 1, hk => by
  have ih := ones_byte v a h k (by omega)
  have e1 : onesN v (a + (k + 1)) = onesN v (a + k) + if bitB v (a + k) then 1 else 0 := rfl
  have e2 : onesN (v / 2 ^ a % 256) (k + 1) = onesN (v / 2 ^ a % 256) k + if bitB (v / 2 ^ a % 256) k then 1 else 0 := rfl
  rw [e1, e2, byte_bit v a k h (by omega), ih]
  omega
theorem pop8_ones : ∀ n : Fin 256, Lib.pop8 (n.val : Int) = (onesN (n.val : Int) 8 : Int) := by decide +kernel
theorem pop8_at (b : Int) (h0 : 0 ≤ b) (h1 : b ≤ 255) : Lib.pop8 b = (onesN b 8 : Int) := by
 have e := pop8_ones ⟨b.toNat, by omega⟩
 simpa only [Int.toNat_of_nonneg h0] using e
theorem ones_sum {v : Int} (h0 : 0 ≤ v) (h1 : v < 4294967296) : (onesN v 32 : Int) = Lib.pop8 (v / 16777216) + Lib.pop8 (v / 65536 % 256) + Lib.pop8 (v / 256 % 256) + Lib.pop8 (v % 256) := by
 rw [pop8_at _ (by omega) (by omega), pop8_at _ (by omega) (by omega), pop8_at _ (by omega) (by omega), pop8_at _ (by omega) (by omega)]
 have a0 : onesN v 8 = onesN v 0 + onesN (v % 256) 8 := by
  have := ones_byte v 0 (by omega) 8 (by omega)
  rwa [show v / 2 ^ 0 % 256 = v % 256 by simp] at this
 have a1 : onesN v 16 = onesN v 8 + onesN (v / 256 % 256) 8 := ones_byte v 8 (by omega) 8 (by omega)
 have a2 : onesN v 24 = onesN v 16 + onesN (v / 65536 % 256) 8 := ones_byte v 16 (by omega) 8 (by omega)
 have a3 : onesN v 32 = onesN v 24 + onesN (v / 16777216) 8 := by
  have : onesN v 32 = onesN v 24 + onesN (v / 16777216 % 256) 8 := ones_byte v 24 (by omega) 8 (by omega)
  rwa [show v / 16777216 % 256 = v / 16777216 by omega] at this
 have z : onesN v 0 = 0 := rfl
 omega

set_option maxRecDepth 100000 in
theorem ones_any (v : Int) (w : World) (h0 : 0 ≤ v) (h1 : v < 4294967296) :
 Calls Tryz.prog 200 #[.int .u32 v] w fun e w' => e = .returned (.int .i64 (onesN v 32)) ∧ Below w.heap.size w w' := by
 have a1 := and255 (x := v / 65536) (by omega) (by omega)
 have a2 := and255 (x := v / 256) (by omega) (by omega)
 have a3 := and255 h0 h1
 have hs := ones_sum h0 h1
 have k0 := fun w => Lib.run_index_pop8tab (P := Tryz.prog) w 9 .u32 (v / 16777216) Tryz.underlying9 (by omega) (by omega)
 have k1 := fun w => Lib.run_index_pop8tab (P := Tryz.prog) w 9 .u32 (v / 65536 % 256) Tryz.underlying9 (by omega) (by omega)
 have k2 := fun w => Lib.run_index_pop8tab (P := Tryz.prog) w 9 .u32 (v / 256 % 256) Tryz.underlying9 (by omega) (by omega)
 have k3 := fun w => Lib.run_index_pop8tab (P := Tryz.prog) w 9 .u32 (v % 256) Tryz.underlying9 (by omega) (by omega)
 go_enter Tryz.func200, Tryz.ntmps200
 go_wp2
 go_region
 go_wp2
 go_ret
 refine ⟨ret_int ?_, (Below.refl _ _).drew⟩
 have := onesN_le v 32
 omega
theorem hmask44 (w : World) : Calls Tryz.prog 126 #[.int .i64 44] w fun e w' => e = .returned (.int .u64 17592186044415) ∧ Below w.heap.size w w' := by
 go_enter Tryz.func126, Tryz.ntmps126
 go_wp2
 go_ret
 exact ⟨rfl, Below.refl _ _⟩
theorem hgetK (v : Int) (w : World) (h0 : 0 ≤ v) (h1 : v < 4294967296) :
 Calls Tryz.prog 77 #[.int .u64 v, .int .i64 0, .int .i64 4] w fun e w' => e = .returned (.int .u64 (v % 16)) ∧ Below w.heap.size w w' := by
 have ha : bits .and .u64 (v) 15 = v % 16 := bits_mask .u64 64 (by decide) wrapsA_u64 4 (by decide) (v) (by omega) (by omega)
 go_enter Tryz.func77, Tryz.ntmps77
 go_wp2_with fail
 refine (hfield_any _ _ _ (by omega) (by omega) (by omega) (by omega)).mono ?_
 rintro e w1 ⟨rfl, b1⟩
 go_wp2
 refine wp_region_noPanic ?_
 refine wp_region_held_drew (S := fun w' => BS w1 ([] : List Nat) w') (by kernel_rfl) ?_ (fun hHeld => ?_)
 ·exact (BS.start w1).drew
 refine wT 0 ?_
 refine wT 1 ?_
 refine wT 2 ?_
 refine wT 3 ?_
 refine wR 4 fun K hK => ?_
 go_simp
 refine (calls_b hHeld (hmask4 _)).mono ?_
 rintro e wr1 ⟨rfl, hV, hVl⟩
 dsimp only
 refine hK.out _ _ ?_ (fun hHeld2 => ?_)
 ·exact hV
 clear hK K hV hVl hHeld
 have hHeld := hHeld2
 clear hHeld2
 try simp only [Act.put, zA, zB, zC, zD, zE, zF]
 refine wT 5 ?_
 refine wT 6 ?_
 refine wpAnyH_done (by kernel_rfl) (NoPanic.normal ?_) _
 refine world_gen ?_
 intro wz hwz
 rw [← hwz] at hHeld
 clear hwz
 go_wp2
 go_ret
 exact ⟨rfl, b1.trans (hHeld.bel.mono b1.size)⟩
theorem hgetL (v : Int) (w : World) (h0 : 0 ≤ v) (h1 : v < 4294967296) :
 Calls Tryz.prog 77 #[.int .u64 v, .int .i64 4, .int .i64 12] w fun e w' => e = .returned (.int .u64 (v / 16 % 4096)) ∧ Below w.heap.size w w' := by
 have ha : bits .and .u64 (v / 16) 4095 = v / 16 % 4096 := bits_mask .u64 64 (by decide) wrapsA_u64 12 (by decide) (v / 16) (by omega) (by omega)
 go_enter Tryz.func77, Tryz.ntmps77
 go_wp2_with fail
 refine (hfield_any _ _ _ (by omega) (by omega) (by omega) (by omega)).mono ?_
 rintro e w1 ⟨rfl, b1⟩
 go_wp2
 refine wp_region_noPanic ?_
 refine wp_region_held_drew (S := fun w' => BS w1 ([] : List Nat) w') (by kernel_rfl) ?_ (fun hHeld => ?_)
 ·exact (BS.start w1).drew
 refine wT 0 ?_
 refine wT 1 ?_
 refine wT 2 ?_
 refine wT 3 ?_
 refine wR 4 fun K hK => ?_
 go_simp
 refine (calls_b hHeld (hmask12 _)).mono ?_
 rintro e wr1 ⟨rfl, hV, hVl⟩
 dsimp only
 refine hK.out _ _ ?_ (fun hHeld2 => ?_)
 ·exact hV
 clear hK K hV hVl hHeld
 have hHeld := hHeld2
 clear hHeld2
 try simp only [Act.put, zA, zB, zC, zD, zE, zF]
 refine wT 5 ?_
 refine wT 6 ?_
 refine wpAnyH_done (by kernel_rfl) (NoPanic.normal ?_) _
 refine world_gen ?_
 intro wz hwz
 rw [← hwz] at hHeld
 clear hwz
 go_wp2
 go_ret
 exact ⟨rfl, b1.trans (hHeld.bel.mono b1.size)⟩
theorem hgetC (v : Int) (w : World) (h0 : 0 ≤ v) (h1 : v < 4294967296) :
 Calls Tryz.prog 77 #[.int .u64 v, .int .i64 16, .int .i64 4] w fun e w' => e = .returned (.int .u64 (v / 65536 % 16)) ∧ Below w.heap.size w w' := by
 have ha : bits .and .u64 (v / 65536) 15 = v / 65536 % 16 := bits_mask .u64 64 (by decide) wrapsA_u64 4 (by decide) (v / 65536) (by omega) (by omega)
 go_enter Tryz.func77, Tryz.ntmps77
 go_wp2_with fail
 refine (hfield_any _ _ _ (by omega) (by omega) (by omega) (by omega)).mono ?_
 rintro e w1 ⟨rfl, b1⟩
 go_wp2
 refine wp_region_noPanic ?_
 refine wp_region_held_drew (S := fun w' => BS w1 ([] : List Nat) w') (by kernel_rfl) ?_ (fun hHeld => ?_)
 ·exact (BS.start w1).drew
 refine wT 0 ?_
 refine wT 1 ?_
 refine wT 2 ?_
 refine wT 3 ?_
 refine wR 4 fun K hK => ?_
 go_simp
 refine (calls_b hHeld (hmask4 _)).mono ?_
 rintro e wr1 ⟨rfl, hV, hVl⟩
 dsimp only
 refine hK.out _ _ ?_ (fun hHeld2 => ?_)
 ·exact hV
 clear hK K hV hVl hHeld
 have hHeld := hHeld2
 clear hHeld2
 try simp only [Act.put, zA, zB, zC, zD, zE, zF]
 refine wT 5 ?_
 refine wT 6 ?_
 refine wpAnyH_done (by kernel_rfl) (NoPanic.normal ?_) _
 refine world_gen ?_
 intro wz hwz
 rw [← hwz] at hHeld
 clear hwz
 go_wp2
 go_ret
 exact ⟨rfl, b1.trans (hHeld.bel.mono b1.size)⟩
theorem hgetR (v : Int) (w : World) (h0 : 0 ≤ v) (h1 : v < 4294967296) :
 Calls Tryz.prog 77 #[.int .u64 v, .int .i64 20, .int .i64 44] w fun e w' => e = .returned (.int .u64 (v / 1048576 % 17592186044416)) ∧ Below w.heap.size w w' := by
 have ha : bits .and .u64 (v / 1048576) 17592186044415 = v / 1048576 % 17592186044416 := bits_mask .u64 64 (by decide) wrapsA_u64 44 (by decide) (v / 1048576) (by omega) (by omega)
 go_enter Tryz.func77, Tryz.ntmps77
 go_wp2_with fail
 refine (hfield_any _ _ _ (by omega) (by omega) (by omega) (by omega)).mono ?_
 rintro e w1 ⟨rfl, b1⟩
 go_wp2
 refine wp_region_noPanic ?_
 refine wp_region_held_drew (S := fun w' => BS w1 ([] : List Nat) w') (by kernel_rfl) ?_ (fun hHeld => ?_)
 ·exact (BS.start w1).drew
 refine wT 0 ?_
 refine wT 1 ?_
 refine wT 2 ?_
 refine wT 3 ?_
 refine wR 4 fun K hK => ?_
 go_simp
 refine (calls_b hHeld (hmask44 _)).mono ?_
 rintro e wr1 ⟨rfl, hV, hVl⟩
 dsimp only
 refine hK.out _ _ ?_ (fun hHeld2 => ?_)
 ·exact hV
 clear hK K hV hVl hHeld
 have hHeld := hHeld2
 clear hHeld2
 try simp only [Act.put, zA, zB, zC, zD, zE, zF]
 refine wT 5 ?_
 refine wT 6 ?_
 refine wpAnyH_done (by kernel_rfl) (NoPanic.normal ?_) _
 refine world_gen ?_
 intro wz hwz
 rw [← hwz] at hHeld
 clear hwz
 go_wp2
 go_ret
 exact ⟨rfl, b1.trans (hHeld.bel.mono b1.size)⟩

theorem pones_any (v : Int) (w : World) (h0 : 0 ≤ v) (h1 : v < 4294967296) :
 Calls Tryz.prog 157 #[.int .u32 v] w fun e w' => e = .returned (.int .i64 (onesN v 32)) ∧ Below w.heap.size w w' := by
 have H := Lib.hid (fun w => ones_any v w h0 h1)
 go_enter Tryz.func157, Tryz.ntmps157
 go_wp2_with fail
 refine (H.out _).mono ?_
 rintro e w1 ⟨rfl, b1⟩
 go_wp2
 go_ret
 exact ⟨rfl, b1⟩
theorem iright_any (k l c : Int) (w : World) :
 Calls Tryz.prog 190 #[.agg #[.int .i64 k, .int .i64 l, .int .i64 c]] w fun e w' => e = .returned (.bool (rightI k l c)) ∧ Below w.heap.size w w' := by
 generalize hr : rightI k l c = r
 have HR := Lib.hid hr
 clear hr
 go_enter Tryz.func190, Tryz.ntmps190
 go_wp2
 all_goals
  go_ret
  refine ⟨ret_bool ?_, ?_⟩
  ·have e := HR.out
   subst e
   clear HR
   rw [Bool.eq_iff_iff]
   simp_all [rightI]
   try omega
  ·clear HR
   (repeat (first | exact Below.refl _ _ | assumption | refine Below.setCell ?_ (by first | omega | (simp; done) | (simp; omega)) _ | refine Below.alloc ?_ (by first | omega | (simp; done) | (simp; omega)) _ | refine Below.drew ?_ | refine Below.trans ?_ (Below.mono ‹Below _ _ _› (by first | omega | (simp; done) | (simp; omega)))))
theorem okI_eq {v : Int} (h0 : 0 ≤ v) : (decide (v / 1048576 % 17592186044416 = 0) && rightI (v % 16) (v / 16 % 4096) (v / 65536 % 16)) = okI v ∨ ¬ v < 4294967296 := by
 by_cases h : v < 4294967296
 ·left
  unfold okI
  by_cases h2 : v / 1048576 = 0
  ·rw [show v / 1048576 % 17592186044416 = 0 by omega, show v / 65536 % 16 = v / 65536 by omega]
   simp
  ·rw [show decide (v / 1048576 % 17592186044416 = 0) = false by simp; omega]
   have h3 : 16 ≤ v / 65536 := by omega
   have hr : rightI (v % 16) (v / 16 % 4096) (v / 65536) = false := by
    unfold rightI
    repeat' split
    all_goals simp <;> omega
   rw [hr]
   rfl
 ·exact Or.inr h
theorem iget_any (v : Int) (w : World) (h0 : 0 ≤ v) (h1 : v < 4294967296) :
 Calls Tryz.prog 145 #[.int .u32 v] w fun e w' => e = .returned (.tuple #[.agg #[.int .i64 (iK v), .int .i64 (iL v), .int .i64 (iC v)], .bool (okI v)]) ∧ Below w.heap.size w w' := by
 have hok := (okI_eq h0).resolve_right (by omega)
 have HK := Lib.hid (fun w => hgetK v w h0 h1)
 have HL := Lib.hid (fun w => hgetL v w h0 h1)
 have HC := Lib.hid (fun w => hgetC v w h0 h1)
 have HR := Lib.hid (fun w => hgetR v w h0 h1)
 have HI := Lib.hid (fun w => iright_any (v % 16) (v / 16 % 4096) (v / 65536 % 16) w)
 have hw : IntKind.u64.wrap v = v := wrapsA_u64 _ h0 (by omega)
 have hwk : IntKind.i64.wrap (v % 16) = v % 16 := wrap_in _ (by omega)
 have hwl : IntKind.i64.wrap (v / 16 % 4096) = v / 16 % 4096 := wrap_in _ (by omega)
 have hwc : IntKind.i64.wrap (v / 65536 % 16) = v / 65536 % 16 := wrap_in _ (by omega)
 have S0 := (BS.start w).alloc (.cells #[.int .i64 0, .int .i64 0, .int .i64 0] 174)
 have r0 := heap_alloc_new w (.cells #[.int .i64 0, .int .i64 0, .int .i64 0] 174)
 have hv1 : iK v = if okI v then v % 16 else 0 := rfl
 have hv2 : iL v = if okI v then v / 16 % 4096 else 0 := rfl
 have hv3 : okI v = true → iC v = v / 65536 % 16 := by
  intro h
  have e : iC v = v / 65536 := by unfold iC; rw [if_pos h]
  have := inf_bd v
  rw [e] at this ⊢
  omega
 have hv4 : okI v = false → iC v = 0 := by intro h; unfold iC; rw [h]; rfl
 have HVV := Lib.hid (And.intro hv1 (And.intro hv2 (And.intro hv3 hv4)))
 clear hv1 hv2 hv3 hv4
 generalize rightI (v % 16) (v / 16 % 4096) (v / 65536 % 16) = rg at *
 generalize v / 1048576 % 17592186044416 = rs at *
 have HOK := Lib.hid hok
 clear hok
 generalize v % 16 = k at *
 generalize v / 16 % 4096 = l at *
 generalize v / 65536 % 16 = c at *
 go_enter Tryz.func145, Tryz.ntmps145
 go_wp2_with fail
 refine (calls_b S0 (HK.out _)).mono ?_
 rintro e w1 ⟨rfl, S1, q1⟩
 have r1 := (q1 w.heap.size (by simp)).trans r0
 go_wp2_with fail
 refine (calls_b S1 (HL.out _)).mono ?_
 rintro e w2 ⟨rfl, S2, q2⟩
 have r2 := (q2 w.heap.size (by simp)).trans r1
 go_wp2_with fail
 refine (calls_b S2 (HC.out _)).mono ?_
 rintro e w3 ⟨rfl, S3, q3⟩
 have r3 := (q3 w.heap.size (by simp)).trans r2
 have A3 := S3.allocd #[.int .i64 k, .int .i64 l, .int .i64 c] 174
 have r3a := (heap_alloc_old _ (.cells #[.int .i64 k, .int .i64 l, .int .i64 c] 174) (S3.ls w.heap.size (by simp)).1).trans r3
 have hne : w.heap.size ≠ w3.heap.size := by have := (S3.ls w.heap.size (by simp)).1; omega
 clear S0 S1 S2 S3 q1 q2 q3 r0 r1 r2 r3 HK HL HC
 go_wp2_with fail
 refine (calls_b A3.bs (HR.out _)).mono ?_
 rintro e w4 ⟨rfl, S4, q4⟩
 have r4 := (q4 w.heap.size (by simp)).trans r3a
 have i4 := (q4 w3.heap.size (by simp)).trans A3.box
 obtain ⟨⟨a0, a1, a2⟩, -, -, -⟩ := cells3 i4
 clear A3 r3a q4 HR
 by_cases hrs : rs = 0
 ·subst hrs
  go_wp2_with fail
  refine (calls_b S4 (HI.out _)).mono ?_
  rintro e w5 ⟨rfl, S5, q5⟩
  have r5 := (q5 w.heap.size (by simp)).trans r4
  have i5 := (q5 w3.heap.size (by simp)).trans i4
  clear r4 i4 S4 q5 a0 a1 a2
  obtain ⟨⟨a0, a1, a2⟩, -, -, -⟩ := cells3 i5
  clear i5
  cases rg
  ·have rZ := r5
   have SZ := S5
   clear r5 S5
   obtain ⟨⟨d0, d1, d2⟩, j0, j1, j2⟩ := cells3 rZ
   have HSZ := Lib.hid SZ
   clear rZ SZ
   go_wp2
   refine bodyPost_ret (v := .tuple #[.agg #[.int .i64 0, .int .i64 0, .int .i64 0], .bool false]) (by simp [results, Tryz.results145, go_sem, *]) rfl ⟨?_, ?_⟩
   ·obtain ⟨f1, f2, f3, f4⟩ := HVV.out
    have hO := HOK.out
    have hF : okI v = false := by rw [← hO]; rfl
    rw [f1, f2, f4 hF, hF]
    rfl
   ·have hm : w.heap.size ∈ [w3.heap.size, w.heap.size] := by simp
    exact (((HSZ.out.setCell hm 0 _).setCell hm 1 _).setCell hm 2 _).bel
  ·have rZ := r5
   have SZ := S5
   clear r5 S5
   obtain ⟨⟨d0, d1, d2⟩, j0, j1, j2⟩ := cells3 rZ
   have HSZ := Lib.hid SZ
   clear rZ SZ
   go_wp2
   refine bodyPost_ret (v := .tuple #[.agg #[.int .i64 k, .int .i64 l, .int .i64 c], .bool true]) (by simp [results, Tryz.results145, go_sem, *]) rfl ⟨?_, ?_⟩
   ·obtain ⟨f1, f2, f3, f4⟩ := HVV.out
    have hO := HOK.out
    have hT : okI v = true := by rw [← hO]; rfl
    rw [f1, f2, f3 hT, hT]
    rfl
   ·have hm : w.heap.size ∈ [w3.heap.size, w.heap.size] := by simp
    exact (((HSZ.out.setCell hm 0 _).setCell hm 1 _).setCell hm 2 _).bel
 ·have hrb : (rs != 0) = true := by simpa using hrs
  have rZ := r4
  have SZ := S4
  clear r4 S4 i4
  obtain ⟨⟨d0, d1, d2⟩, j0, j1, j2⟩ := cells3 rZ
  have HSZ := Lib.hid SZ
  clear rZ SZ
  go_wp2
  refine bodyPost_ret (v := .tuple #[.agg #[.int .i64 0, .int .i64 0, .int .i64 0], .bool false]) (by simp [results, Tryz.results145, go_sem, *]) rfl ⟨?_, ?_⟩
  ·obtain ⟨f1, f2, f3, f4⟩ := HVV.out
   have hO := HOK.out
   have hF : okI v = false := by rw [← hO]; simp [hrs]
   rw [f1, f2, f4 hF, hF]
   rfl
  ·have hm : w.heap.size ∈ [w3.heap.size, w.heap.size] := by simp
   exact (((HSZ.out.setCell hm 0 _).setCell hm 1 _).setCell hm 2 _).bel
end Go.Proofs.YtcbikgafdclhaaaGreat
/- the words of changes: the program's mark. -/
set_option linter.unusedSimpArgs false
set_option linter.unusedVariables false
namespace Go.Proofs.YtcbikgafdclhaaaGreat
open Go.RowKit

theorem below2 {w w1 w2 : World} (a : Below w.heap.size w w1) (b : Below w1.heap.size w1 w2) : Below w.heap.size w w2 := a.trans (b.mono a.size)
theorem wrap_u32 (x : Int) : IntKind.u32.wrap x = x % 4294967296 := by simp [IntKind.wrap, IntKind.bits, IntKind.signed]
theorem hlow_any (v : Int) (w : World) (h : U64 v) : Calls Tryz.prog 100 #[.int .u64 v] w fun e w' => e = .returned (.int .u32 (loW v)) ∧ Below w.heap.size w w' := by
 have hw := wrap_u32 v
 clear h
 go_enter Tryz.func100, Tryz.ntmps100
 go_wp2
 go_ret
 exact ⟨rfl, Below.refl _ _⟩
theorem hhi_any (v : Int) (w : World) (h : U64 v) : Calls Tryz.prog 134 #[.int .u64 v] w fun e w' => e = .returned (.int .u32 (hiW v)) ∧ Below w.heap.size w w' := by
 have hb := hi_bd h
 have hw : IntKind.u32.wrap (v / 4294967296) = v / 4294967296 := IntWalk.u32_in _ (by unfold hiW at hb; omega)
 clear hb h
 go_enter Tryz.func134, Tryz.ntmps134
 go_wp2
 go_ret
 exact ⟨rfl, Below.refl _ _⟩
theorem hjoin_any (h l : Int) (w : World) (h0 : 0 ≤ h ∧ h < 4294967296) (h1 : 0 ≤ l ∧ l < 4294967296) : Calls Tryz.prog 143 #[.int .u32 h, .int .u32 l] w fun e w' => e = .returned (.int .u64 (joinW h l)) ∧ Below w.heap.size w w' := by
 have hwh : IntKind.u64.wrap h = h := wraps_u64 _ (by omega) (by omega)
 have hwl : IntKind.u64.wrap l = l := wraps_u64 _ (by omega) (by omega)
 have hwm : IntKind.u64.wrap (h * 4294967296) = h * 4294967296 := wraps_u64 _ (by omega) (by omega)
 have ho : bits BinOp.or IntKind.u64 (h * 4294967296) l = h * 4294967296 + l := by
  have := bits_join .u64 64 (by decide) wraps_u64 32 (h * 4294967296) l (by omega) (by omega) (by omega) (by omega) (by omega) (by omega)
  exact this
 clear h0 h1
 go_enter Tryz.func143, Tryz.ntmps143
 go_wp2
 go_ret
 exact ⟨rfl, Below.refl _ _⟩
theorem hmask15 (w : World) : Calls Tryz.prog 126 #[.int .i64 15] w fun e w' => e = .returned (.int .u64 32767) ∧ Below w.heap.size w w' := by
 go_enter Tryz.func126, Tryz.ntmps126
 go_wp2
 go_ret
 exact ⟨rfl, Below.refl _ _⟩
theorem hmask1 (w : World) : Calls Tryz.prog 126 #[.int .i64 1] w fun e w' => e = .returned (.int .u64 1) ∧ Below w.heap.size w w' := by
 go_enter Tryz.func126, Tryz.ntmps126
 go_wp2
 go_ret
 exact ⟨rfl, Below.refl _ _⟩
theorem hget0 (v : Int) (w : World) (h : U64 v) :
 Calls Tryz.prog 77 #[.int .u64 v, .int .i64 0, .int .i64 16] w fun e w' => e = .returned (.int .u64 (v % 65536)) ∧ Below w.heap.size w w' := by
 unfold U64 at h
 have ha : bits .and .u64 v 65535 = v % 65536 := bits_mask .u64 64 (by decide) wrapsA_u64 16 (by decide) v (by omega) (by omega)
 go_enter Tryz.func77, Tryz.ntmps77
 go_wp2_with fail
 refine (hfield_any _ _ _ (by omega) (by omega) (by omega) (by omega)).mono ?_
 rintro e w1 ⟨rfl, b1⟩
 go_wp2
 refine wp_region_noPanic ?_
 refine wp_region_held_drew (S := fun w' => BS w1 ([] : List Nat) w') (by kernel_rfl) ?_ (fun hHeld => ?_)
 ·exact (BS.start w1).drew
 refine wT 0 ?_
 refine wT 1 ?_
 refine wT 2 ?_
 refine wT 3 ?_
 refine wR 4 fun K hK => ?_
 go_simp
 refine (calls_b hHeld (hmask16 _)).mono ?_
 rintro e wr1 ⟨rfl, hV, hVl⟩
 dsimp only
 refine hK.out _ _ ?_ (fun hHeld2 => ?_)
 ·exact hV
 clear hK K hV hVl hHeld
 have hHeld := hHeld2
 clear hHeld2
 try simp only [Act.put, zA, zB, zC, zD, zE, zF]
 refine wT 5 ?_
 refine wT 6 ?_
 refine wpAnyH_done (by kernel_rfl) (NoPanic.normal ?_) _
 refine world_gen ?_
 intro wz hwz
 rw [← hwz] at hHeld
 clear hwz
 go_wp2
 go_ret
 exact ⟨rfl, b1.trans (hHeld.bel.mono b1.size)⟩
theorem hget16 (v : Int) (w : World) (h : U64 v) :
 Calls Tryz.prog 77 #[.int .u64 v, .int .i64 16, .int .i64 15] w fun e w' => e = .returned (.int .u64 (v / 65536 % 32768)) ∧ Below w.heap.size w w' := by
 unfold U64 at h
 have ha : bits .and .u64 (v / 65536) 32767 = v / 65536 % 32768 := bits_mask .u64 64 (by decide) wrapsA_u64 15 (by decide) (v / 65536) (by omega) (by omega)
 go_enter Tryz.func77, Tryz.ntmps77
 go_wp2_with fail
 refine (hfield_any _ _ _ (by omega) (by omega) (by omega) (by omega)).mono ?_
 rintro e w1 ⟨rfl, b1⟩
 go_wp2
 refine wp_region_noPanic ?_
 refine wp_region_held_drew (S := fun w' => BS w1 ([] : List Nat) w') (by kernel_rfl) ?_ (fun hHeld => ?_)
 ·exact (BS.start w1).drew
 refine wT 0 ?_
 refine wT 1 ?_
 refine wT 2 ?_
 refine wT 3 ?_
 refine wR 4 fun K hK => ?_
 go_simp
 refine (calls_b hHeld (hmask15 _)).mono ?_
 rintro e wr1 ⟨rfl, hV, hVl⟩
 dsimp only
 refine hK.out _ _ ?_ (fun hHeld2 => ?_)
 ·exact hV
 clear hK K hV hVl hHeld
 have hHeld := hHeld2
 clear hHeld2
 try simp only [Act.put, zA, zB, zC, zD, zE, zF]
 refine wT 5 ?_
 refine wT 6 ?_
 refine wpAnyH_done (by kernel_rfl) (NoPanic.normal ?_) _
 refine world_gen ?_
 intro wz hwz
 rw [← hwz] at hHeld
 clear hwz
 go_wp2
 go_ret
 exact ⟨rfl, b1.trans (hHeld.bel.mono b1.size)⟩
theorem hget31 (v : Int) (w : World) (h : U64 v) :
 Calls Tryz.prog 77 #[.int .u64 v, .int .i64 31, .int .i64 1] w fun e w' => e = .returned (.int .u64 (v / 2147483648 % 2)) ∧ Below w.heap.size w w' := by
 unfold U64 at h
 have ha : bits .and .u64 (v / 2147483648) 1 = v / 2147483648 % 2 := bits_mask .u64 64 (by decide) wrapsA_u64 1 (by decide) (v / 2147483648) (by omega) (by omega)
 go_enter Tryz.func77, Tryz.ntmps77
 go_wp2_with fail
 refine (hfield_any _ _ _ (by omega) (by omega) (by omega) (by omega)).mono ?_
 rintro e w1 ⟨rfl, b1⟩
 go_wp2
 refine wp_region_noPanic ?_
 refine wp_region_held_drew (S := fun w' => BS w1 ([] : List Nat) w') (by kernel_rfl) ?_ (fun hHeld => ?_)
 ·exact (BS.start w1).drew
 refine wT 0 ?_
 refine wT 1 ?_
 refine wT 2 ?_
 refine wT 3 ?_
 refine wR 4 fun K hK => ?_
 go_simp
 refine (calls_b hHeld (hmask1 _)).mono ?_
 rintro e wr1 ⟨rfl, hV, hVl⟩
 dsimp only
 refine hK.out _ _ ?_ (fun hHeld2 => ?_)
 ·exact hV
 clear hK K hV hVl hHeld
 have hHeld := hHeld2
 clear hHeld2
 try simp only [Act.put, zA, zB, zC, zD, zE, zF]
 refine wT 5 ?_
 refine wT 6 ?_
 refine wpAnyH_done (by kernel_rfl) (NoPanic.normal ?_) _
 refine world_gen ?_
 intro wz hwz
 rw [← hwz] at hHeld
 clear hwz
 go_wp2
 go_ret
 exact ⟨rfl, b1.trans (hHeld.bel.mono b1.size)⟩

theorem mmaker_any (n : Int) (w : World) (h0 : 0 ≤ n) : Calls Tryz.prog 133 #[.int .i64 n] w fun e w' => e = .returned (.bool (decide (n ≤ 16))) ∧ Below w.heap.size w w' := by
 by_cases h : n ≤ 16
 ·have hd : decide (n ≤ 16) = true := by simpa using h
  rw [hd]
  clear hd
  go_enter Tryz.func133, Tryz.ntmps133
  go_wp2
  go_ret
  exact ⟨rfl, Below.refl _ _⟩
 ·have hd : decide (n ≤ 16) = false := by simpa using h
  rw [hd]
  go_enter Tryz.func133, Tryz.ntmps133
  go_wp2
  go_ret
  exact ⟨rfl, Below.refl _ _⟩
theorem motip_yes (v s u : Int) (w : World) (h : U64 v) (ht : tipW v = some (s, u)) : Calls Tryz.prog 82 #[.int .u64 v] w fun e w' => e = .returned (.tuple #[.int .u32 s, .int .i64 u, .bool true]) ∧ Below w.heap.size w w' := by
 unfold tipW at ht
 split at ht
 ·rename_i hl
  simp only [Option.some.injEq, Prod.mk.injEq] at ht
  obtain ⟨rfl, rfl⟩ := ht
  have HL := Lib.hid (fun w => hlow_any v w h)
  have HH := Lib.hid (fun w => hhi_any v w h)
  have HM := Lib.hid (fun w => mmaker_any (loW v) w (lo_bd v).1)
  rw [show decide (loW v ≤ 16) = true by simpa using hl] at HM
  have hb := lo_bd v
  generalize loW v = u at *
  generalize hiW v = s at *
  clear hl h
  go_enter Tryz.func82, Tryz.ntmps82
  go_wp2_with fail
  refine (HL.out _).mono ?_
  rintro e w1 ⟨rfl, b1⟩
  obtain ⟨b1c, b1f⟩ := bcell b1
  go_wp2_with fail
  refine (HM.out _).mono ?_
  rintro e w2 ⟨rfl, b2⟩
  obtain ⟨b2c, b2f⟩ := bcell b2
  go_wp2_with fail
  refine (HH.out _).mono ?_
  rintro e w3 ⟨rfl, b3⟩
  obtain ⟨b3c, b3f⟩ := bcell b3
  go_wp2
  refine bodyPost_ret (v := .tuple #[.int .u32 s, .int .i64 u, .bool true]) (by simp [results, Tryz.results82, go_sem]) rfl ⟨rfl, below2 (below2 b1 b2) b3⟩
 ·cases ht
theorem motip_no (v : Int) (w : World) (h : U64 v) (ht : tipW v = none) : Calls Tryz.prog 82 #[.int .u64 v] w fun e w' => e = .returned (.tuple #[.int .u32 0, .int .i64 0, .bool false]) ∧ Below w.heap.size w w' := by
 unfold tipW at ht
 split at ht
 ·cases ht
 ·rename_i hl
  have HL := Lib.hid (fun w => hlow_any v w h)
  have HM := Lib.hid (fun w => mmaker_any (loW v) w (lo_bd v).1)
  rw [show decide (loW v ≤ 16) = false by simpa using hl] at HM
  have hb := lo_bd v
  generalize loW v = u at *
  clear hl h
  go_enter Tryz.func82, Tryz.ntmps82
  go_wp2_with fail
  refine (HL.out _).mono ?_
  rintro e w1 ⟨rfl, b1⟩
  obtain ⟨b1c, b1f⟩ := bcell b1
  go_wp2_with fail
  refine (HM.out _).mono ?_
  rintro e w2 ⟨rfl, b2⟩
  obtain ⟨b2c, b2f⟩ := bcell b2
  go_wp2
  refine bodyPost_ret (v := .tuple #[.int .u32 0, .int .i64 0, .bool false]) (by simp [results, Tryz.results82, go_sem]) rfl ⟨rfl, below2 b1 b2⟩
theorem mstamp_any (v : Int) (w : World) (h : U64 v) : Calls Tryz.prog 88 #[.int .u64 v] w fun e w' => e = .returned (.int .u32 (hiW v)) ∧ Below w.heap.size w w' := by
 have H := Lib.hid (fun w => hhi_any v w h)
 clear h
 go_enter Tryz.func88, Tryz.ntmps88
 go_wp2_with fail
 refine (H.out _).mono ?_
 rintro e w1 ⟨rfl, b1⟩
 obtain ⟨b1c, b1f⟩ := bcell b1
 go_wp2
 go_ret
 exact ⟨rfl, b1⟩
theorem mval_any (v : Int) (w : World) (h : U64 v) : Calls Tryz.prog 52 #[.int .u64 v] w fun e w' => e = .returned (.int .u32 (loW v)) ∧ Below w.heap.size w w' := by
 have H := Lib.hid (fun w => hlow_any v w h)
 clear h
 go_enter Tryz.func52, Tryz.ntmps52
 go_wp2_with fail
 refine (H.out _).mono ?_
 rintro e w1 ⟨rfl, b1⟩
 obtain ⟨b1c, b1f⟩ := bcell b1
 go_wp2
 go_ret
 exact ⟨rfl, b1⟩
theorem mkcell_any (h l : Int) (w : World) (h0 : 0 ≤ h ∧ h < 4294967296) (h1 : 0 ≤ l ∧ l < 4294967296) : Calls Tryz.prog 97 #[.int .u32 h, .int .u32 l] w fun e w' => e = .returned (.int .u64 (joinW h l)) ∧ Below w.heap.size w w' := by
 have H := Lib.hid (fun w => hjoin_any h l w h0 h1)
 clear h0 h1
 go_enter Tryz.func97, Tryz.ntmps97
 go_wp2_with fail
 refine (H.out _).mono ?_
 rintro e w1 ⟨rfl, b1⟩
 obtain ⟨b1c, b1f⟩ := bcell b1
 go_wp2
 go_ret
 exact ⟨rfl, b1⟩
theorem mentry_yes (v c x : Int) (w : World) (h : U64 v) (ht : entryW v = some (c, x)) : Calls Tryz.prog 188 #[.int .u64 v] w fun e w' => e = .returned (.tuple #[.agg #[.int .i64 c, .int .u32 x], .bool true]) ∧ Below w.heap.size w w' := by
 unfold entryW at ht
 split at ht
 ·rename_i hl
  simp only [Option.some.injEq, Prod.mk.injEq] at ht
  obtain ⟨rfl, rfl⟩ := ht
  have HL := Lib.hid (fun w => hlow_any v w h)
  have HH := Lib.hid (fun w => hhi_any v w h)
  have hb := hi_bd h
  generalize loW v = u at *
  generalize hiW v = s at *
  clear h
  go_enter Tryz.func188, Tryz.ntmps188
  go_wp2_with fail
  refine (HH.out _).mono ?_
  rintro e w1 ⟨rfl, b1⟩
  obtain ⟨b1c, b1f⟩ := bcell b1
  have b1z0 : w.heap.size < w1.heap.size := by have := b1.size; first | omega | (simp at this; omega)
  go_wp2_with fail
  refine (HL.out _).mono ?_
  rintro e w2 ⟨rfl, b2⟩
  obtain ⟨b2c, b2f⟩ := bcell b2
  go_wp2
  refine bodyPost_ret (v := .tuple #[.agg #[.int .i64 s, .int .u32 u], .bool true]) (by simp [results, Tryz.results188, go_sem, *]) rfl ⟨rfl, ?_⟩
  (repeat (first | exact Below.refl _ _ | assumption | refine Below.setCell ?_ (by first | omega | (simp; done) | (simp; omega)) _ | refine Below.alloc ?_ (by first | omega | (simp; done) | (simp; omega)) _ | refine Below.drew ?_ | refine Below.trans ?_ (Below.mono ‹Below _ _ _› (by first | omega | (simp; done) | (simp; omega)))))
 ·cases ht
theorem mentry_no (v : Int) (w : World) (h : U64 v) (ht : entryW v = none) : Calls Tryz.prog 188 #[.int .u64 v] w fun e w' => e = .returned (.tuple #[.agg #[.int .i64 0, .int .u32 0], .bool false]) ∧ Below w.heap.size w w' := by
 unfold entryW at ht
 split at ht
 ·cases ht
 ·rename_i hl
  have HH := Lib.hid (fun w => hhi_any v w h)
  have hb := hi_bd h
  generalize hiW v = s at *
  clear h
  go_enter Tryz.func188, Tryz.ntmps188
  go_wp2_with fail
  refine (HH.out _).mono ?_
  rintro e w1 ⟨rfl, b1⟩
  obtain ⟨b1c, b1f⟩ := bcell b1
  have b1z0 : w.heap.size < w1.heap.size := by have := b1.size; first | omega | (simp at this; omega)
  go_wp2
  refine bodyPost_ret (v := .tuple #[.agg #[.int .i64 0, .int .u32 0], .bool false]) (by simp [results, Tryz.results188, go_sem, *]) rfl ⟨rfl, ?_⟩
  (repeat (first | exact Below.refl _ _ | assumption | refine Below.setCell ?_ (by first | omega | (simp; done) | (simp; omega)) _ | refine Below.alloc ?_ (by first | omega | (simp; done) | (simp; omega)) _ | refine Below.drew ?_ | refine Below.trans ?_ (Below.mono ‹Below _ _ _› (by first | omega | (simp; done) | (simp; omega)))))
theorem lo_parts (v : Int) : loW v = v % 65536 + 65536 * (v / 65536 % 32768) + 2147483648 * (v / 2147483648 % 2) := by unfold loW; omega
theorem monote_yes (v st n : Int) (o : Bool) (w : World) (h : U64 v) (ht : noteW v = some (st, o, n)) : Calls Tryz.prog 139 #[.int .u64 v] w fun e w' => e = .returned (.tuple #[.agg #[.int .u32 st, .bool o, .int .i64 n], .bool true]) ∧ Below w.heap.size w w' := by
 obtain ⟨e1, e2, e3, e4, e5⟩ := note_bd h ht
 have hp := lo_parts v
 have HG0 := Lib.hid (fun w => hget0 v w h)
 have HG1 := Lib.hid (fun w => hget16 v w h)
 have HG2 := Lib.hid (fun w => hget31 v w h)
 have HH := Lib.hid (fun w => hhi_any v w h)
 have c1 : v % 65536 = n := by omega
 have c2 : v / 65536 % 32768 = 0 := by omega
 have c3 : o = (v / 2147483648 % 2 == 1) := by rw [e4, Bool.eq_iff_iff]; simp; omega
 rw [c1] at HG0
 rw [c2] at HG1
 rw [← e1] at HH
 subst c3
 clear ht e1 e4 e5 hp c1 c2 h
 generalize v / 2147483648 % 2 = o at *
 go_enter Tryz.func139, Tryz.ntmps139
 go_wp2_with fail
 refine (HG0.out _).mono ?_
 rintro e w1 ⟨rfl, b1⟩
 obtain ⟨b1c, b1f⟩ := bcell b1
 have b1z0 : w.heap.size < w1.heap.size := by have := b1.size; first | omega | (simp at this; omega)
 go_wp2_with fail
 refine (HG1.out _).mono ?_
 rintro e w2 ⟨rfl, b2⟩
 obtain ⟨b2c, b2f⟩ := bcell b2
 have b2z0 : w.heap.size < w2.heap.size := by have := b2.size; first | omega | (simp at this; omega)
 go_wp2_with fail
 refine (HH.out _).mono ?_
 rintro e w3 ⟨rfl, b3⟩
 obtain ⟨b3c, b3f⟩ := bcell b3
 have b3z0 : w.heap.size < w3.heap.size := by have := b3.size; first | omega | (simp at this; omega)
 go_wp2_with fail
 refine (HG2.out _).mono ?_
 rintro e w4 ⟨rfl, b4⟩
 obtain ⟨b4c, b4f⟩ := bcell b4
 have b4z0 : w.heap.size < w4.heap.size := by have := b4.size; first | omega | (simp at this; omega)
 go_wp2
 refine bodyPost_ret (v := .tuple #[.agg #[.int .u32 st, .bool (o == 1), .int .i64 n], .bool true]) (by simp [results, Tryz.results139, go_sem, *]) rfl ⟨rfl, ?_⟩
 (repeat (first | exact Below.refl _ _ | assumption | refine Below.setCell ?_ (by first | omega | (simp; done) | (simp; omega)) _ | refine Below.alloc ?_ (by first | omega | (simp; done) | (simp; omega)) _ | refine Below.drew ?_ | refine Below.trans ?_ (Below.mono ‹Below _ _ _› (by first | omega | (simp; done) | (simp; omega)))))
theorem monote_no (v : Int) (w : World) (h : U64 v) (ht : noteW v = none) : Calls Tryz.prog 139 #[.int .u64 v] w fun e w' => e = .returned (.tuple #[.agg #[.int .u32 0, .bool false, .int .i64 0], .bool false]) ∧ Below w.heap.size w w' := by
 have hp := lo_parts v
 have HG0 := Lib.hid (fun w => hget0 v w h)
 have HG1 := Lib.hid (fun w => hget16 v w h)
 have hn : 96 < loW v % 2147483648 := by
  unfold noteW at ht
  split at ht
  ·cases ht
  ·omega
 have hc : 0 ≤ v % 65536 ∧ v % 65536 < 65536 := by omega
 have hr : 0 ≤ v / 65536 % 32768 := by omega
 by_cases h1 : 96 < v % 65536
 ·clear hp hn hr h ht HG1
  generalize v % 65536 = c at *
  go_enter Tryz.func139, Tryz.ntmps139
  go_wp2_with fail
  refine (HG0.out _).mono ?_
  rintro e w1 ⟨rfl, b1⟩
  obtain ⟨b1c, b1f⟩ := bcell b1
  have b1z0 : w.heap.size < w1.heap.size := by have := b1.size; first | omega | (simp at this; omega)
  go_wp2
  refine bodyPost_ret (v := .tuple #[.agg #[.int .u32 0, .bool false, .int .i64 0], .bool false]) (by simp [results, Tryz.results139, go_sem, *]) rfl ⟨rfl, ?_⟩
  (repeat (first | exact Below.refl _ _ | assumption | refine Below.setCell ?_ (by first | omega | (simp; done) | (simp; omega)) _ | refine Below.alloc ?_ (by first | omega | (simp; done) | (simp; omega)) _ | refine Below.drew ?_ | refine Below.trans ?_ (Below.mono ‹Below _ _ _› (by first | omega | (simp; done) | (simp; omega)))))
 ·have h2 : v / 65536 % 32768 ≠ 0 := by omega
  have h2b : (v / 65536 % 32768 != 0) = true := by simpa using h2
  have h2c : (v / 65536 % 32768 == 0) = false := by simpa using h2
  clear hp hn h ht
  generalize v / 65536 % 32768 = r at *
  generalize v % 65536 = c at *
  go_enter Tryz.func139, Tryz.ntmps139
  go_wp2_with fail
  refine (HG0.out _).mono ?_
  rintro e w1 ⟨rfl, b1⟩
  obtain ⟨b1c, b1f⟩ := bcell b1
  have b1z0 : w.heap.size < w1.heap.size := by have := b1.size; first | omega | (simp at this; omega)
  go_wp2_with fail
  refine (HG1.out _).mono ?_
  rintro e w2 ⟨rfl, b2⟩
  obtain ⟨b2c, b2f⟩ := bcell b2
  have b2z0 : w.heap.size < w2.heap.size := by have := b2.size; first | omega | (simp at this; omega)
  go_wp2
  refine bodyPost_ret (v := .tuple #[.agg #[.int .u32 0, .bool false, .int .i64 0], .bool false]) (by simp [results, Tryz.results139, go_sem, *]) rfl ⟨rfl, ?_⟩
  (repeat (first | exact Below.refl _ _ | assumption | refine Below.setCell ?_ (by first | omega | (simp; done) | (simp; omega)) _ | refine Below.alloc ?_ (by first | omega | (simp; done) | (simp; omega)) _ | refine Below.drew ?_ | refine Below.trans ?_ (Below.mono ‹Below _ _ _› (by first | omega | (simp; done) | (simp; omega)))))
theorem mopen_yes (v s n : Int) (w : World) (h : U64 v) (ht : openW v s = some n) : Calls Tryz.prog 94 #[.int .u64 v, .int .u32 s] w fun e w' => e = .returned (.tuple #[.int .i64 n, .bool true]) ∧ Below w.heap.size w w' := by
 unfold openW at ht
 split at ht
 ·rename_i st m hn
  split at ht
  ·rename_i hs
   subst hs
   cases ht
   have HN := Lib.hid (fun w => monote_yes v st n true w h hn)
   clear hn h
   go_enter Tryz.func94, Tryz.ntmps94
   go_wp2_with fail
   refine (HN.out _).mono ?_
   rintro e w1 ⟨rfl, b1⟩
   obtain ⟨b1c, b1f⟩ := bcell b1
   go_wp2
   refine bodyPost_ret (v := .tuple #[.int .i64 n, .bool true]) (by simp [results, Tryz.results94, go_sem, *]) rfl ⟨rfl, b1.alloc b1.size _⟩
  ·cases ht
 ·cases ht
theorem mopen_no (v s : Int) (w : World) (h : U64 v) (ht : openW v s = none) : Calls Tryz.prog 94 #[.int .u64 v, .int .u32 s] w fun e w' => e = .returned (.tuple #[.int .i64 0, .bool false]) ∧ Below w.heap.size w w' := by
 cases hn : noteW v with
 | none =>
  have HN := Lib.hid (fun w => monote_no v w h hn)
  clear hn h ht
  go_enter Tryz.func94, Tryz.ntmps94
  go_wp2_with fail
  refine (HN.out _).mono ?_
  rintro e w1 ⟨rfl, b1⟩
  obtain ⟨b1c, b1f⟩ := bcell b1
  go_wp2
  refine bodyPost_ret (v := .tuple #[.int .i64 0, .bool false]) (by simp [results, Tryz.results94, go_sem, *]) rfl ⟨rfl, b1.alloc b1.size _⟩
 | some x =>
  obtain ⟨st, o, n⟩ := x
  have HN := Lib.hid (fun w => monote_yes v st n o w h hn)
  unfold openW at ht
  rw [hn] at ht
  cases o
  ·clear hn h ht
   go_enter Tryz.func94, Tryz.ntmps94
   go_wp2_with fail
   refine (HN.out _).mono ?_
   rintro e w1 ⟨rfl, b1⟩
   obtain ⟨b1c, b1f⟩ := bcell b1
   go_wp2
   refine bodyPost_ret (v := .tuple #[.int .i64 0, .bool false]) (by simp [results, Tryz.results94, go_sem, *]) rfl ⟨rfl, b1.alloc b1.size _⟩
  ·dsimp only at ht
   split at ht
   ·cases ht
   ·rename_i hs
    have hsb : (st != s) = true := by simpa using hs
    clear hn h ht hs
    go_enter Tryz.func94, Tryz.ntmps94
    go_wp2_with fail
    refine (HN.out _).mono ?_
    rintro e w1 ⟨rfl, b1⟩
    obtain ⟨b1c, b1f⟩ := bcell b1
    go_wp2
    refine bodyPost_ret (v := .tuple #[.int .i64 0, .bool false]) (by simp [results, Tryz.results94, go_sem, *]) rfl ⟨rfl, b1.alloc b1.size _⟩
end Go.Proofs.YtcbikgafdclhaaaGreat
/- words as bytes: the program's. -/
set_option linter.unusedSimpArgs false
set_option linter.unusedVariables false
namespace Go.Proofs.YtcbikgafdclhaaaGreat
open Go.RowKit

def ubytes (l : List Int) : List Value := l.map (.int .u8)
theorem infoU8 : (Tryz.prog.info? 5).map (fun i => (i.zero, i.size, i.bytes)) = some (some (.int .u8 0), 1, 1) := by kernel_rfl
theorem bytesK_snoc (x : Int) : ∀ j, bytesK x (j + 1) = bytesK x j ++ [x / 256 ^ j % 256]
 | 0 => by simp [bytesK]
 | j + 1 => by
  have ih := bytesK_snoc (x / 256) j
  show x % 256 :: bytesK (x / 256) (j + 1) = _
  rw [ih]
  show x % 256 :: (bytesK (x / 256) j ++ _) = (x % 256 :: bytesK (x / 256) j) ++ _
  rw [Int.pow_succ, Int.mul_comm, ← Int.ediv_ediv_of_nonneg (by omega)]
  rfl
theorem bytesF_snoc (l : List Int) (x : Int) : bytesF (l ++ [x]) = bytesF l ++ bytesK x 8 := by simp [bytesF]
theorem take_get {l : List Int} {k : Nat} (h : k < l.length) : l.take (k + 1) = l.take k ++ [l.getD k 0] := by
 rw [List.take_succ_eq_append_getElem h]
 simp [h]
theorem getD_u64b {ws : List Int} (h : ∀ v ∈ ws, U64 v) (k : Nat) : U64 (ws.getD k 0) := by
 by_cases hk : k < ws.length
 ·have e : ws.getD k 0 = ws[k] := by simp [hk]
  rw [e]; exact h _ (List.getElem_mem hk)
 ·have e : ws.getD k 0 = 0 := by simp [show ¬ k < ws.length from hk]
  rw [e]; exact ⟨by omega, by omega⟩
def ByP (w : World) (l : List Int) (e : Ending) (w' : World) : Prop := ∃ v, e = .returned v ∧ w'.ownsRow 0 5 1 v l.length (ubytes l) ∧ v ≠ .slice none 0 0 ∧ (∀ k, v.ownBlock = some k → w.heap.size ≤ k) ∧ Below w.heap.size w w'
structure ByS (w : World) (l : List Int) (v3 : Value) (wr : World) : Prop where
 row : wr.ownsRow 0 5 1 v3 l.length (ubytes l)
 ne : v3 ≠ .slice none 0 0
 fresh : ∀ k, v3.ownBlock = some k → w.heap.size ≤ k
 bel : Below w.heap.size w wr
def ByR (w : World) (ws : List Int) (v3 v12 : Value) (wr : World) : Prop := ∃ k : Nat, k ≤ ws.length ∧ v12 = .int .i64 k ∧ ByS w (bytesF (ws.take k)) v3 wr
def ByI (w : World) (ws : List Int) (k : Nat) (x : Int) (v3 v5 v16 : Value) (wr : World) : Prop := ∃ j : Nat, j ≤ 8 ∧ v16 = .int .i64 j ∧ v5 = .int .u64 (x / 256 ^ j) ∧ ByS w (bytesF (ws.take k) ++ bytesK x j) v3 wr
theorem rd_cell {w : World} {v : Value} {ws : List Int} (h : Rd w v 1 ws.length (ulongs ws)) {k : Nat} (hk : k < ws.length) : ∃ ad c, v = .slice (some ad) ws.length c ∧ w.cell? (ad.add k) = some (.int .u64 (ws.getD k 0)) := by
 rcases h.2 with ⟨-, h0⟩ | ⟨ad, c, rfl, hc⟩
 ·omega
 ·exact ⟨ad, c, rfl, hc k _ (by simp [ulongs, hk])⟩
set_option maxHeartbeats 1000000 in
set_option maxRecDepth 100000 in
theorem pbytes_any (v : Value) (ws : List Int) (w : World) (hR : Rd w v 1 ws.length (ulongs ws)) (hu : ∀ x ∈ ws, U64 x) (hn : ws.length ≤ 1000000) :
 Calls Tryz.prog 8 #[v] w (ByP w (bytesF ws)) := by
 obtain ⟨va, vc, rfl⟩ := hR.len
 have HRd := Lib.hid (fun (W : World) (hb : Below w.heap.size w W) (k : Nat) (hk : k < ws.length) => rd_cell (hR.keepBy hb (Nat.le_refl _)) hk)
 obtain ⟨i0, hi0, hi1, hi2, hi3⟩ := info_parts infoU8
 have HI := Lib.hid (And.intro hi0 (And.intro hi1 (And.intro hi2 hi3)))
 obtain ⟨N, hN⟩ : ∃ N : Nat, 8 * (ws.length : Int) = N := ⟨8 * ws.length, by omega⟩
 obtain ⟨tc, htc⟩ : ∃ tc, madeCells (Value.cells (.int .u8 0)) (N * 1) = tc := ⟨_, rfl⟩
 have htz : tc.size = N := by rw [← htc]; simp [size_madeCells]
 have hmk : ∀ w : World, (Instr.makeSlice 23 (.int .i64 0) (.int .i64 (N : Int))).run Tryz.prog w = .ok (.slice (some ⟨w.heap.size, 0, none⟩) 0 N) (w.alloc (.cells tc 5)) := fun w => by
  have hr1 := run_make (P := Tryz.prog) w 23 5 i0 (.int .u8 0) Tryz.underlying23 hi0 hi1 .i64 .i64 0 N (by omega) (by omega) (by rw [hi3]; omega) (by omega)
  simp only [Int.toNat_natCast, hi2] at hr1
  rw [htc] at hr1
  simpa using hr1
 have hA : ByR w ws (.slice (some ⟨w.heap.size, 0, none⟩) 0 N) (.int .i64 0) (w.alloc (.cells tc 5)) := ⟨0, by omega, rfl, ⟨⟨by simp [ubytes, bytesF], Or.inr ⟨w.heap.size, N, tc, rfl, Nat.zero_le _, heap_alloc_new w _, by simp [bytesF], by unfold maxLen; omega, by omega, by simp [ubytes, bytesF]⟩⟩, by simp, by simp [Value.ownBlock], (Below.refl _ w).alloc (Nat.le_refl _) _⟩⟩
 have HU := Lib.hid (getD_u64b hu)
 have hwN : IntKind.i64.wrap (8 * (ws.length : Int)) = N := by rw [hN]; exact wrap_in _ (by omega)
 clear hi0 hi1 hi2 hi3 hR hu htc htz
 go_enter Tryz.func8, Tryz.ntmps8
 go_wp2
 go_loopw [3, 5, 12, 16] (fun v3 _ v12 _ wr => ByR w ws v3 v12 wr) (fun _ _ v12 _ _ => ws.length - (intOf v12).toNat)
 case atStart => exact hA
 case round =>
  clear hA
  obtain ⟨k, hk, rfl, hS⟩ := hrel
  by_cases hlt : k < ws.length
  ·have hkl : (k : Int) < ws.length := by omega
   obtain ⟨ad, c, hv, hc⟩ := HRd.out _ hS.bel k hlt
   simp only [Value.slice.injEq] at hv
   obtain ⟨rfl, -, rfl⟩ := hv
   have hux := HU.out k
   have htk := take_get hlt
   have HTk := Lib.hid htk
   clear htk
   have HS := Lib.hid hS
   clear hS
   generalize ws.getD k 0 = x at *
   have hB : ByI w ws k x u3 (.int .u64 x) (.int .i64 0) wr := ⟨0, by omega, rfl, by simp, by simpa [bytesK] using HS.out⟩
   go_wp2
   go_loopw [3, 5, 16] (fun v3 v5 v16 wr => ByI w ws k x v3 v5 v16 wr) (fun _ _ v16 _ => 8 - (intOf v16).toNat)
   case atStart => exact hB
   case round =>
    clear hB
    obtain ⟨j, hj, rfl, rfl, hI⟩ := hrel
    by_cases hl8 : j < 8
    ·have hj8 : (j : Int) < 8 := by omega
     have hy0 : 0 ≤ x / 256 ^ j := Int.ediv_nonneg hux.1 (Int.pow_nonneg (by omega))
     have hy1 : x / 256 ^ j < 18446744073709551616 := Int.lt_of_le_of_lt (Int.ediv_le_self _ hux.1) hux.2
     have hys : x / 256 ^ j / 256 = x / 256 ^ (j + 1) := by rw [Int.pow_succ, Int.ediv_ediv_of_nonneg (Int.pow_nonneg (by omega))]
     have hsn := bytesK_snoc x j
     have hlen : (bytesF (ws.take k) ++ bytesK x j).length ≤ 9000000 := by
      rw [List.length_append, bytesF_len, bytesK_len]
      have := List.length_take_le k ws
      omega
     have hw8 : IntKind.u8.wrap (x / 256 ^ j) = x / 256 ^ j % 256 := by rw [IntKind.wrap_u8]
     have HSn := Lib.hid (show bytesF (ws.take k) ++ bytesK x (j + 1) = bytesF (ws.take k) ++ bytesK x j ++ [x / 256 ^ j % 256] by rw [hsn, List.append_assoc])
     have HYs := Lib.hid hys
     clear hsn hys HS
     generalize bytesF (ws.take k) ++ bytesK x j = L at *
     generalize x / 256 ^ j = y at *
     obtain ⟨pa, pc, rfl⟩ := row_shape hI.row
     have HI3 := Lib.hid hI
     clear hI
     go_wp2_with (at_builtin; go_must (refine wpL_append rfl _ _ rfl 5 i0 (.int .u8 0) 1 1 Tryz.underlying23 HI.out.1 HI.out.2.1 HI.out.2.2.1 HI.out.2.2.2 rfl (by decide) (.slice pa L.length pc) L.length (ubytes L) rfl (HI3.out.row.alloc _) ⟨wr.heap.size, 0, none⟩ 1 1 [.int .u8 (y % 256)] rfl rfl (cell_one_new _ _ _) ?c1 ?c2 ?c3 ?_); go_must (case c1 => (simp [Value.oneCell'])); go_must (case c2 => (unfold maxLen; omega)); go_must (case c3 => (omega)); go_must (intro v' w5 hown5 hg5 hnew5 hnil5))
     have HO := Lib.hid hown5
     have hnn : v' ≠ .slice none 0 0 := fun e => by
      have := (hnil5.1 e).2
      omega
     have hfr : ∀ k, v'.ownBlock = some k → w.heap.size ≤ k := fun k hk => by
      rcases hnew5 k hk with h | h
      ·exact HI3.out.fresh k h
      ·have := HI3.out.bel.size; simp at h; omega
     have hbe : Below w.heap.size w w5 := (HI3.out.bel.alloc HI3.out.bel.size _).grown hg5 (by have := HI3.out.bel.size; simp; omega) (fun k hk => HI3.out.fresh k hk)
     clear hown5 hg5 hnew5 hnil5
     go_wp2
     go_roundw
     case rel => exact ⟨j + 1, by omega, by go_num, by rw [HYs.out], ⟨by rw [HSn.out, List.length_append]; simpa [ubytes] using HO.out, hnn, hfr, hbe⟩⟩
     case measure => simp [intOf]; omega
    ·have hj8 : j = 8 := by omega
     subst hj8
     have HI3 := Lib.hid hI
     clear hI
     go_wp2
     go_roundw
     case rel => exact ⟨k + 1, by omega, by go_num, by rw [HTk.out, bytesF_snoc]; exact HI3.out⟩
     case measure => simp [intOf]; omega
  ·have hkn : k = ws.length := by omega
   subst hkn
   have HS := Lib.hid hS
   clear hS
   go_wp2
   go_ret
   have := HS.out
   rw [List.take_length] at this
   exact ⟨_, rfl, this.row, this.ne, this.fresh, this.bel⟩
end Go.Proofs.YtcbikgafdclhaaaGreat
/- the words of changes: the document's mark. -/
set_option linter.unusedSimpArgs false
set_option linter.unusedVariables false
namespace Go.Proofs.YtcbikgafdclhaaaGreat
open Go.RowKit

theorem rhiw_any (v : Int) (w : World) (h : U64 v) : Calls Tryz.prog 114 #[.int .u64 v] w fun e w' => e = .returned (.int .u32 (hiW v)) ∧ Below w.heap.size w w' := rhi_any v w h.1 h.2
theorem rlow_any (v : Int) (w : World) (h : U64 v) : Calls Tryz.prog 118 #[.int .u64 v] w fun e w' => e = .returned (.int .u32 (loW v)) ∧ Below w.heap.size w w' := rlo_any v w h.1 h.2
theorem rjoin_any (h l : Int) (w : World) (h0 : 0 ≤ h ∧ h < 4294967296) (h1 : 0 ≤ l ∧ l < 4294967296) : Calls Tryz.prog 40 #[.int .u32 h, .int .u32 l] w fun e w' => e = .returned (.int .u64 (joinW h l)) ∧ Below w.heap.size w w' := by
 have hwh : IntKind.u64.wrap h = h := wraps_u64 _ (by omega) (by omega)
 have hwl : IntKind.u64.wrap l = l := wraps_u64 _ (by omega) (by omega)
 have hwm : IntKind.u64.wrap (h * 4294967296) = h * 4294967296 := wraps_u64 _ (by omega) (by omega)
 have ho : IntKind.u64.wrap (h * 4294967296 + l) = h * 4294967296 + l := wraps_u64 _ (by omega) (by omega)
 clear h0 h1
 go_enter Tryz.func40, Tryz.ntmps40
 go_wp2
 go_ret
 exact ⟨rfl, Below.refl _ _⟩
theorem rotip_yes (v s u : Int) (w : World) (h : U64 v) (ht : tipW v = some (s, u)) : Calls Tryz.prog 64 #[.int .u64 v] w fun e w' => e = .returned (.tuple #[.int .u32 s, .int .i64 u, .bool true]) ∧ Below w.heap.size w w' := by
 unfold tipW at ht
 split at ht
 ·rename_i hl
  simp only [Option.some.injEq, Prod.mk.injEq] at ht
  obtain ⟨rfl, rfl⟩ := ht
  have HL := Lib.hid (fun w => rlow_any v w h)
  have HH := Lib.hid (fun w => rhiw_any v w h)
  have hb := lo_bd v
  generalize loW v = u at *
  generalize hiW v = s at *
  clear h
  go_enter Tryz.func64, Tryz.ntmps64
  go_wp2_with fail
  refine (HL.out _).mono ?_
  rintro e w1 ⟨rfl, b1⟩
  obtain ⟨b1c, b1f⟩ := bcell b1
  go_wp2_with fail
  refine (HH.out _).mono ?_
  rintro e w2 ⟨rfl, b2⟩
  obtain ⟨b2c, b2f⟩ := bcell b2
  go_wp2_with fail
  refine (HL.out _).mono ?_
  rintro e w3 ⟨rfl, b3⟩
  obtain ⟨b3c, b3f⟩ := bcell b3
  go_wp2
  refine bodyPost_ret (v := .tuple #[.int .u32 s, .int .i64 u, .bool true]) (by simp [results, Tryz.results64, go_sem]) rfl ⟨rfl, below2 (below2 b1 b2) b3⟩
 ·cases ht
theorem rotip_no (v : Int) (w : World) (h : U64 v) (ht : tipW v = none) : Calls Tryz.prog 64 #[.int .u64 v] w fun e w' => e = .returned (.tuple #[.int .u32 0, .int .i64 0, .bool false]) ∧ Below w.heap.size w w' := by
 unfold tipW at ht
 split at ht
 ·cases ht
 ·rename_i hl
  have HL := Lib.hid (fun w => rlow_any v w h)
  have hb := lo_bd v
  generalize loW v = u at *
  clear h
  go_enter Tryz.func64, Tryz.ntmps64
  go_wp2_with fail
  refine (HL.out _).mono ?_
  rintro e w1 ⟨rfl, b1⟩
  obtain ⟨b1c, b1f⟩ := bcell b1
  go_wp2
  refine bodyPost_ret (v := .tuple #[.int .u32 0, .int .i64 0, .bool false]) (by simp [results, Tryz.results64, go_sem]) rfl ⟨rfl, b1⟩
theorem rentry_yes (v c x : Int) (w : World) (h : U64 v) (ht : entryW v = some (c, x)) : Calls Tryz.prog 205 #[.int .u64 v] w fun e w' => e = .returned (.tuple #[.agg #[.int .i64 c, .int .u32 x], .bool true]) ∧ Below w.heap.size w w' := by
 unfold entryW at ht
 split at ht
 ·rename_i hl
  simp only [Option.some.injEq, Prod.mk.injEq] at ht
  obtain ⟨rfl, rfl⟩ := ht
  have HL := Lib.hid (fun w => rlow_any v w h)
  have HH := Lib.hid (fun w => rhiw_any v w h)
  have hb := hi_bd h
  generalize loW v = u at *
  generalize hiW v = s at *
  clear h
  go_enter Tryz.func205, Tryz.ntmps205
  go_wp2_with fail
  refine (HH.out _).mono ?_
  rintro e w1 ⟨rfl, b1⟩
  obtain ⟨b1c, b1f⟩ := bcell b1
  have b1z0 : w.heap.size < w1.heap.size := by have := b1.size; first | omega | (simp at this; omega)
  go_wp2_with fail
  refine (HH.out _).mono ?_
  rintro e w2 ⟨rfl, b2⟩
  obtain ⟨b2c, b2f⟩ := bcell b2
  have b2z0 : w.heap.size < w2.heap.size := by have := b2.size; first | omega | (simp at this; omega)
  go_wp2_with fail
  refine (HL.out _).mono ?_
  rintro e w3 ⟨rfl, b3⟩
  obtain ⟨b3c, b3f⟩ := bcell b3
  go_wp2
  refine bodyPost_ret (v := .tuple #[.agg #[.int .i64 s, .int .u32 u], .bool true]) (by simp [results, Tryz.results205, go_sem, *]) rfl ⟨rfl, ?_⟩
  (repeat (first | exact Below.refl _ _ | assumption | refine Below.setCell ?_ (by first | omega | (simp; done) | (simp; omega)) _ | refine Below.alloc ?_ (by first | omega | (simp; done) | (simp; omega)) _ | refine Below.drew ?_ | refine Below.trans ?_ (Below.mono ‹Below _ _ _› (by first | omega | (simp; done) | (simp; omega)))))
 ·cases ht
theorem rentry_no (v : Int) (w : World) (h : U64 v) (ht : entryW v = none) : Calls Tryz.prog 205 #[.int .u64 v] w fun e w' => e = .returned (.tuple #[.agg #[.int .i64 0, .int .u32 0], .bool false]) ∧ Below w.heap.size w w' := by
 unfold entryW at ht
 split at ht
 ·cases ht
 ·rename_i hl
  have HH := Lib.hid (fun w => rhiw_any v w h)
  have hb := hi_bd h
  generalize hiW v = s at *
  clear h
  go_enter Tryz.func205, Tryz.ntmps205
  go_wp2_with fail
  refine (HH.out _).mono ?_
  rintro e w1 ⟨rfl, b1⟩
  obtain ⟨b1c, b1f⟩ := bcell b1
  have b1z0 : w.heap.size < w1.heap.size := by have := b1.size; first | omega | (simp at this; omega)
  go_wp2
  refine bodyPost_ret (v := .tuple #[.agg #[.int .i64 0, .int .u32 0], .bool false]) (by simp [results, Tryz.results205, go_sem, *]) rfl ⟨rfl, ?_⟩
  (repeat (first | exact Below.refl _ _ | assumption | refine Below.setCell ?_ (by first | omega | (simp; done) | (simp; omega)) _ | refine Below.alloc ?_ (by first | omega | (simp; done) | (simp; omega)) _ | refine Below.drew ?_ | refine Below.trans ?_ (Below.mono ‹Below _ _ _› (by first | omega | (simp; done) | (simp; omega)))))
theorem ronote_yes (v st n : Int) (o : Bool) (w : World) (h : U64 v) (ht : noteW v = some (st, o, n)) : Calls Tryz.prog 115 #[.int .u64 v] w fun e w' => e = .returned (.tuple #[.agg #[.int .u32 st, .bool o, .int .i64 n], .bool true]) ∧ Below w.heap.size w w' := by
 obtain ⟨e1, e2, e3, e4, e5⟩ := note_bd h ht
 have hb := lo_bd v
 have HL := Lib.hid (fun w => rlow_any v w h)
 have HH := Lib.hid (fun w => rhiw_any v w h)
 rw [← e1] at HH
 by_cases hl : 2147483648 ≤ loW v
 ·have e6 : loW v = n + 2147483648 := by omega
  have e7 : o = true := by rw [e4]; simpa using hl
  subst e7
  rw [e6] at HL
  clear ht e1 e4 e5 e6 hb hl h
  go_enter Tryz.func115, Tryz.ntmps115
  go_wp2_with fail
  refine (HL.out _).mono ?_
  rintro e w1 ⟨rfl, b1⟩
  obtain ⟨b1c, b1f⟩ := bcell b1
  have b1z0 : w.heap.size < w1.heap.size := by have := b1.size; first | omega | (simp at this; omega)
  go_wp2_with fail
  refine (HH.out _).mono ?_
  rintro e w2 ⟨rfl, b2⟩
  obtain ⟨b2c, b2f⟩ := bcell b2
  have b2z0 : w.heap.size < w2.heap.size := by have := b2.size; first | omega | (simp at this; omega)
  go_wp2
  refine bodyPost_ret (v := .tuple #[.agg #[.int .u32 st, .bool true, .int .i64 n], .bool true]) (by simp [results, Tryz.results115, go_sem, *]) rfl ⟨rfl, ?_⟩
  (repeat (first | exact Below.refl _ _ | assumption | refine Below.setCell ?_ (by first | omega | (simp; done) | (simp; omega)) _ | refine Below.alloc ?_ (by first | omega | (simp; done) | (simp; omega)) _ | refine Below.drew ?_ | refine Below.trans ?_ (Below.mono ‹Below _ _ _› (by first | omega | (simp; done) | (simp; omega)))))
 ·have e6 : loW v = n := by omega
  have e7 : o = false := by rw [e4]; simpa using hl
  subst e7
  rw [e6] at HL
  clear ht e1 e4 e5 e6 hb hl h
  go_enter Tryz.func115, Tryz.ntmps115
  go_wp2_with fail
  refine (HL.out _).mono ?_
  rintro e w1 ⟨rfl, b1⟩
  obtain ⟨b1c, b1f⟩ := bcell b1
  have b1z0 : w.heap.size < w1.heap.size := by have := b1.size; first | omega | (simp at this; omega)
  go_wp2_with fail
  refine (HH.out _).mono ?_
  rintro e w2 ⟨rfl, b2⟩
  obtain ⟨b2c, b2f⟩ := bcell b2
  have b2z0 : w.heap.size < w2.heap.size := by have := b2.size; first | omega | (simp at this; omega)
  go_wp2
  refine bodyPost_ret (v := .tuple #[.agg #[.int .u32 st, .bool false, .int .i64 n], .bool true]) (by simp [results, Tryz.results115, go_sem, *]) rfl ⟨rfl, ?_⟩
  (repeat (first | exact Below.refl _ _ | assumption | refine Below.setCell ?_ (by first | omega | (simp; done) | (simp; omega)) _ | refine Below.alloc ?_ (by first | omega | (simp; done) | (simp; omega)) _ | refine Below.drew ?_ | refine Below.trans ?_ (Below.mono ‹Below _ _ _› (by first | omega | (simp; done) | (simp; omega)))))
theorem ronote_no (v : Int) (w : World) (h : U64 v) (ht : noteW v = none) : Calls Tryz.prog 115 #[.int .u64 v] w fun e w' => e = .returned (.tuple #[.agg #[.int .u32 0, .bool false, .int .i64 0], .bool false]) ∧ Below w.heap.size w w' := by
 have hn : 96 < loW v % 2147483648 := by
  unfold noteW at ht
  split at ht
  ·cases ht
  ·omega
 have hb := lo_bd v
 have HL := Lib.hid (fun w => rlow_any v w h)
 have HH := Lib.hid (fun w => rhiw_any v w h)
 generalize hiW v = s at *
 by_cases hl : 2147483648 ≤ loW v
 ·obtain ⟨n, e6⟩ : ∃ n, loW v = n + 2147483648 := ⟨loW v - 2147483648, by omega⟩
  have e8 : 96 < n := by omega
  have e9 : n < 2147483648 := by omega
  rw [e6] at HL
  clear ht e6 hb hl h hn
  go_enter Tryz.func115, Tryz.ntmps115
  go_wp2_with fail
  refine (HL.out _).mono ?_
  rintro e w1 ⟨rfl, b1⟩
  obtain ⟨b1c, b1f⟩ := bcell b1
  have b1z0 : w.heap.size < w1.heap.size := by have := b1.size; first | omega | (simp at this; omega)
  go_wp2_with fail
  refine (HH.out _).mono ?_
  rintro e w2 ⟨rfl, b2⟩
  obtain ⟨b2c, b2f⟩ := bcell b2
  have b2z0 : w.heap.size < w2.heap.size := by have := b2.size; first | omega | (simp at this; omega)
  go_wp2
  refine bodyPost_ret (v := .tuple #[.agg #[.int .u32 0, .bool false, .int .i64 0], .bool false]) (by simp [results, Tryz.results115, go_sem, *]) rfl ⟨rfl, ?_⟩
  (repeat (first | exact Below.refl _ _ | assumption | refine Below.setCell ?_ (by first | omega | (simp; done) | (simp; omega)) _ | refine Below.alloc ?_ (by first | omega | (simp; done) | (simp; omega)) _ | refine Below.drew ?_ | refine Below.trans ?_ (Below.mono ‹Below _ _ _› (by first | omega | (simp; done) | (simp; omega)))))
 ·have e8 : 96 < loW v := by omega
  generalize loW v = n at *
  clear ht hn h
  go_enter Tryz.func115, Tryz.ntmps115
  go_wp2_with fail
  refine (HL.out _).mono ?_
  rintro e w1 ⟨rfl, b1⟩
  obtain ⟨b1c, b1f⟩ := bcell b1
  have b1z0 : w.heap.size < w1.heap.size := by have := b1.size; first | omega | (simp at this; omega)
  go_wp2_with fail
  refine (HH.out _).mono ?_
  rintro e w2 ⟨rfl, b2⟩
  obtain ⟨b2c, b2f⟩ := bcell b2
  have b2z0 : w.heap.size < w2.heap.size := by have := b2.size; first | omega | (simp at this; omega)
  go_wp2
  refine bodyPost_ret (v := .tuple #[.agg #[.int .u32 0, .bool false, .int .i64 0], .bool false]) (by simp [results, Tryz.results115, go_sem, *]) rfl ⟨rfl, ?_⟩
  (repeat (first | exact Below.refl _ _ | assumption | refine Below.setCell ?_ (by first | omega | (simp; done) | (simp; omega)) _ | refine Below.alloc ?_ (by first | omega | (simp; done) | (simp; omega)) _ | refine Below.drew ?_ | refine Below.trans ?_ (Below.mono ‹Below _ _ _› (by first | omega | (simp; done) | (simp; omega)))))
theorem ropen_yes (v s n : Int) (w : World) (h : U64 v) (ht : openW v s = some n) : Calls Tryz.prog 163 #[.int .u64 v, .int .u32 s] w fun e w' => e = .returned (.tuple #[.int .i64 n, .bool true]) ∧ Below w.heap.size w w' := by
 unfold openW at ht
 split at ht
 ·rename_i st m hn
  split at ht
  ·rename_i hs
   subst hs
   cases ht
   have HN := Lib.hid (fun w => ronote_yes v st n true w h hn)
   clear hn h
   go_enter Tryz.func163, Tryz.ntmps163
   go_wp2_with fail
   refine (HN.out _).mono ?_
   rintro e w1 ⟨rfl, b1⟩
   obtain ⟨b1c, b1f⟩ := bcell b1
   go_wp2
   refine bodyPost_ret (v := .tuple #[.int .i64 n, .bool true]) (by simp [results, Tryz.results163, go_sem, *]) rfl ⟨rfl, b1.alloc b1.size _⟩
  ·cases ht
 ·cases ht
theorem ropen_no (v s : Int) (w : World) (h : U64 v) (ht : openW v s = none) : Calls Tryz.prog 163 #[.int .u64 v, .int .u32 s] w fun e w' => e = .returned (.tuple #[.int .i64 0, .bool false]) ∧ Below w.heap.size w w' := by
 cases hn : noteW v with
 | none =>
  have HN := Lib.hid (fun w => ronote_no v w h hn)
  clear hn h ht
  go_enter Tryz.func163, Tryz.ntmps163
  go_wp2_with fail
  refine (HN.out _).mono ?_
  rintro e w1 ⟨rfl, b1⟩
  obtain ⟨b1c, b1f⟩ := bcell b1
  go_wp2
  refine bodyPost_ret (v := .tuple #[.int .i64 0, .bool false]) (by simp [results, Tryz.results163, go_sem, *]) rfl ⟨rfl, b1.alloc b1.size _⟩
 | some x =>
  obtain ⟨st, o, n⟩ := x
  have HN := Lib.hid (fun w => ronote_yes v st n o w h hn)
  unfold openW at ht
  rw [hn] at ht
  cases o
  ·clear hn h ht
   go_enter Tryz.func163, Tryz.ntmps163
   go_wp2_with fail
   refine (HN.out _).mono ?_
   rintro e w1 ⟨rfl, b1⟩
   obtain ⟨b1c, b1f⟩ := bcell b1
   go_wp2
   refine bodyPost_ret (v := .tuple #[.int .i64 0, .bool false]) (by simp [results, Tryz.results163, go_sem, *]) rfl ⟨rfl, b1.alloc b1.size _⟩
  ·dsimp only at ht
   split at ht
   ·cases ht
   ·rename_i hs
    have hsb : (st == s) = false := by simpa using hs
    clear hn h ht hs
    go_enter Tryz.func163, Tryz.ntmps163
    go_wp2_with fail
    refine (HN.out _).mono ?_
    rintro e w1 ⟨rfl, b1⟩
    obtain ⟨b1c, b1f⟩ := bcell b1
    go_wp2
    refine bodyPost_ret (v := .tuple #[.int .i64 0, .bool false]) (by simp [results, Tryz.results163, go_sem, *]) rfl ⟨rfl, b1.alloc b1.size _⟩
/-- a note's word. -/
def noteWord (st n : Int) (o : Bool) : Int := joinW st (n + if o = true then 2147483648 else 0)
theorem rnote_any (st n : Int) (o : Bool) (w : World) (h : 0 ≤ st ∧ st < 4294967296) (h1 : 0 ≤ n) (h2 : n ≤ 96) : Calls Tryz.prog 117 #[.agg #[.int .u32 st, .bool o, .int .i64 n]] w fun e w' => e = .returned (.tuple #[.int .u64 (noteWord st n o), .bool true]) ∧ Below w.heap.size w w' := by
 have hw : IntKind.u32.wrap n = n := IntWalk.u32_in _ (by omega)
 unfold noteWord
 cases o
 ·have HJ := Lib.hid (fun w => rjoin_any st n w h (by omega))
  simp only [Bool.false_eq_true, if_false, Int.add_zero]
  generalize joinW st n = x at *
  go_enter Tryz.func117, Tryz.ntmps117
  go_wp2_with fail
  refine (HJ.out _).mono ?_
  rintro e w1 ⟨rfl, b1⟩
  go_wp2
  refine bodyPost_ret (v := .tuple #[.int .u64 x, .bool true]) (by simp [results, Tryz.results117, go_sem, *]) rfl ⟨rfl, ?_⟩
  (repeat (first | exact Below.refl _ _ | assumption | refine Below.setCell ?_ (by first | omega | (simp; done) | (simp; omega)) _ | refine Below.alloc ?_ (by first | omega | (simp; done) | (simp; omega)) _ | refine Below.drew ?_ | refine Below.trans ?_ (Below.mono ‹Below _ _ _› (by first | omega | (simp; done) | (simp; omega)))))
 ·have HJ := Lib.hid (fun w => rjoin_any st (n + 2147483648) w h (by omega))
  simp only [if_true]
  generalize joinW st (n + 2147483648) = x at *
  go_enter Tryz.func117, Tryz.ntmps117
  go_wp2_with fail
  refine (HJ.out _).mono ?_
  rintro e w1 ⟨rfl, b1⟩
  go_wp2
  refine bodyPost_ret (v := .tuple #[.int .u64 x, .bool true]) (by simp [results, Tryz.results117, go_sem, *]) rfl ⟨rfl, ?_⟩
  (repeat (first | exact Below.refl _ _ | assumption | refine Below.setCell ?_ (by first | omega | (simp; done) | (simp; omega)) _ | refine Below.alloc ?_ (by first | omega | (simp; done) | (simp; omega)) _ | refine Below.drew ?_ | refine Below.trans ?_ (Below.mono ‹Below _ _ _› (by first | omega | (simp; done) | (simp; omega)))))
end Go.Proofs.YtcbikgafdclhaaaGreat
/- places of makers' words: the program's, the document's. -/
set_option linter.unusedSimpArgs false
set_option linter.unusedVariables false
namespace Go.Proofs.YtcbikgafdclhaaaGreat
open Go.RowKit

theorem makers_bd {t p s : Int} (h : rightB t p s = true) : 0 ≤ cellsN t p ∧ cellsN t p ≤ 10000 ∧ 16 + cellsN t p ≤ makersN t p ∧ makersN t p ≤ 10000 ∧ wordsN t p = makersN t p + 120 * (t + 1) := by
 have := right_bd h
 refine ⟨by unfold cellsN; omega, by unfold cellsN; omega, by unfold makersN; omega, by unfold makersN cellsN; omega, rfl⟩
theorem lword_yes (t p s m u f i n : Int) (w : World) (h1 : 0 ≤ u) (h2 : u ≤ t) (h3 : t ≤ 16) (h4 : 0 ≤ m) (h5 : m ≤ 10000) (h6 : 0 ≤ f) (h7 : f ≤ 100) (h8 : 0 ≤ i) (h9 : i < n) (h10 : n ≤ 100) :
 Calls Tryz.prog 140 #[.agg #[.int .i64 t, .int .i64 p, .int .i64 s, .int .i64 m], .int .i64 u, .int .i64 f, .int .i64 i, .int .i64 n] w fun e w' => e = .returned (.int .i64 (m + 120 * u + f + i)) ∧ Below w.heap.size w w' := by
 have HW := Lib.hid (fun w => within_any (m + 120 * u + f) i n w (by omega) (by omega) (by omega))
 rw [show withinF (m + 120 * u + f) i n = m + 120 * u + f + i by unfold withinF; rw [if_neg (by omega)]] at HW
 have hut : ¬ t < u := by omega
 clear h8 h9 h10
 go_enter Tryz.func140, Tryz.ntmps140
 go_wp2_with fail
 refine (HW.out _).mono ?_
 rintro e w1 ⟨rfl, rfl⟩
 go_wp2
 go_ret
 exact ⟨rfl, (Below.refl _ _).alloc (Nat.le_refl _) _⟩
theorem lword_no (t p s m u f i n : Int) (w : World) (h1 : 0 ≤ u) (h2 : t < u) :
 Calls Tryz.prog 140 #[.agg #[.int .i64 t, .int .i64 p, .int .i64 s, .int .i64 m], .int .i64 u, .int .i64 f, .int .i64 i, .int .i64 n] w fun e w' => e = .returned (.int .i64 (-1)) ∧ Below w.heap.size w w' := by
 go_enter Tryz.func140, Tryz.ntmps140
 go_wp2
 go_ret
 exact ⟨rfl, (Below.refl _ _).alloc (Nat.le_refl _) _⟩
section
variable {t p s : Int}
theorem pnote_any (hr : rightB t p s = true) (u : Int) (w : World) (h1 : 0 ≤ u) (h2 : u ≤ t) :
 Calls Tryz.prog 95 #[.agg #[.int .i64 t, .int .i64 p, .int .i64 s], .int .i64 u] w fun e w' => e = .returned (.int .i64 (noteAt t p u)) ∧ Below w.heap.size w w' := by
 have hb := makers_bd hr
 have ht := (right_bd hr).2.1
 have HL := Lib.hid (fun w => lay_right t p s w hr)
 have HW := Lib.hid (fun w => lword_yes t p s (makersN t p) u 16 0 1 w h1 h2 ht (by omega) (by omega) (by omega) (by omega) (by omega) (by omega) (by omega))
 rw [show makersN t p + 120 * u + 16 + 0 = noteAt t p u by unfold noteAt; omega] at HW
 generalize noteAt t p u = x at *
 generalize makersN t p = m at *
 clear hr hb
 go_enter Tryz.func95, Tryz.ntmps95
 go_wp2_with fail
 refine (HL.out _).mono ?_
 rintro e w1 ⟨rfl, ha⟩
 obtain ⟨hac, haf⟩ := bcell ha
 have haz0 : w.heap.size < w1.heap.size := by have := ha.size; first | omega | (simp at this; omega)
 go_wp2_with fail
 refine (HW.out _).mono ?_
 rintro e w2 ⟨rfl, hb2⟩
 obtain ⟨hb2c, hb2f⟩ := bcell hb2
 go_wp2
 go_ret
 refine ⟨rfl, ?_⟩
 (repeat (first | exact Below.refl _ _ | assumption | refine Below.setCell ?_ (by first | omega | (simp; done) | (simp; omega)) _ | refine Below.alloc ?_ (by first | omega | (simp; done) | (simp; omega)) _ | refine Below.drew ?_ | refine Below.trans ?_ (Below.mono ‹Below _ _ _› (by first | omega | (simp; done) | (simp; omega)))))
theorem pnote_no (hr : rightB t p s = true) (u : Int) (w : World) (h1 : 0 ≤ u) (h2 : t < u) :
 Calls Tryz.prog 95 #[.agg #[.int .i64 t, .int .i64 p, .int .i64 s], .int .i64 u] w fun e w' => e = .returned (.int .i64 (-1)) ∧ Below w.heap.size w w' := by
 have HL := Lib.hid (fun w => lay_right t p s w hr)
 have HW := Lib.hid (fun w => lword_no t p s (makersN t p) u 16 0 1 w h1 h2)
 generalize makersN t p = m at *
 clear hr
 go_enter Tryz.func95, Tryz.ntmps95
 go_wp2_with fail
 refine (HL.out _).mono ?_
 rintro e w1 ⟨rfl, ha⟩
 obtain ⟨hac, haf⟩ := bcell ha
 have haz0 : w.heap.size < w1.heap.size := by have := ha.size; first | omega | (simp at this; omega)
 go_wp2_with fail
 refine (HW.out _).mono ?_
 rintro e w2 ⟨rfl, hb2⟩
 obtain ⟨hb2c, hb2f⟩ := bcell hb2
 go_wp2
 go_ret
 refine ⟨rfl, ?_⟩
 (repeat (first | exact Below.refl _ _ | assumption | refine Below.setCell ?_ (by first | omega | (simp; done) | (simp; omega)) _ | refine Below.alloc ?_ (by first | omega | (simp; done) | (simp; omega)) _ | refine Below.drew ?_ | refine Below.trans ?_ (Below.mono ‹Below _ _ _› (by first | omega | (simp; done) | (simp; omega)))))
theorem plog_any (hr : rightB t p s = true) (u i : Int) (w : World) (h1 : 0 ≤ u) (h2 : u ≤ t) (h3 : 0 ≤ i) (h4 : i < 96) :
 Calls Tryz.prog 141 #[.agg #[.int .i64 t, .int .i64 p, .int .i64 s], .int .i64 u, .int .i64 i] w fun e w' => e = .returned (.int .i64 (logAt t p u i)) ∧ Below w.heap.size w w' := by
 have hb := makers_bd hr
 have ht := (right_bd hr).2.1
 have HL := Lib.hid (fun w => lay_right t p s w hr)
 have HW := Lib.hid (fun w => lword_yes t p s (makersN t p) u 24 i 96 w h1 h2 ht (by omega) (by omega) (by omega) (by omega) (by omega) (by omega) (by omega))
 rw [show makersN t p + 120 * u + 24 + i = logAt t p u i by unfold logAt; omega] at HW
 generalize logAt t p u i = x at *
 generalize makersN t p = m at *
 clear hr hb
 go_enter Tryz.func141, Tryz.ntmps141
 go_wp2_with fail
 refine (HL.out _).mono ?_
 rintro e w1 ⟨rfl, ha⟩
 obtain ⟨hac, haf⟩ := bcell ha
 have haz0 : w.heap.size < w1.heap.size := by have := ha.size; first | omega | (simp at this; omega)
 go_wp2_with fail
 refine (HW.out _).mono ?_
 rintro e w2 ⟨rfl, hb2⟩
 obtain ⟨hb2c, hb2f⟩ := bcell hb2
 go_wp2
 go_ret
 refine ⟨rfl, ?_⟩
 (repeat (first | exact Below.refl _ _ | assumption | refine Below.setCell ?_ (by first | omega | (simp; done) | (simp; omega)) _ | refine Below.alloc ?_ (by first | omega | (simp; done) | (simp; omega)) _ | refine Below.drew ?_ | refine Below.trans ?_ (Below.mono ‹Below _ _ _› (by first | omega | (simp; done) | (simp; omega)))))
theorem rmaker_any (hr : rightB t p s = true) (u : Int) (w : World) (h1 : 0 ≤ u) (h2 : u ≤ t) :
 Calls Tryz.prog 165 #[.agg #[.int .i64 t, .int .i64 p, .int .i64 s], .int .i64 u] w fun e w' => e = .returned (.int .i64 (makersN t p + 120 * u)) ∧ Below w.heap.size w w' := by
 have hb := makers_bd hr
 have ht := (right_bd hr).2.1
 have HF := Lib.hid (fun w => rfirst_any t p s w hr)
 have HC := Lib.hid (fun w => rright_any t p s w)
 rw [hr] at HC
 have e1 : IntKind.i64.wrap (120 * u) = 120 * u := wrap_in _ (by omega)
 have e2 : IntKind.i64.wrap (makersN t p + 120 * u) = makersN t p + 120 * u := wrap_in _ (by omega)
 generalize makersN t p = m at *
 clear hr hb
 have hut : ¬ t < u := by omega
 go_enter Tryz.func165, Tryz.ntmps165
 go_wp2_with fail
 refine (HC.out _).mono ?_
 rintro e w1 ⟨rfl, ha⟩
 obtain ⟨hac, haf⟩ := bcell ha
 have haz0 : w.heap.size < w1.heap.size := by have := ha.size; first | omega | (simp at this; omega)
 go_wp2_with fail
 refine (HF.out _).mono ?_
 rintro e w2 ⟨rfl, hb2⟩
 obtain ⟨hb2c, hb2f⟩ := bcell hb2
 go_wp2
 go_ret
 refine ⟨rfl, ?_⟩
 (repeat (first | exact Below.refl _ _ | assumption | refine Below.setCell ?_ (by first | omega | (simp; done) | (simp; omega)) _ | refine Below.alloc ?_ (by first | omega | (simp; done) | (simp; omega)) _ | refine Below.drew ?_ | refine Below.trans ?_ (Below.mono ‹Below _ _ _› (by first | omega | (simp; done) | (simp; omega)))))
theorem rnoteat_any (hr : rightB t p s = true) (u : Int) (w : World) (h1 : 0 ≤ u) (h2 : u ≤ t) :
 Calls Tryz.prog 116 #[.agg #[.int .i64 t, .int .i64 p, .int .i64 s], .int .i64 u] w fun e w' => e = .returned (.int .i64 (noteAt t p u)) ∧ Below w.heap.size w w' := by
 have hb := makers_bd hr
 have HM := Lib.hid (fun w => rmaker_any hr u w h1 h2)
 rw [show noteAt t p u = makersN t p + 120 * u + 16 by unfold noteAt; omega]
 have ht := (right_bd hr).2.1
 generalize hx : makersN t p + 120 * u = x at *
 have hx2 : 0 ≤ x ∧ x ≤ 100000 := by omega
 clear hr hb hx
 go_enter Tryz.func116, Tryz.ntmps116
 go_wp2_with fail
 refine (HM.out _).mono ?_
 rintro e w1 ⟨rfl, ha⟩
 obtain ⟨hac, haf⟩ := bcell ha
 go_wp2
 go_ret
 refine ⟨rfl, ?_⟩
 (repeat (first | exact Below.refl _ _ | assumption | refine Below.setCell ?_ (by first | omega | (simp; done) | (simp; omega)) _ | refine Below.alloc ?_ (by first | omega | (simp; done) | (simp; omega)) _ | refine Below.drew ?_ | refine Below.trans ?_ (Below.mono ‹Below _ _ _› (by first | omega | (simp; done) | (simp; omega)))))
theorem rlogat_any (hr : rightB t p s = true) (u i : Int) (w : World) (h1 : 0 ≤ u) (h2 : u ≤ t) (h3 : 0 ≤ i) (h4 : i < 96) :
 Calls Tryz.prog 206 #[.agg #[.int .i64 t, .int .i64 p, .int .i64 s], .int .i64 u, .int .i64 i] w fun e w' => e = .returned (.int .i64 (logAt t p u i)) ∧ Below w.heap.size w w' := by
 have hb := makers_bd hr
 have HM := Lib.hid (fun w => rmaker_any hr u w h1 h2)
 rw [show logAt t p u i = makersN t p + 120 * u + 24 + i by unfold logAt; omega]
 have ht := (right_bd hr).2.1
 generalize hx : makersN t p + 120 * u = x at *
 have hx2 : 0 ≤ x ∧ x ≤ 100000 := by omega
 have hi : ¬ 95 < i := by omega
 clear hr hb hx
 go_enter Tryz.func206, Tryz.ntmps206
 go_wp2_with fail
 refine (HM.out _).mono ?_
 rintro e w1 ⟨rfl, ha⟩
 obtain ⟨hac, haf⟩ := bcell ha
 go_wp2
 go_ret
 refine ⟨rfl, ?_⟩
 (repeat (first | exact Below.refl _ _ | assumption | refine Below.setCell ?_ (by first | omega | (simp; done) | (simp; omega)) _ | refine Below.alloc ?_ (by first | omega | (simp; done) | (simp; omega)) _ | refine Below.drew ?_ | refine Below.trans ?_ (Below.mono ‹Below _ _ _› (by first | omega | (simp; done) | (simp; omega)))))
end
end Go.Proofs.YtcbikgafdclhaaaGreat
/- something that lies at a block, under way: beside boxes of the call's own; two such things. -/
set_option linter.unusedSimpArgs false
set_option linter.unusedVariables false
namespace Go.Proofs.YtcbikgafdclhaaaGreat
open Go.RowKit

/-- what a predicate of such things must bear: it speaks of the blocks of S alone. -/
structure KeepsG {α : Type} (R : World → Nat → (Nat → Prop) → α → Prop) : Prop where
 keep : ∀ {w w' : World} {b : Nat} {S T : Nat → Prop} {s : α}, R w b S s → Fr T w w' → (∀ k, S k → ¬ T k) → R w' b S s
 lt : ∀ {w : World} {b : Nat} {S : Nat → Prop} {s : α}, R w b S s → ∀ k, S k → k < w.heap.size
 mono : ∀ {w : World} {b : Nat} {S S' : Nat → Prop} {s : α}, R w b S s → (∀ k, S k → S' k) → (∀ k, S' k → k < w.heap.size) → R w b S' s

/-- since w0 nothing but S has turned; the thing at b is s; the boxes Ls are none of its. -/
structure NSt {α : Type} (R : World → Nat → (Nat → Prop) → α → Prop) (w0 : World) (b : Nat) (S : Nat → Prop) (Ls : List Nat) (s : α) (w : World) : Prop where
 ex : ∃ S1, R w b S1 s ∧ (∀ k, S1 k → S k ∨ w0.heap.size ≤ k) ∧ (∀ L ∈ Ls, ¬ S1 L)
 fr : Fr S w0 w
 ls : ∀ L ∈ Ls, L < w.heap.size ∧ w0.heap.size ≤ L
 s0 : ∀ k, S k → k < w0.heap.size

section
variable {α : Type} {R : World → Nat → (Nat → Prop) → α → Prop} {w0 w w' : World} {b : Nat} {S : Nat → Prop} {Ls : List Nat} {s s' : α}

theorem NSt.start (K : KeepsG R) (h : R w b S s) : NSt R w b S [] s w := ⟨⟨S, h, fun _ hk => Or.inl hk, by simp⟩, Fr.refl _ _, by simp, K.lt h⟩

theorem NSt.below (K : KeepsG R) (h : NSt R w0 b S Ls s w) (hb : Below w.heap.size w w') : NSt R w0 b S Ls s w' := by
 obtain ⟨S1, h1, h2, h4⟩ := h.ex
 exact ⟨⟨S1, K.keep (T := fun _ => False) h1 (Fr.of_below hb) (fun _ _ x => x), h2, h4⟩, h.fr.trans (S1 := fun _ => False) (Fr.of_below hb) (fun _ x => x.elim), fun L hL => ⟨Nat.lt_of_lt_of_le (h.ls L hL).1 hb.size, (h.ls L hL).2⟩, h.s0⟩

theorem NSt.alloc (K : KeepsG R) (h : NSt R w0 b S Ls s w) (o : Obj) : NSt R w0 b S (w.heap.size :: Ls) s (w.alloc o) := by
 have hb : Below w.heap.size w (w.alloc o) := (Below.refl _ _).alloc (Nat.le_refl _) o
 obtain ⟨S1, h1, h2, h4⟩ := h.ex
 refine ⟨⟨S1, K.keep (T := fun _ => False) h1 (Fr.of_below hb) (fun _ _ x => x), h2, ?_⟩, h.fr.trans (S1 := fun _ => False) (Fr.of_below hb) (fun _ x => x.elim), ?_, h.s0⟩
 ·intro L hL
  simp at hL
  rcases hL with rfl | hL
  ·exact fun x => Nat.lt_irrefl _ (K.lt h1 _ x)
  ·exact h4 L hL
 ·intro L hL
  simp at hL
  rcases hL with rfl | hL
  ·exact ⟨by simp, h.fr.size⟩
  ·exact ⟨Nat.lt_of_lt_of_le (h.ls L hL).1 hb.size, (h.ls L hL).2⟩

theorem NSt.drew (K : KeepsG R) (h : NSt R w0 b S Ls s w) : NSt R w0 b S Ls s w.drew := h.below K ((Below.refl _ _).drew)

theorem NSt.setCell (K : KeepsG R) (h : NSt R w0 b S Ls s w) {L : Nat} (hL : L ∈ Ls) (o : Nat) (v : Value) : NSt R w0 b S Ls s (w.setCell ⟨L, o, none⟩ v) := by
 obtain ⟨S1, h1, h2, h4⟩ := h.ex
 have F : Fr (fun k => k = L) w (w.setCell ⟨L, o, none⟩ v) := (Fr.refl _ _).setCell _ _ (Or.inl rfl)
 exact ⟨⟨S1, K.keep h1 F (fun k hk e => h4 L hL (e ▸ hk)), h2, h4⟩, h.fr.setCell _ _ (Or.inr (h.ls L hL).2), fun M hM => ⟨by simpa using (h.ls M hM).1, (h.ls M hM).2⟩, h.s0⟩

/-- at the end: the boxes are let go. -/
theorem NSt.done (K : KeepsG R) (h : NSt R w0 b S Ls s w) : R w b (upd S w0 w) s ∧ Fr S w0 w := by
 obtain ⟨S1, h1, h2, -⟩ := h.ex
 refine ⟨K.mono h1 (fun k hk => ?_) (fun k hk => ?_), h.fr⟩
 ·rcases h2 k hk with h | h
  ·exact Or.inl h
  ·exact Or.inr ⟨h, K.lt h1 k hk⟩
 ·rcases hk with hk | hk
  ·exact Nat.lt_of_lt_of_le (h.s0 k hk) h.fr.size
  ·exact hk.2

/-- the thing itself, as it stands. -/
theorem NSt.get (h : NSt R w0 b S Ls s w) : ∃ S1, R w b S1 s := by
 obtain ⟨S1, h1, -⟩ := h.ex
 exact ⟨S1, h1⟩

/-- a row that a call has made: a new box. -/
theorem NSt.row (K : KeepsG R) (h : NSt R w0 b S Ls s w) {e sz n : Nat} {v : Value} {xs : List Value} (hb : Below w.heap.size w w') (hr : w'.ownsRow w.heap.size e sz v n xs) : NSt R w0 b S (v.ownBlock.toList ++ Ls) s w' := by
 obtain ⟨S1, h1, h2, h4⟩ := h.ex
 have h' := h.below K hb
 refine ⟨⟨S1, K.keep (T := fun _ => False) h1 (Fr.of_below hb) (fun _ _ x => x), h2, ?_⟩, h'.fr, ?_, h.s0⟩
 ·intro L hL
  rcases List.mem_append.1 hL with x | x
  ·intro y
   have := (hr.lt L (by simpa using x)).1
   have := K.lt h1 L y
   omega
  ·exact h4 L x
 ·intro L hL
  rcases List.mem_append.1 hL with x | x
  ·have := hr.lt L (by simpa using x)
   have := h.fr.size
   omega
  ·exact h'.ls L x

theorem NSt.sub (h : NSt R w0 b S Ls s w) (Ls' : List Nat) (hL : ∀ L ∈ Ls', L ∈ Ls) : NSt R w0 b S Ls' s w := by
 obtain ⟨S1, h1, h2, h4⟩ := h.ex
 exact ⟨⟨S1, h1, h2, fun L hm => h4 L (hL L hm)⟩, h.fr, fun L hm => h.ls L (hL L hm), h.s0⟩
end

/-- since w0 nothing that was there has turned; the things at b1, b2 are s1, s2; the boxes Ls are none of theirs. -/
structure N2 {α β : Type} (R : World → Nat → (Nat → Prop) → α → Prop) (Q : World → Nat → (Nat → Prop) → β → Prop) (w0 : World) (b1 b2 : Nat) (Ls : List Nat) (s1 : α) (s2 : β) (w : World) : Prop where
 ex : ∃ S1 S2, R w b1 S1 s1 ∧ Q w b2 S2 s2 ∧ (∀ k, S1 k → w0.heap.size ≤ k) ∧ (∀ k, S2 k → w0.heap.size ≤ k) ∧ (∀ k, S1 k → ¬ S2 k) ∧ (∀ L ∈ Ls, ¬ S1 L ∧ ¬ S2 L)
 bel : Below w0.heap.size w0 w
 ls : ∀ L ∈ Ls, L < w.heap.size ∧ w0.heap.size ≤ L

section
variable {α β : Type} {R : World → Nat → (Nat → Prop) → α → Prop} {Q : World → Nat → (Nat → Prop) → β → Prop} {w0 w w' : World} {b1 b2 : Nat} {Ls : List Nat} {s1 t1 : α} {s2 t2 : β} {P : Program} {f : FuncId} {args : Array Value} {val : Value}

theorem N2.below (K : KeepsG R) (J : KeepsG Q) (h : N2 R Q w0 b1 b2 Ls s1 s2 w) (hb : Below w.heap.size w w') : N2 R Q w0 b1 b2 Ls s1 s2 w' := by
 obtain ⟨S1, S2, p1, p2, g1, g2, d, hl⟩ := h.ex
 exact ⟨⟨S1, S2, K.keep (T := fun _ => False) p1 (Fr.of_below hb) (fun _ _ x => x), J.keep (T := fun _ => False) p2 (Fr.of_below hb) (fun _ _ x => x), g1, g2, d, hl⟩, h.bel.trans (hb.mono h.bel.size), fun L hL => ⟨Nat.lt_of_lt_of_le (h.ls L hL).1 hb.size, (h.ls L hL).2⟩⟩
theorem N2.drew (K : KeepsG R) (J : KeepsG Q) (h : N2 R Q w0 b1 b2 Ls s1 s2 w) : N2 R Q w0 b1 b2 Ls s1 s2 w.drew := h.below K J ((Below.refl _ _).drew)
theorem N2.sub (h : N2 R Q w0 b1 b2 Ls s1 s2 w) (Ms : List Nat) (hM : ∀ L ∈ Ms, L ∈ Ls) : N2 R Q w0 b1 b2 Ms s1 s2 w := by
 obtain ⟨S1, S2, p1, p2, g1, g2, d, hl⟩ := h.ex
 exact ⟨⟨S1, S2, p1, p2, g1, g2, d, fun L hL => hl L (hM L hL)⟩, h.bel, fun L hL => h.ls L (hM L hL)⟩
theorem N2.alloc (K : KeepsG R) (J : KeepsG Q) (h : N2 R Q w0 b1 b2 Ls s1 s2 w) (o : Obj) : N2 R Q w0 b1 b2 (w.heap.size :: Ls) s1 s2 (w.alloc o) := by
 have hb : Below w.heap.size w (w.alloc o) := (Below.refl _ _).alloc (Nat.le_refl _) o
 have h' := h.below K J hb
 obtain ⟨S1, S2, p1, p2, g1, g2, d, hl⟩ := h.ex
 refine ⟨⟨S1, S2, K.keep (T := fun _ => False) p1 (Fr.of_below hb) (fun _ _ x => x), J.keep (T := fun _ => False) p2 (Fr.of_below hb) (fun _ _ x => x), g1, g2, d, ?_⟩, h'.bel, ?_⟩
 ·intro L hL
  simp at hL
  rcases hL with rfl | hL
  ·exact ⟨fun x => Nat.lt_irrefl _ (K.lt p1 _ x), fun x => Nat.lt_irrefl _ (J.lt p2 _ x)⟩
  ·exact hl L hL
 ·intro L hL
  simp at hL
  rcases hL with rfl | hL
  ·exact ⟨by simp, h.bel.size⟩
  ·exact h'.ls L hL
/-- a row that a call has made: a new box. -/
theorem N2.row (K : KeepsG R) (J : KeepsG Q) (h : N2 R Q w0 b1 b2 Ls s1 s2 w) {e sz n : Nat} {v : Value} {xs : List Value} (hb : Below w.heap.size w w') (hr : w'.ownsRow w.heap.size e sz v n xs) : N2 R Q w0 b1 b2 (v.ownBlock.toList ++ Ls) s1 s2 w' := by
 have h' := h.below K J hb
 obtain ⟨S1, S2, p1, p2, g1, g2, d, hl⟩ := h.ex
 refine ⟨⟨S1, S2, K.keep (T := fun _ => False) p1 (Fr.of_below hb) (fun _ _ x => x), J.keep (T := fun _ => False) p2 (Fr.of_below hb) (fun _ _ x => x), g1, g2, d, ?_⟩, h'.bel, ?_⟩
 ·intro L hL
  rcases List.mem_append.1 hL with x | x
  ·have := (hr.lt L (by simpa using x)).1
   exact ⟨fun y => by have := K.lt p1 L y; omega, fun y => by have := J.lt p2 L y; omega⟩
  ·exact hl L x
 ·intro L hL
  rcases List.mem_append.1 hL with x | x
  ·have := hr.lt L (by simpa using x)
   have := h.bel.size
   omega
  ·exact h'.ls L x

theorem N2.bl (K : KeepsG R) (J : KeepsG Q) (h : N2 R Q w0 b1 b2 Ls s1 s2 w) (hc : Calls P f args w fun e w' => e = .returned val ∧ Below w.heap.size w w') :
 Calls P f args w fun e w' => e = .returned val ∧ N2 R Q w0 b1 b2 Ls s1 s2 w' ∧ ∀ L ∈ Ls, w'.heap[L]? = w.heap[L]? :=
 hc.mono fun _ _ ⟨he, hb⟩ => ⟨he, h.below K J hb, fun L hL => hb.block L (h.ls L hL).1⟩
end
end Go.Proofs.YtcbikgafdclhaaaGreat
/- memories that keep what was written back: plain data. -/
set_option linter.unusedSimpArgs false
set_option linter.unusedVariables false
namespace Go.Proofs.YtcbikgafdclhaaaGreat

structure NM where
 W : List Int
 K : List Int
 P : List (Int × Int)

namespace NM

def th (s : NM) (at_ : Int) : Bool := decide (0 ≤ at_) && decide (at_ < s.W.length)
def bitB (m : Int) (i : Nat) : Bool := m.toNat.testBit i
/-- the words of a line, as far as i, that the mask names. -/
def keepI (W : List Int) (l : Nat) (m : Int) : Nat → List Int → List Int
 | 0, K => K
 | i + 1, K => if bitB m i = true then (keepI W l m i K).set (8 * l + i) (W.getD (8 * l + i) 0) else keepI W l m i K
def delP (l : List (Int × Int)) (p : Int × Int) : List (Int × Int) := l.filter fun q => q ≠ p
def load (s : NM) (at_ : Int) : Int × Bool := if s.th at_ = true then (s.W.getD at_.toNat 0, true) else (0, false)
def step (who : Int) (s : NM) (l : Nat) : NM := { s with K := keepI s.W l 255 8 s.K, P := delP s.P (who, (l : Int)) }
def crash (s : NM) : NM := { s with W := s.K, P := [] }

/-- an act. -/
structure A where
 d : Int
 who : Int
 at_ : Int
 mask : Int
 old : Int
 val : Int

def U64 (v : Int) : Prop := 0 ≤ v ∧ v < 18446744073709551616

structure Inv (s : NM) : Prop where
 kl : s.K.length = s.W.length
 pos : 0 < s.W.length
 small : s.W.length ≤ 65536
 oct : s.W.length % 8 = 0
 wu : ∀ v ∈ s.W, U64 v
 ku : ∀ v ∈ s.K, U64 v
 nd : s.P.Nodup
 pb : ∀ p ∈ s.P, 0 ≤ p.1 ∧ p.1 ≤ 16 ∧ 0 ≤ p.2 ∧ p.2 < ((s.W.length / 8 : Nat) : Int)

theorem keepI_len (W : List Int) (l : Nat) (m : Int) : ∀ (i : Nat) (K : List Int), (keepI W l m i K).length = K.length
 | 0, _ => rfl
 | i + 1, K => by
  unfold keepI
  split
  ·rw [List.length_set, keepI_len W l m i K]
  ·exact keepI_len W l m i K
theorem getD_u {l : List Int} (h : ∀ v ∈ l, U64 v) (k : Nat) : U64 (l.getD k 0) := by
 by_cases hk : k < l.length
 ·have e : l.getD k 0 = l[k] := by simp [hk]
  rw [e]; exact h _ (List.getElem_mem hk)
 ·have e : l.getD k 0 = 0 := by simp [show ¬ k < l.length from hk]
  rw [e]; exact ⟨by omega, by omega⟩
theorem set_u {l : List Int} (h : ∀ v ∈ l, U64 v) (k : Nat) {v : Int} (hv : U64 v) : ∀ x ∈ l.set k v, U64 x := by
 intro x hx
 rcases List.mem_or_eq_of_mem_set hx with hx | rfl
 ·exact h x hx
 ·exact hv
theorem keepI_u {W : List Int} (hW : ∀ v ∈ W, U64 v) (l : Nat) (m : Int) : ∀ (i : Nat) (K : List Int), (∀ v ∈ K, U64 v) → ∀ v ∈ keepI W l m i K, U64 v
 | 0, _, h => h
 | i + 1, K, h => by
  unfold keepI
  split
  ·exact set_u (keepI_u hW l m i K h) _ (getD_u hW _)
  ·exact keepI_u hW l m i K h
theorem mem_delP {l : List (Int × Int)} {p q : Int × Int} : q ∈ delP l p ↔ q ∈ l ∧ q ≠ p := by simp [delP]

theorem th_iff {s : NM} {i : Int} : s.th i = true ↔ 0 ≤ i ∧ i < s.W.length := by simp [th]

theorem Inv.step {s : NM} (h : s.Inv) (who : Int) (l : Nat) : (step who s l).Inv :=
 ⟨(keepI_len _ _ _ _ _).trans h.kl, h.pos, h.small, h.oct, h.wu, keepI_u h.wu _ _ _ _ h.ku, List.Pairwise.filter _ h.nd, fun p hp => h.pb p (mem_delP.1 hp).1⟩
theorem Inv.crash {s : NM} (h : s.Inv) : s.crash.Inv :=
 ⟨rfl, by show 0 < s.K.length; rw [h.kl]; exact h.pos, by show s.K.length ≤ _; rw [h.kl]; exact h.small, by show s.K.length % 8 = 0; rw [h.kl]; exact h.oct, h.ku, h.ku, by simp [NM.crash], by simp [NM.crash]⟩
end NM
end Go.Proofs.YtcbikgafdclhaaaGreat
/- maps whose keys are pairs of numbers, as sets: for the pending lines. -/
set_option linter.unusedSimpArgs false
set_option linter.unusedVariables false
namespace Go.Proofs.YtcbikgafdclhaaaGreat
open Go.RowKit
open Go.ChangeMaps (setBlock)

def pairKey (p : Int × Int) : Value := .agg #[.int .i64 p.1, .int .i64 p.2]
def I64p (p : Int × Int) : Prop := (-9223372036854775808 ≤ p.1 ∧ p.1 ≤ 9223372036854775807) ∧ (-9223372036854775808 ≤ p.2 ∧ p.2 ≤ 9223372036854775807)

/-- the entries, and what they are. -/
structure PEs (es : Array MapEntry) (clk : Nat) (l : List (Int × Int)) : Prop where
 kv : es.toList.map (fun e => (e.key, e.val)) = l.map (fun p => (pairKey p, Value.int .i64 1))
 nd : l.Nodup
 lt : ∀ e ∈ es.toList, e.born < clk
 bnd : (es.toList.map (·.born)).Nodup
 wf : ∀ p ∈ l, I64p p
def PMap (w : World) (b : Nat) (l : List (Int × Int)) : Prop := ∃ es clk, w.heap[b]? = some (.map es clk) ∧ PEs es clk l

theorem PMap.block {w w' : World} {b : Nat} {l : List (Int × Int)} (h : PMap w b l) (hb : w'.heap[b]? = w.heap[b]?) : PMap w' b l := by
 obtain ⟨es, clk, h1, h2⟩ := h
 exact ⟨es, clk, hb.trans h1, h2⟩
theorem PMap.made (w : World) : PMap (w.alloc (.map #[] 0)) w.heap.size [] := ⟨#[], 0, heap_alloc_new w _, rfl, by simp, by simp, by simp, by simp⟩
theorem PMap.lt {w : World} {b : Nat} {l : List (Int × Int)} (h : PMap w b l) : b < w.heap.size := by
 obtain ⟨es, clk, h1, -⟩ := h
 exact (Array.getElem?_eq_some_iff.1 h1).1

section
variable {es : Array MapEntry} {clk : Nat} {l : List (Int × Int)}
theorem PEs.at_ (h : PEs es clk l) {j : Nat} {e : MapEntry} (he : es[j]? = some e) : ∃ p, l[j]? = some p ∧ e.key = pairKey p ∧ e.val = .int .i64 1 := by
 have h1 : (es.toList.map (fun e => (e.key, e.val)))[j]? = some (e.key, e.val) := by simp [he]
 rw [h.kv] at h1
 simp only [List.getElem?_map, Option.map_eq_some_iff, Prod.mk.injEq] at h1
 obtain ⟨p, hp, h2, h3⟩ := h1
 exact ⟨p, hp, h2.symm, h3.symm⟩
end

/-! ### the operations -/
section
variable {P : Program} {w : World} {t K E : TypeId} {b : Nat} {l : List (Int × Int)}

theorem grown_set {o o' : Obj} (hb : w.heap[b]? = some o) : w.grownBy { w with heap := w.heap.setIfInBounds b o' } (some b) ∧ ({ w with heap := w.heap.setIfInBounds b o' } : World).heap[b]? = some o' :=
 ⟨⟨rfl, rfl, rfl, by simp, fun i _ hi => (MapKept.heap_set hb).2 i (fun e => hi (by rw [e]))⟩, (MapKept.heap_set hb).1⟩

theorem run_pclear (h : PMap w b l) (ht : P.underlying t = some (.map K E)) (ty : TypeId) :
 ∃ w', (Builtin.clear_ #[t] ty #[.map (some b)]).run P w = .ok (.tuple #[]) w' ∧ PMap w' b [] ∧ w.grownBy w' (some b) := by
 obtain ⟨es, clk, hb, hes⟩ := h
 refine ⟨_, ?_, ⟨#[], clk, (grown_set hb).2, rfl, by simp, by simp, by simp, by simp⟩, (grown_set hb).1⟩
 simp [Builtin.clear_, run_underlying ht, MapKept.run_getObj_map hb, MapKept.run_setObj_map _ hb, Result.andThen]

/-! ### a range under way -/
/-- rem: the pairs that are still to come. -/
def PRng (w : World) (b r : Nat) (l rem : List (Int × Int)) : Prop := ∃ es clk since seen c0, w.heap[b]? = some (.map es clk) ∧ PEs es clk l ∧ w.heap[r]? = some (.mapIter (some b) since seen c0) ∧
 (∀ e ∈ es.toList, e.born < since) ∧ since ≤ c0 ∧ since ≤ clk ∧ (leftOf es seen).toList.map (·.key) = rem.map pairKey ∧ (∀ p ∈ rem, p ∈ l)

theorem PRng.map {r : Nat} {rem : List (Int × Int)} (h : PRng w b r l rem) : PMap w b l := by
 obtain ⟨es, clk, _, _, _, h1, h2, _⟩ := h
 exact ⟨es, clk, h1, h2⟩
theorem PRng.lt {r : Nat} {rem : List (Int × Int)} (h : PRng w b r l rem) : r < w.heap.size := by
 obtain ⟨es, clk, _, _, _, h1, h2, h3, _⟩ := h
 exact (Array.getElem?_eq_some_iff.1 h3).1
theorem PRng.block {w' : World} {r : Nat} {rem : List (Int × Int)} (h : PRng w b r l rem) (h1 : w'.heap[b]? = w.heap[b]?) (h2 : w'.heap[r]? = w.heap[r]?) : PRng w' b r l rem := by
 obtain ⟨es, clk, s, n, c, q1, q2, q3, q4⟩ := h
 exact ⟨es, clk, s, n, c, h1.trans q1, q2, h2.trans q3, q4⟩

variable {ops : Array Oper} {rest : List Oper} {o : Oper} {a : Act} {Q : Exit → Act → World → Prop}

theorem wpL_pclear (hg : o.guard = none) (m : Operand) (hop : o.op = Op.call { callee := Callee.builtin Builtin.clear, args := #[m], argTypes := #[t] }) (h : PMap w b l) (ht : P.underlying t = some (.map K E))
 (hm : a.eval m = .map (some b))
 (hK' : ∀ w', PMap w' b [] → w.grownBy w' (some b) → wpList P ops Q rest (a.put o.dst (.tuple #[])) w') :
 wpList P ops Q (o :: rest) a w := by
 refine wpList_plain hg fun K2 hK2 => ?_
 obtain ⟨w', hrun, h1, h2⟩ := run_pclear (P := P) h ht o.type
 unfold Oper.wp
 simp [execOp, hop, hm, resolve, invoke, builtin, hrun, Result.andThen]
 exact hK2 _ _ (hK' w' h1 h2)

end
end Go.Proofs.YtcbikgafdclhaaaGreat
/- the program's memories, as memory: words, stores. -/
set_option linter.unusedSimpArgs false
set_option linter.unusedVariables false
namespace Go.Proofs.YtcbikgafdclhaaaGreat
open Go.RowKit

def u64s (l : List Int) : List Value := l.map (Value.int .u64)
theorem u64s_len (l : List Int) : (u64s l).length = l.length := by simp [u64s]
theorem u64s_get {l : List Int} {k : Nat} (h : k < l.length) : (u64s l)[k]? = some (.int .u64 (l.getD k 0)) := by simp [u64s, h]
structure PMs (w : World) (b : Nat) (S : Nat → Prop) (s : NM) (wv kv : Value) (pb : Nat) : Prop where
 cells : w.heap[b]? = some (.cells #[wv, kv, .map (some pb)] 121)
 wr : w.ownsRow 0 61 1 wv s.W.length (u64s s.W)
 kr : w.ownsRow 0 61 1 kv s.K.length (u64s s.K)
 mp : PMap w pb s.P
 ne : ∀ k, wv.ownBlock = some k → kv.ownBlock ≠ some k
 inb : S b
 inp : S pb
 inw : ∀ k, wv.ownBlock = some k → S k
 ink : ∀ k, kv.ownBlock = some k → S k
 lt : ∀ k, S k → k < w.heap.size
 inv : s.Inv

/-- the memory at block b, over the blocks of S, is s. -/
def PM (w : World) (b : Nat) (S : Nat → Prop) (s : NM) : Prop := ∃ wv kv pb, PMs w b S s wv kv pb

theorem pmap_elem {w : World} {e size g : Nat} {v : Value} {n : Nat} {xs : List Value} {l : List (Int × Int)} (h : w.ownsRow 0 e size v n xs) (hg : PMap w g l) : v.ownBlock ≠ some g := by
 obtain ⟨es, clk, hb, -⟩ := hg
 rcases h.2 with ⟨rfl, -⟩ | ⟨g', cap, cur, rfl, -, hg', -⟩
 ·simp [Value.ownBlock]
 ·intro e1
  have : g' = g := by simpa [Value.ownBlock] using e1
  subst this
  rw [hb] at hg'
  cases hg'

section
variable {w w' : World} {b : Nat} {S : Nat → Prop} {s : NM} {wv kv : Value} {pb : Nat}
theorem PMs.cell (h : PMs w b S s wv kv pb) (o : Nat) : w.cell? ⟨b, o, none⟩ = (#[wv, kv, .map (some pb)] : Array Value)[o]? := cell?_of_heap h.cells
theorem PMs.pb_ne (h : PMs w b S s wv kv pb) : pb ≠ b := by
 obtain ⟨es, clk, hb, -⟩ := h.mp
 intro e
 subst e
 rw [h.cells] at hb
 cases hb
theorem PMs.wb_ne (h : PMs w b S s wv kv pb) : wv.ownBlock ≠ some b := ownsRow_elem h.wr h.cells (by decide)
theorem PMs.wp_ne (h : PMs w b S s wv kv pb) : wv.ownBlock ≠ some pb := pmap_elem h.wr h.mp
theorem PMs.kp_ne (h : PMs w b S s wv kv pb) : kv.ownBlock ≠ some pb := pmap_elem h.kr h.mp
theorem PMs.wform (h : PMs w b S s wv kv pb) : ∃ g c, wv = .slice (some ⟨g, 0, none⟩) s.W.length c := Joins.ownsRow_form h.wr h.inv.pos
theorem PMs.kform (h : PMs w b S s wv kv pb) : ∃ g c, kv = .slice (some ⟨g, 0, none⟩) s.K.length c := Joins.ownsRow_form h.kr (by rw [h.inv.kl]; exact h.inv.pos)
end

theorem keepsPM : KeepsG PM where
 keep := by
  rintro w w' b S T s ⟨wv, kv, pb, h⟩ F hd
  have hk : ∀ k, S k → w'.heap[k]? = w.heap[k]? := fun k x => F.block k (h.lt k x) (hd k x)
  exact ⟨wv, kv, pb, ⟨(hk b h.inb).trans h.cells, ownsRow_block h.wr fun k x => hk k (h.inw k x), ownsRow_block h.kr fun k x => hk k (h.ink k x), h.mp.block (hk pb h.inp), h.ne, h.inb, h.inp, h.inw, h.ink, fun k x => Nat.lt_of_lt_of_le (h.lt k x) F.size, h.inv⟩⟩
 lt := fun ⟨_, _, _, h⟩ => h.lt
 mono := fun ⟨wv, kv, pb, h⟩ hs hl => ⟨wv, kv, pb, ⟨h.cells, h.wr, h.kr, h.mp, h.ne, hs _ h.inb, hs _ h.inp, fun k x => hs k (h.inw k x), fun k x => hs k (h.ink k x), hl, h.inv⟩⟩

theorem PM.inv {w : World} {b : Nat} {S : Nat → Prop} {s : NM} (h : PM w b S s) : s.Inv := by
 obtain ⟨_, _, _, h⟩ := h
 exact h.inv

/-! ### words -/
theorem mthere_yes (b : Nat) (i : Int) (w : World) (ad : Option Addr) (n c : Nat) (kv : Value) (h0 : w.cell? ⟨b, 0, none⟩ = some (.slice ad n c)) (h1 : 0 ≤ i) (h2 : i < n) :
 Calls Tryz.prog 135 #[.pointer (some ⟨b, 0, none⟩), .int .i64 i] w fun e w' => e = .returned (.bool true) ∧ w = w' := by
 go_enter Tryz.func135, Tryz.ntmps135
 go_wp2
 go_ret
 exact ⟨rfl, rfl⟩
theorem mthere_low (b : Nat) (i : Int) (w : World) (h1 : i < 0) :
 Calls Tryz.prog 135 #[.pointer (some ⟨b, 0, none⟩), .int .i64 i] w fun e w' => e = .returned (.bool false) ∧ w = w' := by
 go_enter Tryz.func135, Tryz.ntmps135
 go_wp2
 go_ret
 exact ⟨rfl, rfl⟩
theorem mthere_high (b : Nat) (i : Int) (w : World) (ad : Option Addr) (n c : Nat) (h0 : w.cell? ⟨b, 0, none⟩ = some (.slice ad n c)) (h1 : 0 ≤ i) (h2 : (n : Int) ≤ i) :
 Calls Tryz.prog 135 #[.pointer (some ⟨b, 0, none⟩), .int .i64 i] w fun e w' => e = .returned (.bool false) ∧ w = w' := by
 have hd : decide (i < (n : Int)) = false := by simp; omega
 go_enter Tryz.func135, Tryz.ntmps135
 go_wp2
 go_ret
 exact ⟨rfl, rfl⟩
theorem mthere_any (b : Nat) (i : Int) (w : World) (S : Nat → Prop) (s : NM) (h : PM w b S s) :
 Calls Tryz.prog 135 #[.pointer (some ⟨b, 0, none⟩), .int .i64 i] w fun e w' => e = .returned (.bool (s.th i)) ∧ w = w' := by
 obtain ⟨wv, kv, pb, hv⟩ := h
 obtain ⟨g, c, rfl⟩ := hv.wform
 have h0 := hv.cell 0
 simp at h0
 by_cases h1 : i < 0
 ·have : s.th i = false := by simp [NM.th]; omega
  rw [this]; exact mthere_low b i w h1
 ·by_cases h2 : (s.W.length : Int) ≤ i
  ·have : s.th i = false := by simp [NM.th]; omega
   rw [this]; exact mthere_high b i w _ _ _ h0 (by omega) h2
  ·have : s.th i = true := by simp [NM.th]; omega
   rw [this]; exact mthere_yes b i w _ _ _ kv h0 (by omega) (by omega)
theorem mload_any (b : Nat) (i : Int) (w : World) (S : Nat → Prop) (s : NM) (h : PM w b S s) :
 Calls Tryz.prog 87 #[.pointer (some ⟨b, 0, none⟩), .int .i64 i] w fun e w' => e = .returned (.tuple #[.int .u64 (s.load i).1, .bool (s.load i).2]) ∧ w = w' := by
 have H := mthere_any b i w S s h
 obtain ⟨wv, kv, pb, hv⟩ := h
 obtain ⟨g, c, rfl⟩ := hv.wform
 have h0 := hv.cell 0
 simp at h0
 unfold NM.load
 cases ht : s.th i
 ·rw [ht] at H
  have HH := Lib.hid H
  clear H hv
  go_enter Tryz.func87, Tryz.ntmps87
  go_wp2_with fail
  refine HH.out.mono ?_
  rintro e w1 ⟨rfl, rfl⟩
  go_wp2
  exact bodyPost_ret (v := .tuple #[.int .u64 0, .bool false]) (by simp [results, Tryz.results87, go_sem]) rfl ⟨rfl, rfl⟩
 ·rw [ht] at H
  have HH := Lib.hid H
  obtain ⟨h1, h2⟩ := NM.th_iff.1 ht
  obtain ⟨n, rfl⟩ := Int.eq_ofNat_of_zero_le h1
  have hc := (hv.wr.cellAt n (by omega)).trans (u64s_get (by omega))
  simp only [Int.toNat_natCast, if_true]
  clear H hv ht
  go_enter Tryz.func87, Tryz.ntmps87
  go_wp2_with fail
  refine HH.out.mono ?_
  rintro e w1 ⟨rfl, rfl⟩
  go_wp2
  exact bodyPost_ret (v := .tuple #[.int .u64 (s.W.getD n 0), .bool true]) (by simp [results, Tryz.results87, go_sem]) rfl ⟨rfl, rfl⟩

theorem PMs.same {w : World} {b pb : Nat} {S : Nat → Prop} {s : NM} {wv kv : Value} (h : PMs w b S s wv kv pb) : PM w b (upd S w w) s ∧ Fr S w w :=
 ⟨⟨wv, kv, pb, ⟨h.cells, h.wr, h.kr, h.mp, h.ne, Or.inl h.inb, Or.inl h.inp, fun k x => Or.inl (h.inw k x), fun k x => Or.inl (h.ink k x), fun k x => by rcases x with x | x; exact h.lt k x; omega, h.inv⟩⟩, Fr.refl _ _⟩

end Go.Proofs.YtcbikgafdclhaaaGreat
/- the program's memories: words of a line are kept. -/
set_option linter.unusedSimpArgs false
set_option linter.unusedVariables false
namespace Go.Proofs.YtcbikgafdclhaaaGreat
open Go.RowKit

theorem PMs.drew {w : World} {b pb : Nat} {S : Nat → Prop} {s : NM} {wv kv : Value} (h : PMs w b S s wv kv pb) : PMs w.drew b S s wv kv pb :=
 ⟨h.cells, h.wr, h.kr, h.mp, h.ne, h.inb, h.inp, h.inw, h.ink, h.lt, h.inv⟩

theorem PMs.up {w w' : World} {b pb : Nat} {S : Nat → Prop} {s : NM} {wv kv : Value} (h : PMs w' b S s wv kv pb) (F : Fr S w w') : PM w' b (upd S w w') s ∧ Fr S w w' :=
 ⟨⟨wv, kv, pb, ⟨h.cells, h.wr, h.kr, h.mp, h.ne, Or.inl h.inb, Or.inl h.inp, fun k x => Or.inl (h.inw k x), fun k x => Or.inl (h.ink k x), fun k x => by rcases x with x | x; exact h.lt k x; exact x.2, h.inv⟩⟩, F⟩

end Go.Proofs.YtcbikgafdclhaaaGreat
/- the program's memories: a line is pending; a crash; copies of words. -/
set_option linter.unusedSimpArgs false
set_option linter.unusedVariables false
namespace Go.Proofs.YtcbikgafdclhaaaGreat
open Go.RowKit

theorem uPend : Tryz.prog.underlying 119 = some (.map 304 3) := Tryz.underlying119

theorem PMs.pendI {w w' : World} {b pb : Nat} {S : Nat → Prop} {s : NM} {wv kv : Value} {P' : List (Int × Int)} (h : PMs w b S s wv kv pb) (hm : PMap w' pb P') (hg : w.grownBy w' (some pb)) (hi : ({ s with P := P' } : NM).Inv) : PMs w' b S { s with P := P' } wv kv pb ∧ Fr S w w' := by
 have F : Fr S w w' := (Fr.refl _ _).grown hg (fun k hk => by cases hk; exact Or.inl h.inp)
 have hw := h.wp_ne
 have hk := h.kp_ne
 refine ⟨⟨(hg.block b (h.lt b h.inb) (fun e => h.pb_ne (Option.some.inj e.symm))).trans h.cells, ownsRow_block h.wr fun j x => hg.block j (h.lt j (h.inw j x)) (fun e => hw (x.trans e)), ownsRow_block h.kr fun j x => hg.block j (h.lt j (h.ink j x)) (fun e => hk (x.trans e)), hm, h.ne, h.inb, h.inp, h.inw, h.ink, fun j x => Nat.lt_of_lt_of_le (h.lt j x) hg.size, hi⟩, F⟩

theorem infoU64n : (Tryz.prog.info? 61).map (fun i => (i.zero, i.size, i.bytes)) = some (some (.int .u64 0), 1, 8) := by kernel_rfl
set_option maxHeartbeats 1000000 in
set_option maxRecDepth 100000 in
theorem clone64 (ad : Addr) (n c : Nat) (xs : List Int) (w : World) (hl : xs.length = n) (hb : n * 8 ≤ 140737488355328) (hc : ∀ j, j < n → w.cell? (ad.add j) = some (.int .u64 (xs.getD j 0))) :
 Calls Tryz.prog 65 #[.slice (some ad) n c] w fun e w' => ∃ v', e = .returned v' ∧ w'.ownsRow w.heap.size 61 1 v' n (u64s xs) ∧ v' ≠ .slice none 0 0 ∧ Below w.heap.size w w' := by
 have A := Lib.hid hc
 have q22 : ∀ (w : World) (a : Option Addr) (n c n' c' : Nat), (binOp .eql 22 (.slice a n c) (.slice none n' c')).run Tryz.prog w = .ok (.bool a.isNone) w := fun w a n c n' c' => Lib.run_eql_slice_nil w _ _ a n c n' c' Tryz.underlying22
 obtain ⟨i0, hi, hz0, hz1, hz2⟩ := info_parts infoU64n
 clear hc
 go_enter Tryz.func65, Tryz.ntmps65
 go_wp2_with (at_builtin; refine wpList_append_own _ rfl _ _ 22 rfl w.heap.size 61 i0 (.int .u64 0) 1 8 Tryz.underlying22 hi hz0 hz1 hz2 rfl (by decide) _ _ _ rfl (World.ownsRow_made w #[] 0 (Nat.le_refl _) (Nat.zero_le _) rfl) ad n c (u64s xs) rfl ?qc1 ?qc2 ?qc3 ?qc4 ?qc5 ?qc6 ?_)
 case qc1 => simp [u64s, hl]
 case qc2 =>
  intro j u hj
  have hjn : j < n := by
   have := (List.getElem?_eq_some_iff.1 hj).1
   simp [u64s] at this
   omega
  refine Lib.cell?_alloc_some _ ?_
  rw [A.out j hjn, ← hj, u64s_get (by omega)]
 case qc3 => intro u hu; obtain ⟨x, _, rfl⟩ := List.mem_map.1 hu; rfl
 case qc4 => unfold maxLen; omega
 case qc5 => omega
 case qc6 => simp
 intro v' w1 hown hgrow hnil
 have HO := Lib.hid (show w1.ownsRow w.heap.size 61 1 v' n (u64s xs) by simpa using hown)
 have HG := Lib.hid hgrow
 have HN := Lib.hid hnil
 clear hown hgrow hnil
 go_wp2
 go_ret
 exact ⟨v', rfl, HO.out, HN.out, ((Below.refl _ w).alloc (Nat.le_refl _) _).grown HG.out (by simp) (by intro k hk; simp [Value.ownBlock] at hk; omega)⟩
end Go.Proofs.YtcbikgafdclhaaaGreat
/- the program's memories: a crash; New; copies. -/
set_option linter.unusedSimpArgs false
set_option linter.unusedVariables false
namespace Go.Proofs.YtcbikgafdclhaaaGreat
open Go.RowKit

theorem ownsRow_keep {w w' : World} {base e size : Nat} {v : Value} {n : Nat} {xs : List Value} (h : w.ownsRow base e size v n xs) (hb : ∀ k, v.ownBlock = some k → w'.heap[k]? = w.heap[k]?) : w'.ownsRow base e size v n xs := by
 rcases h.2 with ⟨rfl, h0⟩ | ⟨g, cap, cur, rfl, h1, hg, h2⟩
 ·exact ⟨h.1, Or.inl ⟨rfl, h0⟩⟩
 ·exact ⟨h.1, Or.inr ⟨g, cap, cur, rfl, h1, (hb g rfl).trans hg, h2⟩⟩
theorem size_setRow (w : World) (g : Nat) (cs : Array Value) : (w.setRow g cs).heap.size = w.heap.size := by simp [World.setRow]
theorem heap_setRow_at {w : World} {g : Nat} {cs ds : Array Value} {e : TypeId} {fr : Nat × Nat} (h : w.heap[g]? = some (.cells cs e fr)) : (w.setRow g ds).heap[g]? = some (.cells ds e fr) := by
 simp only [World.setRow]
 rw [Array.getElem?_modify, if_pos rfl, h]
 rfl
theorem heap_setRow_other {w : World} {g k : Nat} {ds : Array Value} (h : k ≠ g) : (w.setRow g ds).heap[k]? = w.heap[k]? := by
 simp only [World.setRow]
 rw [Array.getElem?_modify, if_neg (Ne.symm h)]
theorem fr_setRow {S : Nat → Prop} (w : World) {g : Nat} (ds : Array Value) (hg : S g) : Fr S w (w.setRow g ds) :=
 ⟨rfl, rfl, rfl, by rw [size_setRow]; exact Nat.le_refl _, fun k _ hn => heap_setRow_other (fun e => hn (e ▸ hg))⟩

/-- the words are those that are kept. -/
theorem PMs.back {w : World} {b g c gk ck pb : Nat} {S : Nat → Prop} {s : NM} (h : PMs w b S s (.slice (some ⟨g, 0, none⟩) s.W.length c) (.slice (some ⟨gk, 0, none⟩) s.K.length ck) pb) :
 ∃ r w1, (∀ ty, (Builtin.copy_ #[22, 22] ty #[.slice (some ⟨g, 0, none⟩) s.W.length c, .slice (some ⟨gk, 0, none⟩) s.K.length ck]).run Tryz.prog w = .ok r w1) ∧
  PMs w1 b S { s with W := s.K } (.slice (some ⟨g, 0, none⟩) s.W.length c) (.slice (some ⟨gk, 0, none⟩) s.K.length ck) pb ∧ Fr S w w1 := by
 have hi := h.inv
 have hkl := hi.kl
 rcases h.wr.2 with ⟨h0, -⟩ | ⟨g', cap, cur, h0, -, hg, hnc, hcm, hcs, htake⟩
 ·cases h0
 simp only [Value.slice.injEq, Option.some.injEq, Addr.mk.injEq, and_true, true_and] at h0
 obtain ⟨rfl, rfl⟩ := h0
 have hw := h.wb_ne
 have hp := h.wp_ne
 have e1 := h.ne g rfl
 simp [Value.ownBlock] at hw hp e1
 have q2 := h.kr.cells (g := gk) rfl
 have hlen : (u64s s.K).length = Nat.min s.K.length s.W.length := by rw [u64s_len, hkl]; simp
 have hsz : cur.size = c := by simpa using hcs
 have hcopy := fun ty => run_copy_row (P := Tryz.prog) w 22 22 ty 61 g 0 s.W.length c ⟨gk, 0, none⟩ s.K.length ck cur 61 (u64s s.K) Tryz.underlying22 (by kernel_rfl) hg hlen q2 (by rw [u64s_len, hkl, hsz]; omega) (by intro v hv; obtain ⟨z, -, rfl⟩ := List.mem_map.1 hv; rfl)
 refine ⟨_, _, hcopy, ?_, fr_setRow w _ (h.inw g rfl)⟩
 generalize hds : (cur.toList.take 0 ++ u64s s.K ++ cur.toList.drop (0 + (u64s s.K).length)).toArray = ds
 have hdl : ds.size = c := by
  rw [← hds]
  simp [u64s_len]
  omega
 have hdt : ds.toList.take s.K.length = u64s s.K := by
  rw [← hds]
  simp [List.take_append, u64s_len, List.take_of_length_le]
 refine ⟨(heap_setRow_other (fun e => hw e.symm)).trans h.cells, ⟨by simp [u64s_len], .inr ⟨g, c, ds, by rw [hkl], Nat.zero_le _, heap_setRow_at hg, by show s.K.length ≤ c; omega, hcm, by simpa using hdl, by rw [Nat.mul_one]; exact hdt⟩⟩, ownsRow_block h.kr fun j x => heap_setRow_other (fun e => e1 (by simp [Value.ownBlock] at x; omega)), h.mp.block (heap_setRow_other (fun e => hp e.symm)), h.ne, h.inb, h.inp, h.inw, h.ink, fun j x => by rw [size_setRow]; exact h.lt j x, ?_⟩
 exact ⟨rfl, by show 0 < s.K.length; rw [hkl]; exact hi.pos, by show s.K.length ≤ _; rw [hkl]; exact hi.small, by show s.K.length % 8 = 0; rw [hkl]; exact hi.oct, hi.ku, hi.ku, hi.nd, by show ∀ p ∈ s.P, _; rw [show (({ s with W := s.K } : NM).W.length) = s.W.length from hkl]; exact hi.pb⟩

theorem mcrash_any (b : Nat) (w : World) (S : Nat → Prop) (s : NM) (h : PM w b S s) :
 Calls Tryz.prog 86 #[.pointer (some ⟨b, 0, none⟩)] w fun e w' => e = .returned (.tuple #[]) ∧ (PM w' b (upd S w w') s.crash ∧ Fr S w w') := by
 obtain ⟨wv, kv, pb, hv⟩ := h
 obtain ⟨g, c, rfl⟩ := hv.wform
 obtain ⟨gk, ck, rfl⟩ := hv.kform
 have h0 := hv.cell 0
 have h1 := hv.cell 1
 simp at h0 h1
 obtain ⟨r, w1, hcopy, hb, hf⟩ := hv.drew.back
 have hcp := hcopy 3
 have h2 := hb.cell 2
 simp at h2
 have HB := Lib.hid hb
 have HM := Lib.hid hb.mp
 have hf0 : Fr S w w1 := ((Fr.refl S w).drew).trans hf (fun i hi => Or.inl hi)
 have HF := Lib.hid hf0
 have HI := Lib.hid hv.inv.crash
 clear hv hb hf hcopy hf0
 go_enter Tryz.func86, Tryz.ntmps86
 go_wp2
 go_region
 go_wp2_with (refine wpL_pclear rfl _ rfl HM.out uPend rfl ?_; intro w2 hm2 hg2)
 obtain ⟨n1, n2⟩ := HB.out.pendI (P' := []) hm2 hg2 HI.out
 have HN := Lib.hid (n1.up (HF.out.trans n2 (fun i hi => Or.inl hi)))
 clear n1 n2 hm2 hg2
 go_wp2
 go_end0
 exact ⟨rfl, HN.out⟩

/-- a copy of words that a call hands back. -/
def RowW (w : World) (n : Nat) (xs : List Int) (e : Ending) (w' : World) : Prop := ∃ v', e = .returned v' ∧ w'.ownsRow w.heap.size 61 1 v' n (u64s xs) ∧ v' ≠ .slice none 0 0 ∧ Below w.heap.size w w'

theorem mwords_any (b : Nat) (w : World) (S : Nat → Prop) (s : NM) (h : PM w b S s) :
 Calls Tryz.prog 36 #[.pointer (some ⟨b, 0, none⟩)] w (RowW w s.W.length s.W) := by
 obtain ⟨wv, kv, pb, hv⟩ := h
 obtain ⟨g, c, rfl⟩ := hv.wform
 have h0 := hv.cell 0
 simp at h0
 have hs := hv.inv.small
 have HC := Lib.hid (clone64 ⟨g, 0, none⟩ s.W.length c s.W w rfl (by omega) (fun j hj => (hv.wr.cells (g := g) rfl j _ (u64s_get hj))))
 clear hv
 go_enter Tryz.func36, Tryz.ntmps36
 go_wp2_with fail
 refine HC.out.mono ?_
 rintro e w1 ⟨v, rfl, ho⟩
 have HO := Lib.hid ho
 clear ho
 go_wp2
 go_ret
 exact ⟨v, rfl, HO.out⟩
theorem mkept_any (b : Nat) (w : World) (S : Nat → Prop) (s : NM) (h : PM w b S s) :
 Calls Tryz.prog 37 #[.pointer (some ⟨b, 0, none⟩)] w (RowW w s.W.length s.K) := by
 obtain ⟨wv, kv, pb, hv⟩ := h
 obtain ⟨g, c, rfl⟩ := hv.kform
 have h0 := hv.cell 1
 simp at h0
 have hs := hv.inv.small
 have hkl := hv.inv.kl
 have HC := Lib.hid (clone64 ⟨g, 0, none⟩ s.W.length c s.K w hkl (by omega) (fun j hj => (hv.kr.cells (g := g) rfl j _ (u64s_get (by omega)))))
 rw [hkl] at h0
 clear hv hkl
 go_enter Tryz.func37, Tryz.ntmps37
 go_wp2_with fail
 refine HC.out.mono ?_
 rintro e w1 ⟨v, rfl, ho⟩
 have HO := Lib.hid ho
 clear ho
 go_wp2
 go_ret
 exact ⟨v, rfl, HO.out⟩

/-! ### New -/
theorem pm_made {w0 w : World} {v1 v2 : Value} {pb : Nat} {s : NM} (hb : Below w0.heap.size w0 w) (r1 : w.ownsRow w0.heap.size 61 1 v1 s.W.length (u64s s.W)) (r2 : w.ownsRow w0.heap.size 61 1 v2 s.K.length (u64s s.K))
 (hne : ∀ k, v1.ownBlock = some k → v2.ownBlock ≠ some k) (hp : PMap w pb s.P) (hpb : w0.heap.size ≤ pb) (hi : s.Inv) :
 ∃ S, PM (w.alloc (.cells #[v1, v2, .map (some pb)] 121)) w.heap.size S s ∧ (∀ k, S k → w0.heap.size ≤ k) ∧ Below w0.heap.size w0 (w.alloc (.cells #[v1, v2, .map (some pb)] 121)) := by
 have hz := hb.size
 have hpl := hp.lt
 refine ⟨fun k => w0.heap.size ≤ k ∧ k < w.heap.size + 1, ⟨v1, v2, pb, ⟨heap_alloc_new w _, Joins.ownsRow_le (r1.alloc _) (Nat.zero_le _), Joins.ownsRow_le (r2.alloc _) (Nat.zero_le _), hp.block (Below.heap_alloc _ _ _ hpl), hne, ⟨hz, by omega⟩, ⟨hpb, by omega⟩, ?_, ?_, ?_, hi⟩⟩, fun k h => h.1, hb.alloc hz _⟩
 ·intro k hk
  have := r1.lt k hk
  exact ⟨this.1, by omega⟩
 ·intro k hk
  have := r2.lt k hk
  exact ⟨this.1, by omega⟩
 ·intro k hk
  simp
  omega

/-- a memory that a call has made. -/
def NewP (w : World) (s : NM) (e : Ending) (w' : World) : Prop := ∃ b, e = .returned (.pointer (some ⟨b, 0, none⟩)) ∧ w.heap.size ≤ b ∧ (∃ S, PM w' b S s ∧ ∀ k, S k → w.heap.size ≤ k) ∧ Below w.heap.size w w'

theorem NM.new_inv {xs : List Int} (h1 : xs.length ≠ 0) (h2 : xs.length % 8 = 0) (h3 : xs.length ≤ 65536) (hu : ∀ v ∈ xs, NM.U64 v) : (⟨xs, xs, []⟩ : NM).Inv := ⟨rfl, by show 0 < xs.length; omega, h3, h2, hu, hu, by simp, by simp⟩

theorem mnew_any (ad : Addr) (n c : Nat) (xs : List Int) (w : World) (hl : xs.length = n) (h1 : n ≠ 0) (h2 : n % 8 = 0) (h3 : n ≤ 65536) (hu : ∀ v ∈ xs, NM.U64 v) (hc : ∀ j, j < n → w.cell? (ad.add j) = some (.int .u64 (xs.getD j 0))) :
 Calls Tryz.prog 84 #[.slice (some ad) n c] w (NewP w ⟨xs, xs, []⟩) := by
 have HC := Lib.hid (fun W (hb : Below w.heap.size w W) => clone64 ad n c xs W hl (by omega) (fun j hj => (hb.cell (World.block_lt_of_cell? w _ (hc j hj))).trans (hc j hj)))
 have h1b : ((n : Int) == 0) = false := by simp; omega
 have h2b : ((n : Int) % 8 != 0) = false := by simp; omega
 have h3b : ¬ (65536 : Int) < n := by omega
 have HI := Lib.hid (NM.new_inv (xs := xs) (by omega) (by omega) (by omega) hu)
 have HL := Lib.hid hl
 have HN0 := Lib.hid (show 0 < n by omega)
 have hmk : ∀ W : World, (Instr.makeMap 119 none).run Tryz.prog W = .ok (.map (some W.heap.size)) (W.alloc (.map #[] 0)) := fun W => run_makeMap _ W
 clear hc hu h1 h2 h3 hl
 go_enter Tryz.func84, Tryz.ntmps84
 go_wp2_with fail
 refine (HC.out _ (Below.refl _ _)).mono ?_
 rintro e w1 ⟨v1, rfl, o1, -, b1⟩
 obtain ⟨g1, c1, rfl⟩ := Joins.ownsRow_form o1 HN0.out
 have O1 := Lib.hid o1
 have B1 := Lib.hid b1
 clear o1 b1
 go_wp2_with fail
 refine (HC.out _ B1.out).mono ?_
 rintro e w2 ⟨v2, rfl, o2, -, b2⟩
 obtain ⟨g2, c2, rfl⟩ := Joins.ownsRow_form o2 HN0.out
 have hz1 := B1.out.size
 have B2 := Lib.hid (B1.out.trans (b2.mono hz1))
 have O1b := Lib.hid (show w2.ownsRow w.heap.size 61 1 (.slice (some ⟨g1, 0, none⟩) n c1) n (u64s xs) from ownsRow_keep O1.out fun k hk => b2.block k (O1.out.lt k hk).2)
 have O2 := Lib.hid (Joins.ownsRow_le o2 hz1)
 have hne := Lib.hid (show ∀ k, (Value.slice (some ⟨g1, 0, none⟩) n c1).ownBlock = some k → (Value.slice (some ⟨g2, 0, none⟩) n c2).ownBlock ≠ some k from fun k hk hk2 => by have := (O1.out.lt k hk).2; have := (o2.lt k hk2).1; omega)
 clear o2 b2
 go_wp2
 go_ret
 have hz2 := B2.out.size
 obtain ⟨S, p1, p2, p3⟩ := pm_made (w0 := w) (w := w2.alloc (.map #[] 0)) (pb := w2.heap.size) (s := ⟨xs, xs, []⟩) (B2.out.alloc hz2 _) (by show (w2.alloc _).ownsRow _ _ _ _ xs.length _; rw [HL.out]; exact O1b.out.alloc _) (by show (w2.alloc _).ownsRow _ _ _ _ xs.length _; rw [HL.out]; exact O2.out.alloc _) hne.out (PMap.made w2) hz2 HI.out
 rw [World.size_alloc] at p1
 exact ⟨_, rfl, by omega, ⟨S, p1, p2⟩, p3⟩
end Go.Proofs.YtcbikgafdclhaaaGreat
/- redo: the program's entries, its log, and what words settle to. -/
set_option linter.unusedSimpArgs false
set_option linter.unusedVariables false
namespace Go.Proofs.YtcbikgafdclhaaaGreat
open Go.RowKit

/-- words of a configuration, at a slice. -/
structure WX (w : World) (t p s : Int) (ad : Addr) (n : Nat) (ws : List Int) : Prop where
 right : rightB t p s = true
 len : ws.length = n
 num : (n : Int) = wordsN t p
 u64 : ∀ v ∈ ws, U64 v
 cells : ∀ k, k < n → w.cell? (ad.add k) = some (.int .u64 (ws.getD k 0))
theorem getD_u64 {ws : List Int} (h : ∀ v ∈ ws, U64 v) (k : Nat) : U64 (ws.getD k 0) := by
 by_cases hk : k < ws.length
 ·have e : ws.getD k 0 = ws[k] := by simp [hk]
  rw [e]; exact h _ (List.getElem_mem hk)
 ·have e : ws.getD k 0 = 0 := by simp [show ¬ k < ws.length from hk]
  rw [e]; exact ⟨by omega, by omega⟩
theorem WX.keep {w w' : World} {t p s : Int} {ad : Addr} {n : Nat} {ws : List Int} (h : WX w t p s ad n ws) (hb : Below w.heap.size w w') : WX w' t p s ad n ws :=
 ⟨h.right, h.len, h.num, h.u64, fun k hk => (hb.cell (World.block_lt_of_cell? w _ (h.cells k hk))).trans (h.cells k hk)⟩
theorem WX.at {w w' : World} {t p s : Int} {ad : Addr} {n : Nat} {ws : List Int} (h : WX w t p s ad n ws) (hb : Below w.heap.size w w') {k : Nat} (hk : k < n) : w'.cell? (ad.add k) = some (.int .u64 (ws.getD k 0)) := (h.keep hb).cells k hk
theorem WX.bd {w : World} {t p s : Int} {ad : Addr} {n : Nat} {ws : List Int} (h : WX w t p s ad n ws) : 1 ≤ t ∧ t ≤ 16 ∧ 0 ≤ cellsN t p ∧ cellsN t p ≤ 10000 ∧ 16 + cellsN t p ≤ makersN t p ∧ makersN t p ≤ 10000 ∧ (n : Int) = makersN t p + 120 * (t + 1) := by
 have h1 := right_bd h.right
 have h2 := makers_bd h.right
 have := h.num
 omega

def prCells (l : List (Int × Int)) : List Value := l.flatMap fun x => [.int .i64 x.1, .int .u32 x.2]
theorem prCells_snoc (l : List (Int × Int)) (x : Int × Int) : prCells (l ++ [x]) = prCells l ++ [.int .i64 x.1, .int .u32 x.2] := by simp [prCells]
theorem infoPr : (Tryz.prog.info? 147).map (fun i => (i.zero, i.size, i.bytes)) = some (some (.agg #[.int .i64 0, .int .u32 0]), 2, 16) := by kernel_rfl
theorem drop_at {l : List Int} {k : Nat} (h : k < l.length) : l.drop k = l.getD k 0 :: l.drop (k + 1) := by
 rw [List.drop_eq_getElem_cons h]
 simp [h]

structure EnR (w : World) (t p s N : Int) (xs : List Int) (res : Option (List (Int × Int))) (v6 v13 : Value) (wr : World) (k : Nat) (out : List (Int × Int)) : Prop where
 le : k ≤ xs.length
 eq : v13 = .int .i64 k
 ol : out.length = k
 row : wr.ownsRow 0 147 2 v6 out.length (prCells out)
 bs : BS w (w.heap.size :: v6.ownBlock.toList) wr
 box : ∀ o : Nat, wr.cell? ⟨w.heap.size, o, none⟩ = (#[.int .i64 t, .int .i64 p, .int .i64 s] : Array Value)[o]?
 res : (entriesF N (xs.drop k)).map (out ++ ·) = res
 far : ∀ j, v6.ownBlock = some j → w.heap.size < j
def EnRel (w : World) (t p s N : Int) (xs : List Int) (res : Option (List (Int × Int))) (v6 v13 : Value) (wr : World) : Prop := ∃ k out, EnR w t p s N xs res v6 v13 wr k out
/-- a row of entries that a call hands back. -/
def EntP (w : World) (l : List (Int × Int)) (e : Ending) (w' : World) : Prop :=
 ∃ v, e = .returned (.tuple #[v, .bool true]) ∧ w'.ownsRow 0 147 2 v l.length (prCells l) ∧ (∀ k, v.ownBlock = some k → w.heap.size ≤ k) ∧ Below w.heap.size w w'
def EntQ (w : World) (r : Option (List (Int × Int))) (e : Ending) (w' : World) : Prop := match r with
 | some l => EntP w l e w'
 | none => e = .returned (.tuple #[.slice none 0 0, .bool false]) ∧ Below w.heap.size w w'
theorem row_shape2 {w : World} {B e sz n : Nat} {v : Value} {xs : List Value} (h : w.ownsRow B e sz v n xs) : ∃ a c, v = .slice a n c := by
 rcases h.2 with ⟨h5, h6⟩ | ⟨g', cap', cur, h5, -⟩
 ·exact ⟨_, _, by rw [h5, h6]⟩
 ·exact ⟨_, _, h5⟩

set_option maxHeartbeats 2000000 in
set_option maxRecDepth 100000 in
theorem entries_any (t p s : Int) (ad : Addr) (m c : Nat) (xs : List Int) (w : World) (hr : rightB t p s = true) (hl : xs.length = m) (hm : m ≤ 96) (hu : ∀ v ∈ xs, U64 v) (hc : ∀ k, k < m → w.cell? (ad.add k) = some (.int .u64 (xs.getD k 0))) :
 Calls Tryz.prog 142 #[.agg #[.int .i64 t, .int .i64 p, .int .i64 s], .slice (some ad) m c] w (EntQ w (entriesF (cellsN t p) xs)) := by
 have HC := Lib.hid (fun w => cells_any t p s w)
 rw [show cellsF t p s = cellsN t p by simp [cellsF, hr]] at HC
 have hN := makers_bd hr
 generalize cellsN t p = N at *
 obtain ⟨res, hres⟩ : ∃ res, entriesF N xs = res := ⟨_, rfl⟩
 rw [hres]
 have HR0 := Lib.hid hres
 have HU := Lib.hid (getD_u64 hu)
 have HCells := Lib.hid hc
 obtain ⟨i0, hi0, hi1, hi2, hi3⟩ := info_parts infoPr
 have HI := Lib.hid (And.intro hi0 (And.intro hi1 (And.intro hi2 hi3)))
 have c0 := loc_alloc w #[.int .i64 t, .int .i64 p, .int .i64 s] 44
 have S0 := ((BS.start w).alloc (.cells #[.int .i64 t, .int .i64 p, .int .i64 s] 44))
 have HL := Lib.hid hl
 clear hi0 hi1 hi2 hi3 hres hu hc hr hl
 go_enter Tryz.func142, Tryz.ntmps142
 go_wp2_with fail
 go_loopw [6, 13] (fun v6 v13 wr => EnRel w t p s N xs res v6 v13 wr) (fun _ v13 _ => m - (intOf v13).toNat)
 case atStart => exact ⟨0, [], Nat.zero_le _, rfl, rfl, World.ownsRow_nil _ _ _ _, S0.sub _ (by simp [Value.ownBlock]), c0, by rw [← HR0.out]; simp, by simp [Value.ownBlock]⟩
 case round =>
  obtain ⟨k, out, hk, rfl, hol, hrow, hbs, hbox, hrs, hfar⟩ := hrel
  obtain ⟨pa, pc, rfl⟩ := row_shape2 hrow
  have hlt0 := (hbs.ls w.heap.size (by simp)).1
  have HB := Lib.hid hbs
  have HF := Lib.hid hfar
  have HS := Lib.hid hrs
  have HRow := Lib.hid hrow
  have HBox := Lib.hid hbox
  have HOL := Lib.hid hol
  have hkm : k ≤ m := by rw [← HL.out]; exact hk
  clear S0 c0 HR0 hbs hfar hrs hrow hbox hk hol
  by_cases hlt : k < m
  ·have hc1 := HB.out.old (HCells.out k hlt)
   have hxu := HU.out k
   have HD := Lib.hid (drop_at (l := xs) (k := k) (by rw [HL.out]; exact hlt))
   generalize xs.getD k 0 = x at *
   cases hx : entryW x with
   | none =>
    have HE := Lib.hid (fun w => mentry_no x w hxu hx)
    have hnone : res = none := by rw [← HS.out, HD.out]; simp [entriesF, hx]
    subst hnone
    clear hx hxu
    go_wp2_with fail
    refine (HE.out _).mono ?_
    rintro e w1 ⟨rfl, b1⟩
    have S1 := HB.out.below b1
    have c1 := ((BS.start _).below b1).oldbox HBox.out hlt0
    have S1a := S1.alloc (.cells #[.int .i64 0, .int .u32 0] 147)
    have c1a := loc_old (.cells #[.int .i64 0, .int .u32 0] 147) (S1.ls w.heap.size (by simp)).1 c1
    have d1a := loc_alloc w1 #[.int .i64 0, .int .u32 0] 147
    go_wp2_with fail
    refine wp_region_noPanic ?_
    refine wp_region_held_drew (S := fun w' => (∀ o : Nat, w'.cell? ⟨w1.heap.size, o, none⟩ = (#[.int .i64 0, .int .u32 0] : Array Value)[o]?) ∧ (∀ o : Nat, w'.cell? ⟨w.heap.size, o, none⟩ = (#[.int .i64 t, .int .i64 p, .int .i64 s] : Array Value)[o]?)) (by kernel_rfl) ?_ (fun hHeld => ?_)
    ·exact ⟨d1a, c1a⟩
    refine wT 0 ?_
    refine wT 1 ?_
    refine wT 2 ?_
    refine wU 3 ?_
    refine wU 4 ?_
    refine wU 5 ?_
    refine wU 6 ?_
    refine wU 7 ?_
    refine wT 8 ?_
    refine wpAnyH_done (by kernel_rfl) (NoPanic.normal ?_) _
    go_wp2
    refine bodyPost_ret (v := .tuple #[.slice none 0 0, .bool false]) (by simp [results, Tryz.results142, go_sem]) rfl ⟨rfl, S1a.drew.bel⟩
   | some q =>
    obtain ⟨qc, qv⟩ := q
    have HE := Lib.hid (fun w => mentry_yes x qc qv w hxu hx)
    have hEn : entriesF N (xs.drop k) = if qc < N then (entriesF N (xs.drop (k + 1))).map ((qc, qv) :: ·) else none := by rw [HD.out]; simp [entriesF, hx]
    have HEn := Lib.hid hEn
    clear hx hxu hEn
    by_cases hcN : qc < N
    ·have hS2 : (entriesF N (xs.drop (k + 1))).map ((out ++ [(qc, qv)]) ++ ·) = res := by
      rw [← HS.out, HEn.out, if_pos hcN, Option.map_map]
      congr 1
      funext z
      simp
     have HS2 := Lib.hid hS2
     clear hS2 HS HEn
     go_wp2_with fail
     refine (HE.out _).mono ?_
     rintro e w1 ⟨rfl, b1⟩
     have S1 := HB.out.below b1
     have R1 := ((BS.start _).below b1).row HRow.out
     have c1 := ((BS.start _).below b1).oldbox HBox.out hlt0
     have S1a := S1.alloc (.cells #[.int .i64 qc, .int .u32 qv] 147)
     have R1d := ownsRow_block (w' := (w1.alloc (.cells #[.int .i64 qc, .int .u32 qv] 147)).drew) (R1.alloc (.cells #[.int .i64 qc, .int .u32 qv] 147)) (fun _ _ => rfl)
     have c1a := loc_old (.cells #[.int .i64 qc, .int .u32 qv] 147) (S1.ls w.heap.size (by simp)).1 c1
     have d1a := loc_alloc w1 #[.int .i64 qc, .int .u32 qv] 147
     clear b1 S1 R1 c1
     go_wp2_with fail
     refine wp_region_noPanic ?_
     refine wp_region_held_drew (S := fun w' => (∀ o : Nat, w'.cell? ⟨w1.heap.size, o, none⟩ = (#[.int .i64 qc, .int .u32 qv] : Array Value)[o]?) ∧ (∀ o : Nat, w'.cell? ⟨w.heap.size, o, none⟩ = (#[.int .i64 t, .int .i64 p, .int .i64 s] : Array Value)[o]?)) (by kernel_rfl) ?_ (fun hHeld => ?_)
     ·exact ⟨d1a, c1a⟩
     refine wT 0 ?_
     refine wT 1 ?_
     refine wT 2 ?_
     refine wT 3 ?_
     refine wT 4 ?_
     refine wT 5 ?_
     refine wR 6 fun K hK => ?_
     go_simp
     refine (calls_b S1a.drew (HC.out _)).mono ?_
     rintro e w2 ⟨rfl, S2, S2l⟩
     have d2 := loc_step S2l (by simp) hHeld.1
     have c2 := loc_step S2l (by simp) hHeld.2
     have R2 := row_step S2l (fun k hk => by simp [hk]) R1d
     clear S2l
     dsimp only
     refine hK.out _ _ ?_ (fun hHeld => ?_)
     ·exact ⟨d2, c2⟩
     clear hK K
     try simp only [Act.put, zA, zB, zC, zD, zE, zF]
     refine wT 7 ?_
     refine wT 8 ?_
     refine wpAnyH_done (by kernel_rfl) (NoPanic.normal ?_) _
     have d20 := d2 0
     have d21 := d2 1
     simp at d20 d21
     have HRow2 := Lib.hid R2
     have HS3 := Lib.hid S2
     have HC2 := Lib.hid c2
     have hz1 := (S2.ls w1.heap.size (by simp)).1
     clear R2 S2 c2 d2 R1d S1a c1a d1a hHeld HRow HB HBox
     go_wp2_with (at_builtin; go_must (refine wpL_append rfl _ _ rfl 147 i0 (.agg #[.int .i64 0, .int .u32 0]) 2 16 Tryz.underlying143 HI.out.1 HI.out.2.1 HI.out.2.2.1 HI.out.2.2.2 rfl (by decide) (.slice pa out.length pc) out.length (prCells out) rfl (HRow2.out.alloc _) ⟨w2.heap.size, 0, none⟩ 1 1 [.int .i64 qc, .int .u32 qv] rfl rfl (cell_two_at _ _ _ _ _ rfl) ?c1 ?c2 ?c3 ?_); go_must (case c1 => (simp [Value.oneCell'])); go_must (case c2 => (have := HOL.out; unfold maxLen; omega)); go_must (case c3 => (have := HOL.out; omega)); go_must (intro v' w5 hown5 hg5 hnew5 hnil5); clear hnil5)
     have hown6 : w5.ownsRow 0 147 2 v' (out ++ [(qc, qv)]).length (prCells (out ++ [(qc, qv)])) := by rw [prCells_snoc, List.length_append]; exact hown5
     obtain ⟨g', cap', rfl⟩ := Joins.ownsRow_form hown6 (by simp)
     have S5 := (HS3.out.sub (w.heap.size :: (Value.slice pa out.length pc).ownBlock.toList) (fun L hL => List.mem_cons_of_mem _ hL)).append hg5 hnew5 hown6
     have c5 := loc_grown hg5 (by have := (HS3.out.ls w.heap.size (by simp)).1; simp; omega) (fun e => by have := HF.out _ e; omega) (loc_old (.cells #[.int .i64 qc, .int .u32 qv] 147) (HS3.out.ls w.heap.size (by simp)).1 HC2.out)
     have hfar5 : ∀ j, (Value.slice (some ⟨g', 0, none⟩) (out ++ [(qc, qv)]).length cap').ownBlock = some j → w.heap.size < j := fun j hj => by
      rcases hnew5 j (by simpa [Value.ownBlock] using hj) with h | h
      ·exact HF.out j h
      ·have := (HS3.out.ls w.heap.size (by simp)).1
       simp at h; omega
     go_wp2
     go_roundw
     case rel => exact ⟨k + 1, out ++ [(qc, qv)], by rw [HL.out]; omega, by go_num, by simp [HOL.out], hown6, S5, c5, HS2.out, hfar5⟩
     case measure => simp [intOf]; omega
    ·have hnone : res = none := by rw [← HS.out, HEn.out, if_neg hcN]; rfl
     subst hnone
     go_wp2_with fail
     refine (HE.out _).mono ?_
     rintro e w1 ⟨rfl, b1⟩
     have S1 := HB.out.below b1
     have c1 := ((BS.start _).below b1).oldbox HBox.out hlt0
     have S1a := S1.alloc (.cells #[.int .i64 qc, .int .u32 qv] 147)
     have c1a := loc_old (.cells #[.int .i64 qc, .int .u32 qv] 147) (S1.ls w.heap.size (by simp)).1 c1
     have d1a := loc_alloc w1 #[.int .i64 qc, .int .u32 qv] 147
     go_wp2_with fail
     refine wp_region_noPanic ?_
     refine wp_region_held_drew (S := fun w' => (∀ o : Nat, w'.cell? ⟨w1.heap.size, o, none⟩ = (#[.int .i64 qc, .int .u32 qv] : Array Value)[o]?) ∧ (∀ o : Nat, w'.cell? ⟨w.heap.size, o, none⟩ = (#[.int .i64 t, .int .i64 p, .int .i64 s] : Array Value)[o]?)) (by kernel_rfl) ?_ (fun hHeld => ?_)
     ·exact ⟨d1a, c1a⟩
     refine wT 0 ?_
     refine wT 1 ?_
     refine wT 2 ?_
     refine wT 3 ?_
     refine wT 4 ?_
     refine wT 5 ?_
     refine wR 6 fun K hK => ?_
     go_simp
     refine (calls_b S1a.drew (HC.out _)).mono ?_
     rintro e w2 ⟨rfl, S2, S2l⟩
     have d2 := loc_step S2l (by simp) hHeld.1
     have c2 := loc_step S2l (by simp) hHeld.2
     clear S2l
     dsimp only
     refine hK.out _ _ ?_ (fun hHeld => ?_)
     ·exact ⟨d2, c2⟩
     clear hK K
     try simp only [Act.put, zA, zB, zC, zD, zE, zF]
     refine wT 7 ?_
     refine wT 8 ?_
     refine wpAnyH_done (by kernel_rfl) (NoPanic.normal ?_) _
     go_wp2
     refine bodyPost_ret (v := .tuple #[.slice none 0 0, .bool false]) (by simp [results, Tryz.results142, go_sem]) rfl ⟨rfl, S2.bel⟩
  ·have hkm2 : k = m := by omega
   subst hkm2
   have hres : res = some out := by
    rw [← HS.out, List.drop_of_length_le (by rw [HL.out]; omega)]
    simp [entriesF]
   subst hres
   go_wp2
   refine bodyPost_ret (v := .tuple #[.slice pa out.length pc, .bool true]) (by simp [results, Tryz.results142, go_sem]) rfl ⟨_, rfl, HRow.out, fun j hj => Nat.le_of_lt (HF.out j hj), HB.out.bel⟩
end Go.Proofs.YtcbikgafdclhaaaGreat
/- redo: the program's log, settled, Settle. -/
set_option linter.unusedSimpArgs false
set_option linter.unusedVariables false
namespace Go.Proofs.YtcbikgafdclhaaaGreat
open Go.RowKit

theorem slice3_64 (W : World) (ad : Addr) (n c l h : Nat) (x y : Int) (hx : x = (l : Int)) (hy : y = (h : Int)) (h1 : l ≤ h) (h2 : h ≤ c) :
 (Instr.slice 22 (.slice (some ad) n c) (some (.int .i64 x)) (some (.int .i64 y)) (some (.int .i64 y))).run Tryz.prog W = .ok (.slice (some (if h = l then ad else ad.add l)) (h - l) (h - l)) W := by
 subst hx hy
 have ht : Tryz.prog.underlying 22 = some (.slice (Tryz.prog.elem 22)) := by simp [Program.elem, Tryz.underlying22]
 have he : Tryz.prog.elem 22 = 61 := by simp [Program.elem, Tryz.underlying22]
 rw [run_slice_lhm W _ _ _ _ ht .i64 .i64 .i64 _ _ _ (by omega) (by omega) (by omega) (by omega), he]
 have hs : (Go.sizeOf 61).run Tryz.prog W = .ok 1 W := by kernel_rfl
 rw [hs]
 simp only [Result.andThen, sliced, Int.toNat_natCast, Nat.mul_one]
 by_cases h0 : h = l <;> simp [h0]

theorem row_set {w : World} {B e sz n L o : Nat} {v u : Value} {xs : List Value} (h : w.ownsRow B e sz v n xs) (hk : v.ownBlock ≠ some L) : (w.setCell ⟨L, o, none⟩ u).ownsRow B e sz v n xs :=
 ownsRow_keep h fun k x => heap_setCell_other fun e => hk (e ▸ x)
section
variable {w : World} {t p s : Int} {ad : Addr} {n : Nat} {ws : List Int}
theorem pright_any (hr : rightB t p s = true) (a : Option Addr) (n c : Nat) (w : World) :
 Calls Tryz.prog 92 #[.agg #[.int .i64 t, .int .i64 p, .int .i64 s], .slice a n c] w fun e w' => e = .returned (.bool (decide ((n : Int) = wordsN t p))) ∧ Below w.heap.size w w' := by
 have HW := Lib.hid (fun w => words_any t p s w)
 rw [show wordsF t p s = wordsN t p by simp [wordsF, hr]] at HW
 have hN := makers_bd hr
 have ht := right_bd hr
 have hpos : 0 < wordsN t p := by omega
 clear hN hr
 generalize wordsN t p = N at *
 have hb : ((n : Int) == N) = decide ((n : Int) = N) := rfl
 rw [← hb]
 clear hb
 go_enter Tryz.func92, Tryz.ntmps92
 go_wp2_with fail
 refine (HW.out _).mono ?_
 rintro e w1 ⟨rfl, ha⟩
 obtain ⟨hac, haf⟩ := bcell ha
 have haz0 : w.heap.size < w1.heap.size := by have := ha.size; first | omega | (simp at this; omega)
 go_wp2_with fail
 refine (HW.out _).mono ?_
 rintro e w2 ⟨rfl, hb2⟩
 obtain ⟨hb2c, hb2f⟩ := bcell hb2
 go_wp2
 go_ret
 refine ⟨rfl, ?_⟩
 (repeat (first | exact Below.refl _ _ | assumption | refine Below.setCell ?_ (by first | omega | (simp; done) | (simp; omega)) _ | refine Below.alloc ?_ (by first | omega | (simp; done) | (simp; omega)) _ | refine Below.drew ?_ | refine Below.trans ?_ (Below.mono ‹Below _ _ _› (by first | omega | (simp; done) | (simp; omega)))))
theorem pmaker_any (hr : rightB t p s = true) (u : Int) (w : World) (h1 : 0 ≤ u) :
 Calls Tryz.prog 93 #[.agg #[.int .i64 t, .int .i64 p, .int .i64 s], .int .i64 u] w fun e w' => e = .returned (.bool (decide (u ≤ t))) ∧ Below w.heap.size w w' := by
 by_cases h2 : u ≤ t
 ·rw [show decide (u ≤ t) = true by simpa using h2]
  have H := Lib.hid (fun w => pnote_any hr u w h1 h2)
  have hN := makers_bd hr
  have hx : 0 ≤ noteAt t p u := by unfold noteAt; omega
  generalize noteAt t p u = x at *
  clear hN hr
  go_enter Tryz.func93, Tryz.ntmps93
  go_wp2_with fail
  refine (H.out _).mono ?_
  rintro e w1 ⟨rfl, ha⟩
  obtain ⟨hac, haf⟩ := bcell ha
  have haz0 : w.heap.size < w1.heap.size := by have := ha.size; first | omega | (simp at this; omega)
  go_wp2
  go_ret
  refine ⟨rfl, ?_⟩
  (repeat (first | exact Below.refl _ _ | assumption | refine Below.setCell ?_ (by first | omega | (simp; done) | (simp; omega)) _ | refine Below.alloc ?_ (by first | omega | (simp; done) | (simp; omega)) _ | refine Below.drew ?_ | refine Below.trans ?_ (Below.mono ‹Below _ _ _› (by first | omega | (simp; done) | (simp; omega)))))
 ·rw [show decide (u ≤ t) = false by simpa using h2]
  have H := Lib.hid (fun w => pnote_no hr u w h1 (by omega))
  clear hr
  go_enter Tryz.func93, Tryz.ntmps93
  go_wp2_with fail
  refine (H.out _).mono ?_
  rintro e w1 ⟨rfl, ha⟩
  obtain ⟨hac, haf⟩ := bcell ha
  have haz0 : w.heap.size < w1.heap.size := by have := ha.size; first | omega | (simp at this; omega)
  go_wp2
  go_ret
  refine ⟨rfl, ?_⟩
  (repeat (first | exact Below.refl _ _ | assumption | refine Below.setCell ?_ (by first | omega | (simp; done) | (simp; omega)) _ | refine Below.alloc ?_ (by first | omega | (simp; done) | (simp; omega)) _ | refine Below.drew ?_ | refine Below.trans ?_ (Below.mono ‹Below _ _ _› (by first | omega | (simp; done) | (simp; omega)))))

/-- what Log answers of a maker whose note is one. -/
def LogQ (w : World) (st n : Int) (op : Bool) (r : Option (List (Int × Int))) (e : Ending) (w' : World) : Prop := match r with
 | some l => ∃ v, e = .returned (.tuple #[.agg #[.int .u32 st, .bool op, .int .i64 n], v, .bool true]) ∧ w'.ownsRow 0 147 2 v l.length (prCells l) ∧ (∀ k, v.ownBlock = some k → w.heap.size ≤ k) ∧ Below w.heap.size w w'
 | none => e = .returned (.tuple #[.agg #[.int .u32 0, .bool false, .int .i64 0], .slice none 0 0, .bool false]) ∧ Below w.heap.size w w'
set_option maxHeartbeats 1000000 in
set_option maxRecDepth 100000 in
theorem plogs_any (h : WX w t p s ad n ws) (c : Nat) (hc : n ≤ c) (u st m : Int) (op : Bool) (h1 : 0 ≤ u) (h2 : u ≤ t) (hn : noteW (ws.getD (noteAt t p u).toNat 0) = some (st, op, m)) :
 Calls Tryz.prog 96 #[.agg #[.int .i64 t, .int .i64 p, .int .i64 s], .slice (some ad) n c, .int .i64 u] w (LogQ w st m op (entriesF (cellsN t p) ((ws.drop (logAt t p u 0).toNat).take m.toNat))) := by
 have bd := h.bd
 have hr := h.right
 obtain ⟨-, m0, m1, -, -⟩ := note_bd (getD_u64 h.u64 _) hn
 obtain ⟨M, rfl⟩ : ∃ M : Nat, m = M := ⟨m.toNat, by omega⟩
 obtain ⟨F, hF⟩ : ∃ F : Nat, logAt t p u 0 = F := ⟨(logAt t p u 0).toNat, by unfold logAt; omega⟩
 obtain ⟨K, hK⟩ : ∃ K : Nat, noteAt t p u = K := ⟨(noteAt t p u).toNat, by unfold noteAt; omega⟩
 have hFn : F + M ≤ n := by unfold logAt at hF; omega
 have hKn : K < n := by unfold noteAt at hK; omega
 have hlen := h.len
 have hxl : ((ws.drop F).take M).length = M := by simp; omega
 have hxg : ∀ k, k < M → ((ws.drop F).take M).getD k 0 = ws.getD (F + k) 0 := fun k hk => by
  simp [List.getD_eq_getElem?_getD, List.getElem?_take, hk, List.getElem?_drop]
 have HR := Lib.hid (fun w => pright_any hr (some ad) n c w)
 rw [show decide ((n : Int) = wordsN t p) = true by simpa using h.num] at HR
 have HM := Lib.hid (fun w => pmaker_any hr u w h1)
 rw [show decide (u ≤ t) = true by simpa using h2] at HM
 have HN := Lib.hid (fun w => pnote_any hr u w h1 h2)
 have HLg := Lib.hid (fun w => plog_any hr u 0 w h1 h2 (by omega) (by omega))
 rw [hF] at HLg
 rw [hK] at HN hn
 rw [Int.toNat_natCast] at hn
 have HO := Lib.hid (fun w => monote_yes _ st (M : Int) op w (getD_u64 h.u64 K) hn)
 have hk0 : ∀ W, Below w.heap.size w W → W.cell? (ad.add K) = some (.int .u64 (ws.getD K 0)) := fun W hb => h.at hb hKn
 have HK := Lib.hid hk0
 have hE : ∀ W, Below w.heap.size w W → Calls Tryz.prog 142 #[.agg #[.int .i64 t, .int .i64 p, .int .i64 s], .slice (some (if F + M = F then ad else ad.add F)) (F + M - F) (F + M - F)] W (EntQ W (entriesF (cellsN t p) ((ws.drop F).take M))) := fun W hb => by
  rw [show F + M - F = M by omega]
  refine entries_any t p s _ M M _ W hr hxl (by omega) (fun v hv => h.u64 v (List.mem_of_mem_drop (List.mem_of_mem_take hv))) fun k hk => ?_
  rw [if_neg (by omega), hxg k hk, addr_add_add]
  exact h.at hb (by omega)
 have HE := Lib.hid hE
 have hsl := fun W => slice3_64 W ad n c F (F + M) (F : Int) ((F : Int) + M) rfl (by omega) (by omega) (by omega)
 have hwr : IntKind.i64.wrap ((F : Int) + M) = (F : Int) + M := wrap_in _ (by omega)
 rw [hF, Int.toNat_natCast, Int.toNat_natCast]
 have HKn := Lib.hid hKn
 generalize (if F + M = F then ad else ad.add F) = AD at *
 generalize F + M - F = MM at *
 obtain ⟨res, hres⟩ : ∃ res, entriesF (cellsN t p) ((ws.drop F).take M) = res := ⟨_, rfl⟩
 rw [hres] at HE ⊢
 generalize ws.getD K 0 = x at *
 have c1 := loc_old (.cells #[.int .u32 0, .bool false, .int .i64 0] 142) (by simp) (loc_alloc w #[.int .i64 t, .int .i64 p, .int .i64 s] 44)
 have d1 := loc_alloc (w.alloc (.cells #[.int .i64 t, .int .i64 p, .int .i64 s] 44)) #[.int .u32 0, .bool false, .int .i64 0] 142
 simp only [World.size_alloc] at d1
 have S1 := BS.start ((w.alloc (.cells #[.int .i64 t, .int .i64 p, .int .i64 s] 44)).alloc (.cells #[.int .u32 0, .bool false, .int .i64 0] 142))
 have HB1 := Lib.hid (show ∀ W, Below ((w.alloc (.cells #[.int .i64 t, .int .i64 p, .int .i64 s] 44)).alloc (.cells #[.int .u32 0, .bool false, .int .i64 0] 142)).heap.size ((w.alloc (.cells #[.int .i64 t, .int .i64 p, .int .i64 s] 44)).alloc (.cells #[.int .u32 0, .bool false, .int .i64 0] 142)) W → Below w.heap.size w W from fun W hb => (((Below.refl _ w).alloc (Nat.le_refl _) _).alloc (by simp) _).trans (hb.mono (by simp; omega)))
 have hKi : (K : Int) < n := by omega
 clear hn hres h hr hF hK hlen hxl hxg hk0 hE hKn
 go_enter Tryz.func96, Tryz.ntmps96
 go_wp2_with fail
 refine (calls_b S1 (HR.out _)).mono ?_
 rintro e w1 ⟨rfl, S2, -⟩
 have c2 := S2.oldbox c1 (by simp; omega)
 go_wp2_with fail
 refine (calls_b S2 (HM.out _)).mono ?_
 rintro e w2 ⟨rfl, S3, -⟩
 have c3 := S3.oldbox c1 (by simp; omega)
 clear c2
 go_wp2_with fail
 refine (calls_b S3 (HN.out _)).mono ?_
 rintro e w3 ⟨rfl, S4, -⟩
 have c4 := S4.oldbox c1 (by simp; omega)
 have k4 := HK.out _ (HB1.out _ S4.bel)
 clear S1 S2 S3 c3
 go_wp2_with fail
 refine (calls_b S4 (HO.out _)).mono ?_
 rintro e w4 ⟨rfl, S5, -⟩
 have e5 := loc_alloc w4 #[.int .u32 st, .bool op, .int .i64 M] 142
 have S6 := S5.alloc (.cells #[.int .u32 st, .bool op, .int .i64 M] 142)
 have c6 := S6.oldbox c1 (by simp; omega)
 clear S4 c4 k4 S5
 go_wp2_with fail
 refine (calls_b S6 (HLg.out _)).mono ?_
 rintro e w5 ⟨rfl, S7, S7l⟩
 have e7 := loc_step S7l (by simp) e5
 clear S7l c6
 cases res with
 | none =>
  go_wp2_with fail
  refine wp_region_noPanic ?_
  refine wp_region_held_drew (S := fun w' => (∀ o : Nat, w'.cell? ⟨w4.heap.size, o, none⟩ = (#[.int .u32 st, .bool op, .int .i64 M] : Array Value)[o]?) ∧ (∀ o : Nat, w'.cell? ⟨w.heap.size, o, none⟩ = (#[.int .i64 t, .int .i64 p, .int .i64 s] : Array Value)[o]?)) (by kernel_rfl) ?_ (fun hHeld => ?_)
  ·exact ⟨e7, S7.oldbox c1 (by simp; omega)⟩
  refine wT 0 ?_
  refine wT 1 ?_
  refine wT 2 ?_
  refine wT 3 ?_
  refine wT 4 ?_
  refine wT 5 ?_
  refine wT 6 ?_
  refine wT 7 ?_
  refine wT 8 ?_
  refine wT 9 ?_
  refine wT 10 ?_
  refine wT 11 ?_
  refine wR 12 fun K hK => ?_
  go_simp
  refine (HE.out _ (HB1.out _ S7.drew.bel)).mono ?_
  rintro e w8 ⟨rfl, b8⟩
  have S8 := S7.drew.below b8
  have k8 := And.intro (((BS.start _).below b8).oldbox hHeld.1 (S7.drew.ls w4.heap.size (by simp)).1) (S8.oldbox c1 (by simp; omega))
  refine hK.out _ _ ?_ (fun hHeld => ?_)
  ·exact k8
  clear hK K
  try simp only [Act.put, zA, zB, zC, zD, zE, zF]
  refine wT 13 ?_
  refine wT 14 ?_
  refine wT 15 ?_
  refine wT 16 ?_
  refine wT 17 ?_
  refine wpAnyH_done (by kernel_rfl) (NoPanic.normal ?_) _
  have k1 := k8.1
  have q0 := k1 0
  have q1 := k1 1
  have q2 := k1 2
  have k3 := S8.oldbox d1 (by simp)
  have r0 := k3 0
  have r1 := k3 1
  have r2 := k3 2
  have f0 := S8.bel.frozen (p := ⟨w.heap.size + 1, 0, none⟩) (by simp)
  have f1 := S8.bel.frozen (p := ⟨w.heap.size + 1, 1, none⟩) (by simp)
  have f2 := S8.bel.frozen (p := ⟨w.heap.size + 1, 2, none⟩) (by simp)
  simp at q0 q1 q2 r0 r1 r2 f0 f1 f2
  have g1 := (S8.ls w4.heap.size (by simp)).1
  have gb := HB1.out _ S8.bel
  clear k1 k3 k8
  go_wp2
  refine bodyPost_ret (v := .tuple #[.agg #[.int .u32 0, .bool false, .int .i64 0], .slice none 0 0, .bool false]) (by simp [results, Tryz.results96, go_sem, *]) rfl ?_
  exact ⟨rfl, ((gb.setCell (p := ⟨w.heap.size + 1, 0, none⟩) (by simp) _).setCell (p := ⟨w.heap.size + 1, 1, none⟩) (by simp) _).setCell (p := ⟨w.heap.size + 1, 2, none⟩) (by simp) _⟩
 | some l =>
  go_wp2_with fail
  refine wp_region_noPanic ?_
  refine wp_region_held_drew (S := fun w' => (∀ o : Nat, w'.cell? ⟨w4.heap.size, o, none⟩ = (#[.int .u32 st, .bool op, .int .i64 M] : Array Value)[o]?) ∧ (∀ o : Nat, w'.cell? ⟨w.heap.size, o, none⟩ = (#[.int .i64 t, .int .i64 p, .int .i64 s] : Array Value)[o]?)) (by kernel_rfl) ?_ (fun hHeld => ?_)
  ·exact ⟨e7, S7.oldbox c1 (by simp; omega)⟩
  refine wT 0 ?_
  refine wT 1 ?_
  refine wT 2 ?_
  refine wT 3 ?_
  refine wT 4 ?_
  refine wT 5 ?_
  refine wT 6 ?_
  refine wT 7 ?_
  refine wT 8 ?_
  refine wT 9 ?_
  refine wT 10 ?_
  refine wT 11 ?_
  refine wR 12 fun K hK => ?_
  go_simp
  refine (HE.out _ (HB1.out _ S7.drew.bel)).mono ?_
  rintro e w8 ⟨v8, rfl, o8, f8, b8⟩
  have S8 := S7.drew.below b8
  have k8 := And.intro (((BS.start _).below b8).oldbox hHeld.1 (S7.drew.ls w4.heap.size (by simp)).1) (S8.oldbox c1 (by simp; omega))
  refine hK.out _ _ ?_ (fun hHeld => ?_)
  ·exact k8
  clear hK K
  try simp only [Act.put, zA, zB, zC, zD, zE, zF]
  refine wT 13 ?_
  refine wT 14 ?_
  refine wT 15 ?_
  refine wT 16 ?_
  refine wT 17 ?_
  refine wpAnyH_done (by kernel_rfl) (NoPanic.normal ?_) _
  have k1 := k8.1
  have q0 := k1 0
  have q1 := k1 1
  have q2 := k1 2
  have k3 := S8.oldbox d1 (by simp)
  have r0 := k3 0
  have r1 := k3 1
  have r2 := k3 2
  have f0 := S8.bel.frozen (p := ⟨w.heap.size + 1, 0, none⟩) (by simp)
  have f1 := S8.bel.frozen (p := ⟨w.heap.size + 1, 1, none⟩) (by simp)
  have f2 := S8.bel.frozen (p := ⟨w.heap.size + 1, 2, none⟩) (by simp)
  simp at q0 q1 q2 r0 r1 r2 f0 f1 f2
  have g1 := (S8.ls w4.heap.size (by simp)).1
  have gb := HB1.out _ S8.bel
  clear k1 k3 k8
  obtain ⟨a8, c8, rfl⟩ := row_shape2 o8
  go_wp2
  refine bodyPost_ret (v := .tuple #[.agg #[.int .u32 st, .bool op, .int .i64 M], .slice a8 l.length c8, .bool true]) (by simp [results, Tryz.results96, go_sem, *]) rfl ?_
  have hz := S7.bel.size
  simp at hz
  have hne : (Value.slice a8 l.length c8).ownBlock ≠ some (w.heap.size + 1) := fun hk => by
   have := f8 _ hk
   simp at this; omega
  exact ⟨_, rfl, row_set (row_set (row_set o8 hne) hne) hne, fun k hk => by have := f8 k hk; simp at this; omega, ((gb.setCell (p := ⟨w.heap.size + 1, 0, none⟩) (by simp) _).setCell (p := ⟨w.heap.size + 1, 1, none⟩) (by simp) _).setCell (p := ⟨w.heap.size + 1, 2, none⟩) (by simp) _⟩
end
end Go.Proofs.YtcbikgafdclhaaaGreat
/- redo: the program's settled and Settle. -/
set_option linter.unusedSimpArgs false
set_option linter.unusedVariables false
namespace Go.Proofs.YtcbikgafdclhaaaGreat
open Go.RowKit

theorem turnL_append (s : Int) : ∀ (l1 l2 : List (Int × Int)) (ws : List Int), turnL s (l1 ++ l2) ws = turnL s l2 (turnL s l1 ws)
 | [], _, _ => rfl
 | x :: l1, l2, ws => by
  show turnL s (l1 ++ l2) _ = turnL s l2 (turnL s l1 _)
  rw [turnL_append]
theorem turnL_snoc (s : Int) (l : List (Int × Int)) (x : Int × Int) (ws : List Int) : turnL s (l ++ [x]) ws = if hiW ((turnL s l ws).getD (16 + x.1).toNat 0) < s then (turnL s l ws).set (16 + x.1).toNat (joinW s x.2) else turnL s l ws := by
 rw [turnL_append]
 rfl
theorem stamps_iff {ws : List Int} {s : Int} {n : Nat} : stampsB ws s n = true ↔ ∀ i, i < n → hiW (ws.getD (16 + i) 0) ≤ s := by
 simp [stampsB]
def StlQ (w : World) (t p : Int) (n : Nat) (ws : List Int) (r : Option (Int × Int × Option (List (Int × Int)))) (e : Ending) (w' : World) : Prop := match r with
 | none => e = .returned (.tuple #[.slice none 0 0, .int .i64 0, .bool false]) ∧ Below w.heap.size w w'
 | some (s, u, l) => ∃ g cap, e = .returned (.tuple #[.slice (some ⟨g, 0, none⟩) n cap, .int .i64 (if l.isSome = true then noteAt t p u else -1), .bool true]) ∧ w'.ownsRow 0 61 1 (.slice (some ⟨g, 0, none⟩) n cap) n (ulongs (behindF s l ws)) ∧ w.heap.size ≤ g ∧ Below w.heap.size w w'
def SlwRel (w : World) (t p s : Int) (ws : List Int) (st : Int) (N : Nat) (v : Value) (wr : World) : Prop :=
 ∃ k : Nat, k ≤ N ∧ v = .int .i64 k ∧ (∀ j, j < k → hiW (ws.getD (16 + j) 0) ≤ st) ∧ (∀ o : Nat, wr.cell? ⟨w.heap.size, o, none⟩ = (#[.int .i64 t, .int .i64 p, .int .i64 s] : Array Value)[o]?) ∧ BS w [w.heap.size] wr
def TlwRel (w : World) (t p s : Int) (ws : List Int) (st : Int) (n : Nat) (l : List (Int × Int)) (g cap : Nat) (rv : Value) (v : Value) (wr : World) : Prop :=
 ∃ k : Nat, k ≤ l.length ∧ v = .int .i64 k ∧ wr.ownsRow 0 61 1 (.slice (some ⟨g, 0, none⟩) n cap) n (ulongs (turnL st (l.take k) ws)) ∧ wr.ownsRow 0 147 2 rv l.length (prCells l) ∧ (∀ o : Nat, wr.cell? ⟨w.heap.size, o, none⟩ = (#[.int .i64 t, .int .i64 p, .int .i64 s] : Array Value)[o]?) ∧ BS w (g :: w.heap.size :: rv.ownBlock.toList) wr
theorem ulongs_set (l : List Int) (i : Nat) (v : Int) : (ulongs l).set i (.int .u64 v) = ulongs (l.set i v) := by simp [ulongs, List.map_set]
theorem urow_cell {w : World} {B g c n : Nat} {l : List Int} (h : w.ownsRow B 61 1 (.slice (some ⟨g, 0, none⟩) n c) n (ulongs l)) {i : Nat} (hi : i < n) : ∃ z, w.cell? ⟨g, i, none⟩ = some z := by
 refine ⟨_, (h.cellAt i (by omega)).trans (List.getElem?_eq_getElem ?_)⟩
 have := h.1
 omega
theorem open_note {v s m : Int} (h : openW v s = some m) : noteW v = some (s, true, m) := by
 unfold openW at h
 split at h
 ·rename_i st k hn
  split at h
  ·rename_i hs
   subst hs
   cases h
   exact hn
  ·cases h
 ·cases h
theorem prow_cell {w : World} {a : Option Addr} {m c : Nat} {l : List (Int × Int)} (h : w.ownsRow 0 147 2 (.slice a m c) l.length (prCells l)) {k : Nat} (hk : k < l.length) :
 ∃ g, a = some ⟨g, 0, none⟩ ∧ w.cell? ⟨g, k * 2, none⟩ = some (.int .i64 (l.getD k (0, 0)).1) ∧ w.cell? ⟨g, k * 2 + 1, none⟩ = some (.int .u32 (l.getD k (0, 0)).2) := by
 obtain ⟨g, cap, e⟩ := Joins.ownsRow_form h (by omega)
 simp only [Value.slice.injEq] at e
 obtain ⟨rfl, rfl, rfl⟩ := e
 have hx : l[k]? = some (l.getD k (0, 0)) := by simp [hk]
 have hlen : ∀ x : Int × Int, ([.int .i64 x.1, .int .u32 x.2] : List Value).length = 2 := fun _ => rfl
 have hfl : (prCells l).length = l.length * 2 := flat_len _ 2 hlen l
 refine ⟨g, rfl, ?_, ?_⟩
 ·rw [h.cellAt (k * 2) (by omega)]
  exact flat_cell _ 2 hlen hx (j := 0) rfl
 ·rw [h.cellAt (k * 2 + 1) (by omega)]
  exact flat_cell _ 2 hlen hx (j := 1) rfl
section
variable {w : World} {t p s : Int} {ad : Addr} {n : Nat} {ws : List Int}
set_option maxHeartbeats 2000000 in
set_option maxRecDepth 100000 in
theorem psettled_any (h : WX w t p s ad n ws) (c : Nat) (hc : n ≤ c) :
 Calls Tryz.prog 50 #[.agg #[.int .i64 t, .int .i64 p, .int .i64 s], .slice (some ad) n c] w (StlQ w t p n ws (lastF t p ws)) := by
 have bd := h.bd
 have hr := h.right
 have HR := Lib.hid (fun w => pright_any hr (some ad) n c w)
 rw [show decide ((n : Int) = wordsN t p) = true by simpa using h.num] at HR
 have hcell : ∀ k, k < n → ∀ W, Below w.heap.size w W → W.cell? (ad.add k) = some (.int .u64 (ws.getD k 0)) := fun k hk W hb => h.at hb hk
 have HW := Lib.hid hcell
 have H8 := Lib.hid (show ∀ W, Below w.heap.size w W → W.cell? ⟨ad.block, ad.off + 8, none⟩ = some (.int .u64 (ws.getD 8 0)) from fun W hb => by
  have := hcell 8 (by omega) W hb
  rwa [show ad.add 8 = ⟨ad.block, ad.off + 8, none⟩ by simp [Addr.add]] at this)
 have HH := Lib.hid h
 have hu := getD_u64 h.u64
 have HUx := Lib.hid hu
 have hn8 : (8 : Int) < n := by omega
 have c0 := loc_alloc w #[.int .i64 t, .int .i64 p, .int .i64 s] 44
 have S0 := ((BS.start w).alloc (.cells #[.int .i64 t, .int .i64 p, .int .i64 s] 44))
 obtain ⟨res, hres⟩ : ∃ res, lastF t p ws = res := ⟨_, rfl⟩
 rw [hres]
 have HRes := Lib.hid hres
 unfold lastF at hres
 cases ht : tipW (ws.getD 8 0) with
 | none =>
  have HT := Lib.hid (fun w => motip_no _ w (hu 8) ht)
  rw [ht] at hres
  subst hres
  clear HRes hcell h hu ht
  generalize ws.getD 8 0 = x at *
  go_enter Tryz.func50, Tryz.ntmps50
  go_wp2_with fail
  refine (calls_b S0 (HR.out _)).mono ?_
  rintro e w1 ⟨rfl, S1, S1l⟩
  have c1 := loc_step S1l (by simp) c0
  clear S1l
  have e8 := H8.out _ S1.bel
  go_wp2_with fail
  refine (calls_b S1 (HT.out _)).mono ?_
  rintro e w2 ⟨rfl, S2, S2l⟩
  have c2 := loc_step S2l (by simp) c1
  clear S2l
  go_wp2
  refine bodyPost_ret (v := .tuple #[.slice none 0 0, .int .i64 0, .bool false]) (by simp [results, Tryz.results50, go_sem]) rfl ⟨rfl, S2.bel⟩
 | some q =>
  obtain ⟨st, u⟩ := q
  have hub : 0 ≤ u ∧ u ≤ 16 := by
   unfold tipW at ht
   split at ht
   ·simp only [Option.some.injEq, Prod.mk.injEq] at ht
    obtain ⟨-, rfl⟩ := ht
    have := lo_bd (ws.getD 8 0)
    exact ⟨this.1, by assumption⟩
   ·cases ht
  have hsb : 0 ≤ st ∧ st < 4294967296 := by
   unfold tipW at ht
   split at ht
   ·simp only [Option.some.injEq, Prod.mk.injEq] at ht
    obtain ⟨rfl, -⟩ := ht
    exact hi_bd (hu 8)
   ·cases ht
  have HT := Lib.hid (fun w => motip_yes _ st u w (hu 8) ht)
  have HM := Lib.hid (fun w => pmaker_any hr u w hub.1)
  rw [ht] at hres
  dsimp only at hres
  generalize ws.getD 8 0 = x at *
  by_cases hut : u ≤ t
  ·rw [if_pos hut] at hres
   rw [show decide (u ≤ t) = true by simpa using hut] at HM
   have HC := Lib.hid (fun w => cells_any t p s w)
   obtain ⟨N, hN⟩ : ∃ N : Nat, cellsN t p = N := ⟨(cellsN t p).toNat, by omega⟩
   rw [show cellsF t p s = cellsN t p by simp [cellsF, hr], hN] at HC
   have HP := Lib.hid (fun (k j : Nat) (hj : 16 + k = j) w (hk : k < N) => by
    have := pword_any t p s k w hr (by omega) (by omega)
    rw [show (16 : Int) + k = (j : Int) by omega] at this
    exact this)
   have HSt := Lib.hid (fun k w => mstamp_any (ws.getD k 0) w (hu k))
   have hNn : 16 + N ≤ n := by omega
   rw [hN, Int.toNat_natCast] at hres
   have HNote := Lib.hid (fun w => pnote_any hr u w hub.1 hut)
   obtain ⟨K, hK⟩ : ∃ K : Nat, noteAt t p u = K := ⟨(noteAt t p u).toNat, by unfold noteAt; omega⟩
   have hKn : K < n := by unfold noteAt at hK; omega
   have HKx := Lib.hid (hu K)
   rw [hK] at HNote hres
   rw [Int.toNat_natCast] at hres
   have HRes2 := Lib.hid hres
   have hKi : (K : Int) < n := by omega
   have HKN := Lib.hid hK
   clear HRes hres hcell h hu ht hN hK
   go_enter Tryz.func50, Tryz.ntmps50
   go_wp2_with fail
   refine (calls_b S0 (HR.out _)).mono ?_
   rintro e w1 ⟨rfl, S1, S1l⟩
   have c1 := loc_step S1l (by simp) c0
   clear S1l
   have e8 := H8.out _ S1.bel
   go_wp2_with fail
   refine (calls_b S1 (HT.out _)).mono ?_
   rintro e w2 ⟨rfl, S2, S2l⟩
   have c2 := loc_step S2l (by simp) c1
   clear S2l
   go_wp2_with fail
   refine (calls_b S2 (HM.out _)).mono ?_
   rintro e w3 ⟨rfl, S3, S3l⟩
   have c3 := loc_step S3l (by simp) c2
   clear S3l
   go_wp2_with fail
   refine (calls_b S3 (HC.out _)).mono ?_
   rintro e w4 ⟨rfl, S4, S4l⟩
   have c4 := loc_step S4l (by simp) c3
   clear S4l
   have hA : SlwRel w t p s ws st N (.int .i64 0) w4 := ⟨0, by omega, rfl, by intro j hj; omega, c4, S4⟩
   clear S0 S1 S2 S3 S4 c0 c1 c2 c3 c4 e8
   go_wp2
   go_loopw [10, 41] (fun _ v wr => SlwRel w t p s ws st N v wr) (fun _ v _ => N - (intOf v).toNat)
   case atStart => exact hA
   case round =>
    clear hA
    obtain ⟨k, hk, rfl, hall, cb, Sb⟩ := hrel
    have HAl := Lib.hid hall
    clear hall
    by_cases hlt : k < N
    ·have hki : (k : Int) < N := by omega
     obtain ⟨j, hj⟩ : ∃ j : Nat, 16 + k = j := ⟨_, rfl⟩
     have hjn : (j : Int) < n := by omega
     go_wp2_with fail
     refine (calls_b Sb (HP.out k j hj _ hlt)).mono ?_
     rintro e w5 ⟨rfl, S5, S5l⟩
     have c5 := loc_step S5l (by simp) cb
     clear S5l
     have ej := HW.out j (by omega) _ S5.bel
     have hjx : hiW (ws.getD (16 + k) 0) = hiW (ws.getD j 0) := by rw [hj]
     go_wp2_with fail
     refine (calls_b S5 (HSt.out j _)).mono ?_
     rintro e w6 ⟨rfl, S6, S6l⟩
     have c6 := loc_step S6l (by simp) c5
     clear S6l
     by_cases hs : hiW (ws.getD j 0) ≤ st
     ·have HHs := Lib.hid hs
      have HJX := Lib.hid hjx
      clear hjx
      generalize hiW (ws.getD j 0) = y at *
      go_wp2
      go_roundw
      case rel =>
       refine ⟨k + 1, by omega, by go_num, fun i hi => ?_, c6, S6⟩
       by_cases e : i = k
       ·subst e; rw [HJX.out]; exact HHs.out
       ·exact HAl.out i (by omega)
      case measure => simp [intOf]; omega
     ·have hno : stampsB ws st N = false := by
       cases e : stampsB ws st N
       ·rfl
       ·exact absurd (stamps_iff.1 e k hlt) (by rw [hjx]; exact hs)
      have hres := HRes2.out
      rw [hno] at hres
      simp at hres
      subst hres
      clear hjx hno
      generalize hiW (ws.getD j 0) = y at *
      go_wp2
      refine bodyPost_ret (v := .tuple #[.slice none 0 0, .int .i64 0, .bool false]) (by simp [results, Tryz.results50, go_sem]) rfl ⟨rfl, S6.bel⟩
    ·have hkN : k = N := by omega
     subst hkN
     have hres := HRes2.out
     rw [stamps_iff.2 HAl.out, if_pos rfl] at hres
     clear HAl HRes2
     have HCl := Lib.hid (fun W (hb : Below w.heap.size w W) => clone64 ad n c ws W HH.out.len (by have := HH.out.bd; omega) (fun j hj => HW.out j hj W hb))
     cases ho : openW (ws.getD K 0) st with
     | none =>
      rw [ho] at hres
      dsimp only at hres
      subst hres
      have HO := Lib.hid (fun w => mopen_no _ st w HKx.out ho)
      clear ho
      go_wp2_with fail
      refine (calls_b Sb (HNote.out _)).mono ?_
      rintro e w5 ⟨rfl, S5, S5l⟩
      have c5 := loc_step S5l (by simp) cb
      clear S5l
      have ej := HW.out K hKn _ S5.bel
      go_wp2_with fail
      refine (calls_b S5 (HO.out _)).mono ?_
      rintro e w6 ⟨rfl, S6, S6l⟩
      have c6 := loc_step S6l (by simp) c5
      clear S6l
      go_wp2_with fail
      refine (HCl.out _ S6.bel).mono ?_
      rintro e w7 ⟨v7, rfl, o7, -, b7⟩
      obtain ⟨g7, c7, rfl⟩ := Joins.ownsRow_form o7 (by omega)
      have S7 := S6.below b7
      go_wp2
      have hz := S6.bel.size
      refine bodyPost_ret (v := .tuple #[.slice (some ⟨g7, 0, none⟩) n c7, .int .i64 (-1), .bool true]) (by simp [results, Tryz.results50, go_sem]) rfl ⟨g7, c7, rfl, Joins.ownsRow_le o7 (Nat.zero_le _), ?_, S7.bel⟩
      have := (o7.lt g7 rfl).1
      omega
     | some m =>
      have HO := Lib.hid (fun w => mopen_yes _ st m w HKx.out ho)
      have hno := open_note ho
      obtain ⟨-, m0, m1, -, -⟩ := note_bd HKx.out hno
      rw [ho] at hres
      dsimp only at hres
      unfold mlogF at hres
      rw [HKN.out, Int.toNat_natCast, hno] at hres
      dsimp only at hres
      rw [Option.map_map] at hres
      obtain ⟨er, her⟩ : ∃ er, entriesF (cellsN t p) ((ws.drop (logAt t p u 0).toNat).take m.toNat) = er := ⟨_, rfl⟩
      have HLog := Lib.hid (fun W (hb : Below w.heap.size w W) => (by
       have := plogs_any (HH.out.keep hb) c hc u st m true hub.1 hut (by rw [HKN.out, Int.toNat_natCast]; exact hno)
       rwa [her] at this : Calls Tryz.prog 96 #[.agg #[.int .i64 t, .int .i64 p, .int .i64 s], .slice (some ad) n c, .int .i64 u] W (LogQ W st m true er)))
      rw [her] at hres
      cases er with
      | none =>
       simp only [Option.map_none] at hres
       subst hres
       clear ho hno her HCl
       go_wp2_with fail
       refine (calls_b Sb (HNote.out _)).mono ?_
       rintro e w5 ⟨rfl, S5, S5l⟩
       have c5 := loc_step S5l (by simp) cb
       clear S5l
       have ej := HW.out K hKn _ S5.bel
       go_wp2_with fail
       refine (calls_b S5 (HO.out _)).mono ?_
       rintro e w6 ⟨rfl, S6, S6l⟩
       have c6 := loc_step S6l (by simp) c5
       clear S6l
       go_wp2_with fail
       refine (HLog.out _ S6.bel).mono ?_
       rintro e w7 ⟨rfl, b7⟩
       have S7 := S6.below b7
       go_wp2
       refine bodyPost_ret (v := .tuple #[.slice none 0 0, .int .i64 0, .bool false]) (by simp [results, Tryz.results50, go_sem]) rfl ⟨rfl, S7.bel.alloc S7.bel.size _⟩
      | some l =>
       simp only [Option.map_some, Function.comp] at hres
       subst hres
       have hbd := (entriesF_bd (fun v hv => HH.out.u64 v (List.mem_of_mem_drop (List.mem_of_mem_take hv))) her)
       have hll : l.length ≤ 96 := by
        rw [hbd.1]
        have := List.length_take_le m.toNat (ws.drop (logAt t p u 0).toNat)
        omega
       have HBd := Lib.hid hbd.2
       have HLe := Lib.hid HH.out.len
       have HUw := Lib.hid HH.out.u64
       clear ho hno her hbd
       go_wp2_with fail
       refine (calls_b Sb (HNote.out _)).mono ?_
       rintro e w5 ⟨rfl, S5, S5l⟩
       have c5 := loc_step S5l (by simp) cb
       clear S5l
       have ej := HW.out K hKn _ S5.bel
       go_wp2_with fail
       refine (calls_b S5 (HO.out _)).mono ?_
       rintro e w6 ⟨rfl, S6, S6l⟩
       have c6 := loc_step S6l (by simp) c5
       clear S6l
       go_wp2_with fail
       refine (HLog.out _ S6.bel).mono ?_
       rintro e w7 ⟨v7, rfl, o7, f7, b7⟩
       obtain ⟨a7, c7, rfl⟩ := row_shape2 o7
       have S7 := (S6.below b7).alloc (.cells #[.int .u32 st, .bool true, .int .i64 m] 142)
       have R7 := o7.alloc (.cells #[.int .u32 st, .bool true, .int .i64 m] 142)
       have cc7 := loc_old (.cells #[.int .u32 st, .bool true, .int .i64 m] 142) ((S6.below b7).ls w.heap.size (by simp)).1 (((BS.start _).below b7).oldbox c6 (S6.ls w.heap.size (by simp)).1)
       have hR7 : ∀ k, (Value.slice a7 l.length c7).ownBlock = some k → w.heap.size < k := fun k hk => by
        have := f7 k hk
        have := (S6.ls w.heap.size (by simp)).1
        omega
       have hR7b : ∀ k, (Value.slice a7 l.length c7).ownBlock = some k → k < w7.heap.size := fun k hk => ownsRow_lt o7 hk
       clear b7 o7 f7 ej S5 c5 c6 HLog HO
       go_wp2_with fail
       refine (HCl.out _ S7.bel).mono ?_
       rintro e w8 ⟨v8, rfl, o8, -, b8⟩
       obtain ⟨g8, c8, rfl⟩ := Joins.ownsRow_form o8 (by omega)
       have hz8 := (o8.lt g8 rfl).1
       simp at hz8
       have hg8 : w.heap.size ≤ g8 := by have := S7.bel.size; simp at this; omega
       have hne : ∀ k, (Value.slice a7 l.length c7).ownBlock = some k → k ≠ g8 := fun k hk => by have := hR7b k hk; omega
       have hA : TlwRel w t p s ws st n l g8 c8 (.slice a7 l.length c7) (.int .i64 0) w8 := by
        refine ⟨0, by omega, rfl, Joins.ownsRow_le o8 (Nat.zero_le _), ((BS.start _).below b8).row R7, ((BS.start _).below b8).oldbox cc7 (S7.ls w.heap.size (by simp)).1, (S7.below b8).bel, fun L hL => ?_⟩
        simp at hL
        rcases hL with h | h | hL
        ·rw [h]; exact ⟨(o8.lt g8 rfl).2, hg8⟩
        ·rw [h]; exact (S7.below b8).ls _ (by simp)
        ·have h1 := hR7 L hL
         have h2 := hR7b L hL
         have h3 := b8.size
         simp at h3
         exact ⟨by omega, by omega⟩
       have hg8ne : w.heap.size ≠ g8 := by have := (S6.ls w.heap.size (by simp)).1; have := S7.bel.size; have h3 := (S7.ls w.heap.size (by simp)).1; simp at h3; omega
       clear o8 b8 S7 R7 cc7 HCl
       go_wp2
       go_loopw [17, 18, 83] (fun _ _ v wr => TlwRel w t p s ws st n l g8 c8 (.slice a7 l.length c7) v wr) (fun _ _ v _ => l.length - (intOf v).toNat)
       case atStart => exact hA
       case round =>
        clear hA
        obtain ⟨k, hk, rfl, R9, P9, cb9, S9⟩ := hrel
        by_cases hlt : k < l.length
        ·obtain ⟨g, rfl, q0, q1⟩ := prow_cell P9 hlt
         have hx : l[k]? = some (l.getD k (0, 0)) := by simp [hlt]
         have htk : l.take (k + 1) = l.take k ++ [l.getD k (0, 0)] := by rw [List.take_add_one, hx]; rfl
         have hsn := turnL_snoc st (l.take k) (l.getD k (0, 0)) ws
         rw [← htk] at hsn
         have hxb := HBd.out _ (List.mem_of_getElem? hx)
         have hl' : (turnL st (l.take k) ws).length = n := by rw [turnL_len]; exact HLe.out
         have hu' := turnL_u64 hsb (l.take k) ws (fun y hy => (HBd.out y (List.mem_of_mem_take hy)).2.2) HUw.out
         generalize turnL st (l.take k) ws = ws' at *
         have HSn : Hid (turnL st (l.take (k + 1)) ws = if hiW (ws'.getD (16 + (l.getD k (0, 0)).1).toNat 0) < st then ws'.set (16 + (l.getD k (0, 0)).1).toNat (joinW st (l.getD k (0, 0)).2) else ws') := Lib.hid hsn
         clear hsn htk hx
         generalize l.getD k (0, 0) = x at *
         obtain ⟨xc, xv⟩ := x
         dsimp only at hxb q0 q1
         have HSn2 := Lib.hid HSn.out
         clear HSn
         obtain ⟨J, hJ⟩ : ∃ J : Nat, 16 + xc = J := ⟨(16 + xc).toNat, by omega⟩
         have HPw := Lib.hid (fun w => pword_any t p s xc w HH.out.right hxb.1 hxb.2.1)
         rw [hJ] at HPw
         have hHN := HH.out.bd
         have hJn : (J : Int) < n := by omega
         have HSn3 : Hid (turnL st (l.take (k + 1)) ws = if hiW (ws'.getD J 0) < st then ws'.set J (joinW st xv) else ws') := Lib.hid (by
          have := HSn2.out
          dsimp only at this
          rwa [hJ, Int.toNat_natCast] at this)
         clear HSn2 hJ hHN
         have HuJ := Lib.hid (getD_u64 hu' J)
         have hxv := hxb.2.2
         have hJn2 : J < n := by omega
         have S9a := S9.alloc (.cells #[.int .i64 xc, .int .u32 xv] 147)
         have R9a := R9.alloc (.cells #[.int .i64 xc, .int .u32 xv] 147)
         have P9a := P9.alloc (.cells #[.int .i64 xc, .int .u32 xv] 147)
         have c9a := loc_old (.cells #[.int .i64 xc, .int .u32 xv] 147) (S9.ls w.heap.size (by simp)).1 cb9
         have d9a := loc_alloc wr #[.int .i64 xc, .int .u32 xv] 147
         clear hu' hxb R9 P9 cb9 S9
         go_wp2_with fail
         refine (calls_b S9a (HPw.out _)).mono ?_
         rintro e w10 ⟨rfl, S10, S10l⟩
         have c10 := loc_step S10l (by simp) c9a
         have d10 := loc_step S10l (by simp) d9a
         have R10 := row_step S10l (fun k hk => by simp [Value.ownBlock] at hk; simp [hk]) R9a
         have P10 := row_step S10l (fun k hk => by simp [hk]) P9a
         clear S10l
         have cJ := (R10.cellAt J (by simpa using hJn2)).trans (show (ulongs ws')[J]? = some (.int .u64 (ws'.getD J 0)) by simp [ulongs, hl', hJn2])
         have HSt2 := Lib.hid (fun w => mstamp_any _ w HuJ.out)
         have HhJ := Lib.hid (show hiW (ws'.getD J 0) = hiW (ws'.getD J 0) from rfl)
         clear S9a R9a P9a c9a d9a
         generalize ws'.getD J 0 = z at *
         go_wp2_with fail
         refine (calls_b S10 (HSt2.out _)).mono ?_
         rintro e w11 ⟨rfl, S11, S11l⟩
         have c11 := loc_step S11l (by simp) c10
         have d11 := loc_step S11l (by simp) d10
         have R11 := row_step S11l (fun k hk => by simp [Value.ownBlock] at hk; simp [hk]) R10
         have P11 := row_step S11l (fun k hk => by simp [hk]) P10
         clear S11l
         have d110 := d11 0
         have d111 := d11 1
         simp at d110 d111
         clear S10 R10 P10 c10 d10 cJ HPw HSt2
         by_cases hs : hiW z < st
         ·have HSn4 := HSn3.out
          rw [if_pos hs] at HSn4
          have HSn5 := Lib.hid HSn4
          have HCe := Lib.hid (fun w => mkcell_any st xv w hsb hxv)
          clear HSn4 HSn3
          generalize hiW z = y at *
          generalize joinW st xv = jw at *
          go_wp2_with fail
          refine (calls_b S11 (HCe.out _)).mono ?_
          rintro e w12 ⟨rfl, S12, S12l⟩
          have c12 := loc_step S12l (by simp) c11
          have R12 := row_step S12l (fun k hk => by simp [Value.ownBlock] at hk; simp [hk]) R11
          have P12 := row_step S12l (fun k hk => by simp [hk]) P11
          obtain ⟨zz, cJ⟩ := urow_cell R12 (i := J) hJn2
          have fJ := R12.frozenAt J
          clear S12l R11 P11 c11 d11 S11 d110 d111
          go_wp2
          go_roundw
          case rel =>
           refine ⟨k + 1, by omega, by go_num, ?_, ?_, ?_, ?_⟩
           ·rw [HSn5.out]
            have := (R12.stored J (.int .u64 jw)).1
            rw [ulongs_set] at this
            exact this
           ·exact row_set P12 (fun e => hne _ e rfl)
           ·exact fun o => (World.cell?_of_block (a := ⟨w.heap.size, o, none⟩) (heap_setCell_other (L := g8) (M := w.heap.size) hg8ne)).trans (c12 o)
           ·exact (S12.setCell (L := g8) (by simp) J (.int .u64 jw)).sub _ (fun L hL => List.mem_cons_of_mem _ hL)
          case measure => simp [intOf]; omega
         ·have HSn4 := HSn3.out
          rw [if_neg hs] at HSn4
          have HSn5 := Lib.hid HSn4
          clear HSn4 HSn3
          generalize hiW z = y at *
          go_wp2
          go_roundw
          case rel => exact ⟨k + 1, by omega, by go_num, by rw [HSn5.out]; exact R11, P11, c11, S11.sub _ (fun L hL => List.mem_cons_of_mem _ hL)⟩
          case measure => simp [intOf]; omega
        ·have hkl : k = l.length := by omega
         subst hkl
         have R9b := R9
         rw [List.take_length] at R9b
         clear R9
         go_wp2_with fail
         refine (calls_b S9 (HNote.out _)).mono ?_
         rintro e w10 ⟨rfl, S10, S10l⟩
         have c10 := loc_step S10l (by simp) cb9
         have R10 := row_step S10l (fun k hk => by simp [Value.ownBlock] at hk; simp [hk]) R9b
         clear S10l
         go_wp2
         refine bodyPost_ret (v := .tuple #[.slice (some ⟨g8, 0, none⟩) n c8, .int .i64 K, .bool true]) (by simp [results, Tryz.results50, go_sem]) rfl ⟨g8, c8, by rw [← HKN.out]; rfl, R10, hg8, S10.bel⟩
  ·rw [if_neg hut] at hres
   rw [show decide (u ≤ t) = false by simpa using hut] at HM
   subst hres
   clear HRes hcell h hu ht
   go_enter Tryz.func50, Tryz.ntmps50
   go_wp2_with fail
   refine (calls_b S0 (HR.out _)).mono ?_
   rintro e w1 ⟨rfl, S1, S1l⟩
   have c1 := loc_step S1l (by simp) c0
   clear S1l
   have e8 := H8.out _ S1.bel
   go_wp2_with fail
   refine (calls_b S1 (HT.out _)).mono ?_
   rintro e w2 ⟨rfl, S2, S2l⟩
   have c2 := loc_step S2l (by simp) c1
   clear S2l
   go_wp2_with fail
   refine (calls_b S2 (HM.out _)).mono ?_
   rintro e w3 ⟨rfl, S3, S3l⟩
   have c3 := loc_step S3l (by simp) c2
   clear S3l
   go_wp2
   refine bodyPost_ret (v := .tuple #[.slice none 0 0, .int .i64 0, .bool false]) (by simp [results, Tryz.results50, go_sem]) rfl ⟨rfl, S3.bel⟩
end
end Go.Proofs.YtcbikgafdclhaaaGreat
/- fresh: the program's Vals. -/
set_option linter.unusedSimpArgs false
set_option linter.unusedVariables false
namespace Go.Proofs.YtcbikgafdclhaaaGreat
open Go.RowKit

theorem made_rep (N : Nat) : madeCells #[.int .u32 0] N = (uints (List.replicate N 0)).toArray := by
 apply Array.ext'
 simp [madeCells, uints, Nat.mod_one]
 exact List.eq_replicate_iff.2 ⟨by simp, by simp⟩
end Go.Proofs.YtcbikgafdclhaaaGreat
/- fresh: the document's Vals. -/
set_option linter.unusedSimpArgs false
set_option linter.unusedVariables false
namespace Go.Proofs.YtcbikgafdclhaaaGreat
open Go.RowKit

theorem riright_free (n : Nat) (w : World) (h1 : 1 ≤ n) (h2 : n ≤ 1024) :
 Calls Tryz.prog 178 #[.agg #[.int .i64 1, .int .i64 n, .int .i64 0]] w fun e w' => e = .returned (.bool true) ∧ Below w.heap.size w w' := by
 have := riright_any 1 n 0 w
 rwa [show rightI 1 n 0 = true by simp [rightI]; omega] at this
theorem rput9_free (n : Nat) (w : World) (h1 : 1 ≤ n) (h2 : n ≤ 1024) :
 Calls Tryz.prog 123 #[.agg #[.int .i64 1, .int .i64 n, .int .i64 0]] w fun e w' => e = .returned (.tuple #[.int .u32 (1 + 16 * n), .bool true]) ∧ Below w.heap.size w w' := by
 have H := Lib.hid (fun w => riright_free n w h1 h2)
 have hw : IntKind.u32.wrap (1 + 16 * (n : Int)) = 1 + 16 * n := IntWalk.u32_in _ (by omega)
 go_enter Tryz.func123, Tryz.ntmps123
 go_wp2_with fail
 refine (H.out _).mono ?_
 rintro e w1 ⟨rfl, ha⟩
 obtain ⟨hac, haf⟩ := bcell ha
 have haz0 : w.heap.size < w1.heap.size := by have := ha.size; first | omega | (simp at this; omega)
 go_wp2
 refine bodyPost_ret (v := .tuple #[.int .u32 (1 + 16 * n), .bool true]) (by simp [results, Tryz.results123, go_sem]) rfl ⟨rfl, ?_⟩
 (repeat (first | exact Below.refl _ _ | assumption | refine Below.setCell ?_ (by first | omega | (simp; done) | (simp; omega)) _ | refine Below.alloc ?_ (by first | omega | (simp; done) | (simp; omega)) _ | refine Below.drew ?_ | refine Below.trans ?_ (Below.mono ‹Below _ _ _› (by first | omega | (simp; done) | (simp; omega)))))
theorem rvalue_free (n : Nat) (w : World) (h1 : 1 ≤ n) (h2 : n ≤ 1024) :
 Calls Tryz.prog 72 #[.int .i64 1, .int .i64 n, .int .i64 0] w fun e w' => e = .returned (.int .u32 (1 + 16 * n)) ∧ Below w.heap.size w w' := by
 have H := Lib.hid (fun w => rput9_free n w h1 h2)
 generalize (1 + 16 * (n : Int)) = v at *
 go_enter Tryz.func72, Tryz.ntmps72
 go_wp2_with fail
 refine (H.out _).mono ?_
 rintro e w1 ⟨rfl, b1⟩
 go_wp2
 go_ret
 exact ⟨rfl, b1⟩
theorem rbof_any (n : Nat) (w : World) (h1 : 1 ≤ n) (h2 : n ≤ 1024) :
 Calls Tryz.prog 71 #[.int .i64 n] w fun e w' => e = .returned (.int .i64 (logF n)) ∧ Below w.heap.size w w' := by
 have H := Lib.hid (fun w => rlog_any n w (by omega) (by omega))
 generalize logF n = v at *
 go_enter Tryz.func71, Tryz.ntmps71
 go_wp2_with fail
 refine (H.out _).mono ?_
 rintro e w1 ⟨rfl, b1⟩
 go_wp2
 go_ret
 exact ⟨rfl, b1⟩
theorem row_made (w : World) (N : Nat) (hN : N ≤ 1000000) : (w.alloc (.cells (madeCells #[.int .u32 0] N) 90)).ownsRow 0 90 1 (.slice (some ⟨w.heap.size, 0, none⟩) N N) N (uints (List.replicate N 0)) := by
 refine ⟨by simp [uints], Or.inr ⟨w.heap.size, N, madeCells #[.int .u32 0] N, rfl, Nat.zero_le _, heap_alloc_new w _, Nat.le_refl _, by unfold maxLen; omega, ?_, ?_⟩⟩
 ·simp [size_madeCells]
 ·rw [made_rep]; simp [uints]
end Go.Proofs.YtcbikgafdclhaaaGreat
/- redo: the program's Settle. -/
set_option linter.unusedSimpArgs false
set_option linter.unusedVariables false
namespace Go.Proofs.YtcbikgafdclhaaaGreat
open Go.RowKit

/-- the first k are filled in. -/
def fillV (N : Nat) (vs : List Int) (k : Nat) : List Int := vs.take k ++ List.replicate (N - k) 0
theorem fillV_step {N k : Nat} {vs : List Int} (hl : vs.length = N) (hk : k < N) : (fillV N vs k).set k (vs.getD k 0) = fillV N vs (k + 1) := by
 unfold fillV
 have e : N - k = (N - (k + 1)) + 1 := by omega
 rw [e, List.replicate_succ, List.set_append_right _ _ (by simp; omega)]
 have e2 : k - (vs.take k).length = 0 := by simp; omega
 have e3 : vs.take (k + 1) = vs.take k ++ [vs.getD k 0] := by
  rw [List.take_succ_eq_append_getElem (by omega)]
  simp [hl, hk]
 rw [e2, List.set_cons_zero, e3, List.append_assoc]
 rfl
theorem fillV_all {N : Nat} {vs : List Int} (hl : vs.length = N) : fillV N vs N = vs := by
 unfold fillV
 rw [List.take_of_length_le (by omega)]
 simp
theorem fillV_none (N : Nat) (vs : List Int) : fillV N vs 0 = List.replicate N 0 := by simp [fillV]
theorem fillV_len {N k : Nat} {vs : List Int} (hl : vs.length = N) (hk : k ≤ N) : (fillV N vs k).length = N := by simp [fillV]; omega
theorem uints_setV (l : List Int) (i : Nat) (v : Int) : (uints l).set i (.int .u32 v) = uints (l.set i v) := by simp [uints, List.map_set]
theorem vrow_cell {w : World} {B g c n : Nat} {l : List Int} (h : w.ownsRow B 90 1 (.slice (some ⟨g, 0, none⟩) n c) n (uints l)) {i : Nat} (hi : i < n) : ∃ z, w.cell? ⟨g, i, none⟩ = some z := by
 refine ⟨_, (h.cellAt i (by omega)).trans (List.getElem?_eq_getElem ?_)⟩
 have := h.1
 omega
def SetQ (w : World) (r : Option (List Int)) (e : Ending) (w' : World) : Prop := match r with
 | none => e = .returned (.tuple #[.slice none 0 0, .bool false]) ∧ Below w.heap.size w w'
 | some vs => ∃ v, e = .returned (.tuple #[v, .bool true]) ∧ w'.ownsRow 0 90 1 v vs.length (uints vs) ∧ (∀ k, v.ownBlock = some k → w.heap.size ≤ k) ∧ Below w.heap.size w w'
def SuRel (w : World) (t p s : Int) (ws vs : List Int) (n N g cap gv : Nat) (v : Value) (wr : World) : Prop :=
 ∃ k : Nat, k ≤ N ∧ v = .int .i64 k ∧ wr.ownsRow 0 61 1 (.slice (some ⟨g, 0, none⟩) n cap) n (ulongs ws) ∧ wr.ownsRow 0 90 1 (.slice (some ⟨gv, 0, none⟩) N N) N (uints (fillV N vs k)) ∧ (∀ o : Nat, wr.cell? ⟨w.heap.size, o, none⟩ = (#[.int .i64 t, .int .i64 p, .int .i64 s] : Array Value)[o]?) ∧ BS w [gv, g, w.heap.size] wr
section
variable {w : World} {t p s : Int} {ad : Addr} {n : Nat} {ws : List Int}
theorem last_bd (hu : ∀ v ∈ ws, U64 v) {st u : Int} {l : Option (List (Int × Int))} (h : lastF t p ws = some (st, u, l)) : (0 ≤ st ∧ st < 4294967296) ∧ (0 ≤ u ∧ u ≤ t) ∧ ∀ k, l = some k → ∀ x ∈ k, 0 ≤ x.1 ∧ x.1 < cellsN t p ∧ 0 ≤ x.2 ∧ x.2 < 4294967296 := by
 unfold lastF at h
 cases ht : tipW (ws.getD 8 0) with
 | none => rw [ht] at h; cases h
 | some q =>
  obtain ⟨a, b⟩ := q
  rw [ht] at h
  dsimp only at h
  have hb : (0 ≤ a ∧ a < 4294967296) ∧ 0 ≤ b := by
   unfold tipW at ht
   split at ht
   ·simp only [Option.some.injEq, Prod.mk.injEq] at ht
    obtain ⟨rfl, rfl⟩ := ht
    exact ⟨hi_bd (getD_u64 hu 8), (lo_bd _).1⟩
   ·cases ht
  split at h
  ·split at h
   ·split at h
    ·obtain ⟨y, hy, he⟩ := Option.map_eq_some_iff.1 h
     simp only [Prod.mk.injEq] at he
     obtain ⟨rfl, rfl, rfl⟩ := he
     refine ⟨hb.1, ⟨hb.2, by assumption⟩, fun k hk => ?_⟩
     cases hk
     unfold mlogF at hy
     split at hy
     ·obtain ⟨z, hz, rfl⟩ := Option.map_eq_some_iff.1 hy
      exact (entriesF_bd (fun v hv => hu v (List.mem_of_mem_drop (List.mem_of_mem_take hv))) hz).2
     ·cases hy
    ·simp only [Option.some.injEq, Prod.mk.injEq] at h
     obtain ⟨rfl, rfl, rfl⟩ := h
     exact ⟨hb.1, ⟨hb.2, by assumption⟩, fun k hk => by cases hk⟩
   ·cases h
  ·cases h
theorem behind_len (s : Int) (l : Option (List (Int × Int))) (ws : List Int) : (behindF s l ws).length = ws.length := by
 cases l
 ·rfl
 ·exact turnL_len _ _ _
theorem behind_u64 (hu : ∀ v ∈ ws, U64 v) {st u : Int} {l : Option (List (Int × Int))} (h : lastF t p ws = some (st, u, l)) : ∀ v ∈ behindF st l ws, U64 v := by
 have hb := last_bd hu h
 cases l with
 | none => exact hu
 | some k => exact turnL_u64 hb.1 k ws (fun x hx => (hb.2.2 k rfl x hx).2.2) hu
set_option maxHeartbeats 1000000 in
set_option maxRecDepth 100000 in
theorem psettle_any (h : WX w t p s ad n ws) (c : Nat) (hc : n ≤ c) :
 Calls Tryz.prog 29 #[.agg #[.int .i64 t, .int .i64 p, .int .i64 s], .slice (some ad) n c] w (SetQ w (settleF t p s ws)) := by
 have bd := h.bd
 have hr := h.right
 have HS := Lib.hid (fun W (hb : Below w.heap.size w W) => psettled_any (h.keep hb) c hc)
 have hF : settleF t p s ws = (lastF t p ws).map fun x => valsW (cellsN t p).toNat (behindF x.1 x.2.2 ws) := by
  unfold settleF rightW
  rw [hr, h.len, show decide ((n : Int) = wordsN t p) = true by simpa using h.num]
  rfl
 rw [hF]
 have HC := Lib.hid (fun w => cells_any t p s w)
 obtain ⟨N, hN⟩ : ∃ N : Nat, cellsN t p = N := ⟨(cellsN t p).toNat, by omega⟩
 rw [show cellsF t p s = cellsN t p by simp [cellsF, hr], hN] at HC
 have HP := Lib.hid (fun (k j : Nat) (hj : 16 + k = j) w (hk : k < N) => by
  have := pword_any t p s k w hr (by omega) (by omega)
  rw [show (16 : Int) + k = (j : Int) by omega] at this
  exact this)
 have hNn : 16 + N ≤ n := by omega
 have hlb := fun st u l (hl : lastF t p ws = some (st, u, l)) => behind_u64 h.u64 hl
 have hlen := h.len
 rw [hN, Int.toNat_natCast]
 obtain ⟨lr, hlr⟩ : ∃ lr, lastF t p ws = lr := ⟨_, rfl⟩
 rw [hlr] at HS ⊢
 have c0 := loc_alloc w #[.int .i64 t, .int .i64 p, .int .i64 s] 44
 have S0 := ((BS.start w).alloc (.cells #[.int .i64 t, .int .i64 p, .int .i64 s] 44))
 have hN0 : 0 < N := by have := right_bd hr; unfold cellsN at hN; omega
 have hN1 : N ≤ 10000 := by omega
 cases lr with
 | none =>
  simp only [Option.map_none]
  clear h hF hlr hlb hr hN
  go_enter Tryz.func29, Tryz.ntmps29
  go_wp2_with fail
  refine (HS.out _ S0.bel).mono ?_
  rintro e w1 ⟨rfl, b1⟩
  go_wp2
  refine bodyPost_ret (v := .tuple #[.slice none 0 0, .bool false]) (by simp [results, Tryz.results29, go_sem]) rfl ⟨rfl, (S0.below b1).bel⟩
 | some q =>
  obtain ⟨st, u, l⟩ := q
  have hub := hlb st u l hlr
  simp only [Option.map_some]
  have hwl : (behindF st l ws).length = n := by rw [behind_len, hlen]
  have hvg : ∀ k, k < N → (valsW N (behindF st l ws)).getD k 0 = loW ((behindF st l ws).getD (16 + k) 0) := fun k hk => by simp [valsW, List.getD_eq_getElem?_getD, hk]
  have hvl := valsW_len N (behindF st l ws)
  have HVu := Lib.hid (getD_u64 hub)
  unfold StlQ at HS
  dsimp only at HS
  generalize (if l.isSome = true then noteAt t p u else -1) = nv at HS
  generalize behindF st l ws = ws' at *
  generalize valsW N ws' = vs at *
  have HVg := Lib.hid hvg
  have HVl := Lib.hid hvl
  have HWl := Lib.hid hwl
  have hmk : ∀ w : World, (Instr.makeSlice 73 (.int .i64 (N : Int)) (.int .i64 (N : Int))).run Tryz.prog w = .ok (.slice (some ⟨w.heap.size, 0, none⟩) N N) (w.alloc (.cells (madeCells #[.int .u32 0] N) 90)) := run_make_row' (P := Tryz.prog) 73 90 (.int .u32 0) 4 Tryz.underlying73 infoU32 rfl .i64 .i64 N (by omega) (by omega)
  clear h hF hlr hlb hr hN hvg hvl hwl hub hlen
  go_enter Tryz.func29, Tryz.ntmps29
  go_wp2_with fail
  refine (HS.out _ S0.bel).mono ?_
  rintro e w1 ⟨g, cap, rfl, R1, hg, b1⟩
  have S1 := S0.below b1
  have c1 := ((BS.start _).below b1).oldbox c0 (by simp)
  have S1g : BS w [g, w.heap.size] w1 := ⟨S1.bel, fun L hL => by
   simp at hL
   rcases hL with h | h
   ·rw [h]; exact ⟨ownsRow_lt R1 rfl, by simp at hg; omega⟩
   ·rw [h]; exact S1.ls _ (by simp)⟩
  clear S0 S1 c0 HS b1
  go_wp2_with fail
  refine (calls_b S1g (HC.out _)).mono ?_
  rintro e w2 ⟨rfl, S2, S2l⟩
  have c2 := loc_step S2l (by simp) c1
  have R2 := row_step S2l (fun k hk => by simp [Value.ownBlock] at hk; simp [hk]) R1
  clear S2l
  have S3 := S2.alloc (.cells (madeCells #[.int .u32 0] N) 90)
  have R3 := R2.alloc (.cells (madeCells #[.int .u32 0] N) 90)
  have V3 := row_made w2 N (by omega)
  have c3 := loc_old (.cells (madeCells #[.int .u32 0] N) 90) (S2.ls w.heap.size (by simp)).1 c2
  rw [← fillV_none N vs] at V3
  have hgv : g < w2.heap.size := (S2.ls g (by simp)).1
  have hwv : w.heap.size < w2.heap.size := (S2.ls w.heap.size (by simp)).1
  have hwz : w.heap.size ≤ w2.heap.size := by omega
  have hA : SuRel w t p s ws' vs n N g cap w2.heap.size (.int .i64 0) (w2.alloc (.cells (madeCells #[.int .u32 0] N) 90)) := ⟨0, by omega, rfl, R3, V3, c3, S3⟩
  clear S1g S2 R1 R2 c1 c2 S3 R3 V3 c3
  go_wp2
  go_loopw [10, 25] (fun _ v wr => SuRel w t p s ws' vs n N g cap w2.heap.size v wr) (fun _ v _ => N - (intOf v).toNat)
  case atStart => exact hA
  case round =>
   clear hA
   obtain ⟨k, hk, rfl, R4, V4, c4, S4⟩ := hrel
   by_cases hlt : k < N
   ·obtain ⟨j, hj⟩ : ∃ j : Nat, 16 + k = j := ⟨_, rfl⟩
    have hjn : (j : Int) < n := by omega
    have hkN : (k : Int) < N := by omega
    have hvk := HVg.out k hlt
    rw [hj] at hvk
    have hst := fillV_step HVl.out hlt
    have HVal := Lib.hid (fun w => mval_any (ws'.getD j 0) w (HVu.out j))
    rw [← hvk] at HVal
    have hwj : (ulongs ws')[j]? = some (.int .u64 (ws'.getD j 0)) := by have := HWl.out; simp [ulongs, show j < ws'.length by omega]
    have HWj := Lib.hid hwj
    have HSt := Lib.hid hst
    clear hvk hst hwj
    generalize vs.getD k 0 = y at *
    go_wp2_with fail
    refine (calls_b S4 (HP.out k j hj _ hlt)).mono ?_
    rintro e w5 ⟨rfl, S5, S5l⟩
    have c5 := loc_step S5l (by simp) c4
    have R5 := row_step S5l (fun k hk => by simp [Value.ownBlock] at hk; simp [hk]) R4
    have V5 := row_step S5l (fun k hk => by simp [Value.ownBlock] at hk; simp [hk]) V4
    clear S5l
    have ej := (R5.cellAt j (by omega)).trans HWj.out
    go_wp2_with fail
    refine (calls_b S5 (HVal.out _)).mono ?_
    rintro e w6 ⟨rfl, S6, S6l⟩
    have c6 := loc_step S6l (by simp) c5
    have R6 := row_step S6l (fun k hk => by simp [Value.ownBlock] at hk; simp [hk]) R5
    have V6 := row_step S6l (fun k hk => by simp [Value.ownBlock] at hk; simp [hk]) V5
    clear S6l
    have hfl : (fillV N vs k).length = N := fillV_len HVl.out hk
    obtain ⟨zz, ck⟩ := vrow_cell V6 (i := k) hlt
    have fk := V6.frozenAt k
    clear S4 S5 R4 R5 V4 V5 c4 c5 ej
    go_wp2
    go_roundw
    case rel =>
     refine ⟨k + 1, by omega, by go_num, row_set R6 (by simp [Value.ownBlock]; omega), ?_, fun o => (World.cell?_of_block (a := ⟨w.heap.size, o, none⟩) (heap_setCell_other (L := w2.heap.size) (M := w.heap.size) (by omega))).trans (c6 o), S6.setCell (L := w2.heap.size) (by simp) k (.int .u32 y)⟩
     have := (V6.stored k (.int .u32 y)).1
     rw [uints_setV, HSt.out] at this
     exact this
    case measure => simp [intOf]; omega
   ·have hkN : k = N := by omega
    subst hkN
    rw [fillV_all HVl.out] at V4
    go_wp2
    refine bodyPost_ret (v := .tuple #[.slice (some ⟨w2.heap.size, 0, none⟩) k k, .bool true]) (by simp [results, Tryz.results29, go_sem]) rfl ⟨_, rfl, by rw [HVl.out]; exact V4, fun j hj => ?_, S4.bel⟩
    simp [Value.ownBlock] at hj
    omega
end
end Go.Proofs.YtcbikgafdclhaaaGreat
/- words as bytes: the document's. -/
set_option linter.unusedSimpArgs false
set_option linter.unusedVariables false
namespace Go.Proofs.YtcbikgafdclhaaaGreat
open Go.RowKit

theorem ubytes_set (l : List Int) (i : Nat) (v : Int) : (ubytes l).set i (.int .u8 v) = ubytes (l.set i v) := by simp [ubytes, List.map_set]
theorem byteN_eq (x : Int) : ∀ j, byteN x j = x / 256 ^ j % 256
 | 0 => by simp [byteN]
 | j + 1 => by
  show byteN (x / 256) j = _
  rw [byteN_eq (x / 256) j, Int.pow_succ, Int.mul_comm, ← Int.ediv_ediv_of_nonneg (by omega)]
theorem bytesF_at {ws : List Int} {k q r : Nat} (hk : k < 8 * ws.length) (hq : q = k / 8) (hr : r = k % 8) : (bytesF ws).getD k 0 = ws.getD q 0 / 256 ^ r % 256 := by
 have h := bytesF_get ws q r (by omega) (by omega)
 rw [show 8 * q + r = k by omega, byteN_eq] at h
 rw [List.getD_eq_getElem?_getD, h]
 rfl
def RbR (w : World) (ws : List Int) (N g : Nat) (v : Value) (wr : World) : Prop := ∃ k : Nat, k ≤ N ∧ v = .int .i64 k ∧ wr.ownsRow 0 5 1 (.slice (some ⟨g, 0, none⟩) N N) N (ubytes (fillV N (bytesF ws) k)) ∧ Below w.heap.size w wr
set_option maxHeartbeats 2000000 in
set_option maxRecDepth 100000 in
theorem rbytes_any (v : Value) (ws : List Int) (w : World) (hR : Rd w v 1 ws.length (ulongs ws)) (hu : ∀ x ∈ ws, U64 x) (hn : ws.length ≤ 1000000) :
 Calls Tryz.prog 9 #[v] w (ByP w (bytesF ws)) := by
 obtain ⟨va, vc, rfl⟩ := hR.len
 have HRd := Lib.hid (fun (W : World) (hb : Below w.heap.size w W) (k : Nat) (hk : k < ws.length) => rd_cell (hR.keepBy hb (Nat.le_refl _)) hk)
 obtain ⟨i0, hi0, hi1, hi2, hi3⟩ := info_parts infoU8
 obtain ⟨N, hN⟩ : ∃ N : Nat, 8 * (ws.length : Int) = N := ⟨8 * ws.length, by omega⟩
 have hmk : ∀ w : World, (Instr.makeSlice 23 (.int .i64 (N : Int)) (.int .i64 (N : Int))).run Tryz.prog w = .ok (.slice (some ⟨w.heap.size, 0, none⟩) N N) (w.alloc (.cells (madeCells #[.int .u8 0] N) 5)) := run_make_row' (P := Tryz.prog) 23 5 (.int .u8 0) 1 Tryz.underlying23 infoU8 rfl .i64 .i64 N (by omega) (by omega)
 have hbl : (bytesF ws).length = N := by rw [bytesF_len]; omega
 have hrep : madeCells #[.int .u8 0] N = (ubytes (List.replicate N 0)).toArray := by
  apply Array.ext'
  simp [madeCells, ubytes, Nat.mod_one]
  exact List.eq_replicate_iff.2 ⟨by simp, by simp⟩
 have hA : RbR w ws N w.heap.size (.int .i64 0) (w.alloc (.cells (madeCells #[.int .u8 0] N) 5)) := ⟨0, by omega, rfl, by
  rw [fillV_none]
  exact ⟨by simp [ubytes], Or.inr ⟨w.heap.size, N, madeCells #[.int .u8 0] N, rfl, Nat.zero_le _, heap_alloc_new w _, Nat.le_refl _, by unfold maxLen; omega, by simp [size_madeCells], by rw [hrep]; simp [ubytes]⟩⟩, (Below.refl _ w).alloc (Nat.le_refl _) _⟩
 have HU := Lib.hid (getD_u64b hu)
 have HAt := Lib.hid (fun k q r hk hq hr => bytesF_at (ws := ws) (k := k) (q := q) (r := r) hk hq hr)
 have HBl := Lib.hid hbl
 have hwN : IntKind.i64.wrap (8 * (ws.length : Int)) = N := by rw [hN]; exact wrap_in _ (by omega)
 have hNb : N ≤ 8000000 := by omega
 have HN := Lib.hid hN
 clear hi0 hi1 hi2 hi3 hR hu hbl hrep
 go_enter Tryz.func9, Tryz.ntmps9
 go_wp2
 go_loopw [4] (fun v4 wr => RbR w ws N w.heap.size v4 wr) (fun v4 _ => N - (intOf v4).toNat)
 case atStart => exact hA
 case round =>
  clear hA
  obtain ⟨k, hk, rfl, hrow, hbe⟩ := hrel
  by_cases hlt : k < N
  ·have hkN : (k : Int) < N := by omega
   have hql : k / 8 < ws.length := by have := HN.out; omega
   obtain ⟨ad, c, hv, hc⟩ := HRd.out _ hbe (k / 8) hql
   simp only [Value.slice.injEq] at hv
   obtain ⟨rfl, -, rfl⟩ := hv
   have hux := HU.out (k / 8)
   have hat := HAt.out k (k / 8) (k % 8) (by have := HN.out; omega) rfl rfl
   have hst := fillV_step HBl.out hlt
   rw [hat] at hst
   have HSt := Lib.hid hst
   clear hat hst
   obtain ⟨q, hq⟩ : ∃ q, k / 8 = q := ⟨_, rfl⟩
   obtain ⟨r, hr⟩ : ∃ r, k % 8 = r := ⟨_, rfl⟩
   have hqi : (k : Int) / 8 = (q : Int) := by omega
   have hri : (k : Int) % 8 = (r : Int) := by omega
   have hqn : (q : Int) < ws.length := by omega
   rw [hq] at hux hc HSt
   rw [hr] at HSt
   have hr8 : r < 8 := by omega
   clear hq hr
   generalize ws.getD q 0 = x at *
   have HRow := Lib.hid hrow
   have hbl : (fillV N (bytesF ws) k).length = N := fillV_len HBl.out hk
   have ck : ∃ z, wr.cell? ⟨w.heap.size, k, none⟩ = some z := ⟨_, (hrow.cellAt k (by omega)).trans (List.getElem?_eq_getElem (by simp [ubytes, hbl, hlt]))⟩
   obtain ⟨zz, ck⟩ := ck
   have fk := hrow.frozenAt k
   have HBe := Lib.hid hbe
   clear hrow hbe hbl
   have hpw : (256 : Int) ^ r = 2 ^ (8 * r) := by rw [Int.pow_mul]; rfl
   rw [hpw] at HSt
   clear hpw
   go_wp2
   go_roundw
   case rel =>
    have h1 := (HRow.out.stored k (.int .u8 (x / 2 ^ (8 * r) % 256))).1
    rw [ubytes_set, HSt.out] at h1
    exact ⟨k + 1, by omega, by go_num, h1, HBe.out.setCell (p := ⟨w.heap.size, k, none⟩) (Nat.le_refl _) _⟩
   case measure => simp [intOf]; omega
  ·have hkN : k = N := by omega
   subst hkN
   rw [fillV_all HBl.out] at hrow
   have HRow := Lib.hid hrow
   clear hrow
   go_wp2
   go_ret
   exact ⟨_, rfl, by rw [HBl.out]; exact HRow.out, by simp, fun k hk => by simp [Value.ownBlock] at hk; omega, hbe⟩
end Go.Proofs.YtcbikgafdclhaaaGreat
/- bytes as words: the document's. -/
set_option linter.unusedSimpArgs false
set_option linter.unusedVariables false
namespace Go.Proofs.YtcbikgafdclhaaaGreat
open Go.RowKit

theorem wordOf_snoc (x : Int) : ∀ l : List Int, wordOf (l ++ [x]) = wordOf l + x * 256 ^ l.length
 | [] => by simp [wordOf]
 | a :: l => by
  show wordOf (l ++ [x]) * 256 + a = _
  rw [wordOf_snoc x l, List.length_cons, Int.pow_succ]
  show _ = wordOf l * 256 + a + x * (256 ^ l.length * 256)
  rw [Int.add_mul, Int.mul_assoc]
  omega
/-- the words, when k bytes were added. -/
def wpK (bs : List Int) (n k : Nat) : List Int := (List.range n).map fun q => wordOf ((bs.drop (8 * q)).take (min (k - 8 * q) 8))
theorem wpK_len (bs : List Int) (n k : Nat) : (wpK bs n k).length = n := by simp [wpK]
theorem wpK_get {bs : List Int} {n k q : Nat} (h : q < n) : (wpK bs n k).getD q 0 = wordOf ((bs.drop (8 * q)).take (min (k - 8 * q) 8)) := by simp [wpK, List.getD_eq_getElem?_getD, h]
theorem wpK_zero (bs : List Int) (n : Nat) : wpK bs n 0 = List.replicate n 0 := by
 apply List.ext_getElem?
 intro j
 by_cases hj : j < n
 ·simp [wpK, hj, wordOf]
 ·rw [List.getElem?_eq_none (by simp [wpK]; omega), List.getElem?_eq_none (by simp; omega)]
theorem wpK_all {bs : List Int} {n : Nat} (h : bs.length = 8 * n) : wpK bs n (8 * n) = chunks n bs := by
 apply List.ext_getElem?
 intro j
 by_cases hj : j < n
 ·rw [chunks_get n bs j hj]
  simp [wpK, hj]
  congr 2
  omega
 ·rw [List.getElem?_eq_none (by simp [wpK]; omega), List.getElem?_eq_none (by rw [chunks_len]; omega)]
theorem wpK_step {bs : List Int} {n k q r : Nat} (h : bs.length = 8 * n) (hk : k < 8 * n) (hq : k / 8 = q) (hr : k % 8 = r) : wpK bs n (k + 1) = (wpK bs n k).set q ((wpK bs n k).getD q 0 + bs.getD k 0 * 256 ^ r) := by
 apply List.ext_getElem?
 intro j
 by_cases hj : j < n
 ·by_cases e : q = j
  ·subst e
   rw [List.getElem?_set_self (by rw [wpK_len]; exact hj), wpK_get hj]
   have e1 : min (k + 1 - 8 * q) 8 = r + 1 := by omega
   have e2 : min (k - 8 * q) 8 = r := by omega
   have e3 : (bs.drop (8 * q)).take (r + 1) = (bs.drop (8 * q)).take r ++ [bs.getD k 0] := by
    have hl : r < (bs.drop (8 * q)).length := by rw [List.length_drop]; omega
    rw [List.take_succ_eq_append_getElem hl]
    congr 2
    rw [List.getElem_drop]
    simp [List.getD_eq_getElem?_getD, show 8 * q + r = k by omega, show k < bs.length by omega]
   simp only [wpK, List.getElem?_map, List.getElem?_range hj, Option.map_some, e1, e2, e3, wordOf_snoc]
   congr 2
   rw [List.length_take, List.length_drop]
   congr 2
   omega
  ·rw [List.getElem?_set_ne e]
   simp only [wpK, List.getElem?_map, List.getElem?_range hj, Option.map_some]
   congr 3
   by_cases h1 : j < q
   ·omega
   ·omega
 ·rw [List.getElem?_eq_none (by rw [wpK_len]; omega), List.getElem?_eq_none (by rw [List.length_set, wpK_len]; omega)]
theorem wpK_bd {bs : List Int} {n k q : Nat} (hu : ∀ x ∈ bs, U8 x) (hq : q < n) : 0 ≤ (wpK bs n k).getD q 0 ∧ (wpK bs n k).getD q 0 < 256 ^ (min (k - 8 * q) 8) := by
 rw [wpK_get hq]
 have h := wordOf_bd ((bs.drop (8 * q)).take (min (k - 8 * q) 8)) (fun x hx => hu x (List.mem_of_mem_drop (List.mem_of_mem_take hx)))
 refine ⟨h.1, Int.lt_of_lt_of_le h.2 ?_⟩
 have := Nat.pow_le_pow_right (n := 256) (by omega) (List.length_take_le (min (k - 8 * q) 8) (bs.drop (8 * q)))
 show ((256 : Nat) : Int) ^ _ ≤ ((256 : Nat) : Int) ^ _
 rw [← Int.natCast_pow, ← Int.natCast_pow]
 exact Int.ofNat_le.2 this
def WdQ (w : World) (r : Option (List Int)) (e : Ending) (w' : World) : Prop := match r with
 | none => e = .returned (.tuple #[.slice none 0 0, .bool false]) ∧ Below w.heap.size w w'
 | some ws => ∃ v, e = .returned (.tuple #[v, .bool true]) ∧ w'.ownsRow 0 61 1 v ws.length (ulongs ws) ∧ (∀ k, v.ownBlock = some k → w.heap.size ≤ k) ∧ Below w.heap.size w w'
def RwR (w : World) (bs : List Int) (n g : Nat) (v : Value) (wr : World) : Prop := ∃ k : Nat, k ≤ 8 * n ∧ v = .int .i64 k ∧ wr.ownsRow 0 61 1 (.slice (some ⟨g, 0, none⟩) n n) n (ulongs (wpK bs n k)) ∧ Below w.heap.size w wr
theorem rd_byte {w : World} {v : Value} {bs : List Int} (h : Rd w v 1 bs.length (ubytes bs)) {k : Nat} (hk : k < bs.length) : ∃ ad c, v = .slice (some ad) bs.length c ∧ w.cell? (ad.add k) = some (.int .u8 (bs.getD k 0)) := by
 rcases h.2 with ⟨-, h0⟩ | ⟨ad, c, rfl, hc⟩
 ·omega
 ·exact ⟨ad, c, rfl, hc k _ (by simp [ubytes, hk])⟩
theorem rwords_bad (a : Option Addr) (n c : Nat) (w : World) (h : n % 8 ≠ 0 ∨ 524288 < n) : Calls Tryz.prog 7 #[.slice a n c] w (WdQ w none) := by
 by_cases h8 : n % 8 = 0
 ·have h8i : (n : Int) % 8 = 0 := by omega
  have hbig : (524288 : Int) < n := by omega
  have h8b : ((n : Int) % 8 != 0) = false := by simp [h8i]
  clear h h8 h8i
  go_enter Tryz.func7, Tryz.ntmps7
  go_wp2
  refine bodyPost_ret (v := .tuple #[.slice none 0 0, .bool false]) (by simp [results, Tryz.results7, go_sem]) rfl ⟨rfl, Below.refl _ _⟩
 ·have h8b : ((n : Int) % 8 != 0) = true := by simp; omega
  clear h h8
  go_enter Tryz.func7, Tryz.ntmps7
  go_wp2
  refine bodyPost_ret (v := .tuple #[.slice none 0 0, .bool false]) (by simp [results, Tryz.results7, go_sem]) rfl ⟨rfl, Below.refl _ _⟩
set_option maxHeartbeats 2000000 in
set_option maxRecDepth 100000 in
theorem rwords_good (v : Value) (bs : List Int) (n : Nat) (w : World) (hR : Rd w v 1 bs.length (ubytes bs)) (hu : ∀ x ∈ bs, U8 x) (hl : bs.length = 8 * n) (hn : n ≤ 65536) :
 Calls Tryz.prog 7 #[v] w (WdQ w (some (chunks n bs))) := by
 obtain ⟨va, vc, rfl⟩ := hR.len
 have HRd := Lib.hid (fun (W : World) (hb : Below w.heap.size w W) (k : Nat) (hk : k < bs.length) => rd_byte (hR.keepBy hb (Nat.le_refl _)) hk)
 have HBlk := Lib.hid (show ∀ ad c, Value.slice va bs.length vc = .slice (some ad) bs.length c → ∀ k, k < bs.length → (ad.add k).block < w.heap.size from fun ad c e k hk => by
  obtain ⟨ad2, c2, e2, hc⟩ := rd_byte hR hk
  rw [e] at e2
  simp only [Value.slice.injEq, Option.some.injEq] at e2
  obtain ⟨rfl, -, -⟩ := e2
  exact World.block_lt_of_cell? w _ hc)
 have hmk : ∀ w : World, (Instr.makeSlice 22 (.int .i64 (n : Int)) (.int .i64 (n : Int))).run Tryz.prog w = .ok (.slice (some ⟨w.heap.size, 0, none⟩) n n) (w.alloc (.cells (madeCells #[.int .u64 0] n) 61)) := run_make_row' (P := Tryz.prog) 22 61 (.int .u64 0) 8 Tryz.underlying22 infoU64 rfl .i64 .i64 n (by omega) (by omega)
 have hrep : madeCells #[.int .u64 0] n = (ulongs (List.replicate n 0)).toArray := by
  apply Array.ext'
  simp [madeCells, ulongs, Nat.mod_one]
  exact List.eq_replicate_iff.2 ⟨by simp, by simp⟩
 have hA : RwR w bs n w.heap.size (.int .i64 0) (w.alloc (.cells (madeCells #[.int .u64 0] n) 61)) := ⟨0, by omega, rfl, by
  rw [wpK_zero]
  exact ⟨by simp [ulongs], Or.inr ⟨w.heap.size, n, madeCells #[.int .u64 0] n, rfl, Nat.zero_le _, heap_alloc_new w _, Nat.le_refl _, by unfold maxLen; omega, by simp [size_madeCells], by rw [hrep]; simp [ulongs]⟩⟩, (Below.refl _ w).alloc (Nat.le_refl _) _⟩
 have HStep := Lib.hid (fun k q r hk hq hr => wpK_step (bs := bs) (n := n) (k := k) (q := q) (r := r) hl hk hq hr)
 have HBd := Lib.hid (fun k q hq => wpK_bd (bs := bs) (n := n) (k := k) (q := q) hu hq)
 have HAll := Lib.hid (wpK_all hl)
 have HU8 := Lib.hid (show ∀ k, U8 (bs.getD k 0) from fun k => by
  by_cases hk : k < bs.length
  ·have e : bs.getD k 0 = bs[k] := by simp [hk]
   rw [e]; exact hu _ (List.getElem_mem hk)
  ·have e : bs.getD k 0 = 0 := by simp [show ¬ k < bs.length from hk]
   rw [e]; exact ⟨by omega, by omega⟩)
 have HL := Lib.hid hl
 have h8b : ((bs.length : Int) % 8 != 0) = false := by simp; omega
 have hsm : ¬ (524288 : Int) < bs.length := by omega
 have hdv : (bs.length : Int) / 8 = n := by omega
 have hleni : (bs.length : Int) ≤ 600000 := by omega
 clear hR hu hl hrep
 go_enter Tryz.func7, Tryz.ntmps7
 go_wp2
 go_loopw [5] (fun v5 wr => RwR w bs n w.heap.size v5 wr) (fun v5 _ => 8 * n - (intOf v5).toNat)
 case atStart => exact hA
 case round =>
  clear hA
  obtain ⟨k, hk, rfl, hrow, hbe⟩ := hrel
  by_cases hlt : k < 8 * n
  ·have hkl : k < bs.length := by rw [HL.out]; exact hlt
   have hkN : (k : Int) < bs.length := by omega
   obtain ⟨ad, c, hv, hc⟩ := HRd.out _ hbe k hkl
   have hadb := HBlk.out ad c hv k hkl
   simp only [Value.slice.injEq] at hv
   obtain ⟨rfl, -, rfl⟩ := hv
   obtain ⟨q, hq⟩ : ∃ q, k / 8 = q := ⟨_, rfl⟩
   obtain ⟨r, hr⟩ : ∃ r, k % 8 = r := ⟨_, rfl⟩
   have HSt := Lib.hid (HStep.out k q r hlt hq hr)
   have hbd := HBd.out k q (by omega)
   have hbx := HU8.out k
   have hqi : (k : Int) / 8 = (q : Int) := by omega
   have hri : (k : Int) % 8 = (r : Int) := by omega
   have hqn : q < n := by omega
   have hqni : (q : Int) < n := by omega
   have hr8 : r < 8 := by omega
   rw [show min (k - 8 * q) 8 = r by omega] at hbd
   have cq := (hrow.cellAt q (by omega)).trans (show (ulongs (wpK bs n k))[q]? = some (.int .u64 ((wpK bs n k).getD q 0)) by simp [ulongs, wpK_len, hqn])
   have fq := hrow.frozenAt q
   have HRow := Lib.hid hrow
   have HBe := Lib.hid hbe
   have hne : (ad.add k).block ≠ w.heap.size := by omega
   clear hq hr hrow hbe HStep HBd
   generalize (wpK bs n k).getD q 0 = y at *
   generalize bs.getD k 0 = x at *
   have hpw : (256 : Int) ^ r = 2 ^ (8 * r) := by rw [Int.pow_mul]; rfl
   rw [hpw] at HSt hbd
   have hp0 : (0 : Int) < 2 ^ (8 * r) := Int.pow_pos (by omega)
   have hp7 : (2 : Int) ^ (8 * r) ≤ 72057594037927936 := by
    rcases (by omega : r = 0 ∨ r = 1 ∨ r = 2 ∨ r = 3 ∨ r = 4 ∨ r = 5 ∨ r = 6 ∨ r = 7) with rfl | rfl | rfl | rfl | rfl | rfl | rfl | rfl <;> decide
   have hm0 : 0 ≤ x * 2 ^ (8 * r) := Int.mul_nonneg hbx.1 (by omega)
   have hm1 : x * 2 ^ (8 * r) ≤ 255 * 2 ^ (8 * r) := Int.mul_le_mul_of_nonneg_right (by have := hbx.2; omega) (by omega)
   have hw1 : IntKind.i64.wrap (8 * (r : Int)) = 8 * r := wrap_in _ (by omega)
   have hw2 : IntKind.u64.wrap (8 * (r : Int)) = 8 * r := wraps_u64 _ (by omega) (by omega)
   have hw3 : IntKind.u64.wrap x = x := wraps_u64 _ hbx.1 (by have := hbx.2; omega)
   have hw4 : IntKind.u64.wrap (x * 2 ^ (8 * r)) = x * 2 ^ (8 * r) := wraps_u64 _ hm0 (by omega)
   have hw5 : IntKind.u64.wrap (y + x * 2 ^ (8 * r)) = y + x * 2 ^ (8 * r) := wraps_u64 _ (by omega) (by omega)
   have hwq : IntKind.i64.wrap (q : Int) = q := wrap_in _ (by omega)
   have hwr : IntKind.i64.wrap (r : Int) = r := wrap_in _ (by omega)
   have htd : (k : Int).tdiv 8 = q := by rw [Int.tdiv_eq_ediv_of_nonneg (by omega)]; exact hqi
   have htm : (k : Int).tmod 8 = r := by rw [Int.tmod_eq_emod_of_nonneg (by omega)]; exact hri
   have hHx := Lib.hid hbx
   clear hpw hp7 hm0 hm1 hbx hbd
   go_wp2_with fail
   refine wp_region_noPanic ?_
   refine wp_region_held_drew (S := fun w' => w'.cell? (ad.add k) = some (.int .u8 x)) (by kernel_rfl) ?_ (fun hHeld => ?_)
   ·exact hc
   refine wT 0 ?_
   refine wT 1 ?_
   refine wT 2 ?_
   refine wT 3 ?_
   refine wT 4 ?_
   refine wT 5 ?_
   refine wT 6 ?_
   refine wT 8 ?_
   refine wT 9 ?_
   refine wT 10 ?_
   refine wT 11 ?_
   refine wT 12 ?_
   refine wT 13 ?_
   refine wT 14 ?_
   refine wT 15 ?_
   refine wT 16 ?_
   refine wT 17 ?_
   refine wR 7 fun K hK => ?_
   go_simp
   refine hK.out _ _ ?_ (fun hHeld => ?_)
   ·exact hHeld
   clear hK K
   try simp only [Act.put, zA, zB, zC, zD, zE, zF]
   refine wT 18 ?_
   refine wT 19 ?_
   refine wR 20 fun K hK => ?_
   go_simp
   refine hK.out _ _ ?_ (fun hHeld => ?_)
   ·exact (World.cell?_of_block (a := ad.add k) (heap_setCell_other hne)).trans hHeld
   clear hK K
   try simp only [Act.put, zA, zB, zC, zD, zE, zF]
   refine wpAnyH_done (by kernel_rfl) (NoPanic.normal ?_) _
   go_wp2
   go_roundw
   case rel =>
    have h1 := (HRow.out.stored q (.int .u64 (y + x * 2 ^ (8 * r)))).1
    rw [show (ulongs (wpK bs n k)).set q (.int .u64 (y + x * 2 ^ (8 * r))) = ulongs ((wpK bs n k).set q (y + x * 2 ^ (8 * r))) by simp [ulongs, List.map_set], ← HSt.out] at h1
    exact ⟨k + 1, by omega, by go_num, by rw [hw4, hw5]; exact ownsRow_block h1 (fun _ _ => rfl), (HBe.out.setCell (p := ⟨w.heap.size, q, none⟩) (Nat.le_refl _) _).drew⟩
   case measure => simp [intOf]; omega
  ·have hkN : k = 8 * n := by omega
   subst hkN
   rw [HAll.out] at hrow
   have HRow := Lib.hid hrow
   have hcl := Lib.hid (chunks_len n bs)
   have hge : ¬ ((8 * n : Nat) : Int) < bs.length := by rw [HL.out]; omega
   clear hrow
   go_wp2
   refine bodyPost_ret (v := .tuple #[.slice (some ⟨w.heap.size, 0, none⟩) n n, .bool true]) (by simp [results, Tryz.results7, go_sem]) rfl ⟨_, rfl, by rw [hcl.out]; exact HRow.out, fun k hk => by simp [Value.ownBlock] at hk; omega, hbe⟩
end Go.Proofs.YtcbikgafdclhaaaGreat
