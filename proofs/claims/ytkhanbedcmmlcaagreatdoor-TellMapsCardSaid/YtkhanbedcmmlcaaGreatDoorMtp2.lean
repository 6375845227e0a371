/- parts of the proof, merged by a program. -/
import Derived.Test.YtkhanbedcmmlcaaGreatDoorMtp1
import Derived.Shelf.Strconv.Itoa0
import Derived.Lib.BitFns
import Derived.Lib.Tables
import Derived.Laws.BitsLemmas
set_option linter.unusedSimpArgs false
set_option linter.unusedVariables false
/- half, info: what a free span's info is worth. -/
set_option linter.unusedSimpArgs false
set_option linter.unusedVariables false
namespace Go.Proofs.YtkhanbedcmmlcaaGreatDoor
open Go.RowKit

theorem hfield_any (a b : Int) (w : World) (h0 : 0 ≤ a) (h1 : 1 ≤ b) (h2 : b ≤ 64) (h3 : a ≤ 64 - b) :
    Calls Tryz.prog 70 #[.int .i64 a, .int .i64 b] w fun e w' => e = .returned (.bool true) ∧ Below w.heap.size w w' := by
  go_enter Tryz.func70, Tryz.ntmps70
  go_wp2
  go_ret
  exact ⟨rfl, Below.refl _ _⟩
theorem hmask12 (w : World) : Calls Tryz.prog 71 #[.int .i64 12] w fun e w' => e = .returned (.int .u64 4095) ∧ Below w.heap.size w w' := by
  go_enter Tryz.func71, Tryz.ntmps71
  go_wp2
  go_ret
  exact ⟨rfl, Below.refl _ _⟩
theorem hmask4 (w : World) : Calls Tryz.prog 71 #[.int .i64 4] w fun e w' => e = .returned (.int .u64 15) ∧ Below w.heap.size w w' := by
  go_enter Tryz.func71, Tryz.ntmps71
  go_wp2
  go_ret
  exact ⟨rfl, Below.refl _ _⟩
end Go.Proofs.YtkhanbedcmmlcaaGreatDoor
/- bin: a free span is added. -/
set_option linter.unusedSimpArgs false
set_option linter.unusedVariables false
namespace Go.Proofs.YtkhanbedcmmlcaaGreatDoor
open Go.RowKit

theorem pinfo_any (t p s q : Int) (w : World) :
    Calls Tryz.prog 14 #[.agg #[.int .i64 t, .int .i64 p, .int .i64 s], .int .i64 q] w fun e w' => e = .returned (.int .i64 (ofF t p s q 0)) ∧ Below w.heap.size w w' := by
  go_enter Tryz.func14, Tryz.ntmps14
  go_wp2_with fail
  refine (of_any _ _ _ _ _ _ (by omega) (by omega)).mono ?_
  rintro e w1 ⟨rfl, ha⟩
  obtain ⟨hac, haf⟩ := bcell ha
  go_wp2
  go_ret
  refine ⟨rfl, ?_⟩
  (repeat (first | exact Below.refl _ _ | assumption | refine Below.setCell ?_ (by first | omega | (simp; done) | (simp; omega)) _ | refine Below.alloc ?_ (by first | omega | (simp; done) | (simp; omega)) _ | refine Below.drew ?_ | refine Below.trans ?_ (Below.mono ‹Below _ _ _› (by first | omega | (simp; done) | (simp; omega)))))
theorem pfoot_any (t p s q : Int) (w : World) :
    Calls Tryz.prog 107 #[.agg #[.int .i64 t, .int .i64 p, .int .i64 s], .int .i64 q] w fun e w' => e = .returned (.int .i64 (ofF t p s q 1)) ∧ Below w.heap.size w w' := by
  go_enter Tryz.func107, Tryz.ntmps107
  go_wp2_with fail
  refine (of_any _ _ _ _ _ _ (by omega) (by omega)).mono ?_
  rintro e w1 ⟨rfl, ha⟩
  obtain ⟨hac, haf⟩ := bcell ha
  go_wp2
  go_ret
  refine ⟨rfl, ?_⟩
  (repeat (first | exact Below.refl _ _ | assumption | refine Below.setCell ?_ (by first | omega | (simp; done) | (simp; omega)) _ | refine Below.alloc ?_ (by first | omega | (simp; done) | (simp; omega)) _ | refine Below.drew ?_ | refine Below.trans ?_ (Below.mono ‹Below _ _ _› (by first | omega | (simp; done) | (simp; omega)))))
theorem pbin_any (k : Int) (w : World) :
    Calls Tryz.prog 143 #[.int .i64 k] w fun e w' => e = .returned (.int .i64 (withinF 2 k 11)) ∧ Below w.heap.size w w' := by
  go_enter Tryz.func143, Tryz.ntmps143
  go_wp2_with fail
  refine (within_any 2 k 11 w (by omega) (by omega) (by omega)).mono ?_
  rintro e w1 ⟨rfl, rfl⟩
  go_wp2
  go_ret
  exact ⟨rfl, Below.refl _ _⟩
/-- math/bits.Len64 by the library's contract: the body is the one that the contract speaks of. -/
def lenRen : Go.Shelf.Ren := ⟨fun | 129 => 151 | n => n, fun | 3 => 3 | 4 => 4 | 5 => 5 | 9 => 9 | 46 => 133 | 53 => 72 | n => n, fun n => n⟩
theorem lenLays : Go.Proofs.Lays.n129 Tryz.prog lenRen where
  mixed := by kernel_rfl
  f129 := Tryz.func151.trans (congrArg some (by kernel_rfl))
  t3 := Tryz.underlying3
  a3 := Tryz.isAgg3
  z3 := Tryz.sizeOf3
  v3 := Tryz.zeroValue3
  t4 := Tryz.underlying4
  a4 := Tryz.isAgg4
  z4 := Tryz.sizeOf4
  v4 := Tryz.zeroValue4
  t5 := Tryz.underlying5
  a5 := Tryz.isAgg5
  z5 := Tryz.sizeOf5
  v5 := Tryz.zeroValue5
  t9 := Tryz.underlying9
  a9 := Tryz.isAgg9
  z9 := Tryz.sizeOf9
  v9 := Tryz.zeroValue9
  t46 := Tryz.underlying133
  a46 := Tryz.isAgg133
  z46 := Tryz.sizeOf133
  v46 := Tryz.zeroValue133
  t53 := Tryz.underlying72
  a53 := Tryz.isAgg72
  z53 := Tryz.sizeOf72
  v53 := Tryz.zeroValue72
theorem len64_any (n : Int) (w : World) (h1 : 0 ≤ n) (h2 : n ≤ 18446744073709551615) :
    Calls Tryz.prog 151 #[.int .u64 n] w fun e w' => e = .returned (.int .i64 (Lib.bitLen n.toNat)) ∧ Below w.heap.size w w' :=
  (Go.Proofs.Any.bits_Len64 lenLays n w h1 h2).mono fun _ _ ⟨he, hw⟩ => ⟨he, by rw [hw]; exact Below.refl _ _⟩

theorem bitLen_le : ∀ n : Nat, n < 1025 → Lib.bitLen n = bitsN n := by decide +kernel
theorem hlog_any (n : Nat) (w : World) (h1 : 1 ≤ n) (h2 : n ≤ 1024) :
    Calls Tryz.prog 141 #[.int .i64 n] w fun e w' => e = .returned (.int .i64 (logF n)) ∧ Below w.heap.size w w' := by
  have H := Lib.hid (fun w => len64_any n w (by omega) (by omega))
  have hb := bitLen_le n (by omega)
  have hl : logF n = (Lib.bitLen n : Int) - 1 := by rw [hb]; simp [logF]
  have hbl := bitsN_le n
  have HL := Lib.hid hl
  rw [← hb] at hbl
  simp only [Int.toNat_natCast] at H
  generalize Lib.bitLen n = m at *
  clear hb hl
  go_enter Tryz.func141, Tryz.ntmps141
  go_wp2_with fail
  refine (H.out _).mono ?_
  rintro e w1 ⟨rfl, b1⟩
  go_wp2
  go_ret
  exact ⟨ret_int HL.out.symm, b1⟩
end Go.Proofs.YtkhanbedcmmlcaaGreatDoor
/- the program's small functions that its audit calls: fields of infos, bits. -/
set_option linter.unusedSimpArgs false
set_option linter.unusedVariables false
namespace Go.Proofs.YtkhanbedcmmlcaaGreatDoor
open Go.RowKit

theorem wrapsA_u32 (n : Int) (h₀ : 0 ≤ n) (h₁ : n < 2 ^ 32) : IntKind.u32.wrap n = n := by rw [IntKind.wrap_u32]; omega
theorem wrapsA_u64 (n : Int) (h₀ : 0 ≤ n) (h₁ : n < 2 ^ 64) : IntKind.u64.wrap n = n := by rw [IntKind.wrap_u64]; omega
theorem and255 {x : Int} (h0 : 0 ≤ x) (h1 : x < 4294967296) : bits .and .u32 x 255 = x % 256 := bits_mask .u32 32 (by decide) wrapsA_u32 8 (by decide) x h0 (by omega)
theorem byte_bit (v : Int) (a i : Nat) (h : a + 8 ≤ 32) (hi : i < 8) : bitB (v / 2 ^ a % 256) i = bitB v (a + i) := by
  have e : (256 : Int) = 2 ^ i * (2 * 2 ^ (7 - i)) := by
    rw [← Int.pow_succ', ← Int.pow_add, show i + (7 - i + 1) = 8 by omega]
    rfl
  have hp : (0 : Int) < 2 ^ i := Int.pow_pos (by omega)
  unfold bitB
  have h1 : decide (i < 32) = true := by simp; omega
  have h2 : decide (a + i < 32) = true := by simp; omega
  rw [h1, h2]
  have hq : v / 2 ^ a % 256 / 2 ^ i % 2 = v / 2 ^ (a + i) % 2 := by
    rw [Int.pow_add, ← Int.ediv_ediv_of_nonneg (Int.pow_nonneg (by omega))]
    generalize v / 2 ^ a = x
    have hx := Int.emod_def x 256
    generalize x / 256 = q at hx
    rw [hx, e, show x - 2 ^ i * (2 * 2 ^ (7 - i)) * q = x + (-(2 * 2 ^ (7 - i) * q)) * 2 ^ i by rw [Int.neg_mul, Int.mul_comm (2 * 2 ^ (7 - i) * q), Int.mul_assoc (2 ^ i)]; rfl, Int.add_mul_ediv_right _ _ (by omega), Int.mul_assoc]
    generalize 2 ^ (7 - i) * q = z
    omega
  rw [hq]
theorem ones_byte (v : Int) (a : Nat) (h : a + 8 ≤ 32) : ∀ k, k ≤ 8 → onesN v (a + k) = onesN v a + onesN (v / 2 ^ a % 256) k
  | 0, _ => by simp [onesN]
  | k + 1, hk => by
    have ih := ones_byte v a h k (by omega)
    have e1 : onesN v (a + (k + 1)) = onesN v (a + k) + if bitB v (a + k) then 1 else 0 := rfl
    have e2 : onesN (v / 2 ^ a % 256) (k + 1) = onesN (v / 2 ^ a % 256) k + if bitB (v / 2 ^ a % 256) k then 1 else 0 := rfl
    rw [e1, e2, byte_bit v a k h (by omega), ih]
    omega
theorem pop8_ones : ∀ n : Fin 256, Lib.pop8 (n.val : Int) = (onesN (n.val : Int) 8 : Int) := by decide +kernel
theorem pop8_at (b : Int) (h0 : 0 ≤ b) (h1 : b ≤ 255) : Lib.pop8 b = (onesN b 8 : Int) := by
  have e := pop8_ones ⟨b.toNat, by omega⟩
  simpa only [Int.toNat_of_nonneg h0] using e
theorem ones_sum {v : Int} (h0 : 0 ≤ v) (h1 : v < 4294967296) : (onesN v 32 : Int) = Lib.pop8 (v / 16777216) + Lib.pop8 (v / 65536 % 256) + Lib.pop8 (v / 256 % 256) + Lib.pop8 (v % 256) := by
  rw [pop8_at _ (by omega) (by omega), pop8_at _ (by omega) (by omega), pop8_at _ (by omega) (by omega), pop8_at _ (by omega) (by omega)]
  have a0 : onesN v 8 = onesN v 0 + onesN (v % 256) 8 := by
    have := ones_byte v 0 (by omega) 8 (by omega)
    rwa [show v / 2 ^ 0 % 256 = v % 256 by simp] at this
  have a1 : onesN v 16 = onesN v 8 + onesN (v / 256 % 256) 8 := ones_byte v 8 (by omega) 8 (by omega)
  have a2 : onesN v 24 = onesN v 16 + onesN (v / 65536 % 256) 8 := ones_byte v 16 (by omega) 8 (by omega)
  have a3 : onesN v 32 = onesN v 24 + onesN (v / 16777216) 8 := by
    have : onesN v 32 = onesN v 24 + onesN (v / 16777216 % 256) 8 := ones_byte v 24 (by omega) 8 (by omega)
    rwa [show v / 16777216 % 256 = v / 16777216 by omega] at this
  have z : onesN v 0 = 0 := rfl
  omega

set_option maxRecDepth 100000 in
theorem ones_any (v : Int) (w : World) (h0 : 0 ≤ v) (h1 : v < 4294967296) :
    Calls Tryz.prog 74 #[.int .u32 v] w fun e w' => e = .returned (.int .i64 (onesN v 32)) ∧ Below w.heap.size w w' := by
  have a1 := and255 (x := v / 65536) (by omega) (by omega)
  have a2 := and255 (x := v / 256) (by omega) (by omega)
  have a3 := and255 h0 h1
  have hs := ones_sum h0 h1
  have k0 := fun w => Lib.run_index_pop8tab (P := Tryz.prog) w 9 .u32 (v / 16777216) Tryz.underlying9 (by omega) (by omega)
  have k1 := fun w => Lib.run_index_pop8tab (P := Tryz.prog) w 9 .u32 (v / 65536 % 256) Tryz.underlying9 (by omega) (by omega)
  have k2 := fun w => Lib.run_index_pop8tab (P := Tryz.prog) w 9 .u32 (v / 256 % 256) Tryz.underlying9 (by omega) (by omega)
  have k3 := fun w => Lib.run_index_pop8tab (P := Tryz.prog) w 9 .u32 (v % 256) Tryz.underlying9 (by omega) (by omega)
  go_enter Tryz.func74, Tryz.ntmps74
  go_wp2
  go_region
  go_wp2
  go_ret
  refine ⟨ret_int ?_, (Below.refl _ _).drew⟩
  have := onesN_le v 32
  omega
theorem hmask44 (w : World) : Calls Tryz.prog 71 #[.int .i64 44] w fun e w' => e = .returned (.int .u64 17592186044415) ∧ Below w.heap.size w w' := by
  go_enter Tryz.func71, Tryz.ntmps71
  go_wp2
  go_ret
  exact ⟨rfl, Below.refl _ _⟩
theorem hgetK (v : Int) (w : World) (h0 : 0 ≤ v) (h1 : v < 4294967296) :
    Calls Tryz.prog 30 #[.int .u64 v, .int .i64 0, .int .i64 4] w fun e w' => e = .returned (.int .u64 (v % 16)) ∧ Below w.heap.size w w' := by
  have ha : bits .and .u64 (v) 15 = v % 16 := bits_mask .u64 64 (by decide) wrapsA_u64 4 (by decide) (v) (by omega) (by omega)
  go_enter Tryz.func30, Tryz.ntmps30
  go_wp2_with fail
  refine (hfield_any _ _ _ (by omega) (by omega) (by omega) (by omega)).mono ?_
  rintro e w1 ⟨rfl, b1⟩
  go_wp2
  refine wp_region_noPanic ?_
  refine wp_region_held_drew (S := fun w' => BS w1 ([] : List Nat) w') (by kernel_rfl) ?_ (fun hHeld => ?_)
  · exact (BS.start w1).drew
  refine wT 0 ?_
  refine wT 1 ?_
  refine wT 2 ?_
  refine wT 3 ?_
  refine wR 4 fun K hK => ?_
  go_simp
  refine (calls_b hHeld (hmask4 _)).mono ?_
  rintro e wr1 ⟨rfl, hV, hVl⟩
  dsimp only
  refine hK.out _ _ ?_ (fun hHeld2 => ?_)
  · exact hV
  clear hK K hV hVl hHeld
  have hHeld := hHeld2
  clear hHeld2
  try simp only [Act.put, zA, zB, zC, zD, zE, zF]
  refine wT 5 ?_
  refine wT 6 ?_
  refine wpAnyH_done (by kernel_rfl) (NoPanic.normal ?_) _
  refine world_gen ?_
  intro wz hwz
  rw [← hwz] at hHeld
  clear hwz
  go_wp2
  go_ret
  exact ⟨rfl, b1.trans (hHeld.bel.mono b1.size)⟩
theorem hgetL (v : Int) (w : World) (h0 : 0 ≤ v) (h1 : v < 4294967296) :
    Calls Tryz.prog 30 #[.int .u64 v, .int .i64 4, .int .i64 12] w fun e w' => e = .returned (.int .u64 (v / 16 % 4096)) ∧ Below w.heap.size w w' := by
  have ha : bits .and .u64 (v / 16) 4095 = v / 16 % 4096 := bits_mask .u64 64 (by decide) wrapsA_u64 12 (by decide) (v / 16) (by omega) (by omega)
  go_enter Tryz.func30, Tryz.ntmps30
  go_wp2_with fail
  refine (hfield_any _ _ _ (by omega) (by omega) (by omega) (by omega)).mono ?_
  rintro e w1 ⟨rfl, b1⟩
  go_wp2
  refine wp_region_noPanic ?_
  refine wp_region_held_drew (S := fun w' => BS w1 ([] : List Nat) w') (by kernel_rfl) ?_ (fun hHeld => ?_)
  · exact (BS.start w1).drew
  refine wT 0 ?_
  refine wT 1 ?_
  refine wT 2 ?_
  refine wT 3 ?_
  refine wR 4 fun K hK => ?_
  go_simp
  refine (calls_b hHeld (hmask12 _)).mono ?_
  rintro e wr1 ⟨rfl, hV, hVl⟩
  dsimp only
  refine hK.out _ _ ?_ (fun hHeld2 => ?_)
  · exact hV
  clear hK K hV hVl hHeld
  have hHeld := hHeld2
  clear hHeld2
  try simp only [Act.put, zA, zB, zC, zD, zE, zF]
  refine wT 5 ?_
  refine wT 6 ?_
  refine wpAnyH_done (by kernel_rfl) (NoPanic.normal ?_) _
  refine world_gen ?_
  intro wz hwz
  rw [← hwz] at hHeld
  clear hwz
  go_wp2
  go_ret
  exact ⟨rfl, b1.trans (hHeld.bel.mono b1.size)⟩
theorem hgetC (v : Int) (w : World) (h0 : 0 ≤ v) (h1 : v < 4294967296) :
    Calls Tryz.prog 30 #[.int .u64 v, .int .i64 16, .int .i64 4] w fun e w' => e = .returned (.int .u64 (v / 65536 % 16)) ∧ Below w.heap.size w w' := by
  have ha : bits .and .u64 (v / 65536) 15 = v / 65536 % 16 := bits_mask .u64 64 (by decide) wrapsA_u64 4 (by decide) (v / 65536) (by omega) (by omega)
  go_enter Tryz.func30, Tryz.ntmps30
  go_wp2_with fail
  refine (hfield_any _ _ _ (by omega) (by omega) (by omega) (by omega)).mono ?_
  rintro e w1 ⟨rfl, b1⟩
  go_wp2
  refine wp_region_noPanic ?_
  refine wp_region_held_drew (S := fun w' => BS w1 ([] : List Nat) w') (by kernel_rfl) ?_ (fun hHeld => ?_)
  · exact (BS.start w1).drew
  refine wT 0 ?_
  refine wT 1 ?_
  refine wT 2 ?_
  refine wT 3 ?_
  refine wR 4 fun K hK => ?_
  go_simp
  refine (calls_b hHeld (hmask4 _)).mono ?_
  rintro e wr1 ⟨rfl, hV, hVl⟩
  dsimp only
  refine hK.out _ _ ?_ (fun hHeld2 => ?_)
  · exact hV
  clear hK K hV hVl hHeld
  have hHeld := hHeld2
  clear hHeld2
  try simp only [Act.put, zA, zB, zC, zD, zE, zF]
  refine wT 5 ?_
  refine wT 6 ?_
  refine wpAnyH_done (by kernel_rfl) (NoPanic.normal ?_) _
  refine world_gen ?_
  intro wz hwz
  rw [← hwz] at hHeld
  clear hwz
  go_wp2
  go_ret
  exact ⟨rfl, b1.trans (hHeld.bel.mono b1.size)⟩
theorem hgetR (v : Int) (w : World) (h0 : 0 ≤ v) (h1 : v < 4294967296) :
    Calls Tryz.prog 30 #[.int .u64 v, .int .i64 20, .int .i64 44] w fun e w' => e = .returned (.int .u64 (v / 1048576 % 17592186044416)) ∧ Below w.heap.size w w' := by
  have ha : bits .and .u64 (v / 1048576) 17592186044415 = v / 1048576 % 17592186044416 := bits_mask .u64 64 (by decide) wrapsA_u64 44 (by decide) (v / 1048576) (by omega) (by omega)
  go_enter Tryz.func30, Tryz.ntmps30
  go_wp2_with fail
  refine (hfield_any _ _ _ (by omega) (by omega) (by omega) (by omega)).mono ?_
  rintro e w1 ⟨rfl, b1⟩
  go_wp2
  refine wp_region_noPanic ?_
  refine wp_region_held_drew (S := fun w' => BS w1 ([] : List Nat) w') (by kernel_rfl) ?_ (fun hHeld => ?_)
  · exact (BS.start w1).drew
  refine wT 0 ?_
  refine wT 1 ?_
  refine wT 2 ?_
  refine wT 3 ?_
  refine wR 4 fun K hK => ?_
  go_simp
  refine (calls_b hHeld (hmask44 _)).mono ?_
  rintro e wr1 ⟨rfl, hV, hVl⟩
  dsimp only
  refine hK.out _ _ ?_ (fun hHeld2 => ?_)
  · exact hV
  clear hK K hV hVl hHeld
  have hHeld := hHeld2
  clear hHeld2
  try simp only [Act.put, zA, zB, zC, zD, zE, zF]
  refine wT 5 ?_
  refine wT 6 ?_
  refine wpAnyH_done (by kernel_rfl) (NoPanic.normal ?_) _
  refine world_gen ?_
  intro wz hwz
  rw [← hwz] at hHeld
  clear hwz
  go_wp2
  go_ret
  exact ⟨rfl, b1.trans (hHeld.bel.mono b1.size)⟩

theorem pones_any (v : Int) (w : World) (h0 : 0 ≤ v) (h1 : v < 4294967296) :
    Calls Tryz.prog 34 #[.int .u32 v] w fun e w' => e = .returned (.int .i64 (onesN v 32)) ∧ Below w.heap.size w w' := by
  have H := Lib.hid (fun w => ones_any v w h0 h1)
  go_enter Tryz.func34, Tryz.ntmps34
  go_wp2_with fail
  refine (H.out _).mono ?_
  rintro e w1 ⟨rfl, b1⟩
  go_wp2
  go_ret
  exact ⟨rfl, b1⟩
theorem iright_any (k l c : Int) (w : World) :
    Calls Tryz.prog 31 #[.agg #[.int .i64 k, .int .i64 l, .int .i64 c]] w fun e w' => e = .returned (.bool (rightI k l c)) ∧ Below w.heap.size w w' := by
  generalize hr : rightI k l c = r
  have HR := Lib.hid hr
  clear hr
  go_enter Tryz.func31, Tryz.ntmps31
  go_wp2
  all_goals
    go_ret
    refine ⟨ret_bool ?_, ?_⟩
    · have e := HR.out
      subst e
      clear HR
      rw [Bool.eq_iff_iff]
      simp_all [rightI]
      try omega
    · clear HR
      (repeat (first | exact Below.refl _ _ | assumption | refine Below.setCell ?_ (by first | omega | (simp; done) | (simp; omega)) _ | refine Below.alloc ?_ (by first | omega | (simp; done) | (simp; omega)) _ | refine Below.drew ?_ | refine Below.trans ?_ (Below.mono ‹Below _ _ _› (by first | omega | (simp; done) | (simp; omega)))))
theorem okI_eq {v : Int} (h0 : 0 ≤ v) : (decide (v / 1048576 % 17592186044416 = 0) && rightI (v % 16) (v / 16 % 4096) (v / 65536 % 16)) = okI v ∨ ¬ v < 4294967296 := by
  by_cases h : v < 4294967296
  · left
    unfold okI
    by_cases h2 : v / 1048576 = 0
    · rw [show v / 1048576 % 17592186044416 = 0 by omega, show v / 65536 % 16 = v / 65536 by omega]
      simp
    · rw [show decide (v / 1048576 % 17592186044416 = 0) = false by simp; omega]
      have h3 : 16 ≤ v / 65536 := by omega
      have hr : rightI (v % 16) (v / 16 % 4096) (v / 65536) = false := by
        unfold rightI
        repeat' split
        all_goals simp <;> omega
      rw [hr]
      rfl
  · exact Or.inr h
theorem iget_any (v : Int) (w : World) (h0 : 0 ≤ v) (h1 : v < 4294967296) :
    Calls Tryz.prog 13 #[.int .u32 v] w fun e w' => e = .returned (.tuple #[.agg #[.int .i64 (iK v), .int .i64 (iL v), .int .i64 (iC v)], .bool (okI v)]) ∧ Below w.heap.size w w' := by
  have hok := (okI_eq h0).resolve_right (by omega)
  have HK := Lib.hid (fun w => hgetK v w h0 h1)
  have HL := Lib.hid (fun w => hgetL v w h0 h1)
  have HC := Lib.hid (fun w => hgetC v w h0 h1)
  have HR := Lib.hid (fun w => hgetR v w h0 h1)
  have HI := Lib.hid (fun w => iright_any (v % 16) (v / 16 % 4096) (v / 65536 % 16) w)
  have hw : IntKind.u64.wrap v = v := wrapsA_u64 _ h0 (by omega)
  have hwk : IntKind.i64.wrap (v % 16) = v % 16 := wrap_in _ (by omega)
  have hwl : IntKind.i64.wrap (v / 16 % 4096) = v / 16 % 4096 := wrap_in _ (by omega)
  have hwc : IntKind.i64.wrap (v / 65536 % 16) = v / 65536 % 16 := wrap_in _ (by omega)
  have S0 := (BS.start w).alloc (.cells #[.int .i64 0, .int .i64 0, .int .i64 0] 40)
  have r0 := heap_alloc_new w (.cells #[.int .i64 0, .int .i64 0, .int .i64 0] 40)
  have hv1 : iK v = if okI v then v % 16 else 0 := rfl
  have hv2 : iL v = if okI v then v / 16 % 4096 else 0 := rfl
  have hv3 : okI v = true → iC v = v / 65536 % 16 := by
    intro h
    have e : iC v = v / 65536 := by unfold iC; rw [if_pos h]
    have := inf_bd v
    rw [e] at this ⊢
    omega
  have hv4 : okI v = false → iC v = 0 := by intro h; unfold iC; rw [h]; rfl
  have HVV := Lib.hid (And.intro hv1 (And.intro hv2 (And.intro hv3 hv4)))
  clear hv1 hv2 hv3 hv4
  generalize rightI (v % 16) (v / 16 % 4096) (v / 65536 % 16) = rg at *
  generalize v / 1048576 % 17592186044416 = rs at *
  have HOK := Lib.hid hok
  clear hok
  generalize v % 16 = k at *
  generalize v / 16 % 4096 = l at *
  generalize v / 65536 % 16 = c at *
  go_enter Tryz.func13, Tryz.ntmps13
  go_wp2_with fail
  refine (calls_b S0 (HK.out _)).mono ?_
  rintro e w1 ⟨rfl, S1, q1⟩
  have r1 := (q1 w.heap.size (by simp)).trans r0
  go_wp2_with fail
  refine (calls_b S1 (HL.out _)).mono ?_
  rintro e w2 ⟨rfl, S2, q2⟩
  have r2 := (q2 w.heap.size (by simp)).trans r1
  go_wp2_with fail
  refine (calls_b S2 (HC.out _)).mono ?_
  rintro e w3 ⟨rfl, S3, q3⟩
  have r3 := (q3 w.heap.size (by simp)).trans r2
  have A3 := S3.allocd #[.int .i64 k, .int .i64 l, .int .i64 c] 40
  have r3a := (heap_alloc_old _ (.cells #[.int .i64 k, .int .i64 l, .int .i64 c] 40) (S3.ls w.heap.size (by simp)).1).trans r3
  have hne : w.heap.size ≠ w3.heap.size := by have := (S3.ls w.heap.size (by simp)).1; omega
  clear S0 S1 S2 S3 q1 q2 q3 r0 r1 r2 r3 HK HL HC
  go_wp2_with fail
  refine (calls_b A3.bs (HR.out _)).mono ?_
  rintro e w4 ⟨rfl, S4, q4⟩
  have r4 := (q4 w.heap.size (by simp)).trans r3a
  have i4 := (q4 w3.heap.size (by simp)).trans A3.box
  obtain ⟨⟨a0, a1, a2⟩, -, -, -⟩ := cells3 i4
  clear A3 r3a q4 HR
  by_cases hrs : rs = 0
  · subst hrs
    go_wp2_with fail
    refine (calls_b S4 (HI.out _)).mono ?_
    rintro e w5 ⟨rfl, S5, q5⟩
    have r5 := (q5 w.heap.size (by simp)).trans r4
    have i5 := (q5 w3.heap.size (by simp)).trans i4
    clear r4 i4 S4 q5 a0 a1 a2
    obtain ⟨⟨a0, a1, a2⟩, -, -, -⟩ := cells3 i5
    clear i5
    cases rg
    · have rZ := r5
      have SZ := S5
      clear r5 S5
      obtain ⟨⟨d0, d1, d2⟩, j0, j1, j2⟩ := cells3 rZ
      have HSZ := Lib.hid SZ
      clear rZ SZ
      go_wp2
      refine bodyPost_ret (v := .tuple #[.agg #[.int .i64 0, .int .i64 0, .int .i64 0], .bool false]) (by simp [results, Tryz.results13, go_sem, *]) rfl ⟨?_, ?_⟩
      · obtain ⟨f1, f2, f3, f4⟩ := HVV.out
        have hO := HOK.out
        have hF : okI v = false := by rw [← hO]; rfl
        rw [f1, f2, f4 hF, hF]
        rfl
      · have hm : w.heap.size ∈ [w3.heap.size, w.heap.size] := by simp
        exact (((HSZ.out.setCell hm 0 _).setCell hm 1 _).setCell hm 2 _).bel
    · have rZ := r5
      have SZ := S5
      clear r5 S5
      obtain ⟨⟨d0, d1, d2⟩, j0, j1, j2⟩ := cells3 rZ
      have HSZ := Lib.hid SZ
      clear rZ SZ
      go_wp2
      refine bodyPost_ret (v := .tuple #[.agg #[.int .i64 k, .int .i64 l, .int .i64 c], .bool true]) (by simp [results, Tryz.results13, go_sem, *]) rfl ⟨?_, ?_⟩
      · obtain ⟨f1, f2, f3, f4⟩ := HVV.out
        have hO := HOK.out
        have hT : okI v = true := by rw [← hO]; rfl
        rw [f1, f2, f3 hT, hT]
        rfl
      · have hm : w.heap.size ∈ [w3.heap.size, w.heap.size] := by simp
        exact (((HSZ.out.setCell hm 0 _).setCell hm 1 _).setCell hm 2 _).bel
  · have hrb : (rs != 0) = true := by simpa using hrs
    have rZ := r4
    have SZ := S4
    clear r4 S4 i4
    obtain ⟨⟨d0, d1, d2⟩, j0, j1, j2⟩ := cells3 rZ
    have HSZ := Lib.hid SZ
    clear rZ SZ
    go_wp2
    refine bodyPost_ret (v := .tuple #[.agg #[.int .i64 0, .int .i64 0, .int .i64 0], .bool false]) (by simp [results, Tryz.results13, go_sem, *]) rfl ⟨?_, ?_⟩
    · obtain ⟨f1, f2, f3, f4⟩ := HVV.out
      have hO := HOK.out
      have hF : okI v = false := by rw [← hO]; simp [hrs]
      rw [f1, f2, f4 hF, hF]
      rfl
    · have hm : w.heap.size ∈ [w3.heap.size, w.heap.size] := by simp
      exact (((HSZ.out.setCell hm 0 _).setCell hm 1 _).setCell hm 2 _).bel
end Go.Proofs.YtkhanbedcmmlcaaGreatDoor
/- the document's audit: pages' bytes, slots' sizes, addresses. -/
set_option linter.unusedSimpArgs false
set_option linter.unusedVariables false
namespace Go.Proofs.YtkhanbedcmmlcaaGreatDoor
open Go.RowKit

def pageN : Nat → Int
  | 0 => 1
  | k + 1 => pageN k * 2
def pageF (s : Int) : Int := pageN s.toNat
theorem pageN_bd : ∀ k : Nat, k ≤ 20 → 1 ≤ pageN k ∧ pageN k ≤ 1048576 := by decide
theorem pageF_bd {s : Int} (h : 10 ≤ s ∧ s ≤ 20) : 1024 ≤ pageF s ∧ pageF s ≤ 1048576 := by
  have : ∀ k : Nat, k ≤ 20 → 10 ≤ k → 1024 ≤ pageN k ∧ pageN k ≤ 1048576 := by decide
  exact this _ (by omega) (by omega)

def PgRel (s : Int) (w : World) (W0 : World) (v3 v4 : Value) (wr : World) : Prop := ∃ k : Nat, (k : Int) ≤ s ∧ v4 = .int .i64 k ∧ v3 = .int .i64 (pageN k) ∧ W0 = wr ∧ w = w

theorem rpagesz_any (t p s : Int) (w : World) (hr : rightB t p s = true) :
    Calls Tryz.prog 102 #[.agg #[.int .i64 t, .int .i64 p, .int .i64 s]] w fun e w' => e = .returned (.int .i64 (pageF s)) ∧ Below w.heap.size w w' := by
  obtain ⟨b1, b2, b3, b4, b5, b6⟩ := right_bd hr
  have H := rright_any t p s
  rw [hr] at H
  have HH := Lib.hid H
  have c0 := loc_alloc w #[.int .i64 t, .int .i64 p, .int .i64 s] 23
  generalize hF : pageF s = F
  have HF := Lib.hid hF
  clear H hr hF
  go_enter Tryz.func102, Tryz.ntmps102
  go_wp2_with fail
  refine (HH.out _).mono ?_
  rintro e w1 ⟨rfl, hb⟩
  have c2 := (hb.cell (p := ⟨w.heap.size, 2, none⟩) (by simp)).trans (c0 2)
  simp at c2
  have bel : Below w.heap.size w w1 := ((Below.refl _ _).alloc (Nat.le_refl _) _).trans (hb.mono (by simp))
  clear hb c0
  go_wp2_with fail
  go_loopw [3, 4] (fun v3 v4 wr => PgRel s w w1 v3 v4 wr) (fun _ v4 _ => s.toNat - (intOf v4).toNat)
  case atStart => exact ⟨0, by omega, rfl, rfl, rfl, rfl⟩
  case round =>
    obtain ⟨k, hk, rfl, rfl, rfl, -⟩ := hrel
    have hp := pageN_bd k (by omega)
    by_cases hlt : (k : Int) < s
    · have hs : pageN (k + 1) = pageN k * 2 := rfl
      have HS := Lib.hid hs
      clear hs
      generalize pageN k = pg at *
      go_wp2
      go_roundw
      case rel => exact ⟨k + 1, by omega, by go_num, by rw [HS.out], rfl, rfl⟩
      case measure => simp [intOf]; omega
    · have e : k = s.toNat := by omega
      have hF2 : pageN k = F := by rw [← HF.out, e]; rfl
      have HF2 := Lib.hid hF2
      clear hp hF2 e
      generalize pageN k = pg at *
      go_wp2
      go_ret
      exact ⟨ret_int HF2.out, bel⟩

def sizeF (s k : Int) : Int := if slotsF k = 0 then 0 else pageF s / slotsF k - pageF s / slotsF k % 16
theorem slots_cases (k : Int) : slotsF k = 0 ∨ slotsF k = 32 ∨ slotsF k = 21 ∨ slotsF k = 16 ∨ slotsF k = 10 ∨ slotsF k = 8 ∨ slotsF k = 5 ∨ slotsF k = 4 ∨ slotsF k = 3 ∨ slotsF k = 2 := by
  rcases (by omega : k = 0 ∨ k = 1 ∨ k = 2 ∨ k = 3 ∨ k = 4 ∨ k = 5 ∨ k = 6 ∨ k = 7 ∨ k = 8 ∨ (k < 0 ∨ 8 < k)) with rfl | rfl | rfl | rfl | rfl | rfl | rfl | rfl | rfl | h
  case inr.inr.inr.inr.inr.inr.inr.inr.inr =>
    left
    unfold slotsF
    rw [if_neg (by omega), if_neg (by omega), if_neg (by omega), if_neg (by omega), if_neg (by omega), if_neg (by omega), if_neg (by omega), if_neg (by omega), if_neg (by omega)]
  all_goals decide
theorem size_bd {s k : Int} (h : 10 ≤ s ∧ s ≤ 20) : 0 ≤ sizeF s k ∧ sizeF s k ≤ 1048576 ∧ sizeF s k * slotsF k ≤ pageF s ∧ (slotsF k ≠ 0 → 1 ≤ sizeF s k) ∧ (∀ b : Int, 0 ≤ b → b < slotsF k → 0 ≤ b * sizeF s k ∧ b * sizeF s k + sizeF s k ≤ pageF s) := by
  have hp := pageF_bd h
  unfold sizeF
  generalize pageF s = pg at *
  have key : ∀ N z : Int, 0 ≤ z → N * z ≤ pg → ∀ b : Int, 0 ≤ b → b < N → 0 ≤ b * z ∧ b * z + z ≤ pg := by
    intro N z hz hN b hb hbN
    refine ⟨Int.mul_nonneg hb hz, ?_⟩
    have h1 : (b + 1) * z ≤ N * z := Int.mul_le_mul_of_nonneg_right (by omega) hz
    have h2 : (b + 1) * z = b * z + z := by rw [Int.add_mul, Int.one_mul]
    omega
  rcases slots_cases k with e | e | e | e | e | e | e | e | e | e <;> rw [e]
  · rw [if_pos rfl]
    exact ⟨by omega, by omega, by omega, fun h => absurd rfl h, fun b h1 h2 => absurd h2 (by omega)⟩
  all_goals
    rw [if_neg (by omega)]
    refine ⟨by omega, by omega, by omega, fun _ => by omega, key _ _ (by omega) (by omega)⟩

theorem rsize_any (s k : Int) (w : World) (h : 10 ≤ s ∧ s ≤ 20) :
    Calls Tryz.prog 135 #[.int .i64 s, .int .i64 k] w fun e w' => e = .returned (.int .i64 (sizeF s k)) ∧ Below w.heap.size w w' := by
  have H := Lib.hid (fun w => rpagesz_any 1 4 s w (right_mk (by omega)))
  have hp := pageF_bd h
  have hd : sizeF s k = if slotsF k = 0 then 0 else pageF s / slotsF k - pageF s / slotsF k % 16 := rfl
  have HK := Lib.hid (fun w => rkslots_any k w)
  have hb := slots_bd k
  rw [hd]
  clear hd h
  generalize slotsF k = n at *
  generalize pageF s = pg at *
  by_cases hn : n = 0
  · subst hn
    go_enter Tryz.func135, Tryz.ntmps135
    go_wp2_with fail
    refine (H.out _).mono ?_
    rintro e w1 ⟨rfl, b1⟩
    go_wp2_with fail
    refine (HK.out _).mono ?_
    rintro e w2 ⟨rfl, b2⟩
    go_wp2
    go_ret
    exact ⟨by simp, b1.trans (b2.mono b1.size)⟩
  · rw [if_neg hn]
    have hnb : (n == 0) = false := by simp [hn]
    have hpb : (pg == 0) = false := by simp; omega
    have hq : pg.tdiv n = pg / n := Int.tdiv_eq_ediv_of_nonneg (by omega)
    have hq0 : 0 ≤ pg / n := Int.ediv_nonneg (by omega) (by omega)
    have hq1 : pg / n ≤ pg := Int.ediv_le_self _ (by omega)
    have HQ := Lib.hid hq
    go_enter Tryz.func135, Tryz.ntmps135
    go_wp2_with fail
    refine (H.out _).mono ?_
    rintro e w1 ⟨rfl, b1⟩
    go_wp2_with fail
    refine (HK.out _).mono ?_
    rintro e w2 ⟨rfl, b2⟩
    go_wp2
    go_ret
    exact ⟨rfl, b1.trans (b2.mono b1.size)⟩

/-- an address that is one. -/
def addrF (s q off : Int) : Int := (q + 1) * pageF s + off
theorem rof_any (t p s q off : Int) (w : World) (hr : rightB t p s = true) (h0 : 0 ≤ q) (h1 : q < p) (h2 : 0 ≤ off) (h3 : off < pageF s) :
    Calls Tryz.prog 101 #[.agg #[.int .i64 t, .int .i64 p, .int .i64 s], .int .i64 q, .int .i64 off] w fun e w' => e = .returned (.tuple #[.int .i64 (addrF s q off), .bool true]) ∧ Below w.heap.size w w' := by
  obtain ⟨b1, b2, b3, b4, b5, b6⟩ := right_bd hr
  have H := rright_any t p s
  rw [hr] at H
  have HH := Lib.hid H
  have HP := Lib.hid (fun w => rpagesz_any t p s w hr)
  have hp := pageF_bd (s := s) (by omega)
  have hd : addrF s q off = (q + 1) * pageF s + off := rfl
  rw [hd]
  clear H hr hd
  generalize pageF s = pg at *
  have hm0 : 0 ≤ (q + 1) * pg := Int.mul_nonneg (by omega) (by omega)
  have hm1 : (q + 1) * pg ≤ 1024 * 1048576 := Int.mul_le_mul (by omega) (by omega) (by omega) (by omega)
  have hw1 : IntKind.i64.wrap ((q + 1) * pg) = (q + 1) * pg := wrap_in _ (by omega)
  have hw2 : IntKind.i64.wrap ((q + 1) * pg + off) = (q + 1) * pg + off := wrap_in _ (by omega)
  have c0 := loc_alloc w #[.int .i64 t, .int .i64 p, .int .i64 s] 23
  go_enter Tryz.func101, Tryz.ntmps101
  go_wp2_with fail
  refine (HH.out _).mono ?_
  rintro e w1 ⟨rfl, ha⟩
  obtain ⟨hac, haf⟩ := bcell ha
  have haz0 : w.heap.size < w1.heap.size := by have := ha.size; first | omega | (simp at this; omega)
  go_wp2_with fail
  refine (HP.out _).mono ?_
  rintro e w2 ⟨rfl, hb⟩
  obtain ⟨hbc, hbf⟩ := bcell hb
  have hbz0 : w1.heap.size ≤ w2.heap.size := by have := hb.size; first | omega | (simp at this; omega)
  have hbz1 : w.heap.size < w2.heap.size := by have := hb.size; first | omega | (simp at this; omega)
  go_wp2_with fail
  refine (HP.out _).mono ?_
  rintro e w3 ⟨rfl, hc⟩
  obtain ⟨hcc, hcf⟩ := bcell hc
  go_wp2
  refine bodyPost_ret (v := .tuple #[.int .i64 ((q + 1) * pg + off), .bool true]) (by simp [results, Tryz.results101, go_sem]) rfl ⟨rfl, ?_⟩
  (repeat (first | exact Below.refl _ _ | assumption | refine Below.setCell ?_ (by first | omega | (simp; done) | (simp; omega)) _ | refine Below.alloc ?_ (by first | omega | (simp; done) | (simp; omega)) _ | refine Below.drew ?_ | refine Below.trans ?_ (Below.mono ‹Below _ _ _› (by first | omega | (simp; done) | (simp; omega)))))

theorem rat_any (t p s k q slot : Int) (w : World) (hr : rightB t p s = true) (h0 : 0 ≤ q) (h1 : q < p) (h2 : 0 ≤ slot) (h3 : slot < slotsF k) :
    Calls Tryz.prog 136 #[.agg #[.int .i64 t, .int .i64 p, .int .i64 s], .int .i64 k, .int .i64 q, .int .i64 slot] w fun e w' => e = .returned (.tuple #[.int .i64 (addrF s q (slot * sizeF s k)), .bool true]) ∧ Below w.heap.size w w' := by
  obtain ⟨b1, b2, b3, b4, b5, b6⟩ := right_bd hr
  obtain ⟨s1, s2, s3, s4, s5⟩ := size_bd (s := s) (k := k) (by omega)
  have h5 := s5 slot h2 h3
  have s6 := s4 (by omega)
  have hp := pageF_bd (s := s) (by omega)
  have HO := Lib.hid (fun w => rof_any t p s q (slot * sizeF s k) w hr h0 h1 h5.1 (by omega))
  have HK := Lib.hid (fun w => rkslots_any k w)
  have HZ := Lib.hid (fun w => rsize_any s k w (by omega))
  have hw : IntKind.i64.wrap (slot * sizeF s k) = slot * sizeF s k := wrap_in _ (by omega)
  have hS0 := ((BS.start w).alloc (.cells #[.int .i64 t, .int .i64 p, .int .i64 s] 23))
  generalize addrF s q (slot * sizeF s k) = ar at *
  generalize sizeF s k = z at *
  generalize slotsF k = sl at *
  clear s1 s2 s3 s4 s5 hr
  go_enter Tryz.func136, Tryz.ntmps136
  go_wp2_with fail
  refine (HK.out _).mono ?_
  rintro e w1 ⟨rfl, ha⟩
  obtain ⟨hac, haf⟩ := bcell ha
  have haz0 : w.heap.size < w1.heap.size := by have := ha.size; first | omega | (simp at this; omega)
  have hS1 := hS0.below ha
  have hB1 := fun o => (ha.cell (p := ⟨w.heap.size, o, none⟩) (by simp)).trans (loc_alloc w #[.int .i64 t, .int .i64 p, .int .i64 s] 23 o)
  have HB1 := Lib.hid hB1
  clear hB1
  go_wp2_with fail
  refine wp_region_noPanic ?_
  refine wp_region_held_drew (S := fun w' => BS w [w.heap.size] w' ∧ (∀ o : Nat, w'.cell? ⟨w.heap.size, o, none⟩ = (#[.int .i64 t, .int .i64 p, .int .i64 s] : Array Value)[o]?)) (by kernel_rfl) ?_ (fun hHeld => ?_)
  · exact ⟨hS1.drew, HB1.out⟩
  refine wT 0 ?_
  refine wT 1 ?_
  refine wT 2 ?_
  refine wT 3 ?_
  refine wT 4 ?_
  refine wT 5 ?_
  refine wR 6 fun K hK => ?_
  go_simp
  refine (calls_b hHeld.1 (HZ.out _)).mono ?_
  rintro e wr1 ⟨rfl, hV, hVl⟩
  dsimp only
  refine hK.out _ _ ?_ (fun hHeld2 => ?_)
  · exact ⟨hV, loc_step hVl (by simp) hHeld.2⟩
  clear hK K hV hVl hHeld
  have hHeld := hHeld2
  clear hHeld2
  try simp only [Act.put, zA, zB, zC, zD, zE, zF]
  refine wT 7 ?_
  refine wR 8 fun K hK => ?_
  go_simp
  refine (calls_b hHeld.1 (HO.out _)).mono ?_
  rintro e wr2 ⟨rfl, hV, hVl⟩
  dsimp only
  refine hK.out _ _ ?_ (fun hHeld2 => ?_)
  · exact ⟨hV, loc_step hVl (by simp) hHeld.2⟩
  clear hK K hV hVl hHeld
  have hHeld := hHeld2
  clear hHeld2
  try simp only [Act.put, zA, zB, zC, zD, zE, zF]
  refine wT 9 ?_
  refine wT 10 ?_
  refine wT 11 ?_
  refine wT 12 ?_
  refine wpAnyH_done (by kernel_rfl) (NoPanic.normal ?_) _
  refine world_gen ?_
  intro wz hwz
  rw [← hwz] at hHeld
  clear hwz
  have bel := hHeld.1.bel
  clear hHeld
  go_wp2
  exact bodyPost_ret (v := .tuple #[.int .i64 ar, .bool true]) (by simp [results, Tryz.results136, go_sem]) rfl ⟨rfl, bel⟩
end Go.Proofs.YtkhanbedcmmlcaaGreatDoor
/- the document's audit: the parts of a slab. -/
set_option linter.unusedSimpArgs false
set_option linter.unusedVariables false
namespace Go.Proofs.YtkhanbedcmmlcaaGreatDoor
open Go.RowKit

theorem infoPart : (Tryz.prog.info? 64).map (fun i => (i.zero, i.size, i.bytes)) = some (some (.agg #[.int .i64 0, .int .i64 0, .int .i64 0]), 3, 24) := by kernel_rfl
def partCells (l : List (Int × Int × Int)) : List Value := l.flatMap fun x => [.int .i64 x.1, .int .i64 x.2.1, .int .i64 x.2.2]
theorem partCells_len (l : List (Int × Int × Int)) : (partCells l).length = l.length * 3 := by
  induction l with
  | nil => rfl
  | cons y ys ih => unfold partCells at ih ⊢; simp [ih]; omega
theorem partCells_app (l m : List (Int × Int × Int)) : partCells (l ++ m) = partCells l ++ partCells m := by simp [partCells]
theorem cell_three_new (w : World) (u1 u2 u3 : Value) (T : TypeId) : ∀ (j : Nat) (x : Value), [u1, u2, u3][j]? = some x → (w.alloc (.cells #[u1, u2, u3] T)).cell? ((⟨w.heap.size, 0, none⟩ : Addr).add j) = some x := by
  intro j x hj
  rcases j with _ | _ | _ | j
  · simp at hj; subst hj; exact cell?_of_heap (o := 0) (heap_alloc_new w (.cells #[u1, u2, u3] T))
  · simp at hj; subst hj; exact cell?_of_heap (o := 1) (heap_alloc_new w (.cells #[u1, u2, u3] T))
  · simp at hj; subst hj; exact cell?_of_heap (o := 2) (heap_alloc_new w (.cells #[u1, u2, u3] T))
  · simp at hj

/-- a new row of parts comes back. -/
def RowQ (w : World) (l : List (Int × Int × Int)) (v : Value) (w' : World) : Prop :=
  w'.ownsRow 0 64 3 v l.length (partCells l) ∧ (∀ k, v.ownBlock = some k → w.heap.size ≤ k) ∧ Below w.heap.size w w'

def kindF (x y : Bool) : Int := if x then 2 else if y then 4 else 3
def slabL (vs : List Int) (t s q k : Int) : Nat → List (Int × Int × Int)
  | 0 => []
  | b + 1 => slabL vs t s q k b ++ [(kindF (bitB (gv vs t q 4) b) (bitB (gv vs t q 5) b), addrF s q ((b : Int) * sizeF s k), sizeF s k)]
theorem slabL_len (vs : List Int) (t s q k : Int) (b : Nat) : (slabL vs t s q k b).length = b := by
  induction b with
  | zero => rfl
  | succ b ih => simp [slabL, ih]
def restF (s k : Int) : Int := pageF s - sizeF s k * slotsF k
def slabF (vs : List Int) (t s q k : Int) : List (Int × Int × Int) :=
  slabL vs t s q k (slotsF k).toNat ++ if 0 < restF s k then [(5, addrF s q (pageF s - restF s k), restF s k)] else []
theorem slabF_len (vs : List Int) (t s q k : Int) : (slabF vs t s q k).length ≤ 33 := by
  have := slots_bd k
  unfold slabF
  rw [List.length_append, slabL_len]
  split <;> simp <;> omega

section
variable {t p s : Int} {ad : Addr} {n c : Nat} {vs : List Int}

structure SlRel (w : World) (vs : List Int) (t p s q k : Int) (ad : Addr) (n c : Nat) (v7 v9 : Value) (wr : World) (b : Nat) : Prop where
  hb : v9 = .int .i64 b
  le : (b : Int) ≤ slotsF k
  row : wr.ownsRow 0 64 3 v7 b (partCells (slabL vs t s q k b))
  bs : BS w (w.heap.size :: v7.ownBlock.toList) wr
  xb : XB w t p s ad n c vs wr
  far : ∀ k, v7.ownBlock = some k → w.heap.size < k
def SlRelE (w : World) (vs : List Int) (t p s q k : Int) (ad : Addr) (n c : Nat) (v7 v9 : Value) (wr : World) : Prop := ∃ b, SlRel w vs t p s q k ad n c v7 v9 wr b

/-- behind an append to a row that is none of X's box. -/
theorem XB.grown {w W W' : World} {ob : Obj} {row : Option Nat} (h0 : XV w t p s ad n vs) (h : XB w t p s ad n c vs W) (hS : BS w (w.heap.size :: row.toList) W) (hg : (W.alloc ob).grownBy W' row) (hr : ∀ k, row = some k → w.heap.size < k) : XB w t p s ad n c vs W' := by
  have hb : Below w.heap.size w W' := (hS.bel.alloc hS.bel.size ob).grown hg (by simp; exact Nat.le_succ_of_le hS.bel.size) (fun k hk => (hS.ls k (by simp [hk])).2)
  refine ⟨hb, loc_grown hg (by have := h.lt; simp; omega) (fun e => by have := hr _ e; omega) (loc_old _ h.lt h.box), Nat.lt_of_lt_of_le h.lt ?_, h0.keep hb⟩
  have := hg.size; simp at this; omega

set_option maxHeartbeats 4000000 in
set_option maxRecDepth 100000 in
theorem slab_any (q k : Int) (c : Nat) (w : World) (h : XV w t p s ad n vs) (h0 : 0 ≤ q) (h1 : q < p) (hk0 : 0 ≤ k) (hk8 : k ≤ 8) :
    Calls Tryz.prog 103 #[.agg #[.int .i64 t, .int .i64 p, .int .i64 s, .slice (some ad) n c], .int .i64 q, .int .i64 k] w fun e w' => ∃ v, e = .returned v ∧ RowQ w (slabF vs t s q k) v w' := by
  have X0 := (h.boxed c).alloc (.cells #[] 64)
  have r0 := row_empty (w.alloc (.cells #[.int .i64 t, .int .i64 p, .int .i64 s, .slice (some ad) n c] 59)) 64 3
  have hS0 := ((BS.start w).alloc (.cells #[.int .i64 t, .int .i64 p, .int .i64 s, .slice (some ad) n c] 59)).alloc (.cells #[] 64)
  simp only [World.size_alloc] at hS0 r0
  have bd := h.bd
  have hr := h.right
  have hb1 := slots_bd k
  obtain ⟨z1, z2, z3, z4, z5⟩ := size_bd (s := s) (k := k) (by omega)
  have hp := pageF_bd (s := s) (by omega)
  have HZ := Lib.hid (fun w => rsize_any s k w (by omega))
  have HK := Lib.hid (fun w => rkslots_any k w)
  have HP := Lib.hid (fun w => rpagesz_any t p s w hr)
  have HAt := Lib.hid (fun (b : Int) w (h2 : 0 ≤ b) (h3 : b < slotsF k) => rat_any t p s k q b w hr h0 h1 h2 h3)
  have HOf := Lib.hid (fun (off : Int) w (h2 : 0 ≤ off) (h3 : off < pageF s) => rof_any t p s q off w hr h0 h1 h2 h3)
  have HT := Lib.hid (fun (w : World) (h : XV w t p s ad n vs) => xtaken_any q c w h h0 h1)
  have HSl := Lib.hid (fun (w : World) (h : XV w t p s ad n vs) => xslots_any q c w h h0 h1)
  have g4 := (h.gu q 4).1
  have g5 := (h.gu q 5).1
  have HB4 := Lib.hid (fun (b : Nat) w (h : b < 32) => rbit_any (gv vs t q 4) b w h g4)
  have HB5 := Lib.hid (fun (b : Nat) w (h : b < 32) => rbit_any (gv vs t q 5) b w h g5)
  have hsl : ∀ b : Nat, slabL vs t s q k (b + 1) = slabL vs t s q k b ++ [(kindF (bitB (gv vs t q 4) b) (bitB (gv vs t q 5) b), addrF s q ((b : Int) * sizeF s k), sizeF s k)] := fun _ => rfl
  have HSL := Lib.hid hsl
  have hslab : slabF vs t s q k = slabL vs t s q k (slotsF k).toNat ++ if 0 < pageF s - sizeF s k * slotsF k then [(5, addrF s q (sizeF s k * slotsF k), pageF s - sizeF s k * slotsF k)] else [] := by
    have e : pageF s - restF s k = sizeF s k * slotsF k := by unfold restF; omega
    unfold slabF
    rw [e]
    rfl
  have HSlab := Lib.hid hslab
  have H0 := Lib.hid h
  obtain ⟨i0, hi0, hi1, hi2, hi3⟩ := info_parts infoPart
  have HI := Lib.hid (And.intro hi0 (And.intro hi1 (And.intro hi2 hi3)))
  have hq1 : q ≤ 1024 := by omega
  have hn := slabF_len vs t s q k
  generalize slabF vs t s q k = res at *
  have hk1 : (slotsF k ≠ 0) := by
    rcases (by omega : k = 0 ∨ k = 1 ∨ k = 2 ∨ k = 3 ∨ k = 4 ∨ k = 5 ∨ k = 6 ∨ k = 7 ∨ k = 8) with rfl | rfl | rfl | rfl | rfl | rfl | rfl | rfl | rfl <;> decide
  have z4b := z4 hk1
  clear hi0 hi1 hi2 hi3 h hsl hslab hr z5 g4 g5 bd hk0 hk8 z4
  go_enter Tryz.func103, Tryz.ntmps103
  obtain ⟨X00, X01, X02, X03⟩ := X0.cells
  have X0z := X0.lt
  go_wp2_with fail
  refine (HZ.out _).mono ?_
  rintro e w1 ⟨rfl, hb2⟩
  have X1 := X0.keep hb2
  obtain ⟨X10, X11, X12, X13⟩ := X1.cells
  have X1z := X1.lt
  have r1 := (BS.start _).below hb2 |>.row r0
  have hS1 := hS0.below hb2
  clear hb2 r0 hS0 X0 X00 X01 X02 X03 X0z
  go_wp2_with fail
  go_loopw [7, 9, 10, 11, 12] (fun v7 v9 _ _ _ wr => SlRelE w vs t p s q k ad n c v7 v9 wr) (fun _ v9 _ _ _ _ => 33 - (intOf v9).toNat)
  case atStart => exact ⟨0, rfl, by omega, r1, hS1.sub _ (by simp [Value.ownBlock]), X1, by simp [Value.ownBlock]⟩
  case round =>
    obtain ⟨b, rfl, hle, hrow, hbs, hxb, hfar⟩ := hrel
    have hlen : ∃ a c, u7 = .slice a b c := by
      rcases hrow.2 with ⟨h5, h6⟩ | ⟨g', cap', cur, h5, -⟩
      · exact ⟨_, _, by rw [h5, h6]⟩
      · exact ⟨_, _, h5⟩
    obtain ⟨pa, pc, rfl⟩ := hlen
    have HB := Lib.hid hbs
    have HF := Lib.hid hfar
    have HRow := Lib.hid hrow
    clear r1 hS1 X1 X10 X11 X12 X13 X1z hbs hfar hrow
    obtain ⟨x0, x1, x2, x3⟩ := hxb.cells
    have xz := hxb.lt
    by_cases hlt : (b : Int) < slotsF k
    · have hb32 : b < 32 := by omega
      have hsb := HSL.out b
      have HA2 := Lib.hid (fun w => HAt.out b w (by omega) hlt)
      have HC4 := Lib.hid (fun w => HB4.out b w hb32)
      have HC5 := Lib.hid (fun w => HB5.out b w hb32)
      have HSB := Lib.hid hsb
      clear hsb HAt HB4 HB5 HOf
      generalize addrF s q ((b : Int) * sizeF s k) = ar at *
      generalize bitB (gv vs t q 4) b = x at *
      generalize bitB (gv vs t q 5) b = y at *
      generalize sizeF s k = z at *
      generalize hslk : slotsF k = sl at *
      have HSLK := Lib.hid hslk
      clear hslk
      generalize pageF s = pg at *
      go_wp2_with fail
      refine (HK.out _).mono ?_
      rintro e w2 ⟨rfl, hb2⟩
      have X2 := hxb.keep hb2
      obtain ⟨X20, X21, X22, X23⟩ := X2.cells
      have X2z := X2.lt
      go_wp2_with fail
      refine (HA2.out _).mono ?_
      rintro e w3 ⟨rfl, hb3⟩
      have X3 := X2.keep hb3
      obtain ⟨X30, X31, X32, X33⟩ := X3.cells
      have X3z := X3.lt
      go_wp2_with fail
      refine (HT.out _ X3.xv).mono ?_
      rintro e w4 ⟨rfl, hb4⟩
      have X4 := X3.keep hb4
      obtain ⟨X40, X41, X42, X43⟩ := X4.cells
      have X4z := X4.lt
      go_wp2_with fail
      refine (HC5.out _).mono ?_
      rintro e w5 ⟨rfl, hb5⟩
      have X5 := X4.keep hb5
      obtain ⟨X50, X51, X52, X53⟩ := X5.cells
      have X5z := X5.lt
      cases y <;> cases x
      all_goals
        go_wp2_with fail
        refine (HSl.out _ X5.xv).mono ?_
        rintro e w6 ⟨rfl, hb6⟩
        have X6 := X5.keep hb6
        obtain ⟨X60, X61, X62, X63⟩ := X6.cells
        have X6z := X6.lt
        go_wp2_with fail
        refine (HC4.out _).mono ?_
        rintro e w7 ⟨rfl, hb7⟩
        have X7 := X6.keep hb7
        obtain ⟨X70, X71, X72, X73⟩ := X7.cells
        have X7z := X7.lt
        have S7 := ((((((BS.start wr).below hb2).below hb3).below hb4).below hb5).below hb6).below hb7
        have R7 := S7.row HRow.out
        have B7 := HB.out.below S7.bel
        clear hb2 hb3 hb4 hb5 hb6 hb7
        go_wp2_with (at_builtin; go_must (refine wpL_append rfl _ _ rfl 64 i0 (.agg #[.int .i64 0, .int .i64 0, .int .i64 0]) 3 24 Tryz.underlying61 HI.out.1 HI.out.2.1 HI.out.2.2.1 HI.out.2.2.2 rfl (by decide) (.slice pa b pc) b (partCells (slabL vs t s q k b)) rfl (R7.alloc _) ⟨w7.heap.size, 0, none⟩ 1 1 [_, .int .i64 ar, .int .i64 z] rfl rfl (cell_three_new _ _ _ _ _) ?c1 ?c2 ?c3 ?_); go_must (case c1 => (simp [Value.oneCell'])); go_must (case c2 => (unfold maxLen; omega)); go_must (case c3 => (omega)); go_must (intro v' w8 hown8 hg8 hnew8 hnil8); clear hnil8; go_must (obtain ⟨g', cap', rfl⟩ := Joins.ownsRow_form hown8 (by omega)))
        go_roundw
        case rel =>
          refine ⟨b + 1, by go_num, by have := HSLK.out; omega, ?_, B7.append hg8 hnew8 hown8, X7.grown H0.out B7 hg8 HF.out, ?_⟩
          · rw [HSB.out, partCells_app]; exact hown8
          · exact fun k hk => (hnew8 k hk).elim (HF.out k) (fun h => by have := X7.lt; simp at h; omega)
        case measure => simp [intOf]; omega
    · have hbe : (slotsF k).toNat = b := by omega
      have HO2 := Lib.hid (fun w h2 h3 => HOf.out (sizeF s k * slotsF k) w h2 h3)
      clear HAt HB4 HB5 HOf HSL HZ HT HSl
      rw [hbe] at HSlab
      have hLn : (slabL vs t s q k b).length = b := slabL_len _ _ _ _ _ _
      generalize slabL vs t s q k b = L at *
      generalize addrF s q (sizeF s k * slotsF k) = ar at *
      have hm0 : 0 ≤ sizeF s k * slotsF k := Int.mul_nonneg (by omega) (by omega)
      have hb32 : b ≤ 32 := by omega
      generalize sizeF s k = z at *
      generalize slotsF k = sl at *
      generalize pageF s = pg at *
      clear hbe
      have hm1 : IntKind.i64.wrap (z * sl) = z * sl := wrap_in _ (by omega)
      have hm2 : IntKind.i64.wrap (pg - z * sl) = pg - z * sl := wrap_in _ (by omega)
      go_wp2_with fail
      refine (HK.out _).mono ?_
      rintro e w2 ⟨rfl, hb2⟩
      have X2 := hxb.keep hb2
      obtain ⟨X20, X21, X22, X23⟩ := X2.cells
      have X2z := X2.lt
      go_wp2_with fail
      refine (HP.out _).mono ?_
      rintro e w3 ⟨rfl, hb3⟩
      have X3 := X2.keep hb3
      obtain ⟨X30, X31, X32, X33⟩ := X3.cells
      have X3z := X3.lt
      go_wp2_with fail
      refine (HK.out _).mono ?_
      rintro e w4 ⟨rfl, hb4⟩
      have X4 := X3.keep hb4
      obtain ⟨X40, X41, X42, X43⟩ := X4.cells
      have X4z := X4.lt
      have S4 := (((BS.start wr).below hb2).below hb3).below hb4
      have R4 := S4.row HRow.out
      have B4 := HB.out.below S4.bel
      clear hb2 hb3 hb4
      by_cases hrest : 0 < pg - z * sl
      · have hsl2 := HSlab.out
        rw [if_pos hrest] at hsl2
        have HRes := Lib.hid hsl2
        have HBox := Lib.hid X4.box
        have HR4 := Lib.hid R4
        clear hsl2 HSlab
        have HO3 := Lib.hid (fun w => HO2.out w (by omega) (by omega))
        have hsub : pg - (pg - z * sl) = z * sl := by omega
        go_wp2_with fail
        refine wp_region_noPanic ?_
        refine wp_region_held_drew (S := fun w' => BS w4 ([] : List Nat) w' ∧ (∀ o : Nat, w'.cell? ⟨w.heap.size, o, none⟩ = (#[.int .i64 t, .int .i64 p, .int .i64 s, .slice (some ad) n c] : Array Value)[o]?)) (by kernel_rfl) ?_ (fun hHeld => ?_)
        · exact ⟨(BS.start w4).drew, HBox.out⟩
        refine wT 0 ?_
        refine wT 1 ?_
        refine wT 2 ?_
        refine wT 3 ?_
        refine wT 4 ?_
        refine wT 6 ?_
        refine wR 5 fun K hK => ?_
        go_simp
        refine (calls_b hHeld.1 (HP.out _)).mono ?_
        rintro e wr1 ⟨rfl, hV, hVl⟩
        dsimp only
        refine hK.out _ _ ?_ (fun hHeld2 => ?_)
        · exact ⟨hV, hV.oldbox HBox.out X4z⟩
        clear hK K hV hVl hHeld
        have hHeld := hHeld2
        clear hHeld2
        try simp only [Act.put, zA, zB, zC, zD, zE, zF]
        refine wT 7 ?_
        refine wR 8 fun K hK => ?_
        go_simp
        refine (calls_b hHeld.1 (HO3.out _)).mono ?_
        rintro e wr2 ⟨rfl, hV, hVl⟩
        dsimp only
        refine hK.out _ _ ?_ (fun hHeld2 => ?_)
        · exact ⟨hV, hV.oldbox HBox.out X4z⟩
        clear hK K hV hVl hHeld
        have hHeld := hHeld2
        clear hHeld2
        try simp only [Act.put, zA, zB, zC, zD, zE, zF]
        refine wT 9 ?_
        refine wT 10 ?_
        refine wT 11 ?_
        refine wT 12 ?_
        refine wT 13 ?_
        refine wpAnyH_done (by kernel_rfl) (NoPanic.normal ?_) _
        refine world_gen ?_
        intro wz hwz
        rw [← hwz] at hHeld
        clear hwz
        have R5 := hHeld.1.row HR4.out
        have B5 := B4.below hHeld.1.bel
        have hzz := B5.bel.size
        clear hHeld
        go_wp2_with (at_builtin; go_must (refine wpL_append rfl _ _ rfl 64 i0 (.agg #[.int .i64 0, .int .i64 0, .int .i64 0]) 3 24 Tryz.underlying61 HI.out.1 HI.out.2.1 HI.out.2.2.1 HI.out.2.2.2 rfl (by decide) (.slice pa b pc) b (partCells L) rfl (R5.alloc _) ⟨wz.heap.size, 0, none⟩ 1 1 [.int .i64 5, .int .i64 ar, .int .i64 (pg - z * sl)] rfl rfl (cell_three_new _ _ _ _ _) ?c1 ?c2 ?c3 ?_); go_must (case c1 => (simp [Value.oneCell'])); go_must (case c2 => (unfold maxLen; omega)); go_must (case c3 => (omega)); go_must (intro v' w8 hown8 hg8 hnew8 hnil8); clear hnil8; go_must (obtain ⟨g', cap', rfl⟩ := Joins.ownsRow_form hown8 (by omega)))
        go_ret
        have B8 := B5.append hg8 hnew8 hown8
        refine ⟨_, rfl, ?_, fun k hk => ?_, B8.bel⟩
        · rw [HRes.out, partCells_app, List.length_append, hLn]
          exact hown8
        · exact Nat.le_of_lt ((hnew8 k hk).elim (HF.out k) (fun h => by have := X4.lt; simp at h; omega))
      · have hsl2 := HSlab.out
        rw [if_neg hrest] at hsl2
        have HRes := Lib.hid hsl2
        clear hsl2 HSlab
        go_wp2
        go_ret
        refine ⟨_, rfl, ?_, fun k hk => Nat.le_of_lt (HF.out k hk), B4.bel⟩
        rw [HRes.out, List.append_nil, hLn]
        exact R4
end
end Go.Proofs.YtkhanbedcmmlcaaGreatDoor
/- the program's classes, sizes, addresses, places. -/
set_option linter.unusedSimpArgs false
set_option linter.unusedVariables false
namespace Go.Proofs.YtkhanbedcmmlcaaGreatDoor
open Go.RowKit

theorem pslots9 (w : World) : Calls Tryz.prog 75 #[] w fun e w' => e = .returned (.agg #[.int .i64 32, .int .i64 21, .int .i64 16, .int .i64 10, .int .i64 8, .int .i64 5, .int .i64 4, .int .i64 3, .int .i64 2]) ∧ Below w.heap.size w w' := by
  go_enter Tryz.func75, Tryz.ntmps75
  go_wp2
  refine bodyPost_ret (v := .agg #[.int .i64 32, .int .i64 21, .int .i64 16, .int .i64 10, .int .i64 8, .int .i64 5, .int .i64 4, .int .i64 3, .int .i64 2]) (by simp [results, Tryz.results75, go_sem]) rfl ⟨rfl, ?_⟩
  (repeat (first | exact Below.refl _ _ | assumption | refine Below.setCell ?_ (by first | omega | (simp; done) | (simp; omega)) _ | refine Below.alloc ?_ (by first | omega | (simp; done) | (simp; omega)) _ | refine Below.drew ?_ | refine Below.trans ?_ (Below.mono ‹Below _ _ _› (by first | omega | (simp; done) | (simp; omega)))))
theorem pslots_any (k : Int) (w : World) : Calls Tryz.prog 36 #[.int .i64 k] w fun e w' => e = .returned (.int .i64 (slotsF k)) ∧ Below w.heap.size w w' := by
  have H := Lib.hid pslots9
  by_cases hk : 0 ≤ k ∧ k < 9
  · skip
    go_enter Tryz.func36, Tryz.ntmps36
    go_wp2_with fail
    refine (H.out _).mono ?_
    rintro e w1 ⟨rfl, b1⟩
    rcases (by omega : k = 0 ∨ k = 1 ∨ k = 2 ∨ k = 3 ∨ k = 4 ∨ k = 5 ∨ k = 6 ∨ k = 7 ∨ k = 8) with rfl | rfl | rfl | rfl | rfl | rfl | rfl | rfl | rfl
    all_goals
      go_wp2
      go_ret
      exact ⟨rfl, b1.alloc b1.size _⟩
  · have hs : slotsF k = 0 := by
      unfold slotsF
      rw [if_neg (by omega), if_neg (by omega), if_neg (by omega), if_neg (by omega), if_neg (by omega), if_neg (by omega), if_neg (by omega), if_neg (by omega), if_neg (by omega)]
    rw [hs]
    clear hs
    rcases (by omega : k < 0 ∨ (0 ≤ k ∧ 9 ≤ k)) with h | h
    · skip
      go_enter Tryz.func36, Tryz.ntmps36
      go_wp2_with fail
      refine (H.out _).mono ?_
      rintro e w1 ⟨rfl, b1⟩
      go_wp2
      go_ret
      exact ⟨rfl, b1.alloc b1.size _⟩
    · have h1 := h.1
      have h2 := h.2
      go_enter Tryz.func36, Tryz.ntmps36
      go_wp2_with fail
      refine (H.out _).mono ?_
      rintro e w1 ⟨rfl, b1⟩
      go_wp2
      go_ret
      exact ⟨rfl, b1.alloc b1.size _⟩
theorem pageN_pow (k : Nat) : pageN k = 2 ^ k := by
  induction k with
  | zero => rfl
  | succ k ih => rw [Int.pow_succ, ← ih]; rfl
theorem wrap64_in (n : Int) (h : -9223372036854775808 ≤ n ∧ n ≤ 9223372036854775807) : wrap64 n = n := by
  unfold wrap64
  omega
theorem pageF_wrap {s : Int} (h : 10 ≤ s ∧ s ≤ 20) : wrap64 (2 ^ s.toNat) = pageF s := by
  have hp := pageF_bd h
  unfold pageF at *
  rw [pageN_pow] at *
  exact wrap64_in ((2 : Int) ^ s.toNat) (by omega)
theorem andNot15 {x : Int} (h0 : 0 ≤ x) (h1 : x < 4611686018427387904) : bits BinOp.andNot IntKind.i64 x 15 = x - x % 16 := by
  obtain ⟨a, rfl⟩ := Int.eq_ofNat_of_zero_le h0
  have ha : a < 4611686018427387904 := by omega
  have e1 : BitVec.ofInt 64 (a : Int) = BitVec.ofNat 64 a := BitVec.ofInt_natCast ..
  have e2 : BitVec.ofInt 64 (15 : Int) = BitVec.ofNat 64 15 := by decide
  have e3 : BitVec.ofNat 64 a &&& ~~~ BitVec.ofNat 64 15 = BitVec.ofNat 64 (2 ^ 4 * (a / 2 ^ 4)) := by
    apply BitVec.eq_of_getLsbD_eq
    intro i hi
    have h15 : Nat.testBit 15 i = decide (i < 4) := Nat.testBit_two_pow_sub_one 4 i
    simp only [BitVec.getLsbD_and, BitVec.getLsbD_not, BitVec.getLsbD_ofNat, Nat.testBit_two_pow_mul, Nat.testBit_div_two_pow, h15, hi, decide_true, Bool.true_and]
    by_cases h : i < 4
    · simp [h]; omega
    · have : 4 ≤ i := by omega
      simp [h, this]
  show IntKind.i64.wrap ((BitVec.ofInt 64 (a : Int) &&& ~~~ BitVec.ofInt 64 (15 : Int)).toNat : Int) = _
  rw [e1, e2, e3, BitVec.toNat_ofNat, Nat.mod_eq_of_lt (by omega)]
  have : IntKind.i64.wrap ((2 ^ 4 * (a / 2 ^ 4) : Nat) : Int) = ((2 ^ 4 * (a / 2 ^ 4) : Nat) : Int) := wrap_in _ (by omega)
  rw [this]
  omega
theorem cpage_any (t p s : Int) (w : World) (hr : rightB t p s = true) :
    Calls Tryz.prog 127 #[.agg #[.int .i64 t, .int .i64 p, .int .i64 s]] w fun e w' => e = .returned (.int .i64 (pageF s)) ∧ Below w.heap.size w w' := by
  obtain ⟨b1, b2, b3, b4, b5, b6⟩ := right_bd hr
  have H := Lib.hid (fun w => check_right t p s w hr)
  have HP := Lib.hid (pageF_wrap (s := s) (by omega))
  go_enter Tryz.func127, Tryz.ntmps127
  go_wp2_with fail
  refine (H.out _).mono ?_
  rintro e w1 ⟨rfl, ha⟩
  obtain ⟨hac, haf⟩ := bcell ha
  have haz0 : w.heap.size < w1.heap.size := by have := ha.size; first | omega | (simp at this; omega)
  go_wp2
  go_ret
  refine ⟨ret_int HP.out, ?_⟩
  (repeat (first | exact Below.refl _ _ | assumption | refine Below.setCell ?_ (by first | omega | (simp; done) | (simp; omega)) _ | refine Below.alloc ?_ (by first | omega | (simp; done) | (simp; omega)) _ | refine Below.drew ?_ | refine Below.trans ?_ (Below.mono ‹Below _ _ _› (by first | omega | (simp; done) | (simp; omega)))))
theorem psize_any (s k : Int) (w : World) (h : 10 ≤ s ∧ s ≤ 20) :
    Calls Tryz.prog 129 #[.int .i64 s, .int .i64 k] w fun e w' => e = .returned (.int .i64 (sizeF s k)) ∧ Below w.heap.size w w' := by
  have HK := Lib.hid (fun w => pslots_any k w)
  have hb := slots_bd k
  have h1 := h.1
  have h2 := h.2
  have HP := pageF_wrap h
  have hp := pageF_bd h
  have hd : sizeF s k = if slotsF k = 0 then 0 else pageF s / slotsF k - pageF s / slotsF k % 16 := rfl
  rw [hd]
  clear hd
  generalize slotsF k = n at *
  by_cases hn : n = 0
  · subst hn
    go_enter Tryz.func129, Tryz.ntmps129
    go_wp2_with fail
    refine (HK.out _).mono ?_
    rintro e w2 ⟨rfl, b2⟩
    go_wp2
    go_ret
    exact ⟨by simp, b2⟩
  · have hnb : (n == 0) = false := by simp [hn]
    rw [if_neg hn]
    have hq0 : 0 ≤ pageF s / n := Int.ediv_nonneg (by omega) (by omega)
    have hq1 : pageF s / n ≤ pageF s := Int.ediv_le_self _ (by omega)
    have HA := Lib.hid (andNot15 (x := pageF s / n) hq0 (by omega))
    go_enter Tryz.func129, Tryz.ntmps129
    go_wp2_with fail
    refine (HK.out _).mono ?_
    rintro e w2 ⟨rfl, b2⟩
    go_wp2
    go_ret
    exact ⟨ret_int HA.out, b2⟩
theorem whole_bd (n : Int) (h0 : 0 ≤ n) (h1 : n ≤ 32) : IntKind.u64.wrap (IntKind.u64.wrap (2 ^ n.toNat) - 1) % 4294967296 = 2 ^ n.toNat - 1 ∧ (0 : Int) ≤ 2 ^ n.toNat - 1 ∧ (2 : Int) ^ n.toNat - 1 < 4294967296 := by
  have a : (2 : Int) ^ n.toNat ≤ 2 ^ 32 := by
    have := Nat.pow_le_pow_right (n := 2) (by omega) (show n.toNat ≤ 32 by omega)
    exact_mod_cast this
  have b : (0 : Int) < 2 ^ n.toNat := Int.pow_pos (by omega)
  have c : (2 : Int) ^ 32 = 4294967296 := by rfl
  rw [c] at a
  generalize (2 : Int) ^ n.toNat = z at *
  rw [wrapsA_u64 z (by omega) (by omega), wrapsA_u64 (z - 1) (by omega) (by omega)]
  omega
theorem pwhole_any (k : Int) (w : World) : Calls Tryz.prog 109 #[.int .i64 k] w fun e w' => e = .returned (.int .u32 (2 ^ (slotsF k).toNat - 1)) ∧ Below w.heap.size w w' := by
  have HK := Lib.hid (fun w => pslots_any k w)
  have hb := slots_bd k
  have HW := Lib.hid (whole_bd _ hb.1 hb.2).1
  generalize slotsF k = n at *
  go_enter Tryz.func109, Tryz.ntmps109
  go_wp2_with fail
  refine (HK.out _).mono ?_
  rintro e w2 ⟨rfl, b2⟩
  go_wp2
  go_ret
  exact ⟨ret_int HW.out, b2⟩
theorem pthere_any (t p s q off : Int) (w : World) (hr : rightB t p s = true) (h0 : 0 ≤ q) (h1 : q < p) (h2 : 0 ≤ off) (h3 : off < pageF s) :
    Calls Tryz.prog 149 #[.agg #[.int .i64 q, .int .i64 off], .agg #[.int .i64 t, .int .i64 p, .int .i64 s]] w fun e w' => e = .returned (.bool true) ∧ Below w.heap.size w w' := by
  have HC := Lib.hid (fun w => check_right t p s w hr)
  have HP := Lib.hid (fun w => cpage_any t p s w hr)
  generalize pageF s = pg at *
  clear hr
  have S0 := ((BS.start w).alloc (.cells #[.int .i64 q, .int .i64 off] 153)).alloc (.cells #[.int .i64 t, .int .i64 p, .int .i64 s] 23)
  have c0 := loc_old (.cells #[.int .i64 t, .int .i64 p, .int .i64 s] 23) (by simp) (loc_alloc w #[.int .i64 q, .int .i64 off] 153)
  have d0 := loc_alloc (w.alloc (.cells #[.int .i64 q, .int .i64 off] 153)) #[.int .i64 t, .int .i64 p, .int .i64 s] 23
  simp only [World.size_alloc] at S0 d0
  go_enter Tryz.func149, Tryz.ntmps149
  go_wp2_with fail
  refine wp_region_noPanic ?_
  refine wp_region_held_drew (S := fun w' => (∀ o : Nat, w'.cell? ⟨w.heap.size, o, none⟩ = (#[.int .i64 q, .int .i64 off] : Array Value)[o]?) ∧ (∀ o : Nat, w'.cell? ⟨w.heap.size + 1, o, none⟩ = (#[.int .i64 t, .int .i64 p, .int .i64 s] : Array Value)[o]?)) (by kernel_rfl) ?_ (fun hHeld => ?_)
  · exact ⟨c0, d0⟩
  refine wT 0 ?_
  refine wR 1 fun K hK => ?_
  go_simp
  refine (calls_b S0.drew (HC.out _)).mono ?_
  rintro e w1 ⟨rfl, S1, S1l⟩
  have c1 := loc_step S1l (by simp) hHeld.1
  have d1 := loc_step S1l (by simp) hHeld.2
  clear S1l
  dsimp only
  refine hK.out _ _ ?_ (fun hHeld => ?_)
  · exact ⟨c1, d1⟩
  clear hK K
  try simp only [Act.put, zA, zB, zC, zD, zE, zF]
  refine wT 2 ?_
  refine wT 3 ?_
  refine wT 4 ?_
  refine wT 5 ?_
  refine wT 6 ?_
  refine wT 7 ?_
  refine wT 8 ?_
  refine wT 9 ?_
  refine wT 10 ?_
  refine wT 11 ?_
  refine wT 12 ?_
  refine wT 13 ?_
  refine wT 14 ?_
  refine wT 15 ?_
  refine wT 16 ?_
  refine wT 17 ?_
  refine wT 18 ?_
  refine wT 19 ?_
  refine wT 20 ?_
  refine wT 21 ?_
  refine wT 22 ?_
  refine wT 23 ?_
  refine wR 24 fun K hK => ?_
  go_simp
  refine (calls_b S1 (HP.out _)).mono ?_
  rintro e w2 ⟨rfl, S2, S2l⟩
  have c2 := loc_step S2l (by simp) hHeld.1
  have d2 := loc_step S2l (by simp) hHeld.2
  clear S2l
  dsimp only
  refine hK.out _ _ ?_ (fun hHeld => ?_)
  · exact ⟨c2, d2⟩
  clear hK K
  try simp only [Act.put, zA, zB, zC, zD, zE, zF]
  refine wT 25 ?_
  refine wT 26 ?_
  refine wT 27 ?_
  refine wpAnyH_done (by kernel_rfl) (NoPanic.normal ?_) _
  go_wp2
  go_ret
  exact ⟨rfl, S2.bel⟩
theorem shl_or {q off pg : Int} {n : Nat} (hpg : pg = 2 ^ n) (hn : n ≤ 20) (h0 : 0 ≤ q) (h1 : q ≤ 1024) (h2 : 0 ≤ off) (h3 : off < pg) : bits BinOp.or IntKind.i64 (wrap64 ((q + 1) * 2 ^ n)) off = (q + 1) * pg + off := by
  have a : (2 : Int) ^ n ≤ 2 ^ 20 := by
    have := Nat.pow_le_pow_right (n := 2) (by omega) hn
    exact_mod_cast this
  have c : (2 : Int) ^ 20 = 1048576 := by rfl
  rw [c] at a
  have hm0 : 0 ≤ (q + 1) * 2 ^ n := Int.mul_nonneg (by omega) (Int.pow_nonneg (by omega))
  have hm1 : (q + 1) * 2 ^ n ≤ 1025 * 1048576 := Int.mul_le_mul (by omega) a (Int.pow_nonneg (by omega)) (by omega)
  have hd : (q + 1) * 2 ^ n % 2 ^ n = 0 := Int.mul_emod_left ..
  have := bits_join .i64 62 (by decide) (fun n h₀ h₁ => wrap_in n (by omega)) n ((q + 1) * 2 ^ n) off hm0 hd (by omega) h2 (by rw [← hpg]; exact h3) (by omega)
  rw [wrap64_in _ (by omega), this, hpg]
theorem pof_any (t p s q off : Int) (w : World) (hr : rightB t p s = true) (h0 : 0 ≤ q) (h1 : q < p) (h2 : 0 ≤ off) (h3 : off < pageF s) :
    Calls Tryz.prog 128 #[.agg #[.int .i64 t, .int .i64 p, .int .i64 s], .int .i64 q, .int .i64 off] w fun e w' => e = .returned (.tuple #[.int .i64 (addrF s q off), .bool true]) ∧ Below w.heap.size w w' := by
  obtain ⟨b1, b2, b3, b4, b5, b6⟩ := right_bd hr
  have HT := Lib.hid (fun w => pthere_any t p s q off w hr h0 h1 h2 h3)
  have hpg : pageF s = 2 ^ s.toNat := by unfold pageF; exact pageN_pow _
  have hO := shl_or hpg (by omega) h0 (by omega) h2 h3
  have HO := Lib.hid hO
  have hd : addrF s q off = (q + 1) * pageF s + off := rfl
  rw [hd]
  clear hr hd hO
  go_enter Tryz.func128, Tryz.ntmps128
  go_wp2_with fail
  refine (HT.out _).mono ?_
  rintro e w1 ⟨rfl, ha⟩
  obtain ⟨hac, haf⟩ := bcell ha
  have haz0 : w.heap.size < w1.heap.size := by have := ha.size; first | omega | (simp at this; omega)
  go_wp2
  refine bodyPost_ret (v := .tuple #[.int .i64 ((q + 1) * pageF s + off), .bool true]) (by simp only [results, Tryz.results128]; simp [go_sem]; exact HO.out) rfl ⟨rfl, ?_⟩
  (repeat (first | exact Below.refl _ _ | assumption | refine Below.setCell ?_ (by first | omega | (simp; done) | (simp; omega)) _ | refine Below.alloc ?_ (by first | omega | (simp; done) | (simp; omega)) _ | refine Below.drew ?_ | refine Below.trans ?_ (Below.mono ‹Below _ _ _› (by first | omega | (simp; done) | (simp; omega)))))
theorem ppnext_any (t p s q : Int) (w : World) :
    Calls Tryz.prog 114 #[.agg #[.int .i64 t, .int .i64 p, .int .i64 s], .int .i64 q] w fun e w' => e = .returned (.int .i64 (ofF t p s q 2)) ∧ Below w.heap.size w w' := by
  go_enter Tryz.func114, Tryz.ntmps114
  go_wp2_with fail
  refine (of_any _ _ _ _ _ _ (by omega) (by omega)).mono ?_
  rintro e w1 ⟨rfl, ha⟩
  obtain ⟨hac, haf⟩ := bcell ha
  go_wp2
  go_ret
  refine ⟨rfl, ?_⟩
  (repeat (first | exact Below.refl _ _ | assumption | refine Below.setCell ?_ (by first | omega | (simp; done) | (simp; omega)) _ | refine Below.alloc ?_ (by first | omega | (simp; done) | (simp; omega)) _ | refine Below.drew ?_ | refine Below.trans ?_ (Below.mono ‹Below _ _ _› (by first | omega | (simp; done) | (simp; omega)))))
theorem ppprev_any (t p s q : Int) (w : World) :
    Calls Tryz.prog 115 #[.agg #[.int .i64 t, .int .i64 p, .int .i64 s], .int .i64 q] w fun e w' => e = .returned (.int .i64 (ofF t p s q 3)) ∧ Below w.heap.size w w' := by
  go_enter Tryz.func115, Tryz.ntmps115
  go_wp2_with fail
  refine (of_any _ _ _ _ _ _ (by omega) (by omega)).mono ?_
  rintro e w1 ⟨rfl, ha⟩
  obtain ⟨hac, haf⟩ := bcell ha
  go_wp2
  go_ret
  refine ⟨rfl, ?_⟩
  (repeat (first | exact Below.refl _ _ | assumption | refine Below.setCell ?_ (by first | omega | (simp; done) | (simp; omega)) _ | refine Below.alloc ?_ (by first | omega | (simp; done) | (simp; omega)) _ | refine Below.drew ?_ | refine Below.trans ?_ (Below.mono ‹Below _ _ _› (by first | omega | (simp; done) | (simp; omega)))))
theorem ppslots_any (t p s q : Int) (w : World) :
    Calls Tryz.prog 108 #[.agg #[.int .i64 t, .int .i64 p, .int .i64 s], .int .i64 q] w fun e w' => e = .returned (.int .i64 (ofF t p s q 4)) ∧ Below w.heap.size w w' := by
  go_enter Tryz.func108, Tryz.ntmps108
  go_wp2_with fail
  refine (of_any _ _ _ _ _ _ (by omega) (by omega)).mono ?_
  rintro e w1 ⟨rfl, ha⟩
  obtain ⟨hac, haf⟩ := bcell ha
  go_wp2
  go_ret
  refine ⟨rfl, ?_⟩
  (repeat (first | exact Below.refl _ _ | assumption | refine Below.setCell ?_ (by first | omega | (simp; done) | (simp; omega)) _ | refine Below.alloc ?_ (by first | omega | (simp; done) | (simp; omega)) _ | refine Below.drew ?_ | refine Below.trans ?_ (Below.mono ‹Below _ _ _› (by first | omega | (simp; done) | (simp; omega)))))
theorem pptaken_any (t p s q : Int) (w : World) :
    Calls Tryz.prog 35 #[.agg #[.int .i64 t, .int .i64 p, .int .i64 s], .int .i64 q] w fun e w' => e = .returned (.int .i64 (ofF t p s q 5)) ∧ Below w.heap.size w w' := by
  go_enter Tryz.func35, Tryz.ntmps35
  go_wp2_with fail
  refine (of_any _ _ _ _ _ _ (by omega) (by omega)).mono ?_
  rintro e w1 ⟨rfl, ha⟩
  obtain ⟨hac, haf⟩ := bcell ha
  go_wp2
  go_ret
  refine ⟨rfl, ?_⟩
  (repeat (first | exact Below.refl _ _ | assumption | refine Below.setCell ?_ (by first | omega | (simp; done) | (simp; omega)) _ | refine Below.alloc ?_ (by first | omega | (simp; done) | (simp; omega)) _ | refine Below.drew ?_ | refine Below.trans ?_ (Below.mono ‹Below _ _ _› (by first | omega | (simp; done) | (simp; omega)))))
theorem pprack_any (k : Nat) (w : World) (h : k < 9) :
    Calls Tryz.prog 146 #[.int .i64 k] w fun e w' => e = .returned (.int .i64 ((13 + k : Nat) : Int)) ∧ Below w.heap.size w w' := by
  have HW := Lib.hid (fun w => within_any 13 k 9 w (by omega) (by omega) (by omega))
  have hf : withinF 13 k 9 = ((13 + k : Nat) : Int) := by unfold withinF; rw [if_neg (by omega)]; omega
  rw [hf] at HW
  go_enter Tryz.func146, Tryz.ntmps146
  go_wp2_with fail
  refine (HW.out _).mono ?_
  rintro e w1 ⟨rfl, rfl⟩
  go_wp2
  go_ret
  exact ⟨rfl, Below.refl _ _⟩
theorem pproot_any (k : Nat) (w : World) (h : k < 8) :
    Calls Tryz.prog 118 #[.int .i64 k] w fun e w' => e = .returned (.int .i64 ((22 + k : Nat) : Int)) ∧ Below w.heap.size w w' := by
  have HW := Lib.hid (fun w => within_any 22 k 8 w (by omega) (by omega) (by omega))
  have hf : withinF 22 k 8 = ((22 + k : Nat) : Int) := by unfold withinF; rw [if_neg (by omega)]; omega
  rw [hf] at HW
  go_enter Tryz.func118, Tryz.ntmps118
  go_wp2_with fail
  refine (HW.out _).mono ?_
  rintro e w1 ⟨rfl, rfl⟩
  go_wp2
  go_ret
  exact ⟨rfl, Below.refl _ _⟩
end Go.Proofs.YtkhanbedcmmlcaaGreatDoor
/- the document's audit: the parts of a heap. -/
set_option linter.unusedSimpArgs false
set_option linter.unusedVariables false
namespace Go.Proofs.YtkhanbedcmmlcaaGreatDoor
open Go.RowKit
section
variable {t p s : Int} {ad : Addr} {n c : Nat} {vs : List Int}

def partQ (vs : List Int) (t s : Int) (q : Nat) : List (Int × Int × Int) :=
  if iK (gv vs t q 0) = 1 ∨ iK (gv vs t q 0) = 2 then [(iK (gv vs t q 0), addrF s q 0, iL (gv vs t q 0) * pageF s)]
  else if iK (gv vs t q 0) = 3 then slabF vs t s q (iC (gv vs t q 0)) else []
def partsL (vs : List Int) (t s : Int) : Nat → List (Int × Int × Int)
  | 0 => []
  | q + 1 => partsL vs t s q ++ partQ vs t s q
def partsF (vs : List Int) (t p s : Int) : List (Int × Int × Int) := partsL vs t s p.toNat
theorem partQ_len (vs : List Int) (t s : Int) (q : Nat) : (partQ vs t s q).length ≤ 33 := by
  unfold partQ
  split
  · simp
  · split
    · exact slabF_len _ _ _ _ _
    · simp
theorem partsL_len (vs : List Int) (t s : Int) (q : Nat) : (partsL vs t s q).length ≤ 33 * q := by
  induction q with
  | zero => simp [partsL]
  | succ q ih =>
    have := partQ_len vs t s q
    simp only [partsL, List.length_append]
    omega
theorem slabF_pos (vs : List Int) (t s q k : Int) (h0 : 0 ≤ k) (h8 : k ≤ 8) : 0 < (slabF vs t s q k).length := by
  have hk1 : 0 < slotsF k := by
    rcases (by omega : k = 0 ∨ k = 1 ∨ k = 2 ∨ k = 3 ∨ k = 4 ∨ k = 5 ∨ k = 6 ∨ k = 7 ∨ k = 8) with rfl | rfl | rfl | rfl | rfl | rfl | rfl | rfl | rfl <;> decide
  unfold slabF
  rw [List.length_append, slabL_len]
  omega

theorem BS.tail {w0 w : World} {L : Nat} {Ls : List Nat} (h : BS w0 (L :: Ls) w) : BS w0 Ls w := h.sub _ fun _ hL => List.mem_cons_of_mem _ hL
theorem mem_new {W w5 : World} {A B : Nat} {v v' : Value} {e sz m : Nat} {xs : List Value} (hnew : ∀ k, v'.ownBlock = some k → v.ownBlock = some k ∨ W.heap.size ≤ k) (hown : w5.ownsRow 0 e sz v' m xs) :
    ∀ L ∈ A :: v'.ownBlock.toList, L ∈ A :: B :: v.ownBlock.toList ∨ (W.heap.size ≤ L ∧ L < w5.heap.size) := by
  intro L hL
  simp at hL
  rcases hL with rfl | h
  · exact Or.inl (by simp)
  · rcases hnew L h with h1 | h1
    · exact Or.inl (by simp [h1])
    · exact Or.inr ⟨h1, ownsRow_lt hown h⟩
theorem mem_new3 {W w5 : World} {A B : Nat} {v v' : Value} {e sz m : Nat} {xs : List Value} (hnew : ∀ k, v'.ownBlock = some k → v.ownBlock = some k ∨ W.heap.size ≤ k) (hown : w5.ownsRow 0 e sz v' m xs) :
    ∀ L ∈ A :: v'.ownBlock.toList, L ∈ B :: A :: v.ownBlock.toList ∨ (W.heap.size ≤ L ∧ L < w5.heap.size) := by
  intro L hL
  simp at hL
  rcases hL with rfl | h
  · exact Or.inl (by simp)
  · rcases hnew L h with h1 | h1
    · exact Or.inl (by simp [h1])
    · exact Or.inr ⟨h1, ownsRow_lt hown h⟩

structure PaRel (w : World) (vs : List Int) (t p s : Int) (ad : Addr) (n c : Nat) (v3 v4 : Value) (wr : World) (q : Nat) : Prop where
  hq : v4 = .int .i64 q
  le : (q : Int) ≤ p
  row : wr.ownsRow 0 64 3 v3 (partsL vs t s q).length (partCells (partsL vs t s q))
  bs : BS w (w.heap.size :: v3.ownBlock.toList) wr
  xb : XB w t p s ad n c vs wr
  far : ∀ k, v3.ownBlock = some k → w.heap.size < k
def PaRelE (w : World) (vs : List Int) (t p s : Int) (ad : Addr) (n c : Nat) (v3 v4 : Value) (wr : World) : Prop := ∃ q, PaRel w vs t p s ad n c v3 v4 wr q

set_option maxHeartbeats 4000000 in
set_option maxRecDepth 100000 in
theorem parts_any (c : Nat) (w : World) (h : XV w t p s ad n vs) :
    Calls Tryz.prog 58 #[.agg #[.int .i64 t, .int .i64 p, .int .i64 s, .slice (some ad) n c]] w fun e w' => ∃ v, e = .returned v ∧ RowQ w (partsF vs t p s) v w' := by
  have X0 := (h.boxed c).alloc (.cells #[] 64)
  have r0 := row_empty (w.alloc (.cells #[.int .i64 t, .int .i64 p, .int .i64 s, .slice (some ad) n c] 59)) 64 3
  have hS0 := ((BS.start w).alloc (.cells #[.int .i64 t, .int .i64 p, .int .i64 s, .slice (some ad) n c] 59)).alloc (.cells #[] 64)
  simp only [World.size_alloc] at hS0 r0
  have bd : 4 ≤ p ∧ p ≤ 1024 := by have := h.bd; omega
  have hr := h.right
  have hp := pageF_bd (s := s) (by have := h.bd; omega)
  have hp0 : 0 < pageF s := by omega
  have HP := Lib.hid (fun w => rpagesz_any t p s w hr)
  have HOf := Lib.hid (fun (q : Int) w (h0 : 0 ≤ q) (h1 : q < p) => rof_any t p s q 0 w hr h0 h1 (Int.le_refl 0) hp0)
  have HIn := Lib.hid (fun (q : Int) (w : World) (h : XV w t p s ad n vs) (h0 : 0 ≤ q) (h1 : q < p) => xinfo_any q c w h h0 h1)
  have HSb := Lib.hid (fun (q k : Int) (w : World) (h : XV w t p s ad n vs) (h0 : 0 ≤ q) (h1 : q < p) (h2 : 0 ≤ k) (h3 : k ≤ 8) => slab_any q k c w h h0 h1 h2 h3)
  have H0 := Lib.hid h
  obtain ⟨i0, hi0, hi1, hi2, hi3⟩ := info_parts infoPart
  have HI := Lib.hid (And.intro hi0 (And.intro hi1 (And.intro hi2 hi3)))
  generalize hF : partsF vs t p s = F
  have HF0 := Lib.hid hF
  clear hi0 hi1 hi2 hi3 h hr hp0 hF
  go_enter Tryz.func58, Tryz.ntmps58
  go_wp2_with fail
  go_loopw [3, 4, 5, 6, 7] (fun v3 v4 _ _ _ wr => PaRelE w vs t p s ad n c v3 v4 wr) (fun _ v4 _ _ _ _ => 1024 - (intOf v4).toNat)
  case atStart => exact ⟨0, rfl, by omega, r0, hS0.sub _ (by simp [Value.ownBlock]), X0, by simp [Value.ownBlock]⟩
  case round =>
    obtain ⟨q, rfl, hle, hrow, hbs, hxb, hfar⟩ := hrel
    have hll := partsL_len vs t s q
    have hls : partsL vs t s (q + 1) = partsL vs t s q ++ partQ vs t s q := rfl
    generalize hL : partsL vs t s q = L at *
    have hlen : ∃ a c, u3 = .slice a L.length c := by
      rcases hrow.2 with ⟨h5, h6⟩ | ⟨g', cap', cur, h5, -⟩
      · exact ⟨_, _, by rw [h5, h6]⟩
      · exact ⟨_, _, h5⟩
    obtain ⟨pa, pc, rfl⟩ := hlen
    have HB := Lib.hid hbs
    have HF := Lib.hid hfar
    have HRow := Lib.hid hrow
    clear r0 hS0 X0 hbs hfar hrow
    obtain ⟨x0, x1, x2, x3⟩ := hxb.cells
    have xz := hxb.lt
    by_cases hlt : (q : Int) < p
    · have I1 := Lib.hid (fun (w : World) (h : XV w t p s ad n vs) => HIn.out q w h (by omega) hlt)
      have HO := Lib.hid (fun w => HOf.out q w (by omega) hlt)
      have HSb2 := Lib.hid (fun (k : Int) (w : World) (h : XV w t p s ad n vs) (h2 : 0 ≤ k) (h3 : k ≤ 8) => HSb.out q k w h (by omega) hlt h2 h3)
      have bd9 := inf_bd (gv vs t q 0)
      obtain ⟨b1, b2, b3, b4, b5, b6, -⟩ := bd9
      have hpq : partQ vs t s q = if iK (gv vs t q 0) = 1 ∨ iK (gv vs t q 0) = 2 then [(iK (gv vs t q 0), addrF s q 0, iL (gv vs t q 0) * pageF s)] else if iK (gv vs t q 0) = 3 then slabF vs t s q (iC (gv vs t q 0)) else [] := rfl
      rw [hpq] at hls
      have hll2 : L.length ≤ 33792 := by omega
      have hsb := slabF_len vs t s q (iC (gv vs t q 0))
      have hsp := slabF_pos vs t s q (iC (gv vs t q 0)) b5 b6
      have HSb3 := Lib.hid (fun (w : World) (h : XV w t p s ad n vs) => HSb2.out (iC (gv vs t q 0)) w h b5 b6)
      clear hpq HIn HOf HSb HSb2 hll hL
      generalize slabF vs t s q (iC (gv vs t q 0)) = sb at *
      generalize iK (gv vs t q 0) = a1 at *
      generalize iL (gv vs t q 0) = a2 at *
      generalize iC (gv vs t q 0) = a3 at *
      generalize addrF s q 0 = ar at *
      generalize pageF s = pg at *
      have hm0 : 0 ≤ a2 * pg := Int.mul_nonneg (by omega) (by omega)
      have hm1 : a2 * pg ≤ 1024 * 1048576 := Int.mul_le_mul (by omega) (by omega) (by omega) (by omega)
      have hmw : IntKind.i64.wrap (a2 * pg) = a2 * pg := wrap_in _ (by omega)
      by_cases hk1 : a1 = 1
      · subst hk1
        have hls2 : partsL vs t s (q + 1) = L ++ [(1, ar, a2 * pg)] := by rw [hls]; simp
        have HLS := Lib.hid hls2
        clear hls hls2
        go_wp2_with fail
        refine (I1.out _ hxb.xv).mono ?_
        rintro e w2 ⟨rfl, hb2⟩
        have X2 := hxb.keep hb2
        obtain ⟨X20, X21, X22, X23⟩ := X2.cells
        have X2z := X2.lt
        have XI := X2.alloc (.cells #[.int .i64 1, .int .i64 a2, .int .i64 a3] 40)
        have hS2 := (HB.out.below hb2)
        have hw2 := hb2.size
        have hS3 := hS2.alloc (.cells #[.int .i64 1, .int .i64 a2, .int .i64 a3] 40)
        go_wp2_with fail
        refine (HO.out _).mono ?_
        rintro e w3 ⟨rfl, hb3⟩
        have X3 := XI.keep hb3
        obtain ⟨X30, X31, X32, X33⟩ := X3.cells
        have X3z := X3.lt
        have hS4 := hS3.below hb3
        have bI := fun o => (hb3.cell (p := ⟨w2.heap.size, o, none⟩) (by simp)).trans (loc_alloc w2 #[.int .i64 1, .int .i64 a2, .int .i64 a3] 40 o)
        have bi0 := bI 0
        have bi1 := bI 1
        have bi2 := bI 2
        simp at bi0 bi1 bi2
        have li := hb3.size
        simp only [World.size_alloc] at li
        have hRz := (((BS.start wr).below hb2).alloc (.cells #[.int .i64 1, .int .i64 a2, .int .i64 a3] 40)).below hb3
        have R4 := hRz.row HRow.out
        clear hb2 hb3 X20 X21 X22 X23 X2z x0 x1 x2 x3
        go_wp2_with fail
        refine world_gen ?_
        intro wz hwz
        have hSz : BS w (w.heap.size :: w2.heap.size :: (Value.slice pa L.length pc).ownBlock.toList) wz := by rw [hwz]; exact hS4.sub _ (fun L hL => by simp only [List.mem_cons] at hL ⊢; rcases hL with h | h | h <;> simp [h])
        have Xz : XB w t p s ad n c vs wz := by rw [hwz]; exact X3
        have bz : ∀ o : Nat, wz.cell? ⟨w2.heap.size, o, none⟩ = (#[.int .i64 1, .int .i64 a2, .int .i64 a3] : Array Value)[o]? := by rw [hwz]; exact bI
        have Rz : wz.ownsRow 0 64 3 (.slice pa L.length pc) L.length (partCells L) := by rw [hwz]; exact R4
        have HX := Lib.hid Xz.box
        have HbI := Lib.hid bz
        have HRz := Lib.hid Rz
        clear hwz bz Rz bi0 bi1 bi2 X30 X31 X32 X33 X3z bI hS2 hS3 hS4 hRz R4
        refine wp_region_noPanic ?_
        refine wp_region_held_drew (S := fun w' => BS w (w.heap.size :: w2.heap.size :: (Value.slice pa L.length pc).ownBlock.toList) w' ∧ (∀ o : Nat, w'.cell? ⟨w.heap.size, o, none⟩ = (#[.int .i64 t, .int .i64 p, .int .i64 s, .slice (some ad) n c] : Array Value)[o]?) ∧ (∀ o : Nat, w'.cell? ⟨w2.heap.size, o, none⟩ = (#[.int .i64 1, .int .i64 a2, .int .i64 a3] : Array Value)[o]?)) (by kernel_rfl) ?_ (fun hHeld => ?_)
        · exact ⟨hSz.drew, HX.out, HbI.out⟩
        refine wT 0 ?_
        refine wT 1 ?_
        refine wT 2 ?_
        refine wT 3 ?_
        refine wT 4 ?_
        refine wT 5 ?_
        refine wT 6 ?_
        refine wT 7 ?_
        refine wR 8 fun K hK => ?_
        go_simp
        refine (calls_b hHeld.1 (HP.out _)).mono ?_
        rintro e wy ⟨rfl, hVy, hVyl⟩
        have cxy := loc_step hVyl (by simp) hHeld.2.1
        have ciy := loc_step hVyl (by simp) hHeld.2.2
        have Ry := row_step hVyl (fun k hk => by simp [hk]) (ownsRow_block (w' := wz.drew) HRz.out (fun _ _ => rfl))
        clear hVyl
        dsimp only
        refine hK.out _ _ ?_ (fun hHeld => ?_)
        · exact ⟨hVy, cxy, ciy⟩
        clear hK K
        try simp only [Act.put, zA, zB, zC, zD, zE, zF]
        refine wT 9 ?_
        refine wT 10 ?_
        refine wR 11 fun K hK => ?_
        go_simp
        refine hK.out _ _ ?_ (fun hHeld => ?_)
        · exact ⟨(hHeld.1.alloc _).tail, loc_old _ (hHeld.1.ls _ (by simp)).1 hHeld.2.1, loc_old _ (hHeld.1.ls _ (by simp)).1 hHeld.2.2⟩
        clear hK K
        try simp only [Act.put, zA, zB, zC, zD, zE, zF]
        refine wR 12 fun K hK => ?_
        refine step_append_new rfl (.tmp 31) (.tmp 42) rfl 64 i0 (.agg #[.int .i64 0, .int .i64 0, .int .i64 0]) 3 24 Tryz.underlying61 HI.out.1 HI.out.2.1 HI.out.2.2.1 HI.out.2.2.2 rfl (by decide) (.slice pa L.length pc) L.length (partCells L) rfl (Ry.alloc _) ⟨wy.heap.size, 0, none⟩ 1 1 [.int .i64 1, .int .i64 ar, .int .i64 (a2 * pg)] rfl rfl (cell_three_new _ _ _ _ _) ?c1 ?c2 ?c3 ?_
        case c1 => (simp [Value.oneCell'])
        case c2 => (unfold maxLen; omega)
        case c3 => (omega)
        intro v' w5 hown5 hg5 hnew5 hnil5
        clear hnil5
        obtain ⟨g', cap', rfl⟩ := Joins.ownsRow_form hown5 (by omega)
        have hb5 := hHeld.1.grown hg5 (fun k hk => by simp [hk]) (w.heap.size :: w2.heap.size :: (Value.slice pa L.length pc).ownBlock.toList) (fun L hL => Or.inl hL)
        have hn5 := hHeld.1.grown hg5 (fun k hk => by simp [hk]) (w.heap.size :: (Value.slice (some ⟨g', 0, none⟩) (L.length + 1) cap').ownBlock.toList) (mem_new hnew5 hown5)
        have hlx := (hHeld.1.ls w.heap.size (by simp))
        have hli := (hHeld.1.ls w2.heap.size (by simp))
        have hx5 := loc_grown hg5 hlx.1 (fun e => by have := HF.out _ e; omega) hHeld.2.1
        have hi5 := loc_grown hg5 hli.1 (fun e => by have := ownsRow_lt HRow.out e; omega) hHeld.2.2
        refine hK.out _ _ ?_ (fun hHeld => ?_)
        · exact ⟨hb5, hx5, hi5⟩
        clear hK K
        try simp only [Act.put, zA, zB, zC, zD, zE, zF]
        refine wT 13 ?_
        refine wpAnyH_done (by kernel_rfl) (NoPanic.normal ?_) _
        refine world_gen ?_
        intro wz2 hwz2
        subst hwz2
        go_wp2_with fail
        go_roundw
        case rel =>
          refine ⟨q + 1, by go_num, by omega, ?_, hn5, ⟨hn5.bel, hx5, (hn5.ls w.heap.size (by simp)).1, H0.out.keep hn5.bel⟩, ?_⟩
          · rw [HLS.out, partCells_app, List.length_append]; exact hown5
          · exact fun k hk => (hnew5 k hk).elim (HF.out k) (fun h => by have := hlx.1; omega)
        case measure => simp [intOf]; omega
      · have hkb1 : (a1 == 1) = false := by simp [hk1]
        by_cases hk2 : a1 = 2
        · subst hk2
          have hls2 : partsL vs t s (q + 1) = L ++ [(2, ar, a2 * pg)] := by rw [hls]; simp
          have HLS := Lib.hid hls2
          clear hls hls2 hk1
          go_wp2_with fail
          refine (I1.out _ hxb.xv).mono ?_
          rintro e w2 ⟨rfl, hb2⟩
          have X2 := hxb.keep hb2
          obtain ⟨X20, X21, X22, X23⟩ := X2.cells
          have X2z := X2.lt
          have XI := X2.alloc (.cells #[.int .i64 2, .int .i64 a2, .int .i64 a3] 40)
          have hS2 := (HB.out.below hb2)
          have hw2 := hb2.size
          have hS3 := hS2.alloc (.cells #[.int .i64 2, .int .i64 a2, .int .i64 a3] 40)
          go_wp2_with fail
          refine (HO.out _).mono ?_
          rintro e w3 ⟨rfl, hb3⟩
          have X3 := XI.keep hb3
          obtain ⟨X30, X31, X32, X33⟩ := X3.cells
          have X3z := X3.lt
          have hS4 := hS3.below hb3
          have bI := fun o => (hb3.cell (p := ⟨w2.heap.size, o, none⟩) (by simp)).trans (loc_alloc w2 #[.int .i64 2, .int .i64 a2, .int .i64 a3] 40 o)
          have bi0 := bI 0
          have bi1 := bI 1
          have bi2 := bI 2
          simp at bi0 bi1 bi2
          have li := hb3.size
          simp only [World.size_alloc] at li
          have hRz := (((BS.start wr).below hb2).alloc (.cells #[.int .i64 2, .int .i64 a2, .int .i64 a3] 40)).below hb3
          have R4 := hRz.row HRow.out
          clear hb2 hb3 X20 X21 X22 X23 X2z x0 x1 x2 x3
          go_wp2_with fail
          refine world_gen ?_
          intro wz hwz
          have hSz : BS w (w.heap.size :: w2.heap.size :: (Value.slice pa L.length pc).ownBlock.toList) wz := by rw [hwz]; exact hS4.sub _ (fun L hL => by simp only [List.mem_cons] at hL ⊢; rcases hL with h | h | h <;> simp [h])
          have Xz : XB w t p s ad n c vs wz := by rw [hwz]; exact X3
          have bz : ∀ o : Nat, wz.cell? ⟨w2.heap.size, o, none⟩ = (#[.int .i64 2, .int .i64 a2, .int .i64 a3] : Array Value)[o]? := by rw [hwz]; exact bI
          have Rz : wz.ownsRow 0 64 3 (.slice pa L.length pc) L.length (partCells L) := by rw [hwz]; exact R4
          have HX := Lib.hid Xz.box
          have HbI := Lib.hid bz
          have HRz := Lib.hid Rz
          clear hwz bz Rz bi0 bi1 bi2 X30 X31 X32 X33 X3z bI hS2 hS3 hS4 hRz R4
          refine wp_region_noPanic ?_
          refine wp_region_held_drew (S := fun w' => BS w (w.heap.size :: w2.heap.size :: (Value.slice pa L.length pc).ownBlock.toList) w' ∧ (∀ o : Nat, w'.cell? ⟨w.heap.size, o, none⟩ = (#[.int .i64 t, .int .i64 p, .int .i64 s, .slice (some ad) n c] : Array Value)[o]?) ∧ (∀ o : Nat, w'.cell? ⟨w2.heap.size, o, none⟩ = (#[.int .i64 2, .int .i64 a2, .int .i64 a3] : Array Value)[o]?)) (by kernel_rfl) ?_ (fun hHeld => ?_)
          · exact ⟨hSz.drew, HX.out, HbI.out⟩
          refine wT 0 ?_
          refine wT 1 ?_
          refine wT 2 ?_
          refine wT 3 ?_
          refine wT 4 ?_
          refine wT 5 ?_
          refine wT 6 ?_
          refine wT 7 ?_
          refine wR 8 fun K hK => ?_
          go_simp
          refine (calls_b hHeld.1 (HP.out _)).mono ?_
          rintro e wy ⟨rfl, hVy, hVyl⟩
          have cxy := loc_step hVyl (by simp) hHeld.2.1
          have ciy := loc_step hVyl (by simp) hHeld.2.2
          have Ry := row_step hVyl (fun k hk => by simp [hk]) (ownsRow_block (w' := wz.drew) HRz.out (fun _ _ => rfl))
          clear hVyl
          dsimp only
          refine hK.out _ _ ?_ (fun hHeld => ?_)
          · exact ⟨hVy, cxy, ciy⟩
          clear hK K
          try simp only [Act.put, zA, zB, zC, zD, zE, zF]
          refine wT 9 ?_
          refine wT 10 ?_
          refine wR 11 fun K hK => ?_
          go_simp
          refine hK.out _ _ ?_ (fun hHeld => ?_)
          · exact ⟨(hHeld.1.alloc _).tail, loc_old _ (hHeld.1.ls _ (by simp)).1 hHeld.2.1, loc_old _ (hHeld.1.ls _ (by simp)).1 hHeld.2.2⟩
          clear hK K
          try simp only [Act.put, zA, zB, zC, zD, zE, zF]
          refine wR 12 fun K hK => ?_
          refine step_append_new rfl (.tmp 31) (.tmp 42) rfl 64 i0 (.agg #[.int .i64 0, .int .i64 0, .int .i64 0]) 3 24 Tryz.underlying61 HI.out.1 HI.out.2.1 HI.out.2.2.1 HI.out.2.2.2 rfl (by decide) (.slice pa L.length pc) L.length (partCells L) rfl (Ry.alloc _) ⟨wy.heap.size, 0, none⟩ 1 1 [.int .i64 2, .int .i64 ar, .int .i64 (a2 * pg)] rfl rfl (cell_three_new _ _ _ _ _) ?c1 ?c2 ?c3 ?_
          case c1 => (simp [Value.oneCell'])
          case c2 => (unfold maxLen; omega)
          case c3 => (omega)
          intro v' w5 hown5 hg5 hnew5 hnil5
          clear hnil5
          obtain ⟨g', cap', rfl⟩ := Joins.ownsRow_form hown5 (by omega)
          have hb5 := hHeld.1.grown hg5 (fun k hk => by simp [hk]) (w.heap.size :: w2.heap.size :: (Value.slice pa L.length pc).ownBlock.toList) (fun L hL => Or.inl hL)
          have hn5 := hHeld.1.grown hg5 (fun k hk => by simp [hk]) (w.heap.size :: (Value.slice (some ⟨g', 0, none⟩) (L.length + 1) cap').ownBlock.toList) (mem_new hnew5 hown5)
          have hlx := (hHeld.1.ls w.heap.size (by simp))
          have hli := (hHeld.1.ls w2.heap.size (by simp))
          have hx5 := loc_grown hg5 hlx.1 (fun e => by have := HF.out _ e; omega) hHeld.2.1
          have hi5 := loc_grown hg5 hli.1 (fun e => by have := ownsRow_lt HRow.out e; omega) hHeld.2.2
          refine hK.out _ _ ?_ (fun hHeld => ?_)
          · exact ⟨hb5, hx5, hi5⟩
          clear hK K
          try simp only [Act.put, zA, zB, zC, zD, zE, zF]
          refine wT 13 ?_
          refine wpAnyH_done (by kernel_rfl) (NoPanic.normal ?_) _
          refine world_gen ?_
          intro wz2 hwz2
          subst hwz2
          go_wp2_with fail
          go_roundw
          case rel =>
            refine ⟨q + 1, by go_num, by omega, ?_, hn5, ⟨hn5.bel, hx5, (hn5.ls w.heap.size (by simp)).1, H0.out.keep hn5.bel⟩, ?_⟩
            · rw [HLS.out, partCells_app, List.length_append]; exact hown5
            · exact fun k hk => (hnew5 k hk).elim (HF.out k) (fun h => by have := hlx.1; omega)
          case measure => simp [intOf]; omega

        · have hkb2 : (a1 == 2) = false := by simp [hk2]
          rw [if_neg (by omega)] at hls
          by_cases hk3 : a1 = 3
          · subst hk3
            rw [if_pos rfl] at hls
            have HLS := Lib.hid hls
            clear hls hk1 hk2 hkb1 hkb2
            go_wp2_with fail
            refine (I1.out _ hxb.xv).mono ?_
            rintro e w2 ⟨rfl, hb2⟩
            have X2 := hxb.keep hb2
            obtain ⟨X20, X21, X22, X23⟩ := X2.cells
            have X2z := X2.lt
            have XI := X2.alloc (.cells #[.int .i64 3, .int .i64 a2, .int .i64 a3] 40)
            have hS2 := (HB.out.below hb2)
            have hw2 := hb2.size
            have hS3 := hS2.alloc (.cells #[.int .i64 3, .int .i64 a2, .int .i64 a3] 40)
            go_wp2_with fail
            refine (HO.out _).mono ?_
            rintro e w3 ⟨rfl, hb3⟩
            have X3 := XI.keep hb3
            obtain ⟨X30, X31, X32, X33⟩ := X3.cells
            have X3z := X3.lt
            have hS4 := hS3.below hb3
            have bI := fun o => (hb3.cell (p := ⟨w2.heap.size, o, none⟩) (by simp)).trans (loc_alloc w2 #[.int .i64 3, .int .i64 a2, .int .i64 a3] 40 o)
            have bi0 := bI 0
            have bi1 := bI 1
            have bi2 := bI 2
            simp at bi0 bi1 bi2
            have li := hb3.size
            simp only [World.size_alloc] at li
            have hRz := (((BS.start wr).below hb2).alloc (.cells #[.int .i64 3, .int .i64 a2, .int .i64 a3] 40)).below hb3
            have R4 := hRz.row HRow.out
            clear hb2 hb3 X20 X21 X22 X23 X2z x0 x1 x2 x3
            go_wp2_with fail
            refine (HSb3.out _ X3.xv).mono ?_
            rintro e w4 ⟨sv, rfl, hsv⟩
            obtain ⟨gs, cs, rfl⟩ := Joins.ownsRow_form hsv.1 hsp
            have X4 := X3.keep hsv.2.2
            have S5 := hS4.below hsv.2.2
            have R5 := ((BS.start _).below hsv.2.2).row R4
            have HNews := Lib.hid (hsv.1.cells (g := gs) rfl)
            have hnl : (partCells sb).length = sb.length * 3 := partCells_len sb
            have HNL := Lib.hid hnl
            have hone : ∀ u ∈ partCells sb, u.oneCell' = true := by
              intro u hu
              simp only [partCells, List.mem_flatMap] at hu
              obtain ⟨x, -, hx⟩ := hu
              simp at hx
              rcases hx with rfl | rfl | rfl <;> rfl
            have HOne := Lib.hid hone
            clear hsv hnl hone bI hS2 hS3 hS4 hRz R4
            go_wp2_with (at_builtin; go_must (refine wpL_append rfl _ _ rfl 64 i0 (.agg #[.int .i64 0, .int .i64 0, .int .i64 0]) 3 24 Tryz.underlying61 HI.out.1 HI.out.2.1 HI.out.2.2.1 HI.out.2.2.2 rfl (by decide) (.slice pa L.length pc) L.length (partCells L) rfl R5 ⟨gs, 0, none⟩ sb.length cs (partCells sb) rfl HNL.out HNews.out HOne.out ?c2 ?c3 ?_); go_must (case c2 => (unfold maxLen; omega)); go_must (case c3 => (omega)); go_must (intro v' w8 hown8 hg8 hnew8 hnil8); clear hnil8; go_must (obtain ⟨g', cap', rfl⟩ := Joins.ownsRow_form hown8 (by omega)))
            have hn5 := S5.grown hg8 (fun k hk => by simp [hk]) (w.heap.size :: (Value.slice (some ⟨g', 0, none⟩) (L.length + sb.length) cap').ownBlock.toList) (mem_new3 hnew8 hown8)
            have hx5 := loc_grown hg8 X4.lt (fun e => by have := HF.out _ e; omega) X4.box
            go_roundw
            case rel =>
              refine ⟨q + 1, by go_num, by omega, ?_, hn5, ⟨hn5.bel, hx5, (hn5.ls w.heap.size (by simp)).1, H0.out.keep hn5.bel⟩, ?_⟩
              · rw [HLS.out, partCells_app, List.length_append]; exact hown8
              · exact fun k hk => (hnew8 k hk).elim (HF.out k) (fun h => by have := X4.lt; omega)
            case measure => simp [intOf]; omega
          · have hkb3 : (a1 == 3) = false := by simp [hk3]
            rw [if_neg hk3, List.append_nil] at hls
            have HLS := Lib.hid hls
            clear hls hk1 hk2 hk3
            go_wp2_with fail
            refine (I1.out _ hxb.xv).mono ?_
            rintro e w2 ⟨rfl, hb2⟩
            have X2 := hxb.keep hb2
            obtain ⟨X20, X21, X22, X23⟩ := X2.cells
            have X2z := X2.lt
            have XI := X2.alloc (.cells #[.int .i64 a1, .int .i64 a2, .int .i64 a3] 40)
            have hS2 := (HB.out.below hb2)
            have hw2 := hb2.size
            have hS3 := hS2.alloc (.cells #[.int .i64 a1, .int .i64 a2, .int .i64 a3] 40)
            go_wp2_with fail
            refine (HO.out _).mono ?_
            rintro e w3 ⟨rfl, hb3⟩
            have X3 := XI.keep hb3
            obtain ⟨X30, X31, X32, X33⟩ := X3.cells
            have X3z := X3.lt
            have hS4 := hS3.below hb3
            have bI := fun o => (hb3.cell (p := ⟨w2.heap.size, o, none⟩) (by simp)).trans (loc_alloc w2 #[.int .i64 a1, .int .i64 a2, .int .i64 a3] 40 o)
            have bi0 := bI 0
            have bi1 := bI 1
            have bi2 := bI 2
            simp at bi0 bi1 bi2
            have li := hb3.size
            simp only [World.size_alloc] at li
            have hRz := (((BS.start wr).below hb2).alloc (.cells #[.int .i64 a1, .int .i64 a2, .int .i64 a3] 40)).below hb3
            have R4 := hRz.row HRow.out
            clear hb2 hb3 X20 X21 X22 X23 X2z x0 x1 x2 x3
            go_wp2_with fail
            go_roundw
            case rel =>
              refine ⟨q + 1, by go_num, by omega, ?_, hS4.sub _ (by simp; intro a ha; exact Or.inr (Or.inr ha)), X3, HF.out⟩
              rw [HLS.out]; exact R4
            case measure => simp [intOf]; omega
    · have hqe : p.toNat = q := by omega
      have hFL : F = L := by rw [← HF0.out, ← hL]; unfold partsF; rw [hqe]
      subst hFL
      clear hL hqe hll hls
      go_wp2
      go_ret
      exact ⟨_, rfl, HRow.out, fun k hk => Nat.le_of_lt (HF.out k hk), HB.out.bel⟩
end
end Go.Proofs.YtkhanbedcmmlcaaGreatDoor
/- the document's audit: blocks, Has, roots. -/
set_option linter.unusedSimpArgs false
set_option linter.unusedVariables false
namespace Go.Proofs.YtkhanbedcmmlcaaGreatDoor
open Go.RowKit

theorem infoBlock : (Tryz.prog.info? 130).map (fun i => (i.zero, i.size, i.bytes)) = some (some (.agg #[.int .i64 0, .int .i64 0]), 2, 16) := by kernel_rfl
def blockCells (l : List (Int × Int)) : List Value := l.flatMap fun x => [.int .i64 x.1, .int .i64 x.2]
theorem blockCells_len (l : List (Int × Int)) : (blockCells l).length = l.length * 2 := by
  induction l with
  | nil => rfl
  | cons y ys ih => unfold blockCells at ih ⊢; simp [ih]; omega
theorem blockCells_app (l m : List (Int × Int)) : blockCells (l ++ m) = blockCells l ++ blockCells m := by simp [blockCells]
def RowB (w : World) (l : List (Int × Int)) (v : Value) (w' : World) : Prop :=
  w'.ownsRow 0 130 2 v l.length (blockCells l) ∧ (∀ k, v.ownBlock = some k → w.heap.size ≤ k) ∧ Below w.heap.size w w'

/-- the live ones of parts. -/
def liveL : List (Int × Int × Int) → List (Int × Int)
  | [] => []
  | x :: l => (if x.1 = 2 then [(x.2.1, x.2.2)] else []) ++ liveL l
theorem liveL_app (l m : List (Int × Int × Int)) : liveL (l ++ m) = liveL l ++ liveL m := by
  induction l with
  | nil => rfl
  | cons x l ih => simp [liveL, ih]
theorem liveL_len (l : List (Int × Int × Int)) : (liveL l).length ≤ l.length := by
  induction l with
  | nil => exact Nat.le_refl _
  | cons x l ih =>
    simp only [liveL, List.length_append, List.length_cons]
    split <;> simp <;> omega
theorem liveL_take {l : List (Int × Int × Int)} {k : Nat} {x : Int × Int × Int} (h : l[k]? = some x) : liveL (l.take (k + 1)) = liveL (l.take k) ++ if x.1 = 2 then [(x.2.1, x.2.2)] else [] := by
  rw [List.take_add_one, h, liveL_app]
  simp [liveL]
theorem part_cell {l : List (Int × Int × Int)} {k : Nat} {x : Int × Int × Int} (h : l[k]? = some x) : (partCells l)[k * 3]? = some (.int .i64 x.1) ∧ (partCells l)[k * 3 + 1]? = some (.int .i64 x.2.1) ∧ (partCells l)[k * 3 + 2]? = some (.int .i64 x.2.2) := by
  induction l generalizing k with
  | nil => simp at h
  | cons y ys ih =>
    have e : partCells (y :: ys) = [.int .i64 y.1, .int .i64 y.2.1, .int .i64 y.2.2] ++ partCells ys := by simp [partCells]
    rw [e]
    cases k with
    | zero => simp at h; subst h; simp
    | succ k =>
      have h2 : ys[k]? = some x := by simpa using h
      obtain ⟨a, b, d⟩ := ih h2
      refine ⟨?_, ?_, ?_⟩
      · rw [List.getElem?_append_right (by simp; omega)]; rw [← a]; congr 1; simp; omega
      · rw [List.getElem?_append_right (by simp; omega)]; rw [← b]; congr 1; simp; omega
      · rw [List.getElem?_append_right (by simp; omega)]; rw [← d]; congr 1; simp; omega
theorem block_cell {l : List (Int × Int)} {k : Nat} {x : Int × Int} (h : l[k]? = some x) : (blockCells l)[k * 2]? = some (.int .i64 x.1) ∧ (blockCells l)[k * 2 + 1]? = some (.int .i64 x.2) := by
  induction l generalizing k with
  | nil => simp at h
  | cons y ys ih =>
    have e : blockCells (y :: ys) = [.int .i64 y.1, .int .i64 y.2] ++ blockCells ys := by simp [blockCells]
    rw [e]
    cases k with
    | zero => simp at h; subst h; simp
    | succ k =>
      have h2 : ys[k]? = some x := by simpa using h
      obtain ⟨a, b⟩ := ih h2
      refine ⟨?_, ?_⟩
      · rw [List.getElem?_append_right (by simp; omega)]; rw [← a]; congr 1; simp; omega
      · rw [List.getElem?_append_right (by simp; omega)]; rw [← b]; congr 1; simp; omega

section
variable {t p s : Int} {ad : Addr} {n c : Nat} {vs : List Int}
def blocksF (vs : List Int) (t p s : Int) : List (Int × Int) := liveL (partsF vs t p s)

structure BlRel (w : World) (l : List (Int × Int × Int)) (lv : Value) (v3 v5 : Value) (wr : World) (k : Nat) : Prop where
  hk : v5 = .int .i64 k
  le : k ≤ l.length
  row : wr.ownsRow 0 130 2 v3 (liveL (l.take k)).length (blockCells (liveL (l.take k)))
  bs : BS w (w.heap.size :: v3.ownBlock.toList) wr
  lrow : wr.ownsRow 0 64 3 lv l.length (partCells l)
  far : ∀ k, v3.ownBlock = some k → lv.ownBlock ≠ some k
def BlRelE (w : World) (l : List (Int × Int × Int)) (lv : Value) (v3 v5 : Value) (wr : World) : Prop := ∃ k, BlRel w l lv v3 v5 wr k

set_option maxHeartbeats 4000000 in
set_option maxRecDepth 100000 in
theorem blocks_any (c : Nat) (w : World) (h : XV w t p s ad n vs) :
    Calls Tryz.prog 91 #[.agg #[.int .i64 t, .int .i64 p, .int .i64 s, .slice (some ad) n c]] w fun e w' => ∃ v, e = .returned v ∧ RowB w (blocksF vs t p s) v w' := by
  have X0 := (h.boxed c).alloc (.cells #[] 130)
  have r0 := row_empty (w.alloc (.cells #[.int .i64 t, .int .i64 p, .int .i64 s, .slice (some ad) n c] 59)) 130 2
  have hS0 := ((BS.start w).alloc (.cells #[.int .i64 t, .int .i64 p, .int .i64 s, .slice (some ad) n c] 59)).alloc (.cells #[] 130)
  simp only [World.size_alloc] at hS0 r0
  have HP := Lib.hid (fun (w : World) (h : XV w t p s ad n vs) => parts_any c w h)
  have hll : (partsF vs t p s).length ≤ 33792 := by
    have := partsL_len vs t s p.toNat
    have := h.bd
    unfold partsF; omega
  obtain ⟨i0, hi0, hi1, hi2, hi3⟩ := info_parts infoBlock
  have HI := Lib.hid (And.intro hi0 (And.intro hi1 (And.intro hi2 hi3)))
  have hF0 : blocksF vs t p s = liveL (partsF vs t p s) := rfl
  generalize blocksF vs t p s = F at *
  generalize partsF vs t p s = l at *
  have HF0 := Lib.hid hF0
  clear hi0 hi1 hi2 hi3 h hF0
  obtain ⟨x0, x1, x2, x3⟩ := X0.cells
  have xz := X0.lt
  go_enter Tryz.func91, Tryz.ntmps91
  go_wp2_with fail
  refine (HP.out _ X0.xv).mono ?_
  rintro e w1 ⟨lv, rfl, hlv⟩
  have r1 := ((BS.start _).below hlv.2.2).row r0
  have hS1 := hS0.below hlv.2.2
  have hlr := hlv.1
  have hlf := hlv.2.1
  have hls : ∃ a c, lv = .slice a l.length c := row_shape hlr
  obtain ⟨la, lc, rfl⟩ := hls
  simp only [World.size_alloc] at hlf
  clear hlv r0 hS0 X0 x0 x1 x2 x3 xz
  go_wp2_with fail
  go_loopw [3, 5] (fun v3 v5 wr => BlRelE w l (.slice la l.length lc) v3 v5 wr) (fun _ v5 _ => l.length - (intOf v5).toNat)
  case atStart => exact ⟨0, rfl, by omega, by simpa [liveL, blockCells] using r1, hS1.sub _ (by simp [Value.ownBlock]), hlr, fun k hk e => by have := hlf k e; simp [Value.ownBlock] at hk; omega⟩
  case round =>
    obtain ⟨k, rfl, hle, hrow, hbs, hlrow, hfar⟩ := hrel
    have hll2 := liveL_len (l.take k)
    have hll3 : (l.take k).length ≤ l.length := by simp; omega
    have HTk := Lib.hid (fun x (h : l[k]? = some x) => liveL_take h)
    have HTe := Lib.hid (fun (h : k = l.length) => (show liveL (l.take k) = liveL l by rw [h, List.take_length]))
    generalize liveL (l.take k) = o at *
    have hol : o.length ≤ 33792 := by omega
    have hlen : ∃ a c, u3 = .slice a o.length c := row_shape hrow
    obtain ⟨pa, pc, rfl⟩ := hlen
    have HB := Lib.hid hbs
    have HF := Lib.hid hfar
    have HRow := Lib.hid hrow
    have HLr := Lib.hid hlrow
    clear r1 hS1 hlr hlf hbs hfar hrow hlrow hll2 hll3
    by_cases hlt : k < l.length
    · obtain ⟨⟨y1, y2, y3⟩, hx⟩ : ∃ x, l[k]? = some x := ⟨_, List.getElem?_eq_getElem hlt⟩
      obtain ⟨g, cap, hg⟩ := Joins.ownsRow_form HLr.out (by omega)
      simp only [Value.slice.injEq, true_and] at hg
      obtain ⟨rfl, rfl⟩ := hg
      obtain ⟨p0, p1, p2⟩ := part_cell hx
      have q0 := (HLr.out.cellAt (k * 3) (by omega)).trans p0
      have q1 := (HLr.out.cellAt (k * 3 + 1) (by omega)).trans p1
      have q2 := (HLr.out.cellAt (k * 3 + 2) (by omega)).trans p2
      have ht := HTk.out _ hx
      simp only at ht q0 q1 q2
      have hgl : g < wr.heap.size := ownsRow_lt HLr.out (by simp [Value.ownBlock])
      have hgn : (Value.slice pa o.length pc).ownBlock ≠ some g := fun e => HF.out g e (by simp [Value.ownBlock])
      clear p0 p1 p2 hx HTk HTe
      by_cases hy : y1 = 2
      · subst hy
        rw [if_pos rfl] at ht
        have HT := Lib.hid ht
        have HQ1 := Lib.hid q1
        have HQ2 := Lib.hid q2
        have HGn := Lib.hid hgn
        clear ht hgn
        go_wp2_with fail
        refine wp_region_noPanic ?_
        refine wp_region_held_drew (S := fun w' => w'.cell? ⟨g, k * 3 + 1, none⟩ = some (.int .i64 y2) ∧ w'.cell? ⟨g, k * 3 + 2, none⟩ = some (.int .i64 y3)) (by kernel_rfl) ?_ (fun hHeld => ?_)
        · exact ⟨HQ1.out, HQ2.out⟩
        refine wT 0 ?_
        refine wT 1 ?_
        refine wT 2 ?_
        refine wT 3 ?_
        refine wT 4 ?_
        refine wT 5 ?_
        refine wT 6 ?_
        refine wT 7 ?_
        refine wT 8 ?_
        refine wT 9 ?_
        refine wT 10 ?_
        refine wT 11 ?_
        refine wR 12 fun K hK => ?_
        go_simp
        refine hK.out _ _ ?_ (fun hHeld => ?_)
        · exact ⟨(World.cell?_alloc_lt (a := ⟨g, k * 3 + 1, none⟩) _ _ (by simpa using hgl)).trans HQ1.out, (World.cell?_alloc_lt (a := ⟨g, k * 3 + 2, none⟩) _ _ (by simpa using hgl)).trans HQ2.out⟩
        clear hK K
        try simp only [Act.put, zA, zB, zC, zD, zE, zF]
        refine wR 13 fun K hK => ?_
        refine step_append_new rfl (.tmp 21) (.tmp 33) rfl 130 i0 (.agg #[.int .i64 0, .int .i64 0]) 2 16 Tryz.underlying113 HI.out.1 HI.out.2.1 HI.out.2.2.1 HI.out.2.2.2 rfl (by decide) (.slice pa o.length pc) o.length (blockCells o) rfl ((ownsRow_block (w' := wr.drew) HRow.out (fun _ _ => rfl)).alloc _) ⟨_, 0, none⟩ 1 1 [.int .i64 y2, .int .i64 y3] rfl rfl (cell_two_at _ _ _ _ _ (by simp)) ?c1 ?c2 ?c3 ?_
        case c1 => (simp [Value.oneCell'])
        case c2 => (unfold maxLen; omega)
        case c3 => (omega)
        intro v' w5 hown5 hg5 hnew5 hnil5
        clear hnil5
        obtain ⟨g', cap', rfl⟩ := Joins.ownsRow_form hown5 (by omega)
        have hc5 := fun i => (World.cell?_of_block (a := ⟨g, i, none⟩) (hg5.block g (by simp; omega) (fun e => HGn.out e.symm))).trans (World.cell?_alloc_lt (w := wr.drew) (a := ⟨g, i, none⟩) _ (by simpa using hgl))
        refine hK.out _ _ ?_ (fun hHeld => ?_)
        · exact ⟨(hc5 _).trans HQ1.out, (hc5 _).trans HQ2.out⟩
        clear hK K
        try simp only [Act.put, zA, zB, zC, zD, zE, zF]
        refine wT 14 ?_
        refine wpAnyH_done (by kernel_rfl) (NoPanic.normal ?_) _
        go_wp2_with fail
        go_roundw
        case rel =>
          have B5 := HB.out.drew.append hg5 hnew5 hown5
          refine ⟨k + 1, by go_num, by omega, ?_, B5, ownsRow_block HLr.out (fun j hj => ?_), fun j hj e => ?_⟩
          · rw [HT.out, blockCells_app, List.length_append]; exact hown5
          · simp [Value.ownBlock] at hj
            subst hj
            exact (hg5.block g (by simp; omega) (fun e => HGn.out e.symm)).trans (heap_alloc_old _ _ (by simpa using hgl))
          · simp [Value.ownBlock] at e
            subst e
            rcases hnew5 g hj with x | x
            · exact HGn.out x
            · simp at x; omega
        case measure => simp [intOf]; omega
      · rw [if_neg hy, List.append_nil] at ht
        have HT := Lib.hid ht
        have hyb : (y1 == 2) = false := by simp [hy]
        clear ht hgn hy
        go_wp2_with fail
        go_roundw
        case rel =>
          refine ⟨k + 1, by go_num, by omega, ?_, HB.out, HLr.out, HF.out⟩
          rw [HT.out]; exact HRow.out
        case measure => simp [intOf]; omega
    · have hFo : F = o := by rw [HF0.out, HTe.out (by omega)]
      subst hFo
      clear HTk HTe
      go_wp2
      go_ret
      refine ⟨.slice pa F.length pc, rfl, HRow.out, fun k hk => (HB.out.ls k (List.mem_cons_of_mem _ ?_)).2, HB.out.bel⟩
      rw [hk]; simp

def hasB (l : List (Int × Int)) (a : Int) : Bool := l.any fun x => x.1 == a
def HsRel (l : List (Int × Int)) (a : Int) (w : World) (i : Value) (wr : World) : Prop := ∃ k : Nat, k ≤ l.length ∧ i = .int .i64 k ∧ (∀ j x, j < k → l[j]? = some x → x.1 ≠ a) ∧ w = wr
theorem hasb_any (l : List (Int × Int)) (a : Int) (v : Value) (w : World) (h : w.ownsRow 0 130 2 v l.length (blockCells l)) (hn : l.length ≤ 4294967296) :
    Calls Tryz.prog 93 #[v, .int .i64 a] w fun e w' => e = .returned (.bool (hasB l a)) ∧ Below w.heap.size w w' := by
  have hc : ∀ k x, l[k]? = some x → ∃ g m c, v = .slice (some ⟨g, 0, none⟩) m c ∧ w.cell? ⟨g, k * 2, none⟩ = some (.int .i64 x.1) := by
    intro k x hk
    have hkl := (List.getElem?_eq_some_iff.1 hk).1
    obtain ⟨g, cap, rfl⟩ := Joins.ownsRow_form h (by omega)
    exact ⟨g, _, cap, rfl, (h.cellAt (k * 2) (by omega)).trans (block_cell hk).1⟩
  obtain ⟨pa, pc, rfl⟩ := row_shape h
  clear h
  generalize hr : hasB l a = r
  have HR := Lib.hid hr
  clear hr
  go_enter Tryz.func93, Tryz.ntmps93
  go_wp2
  go_loopw [5] (fun i wr => HsRel l a w i wr) (fun i _ => l.length - (intOf i).toNat)
  case atStart => exact ⟨0, by omega, rfl, by omega, rfl⟩
  case round =>
    obtain ⟨k, hk, rfl, hno, rfl⟩ := hrel
    have HN := Lib.hid hno
    clear hno
    by_cases hlt : k < l.length
    · obtain ⟨⟨y1, y2⟩, hx⟩ : ∃ x, l[k]? = some x := ⟨_, List.getElem?_eq_getElem hlt⟩
      obtain ⟨g, m, c', hv, c0⟩ := hc k _ hx
      simp only [Value.slice.injEq] at hv
      obtain ⟨rfl, rfl, rfl⟩ := hv
      have HX := Lib.hid hx
      clear hc hx
      simp only at c0
      by_cases hy : y1 = a
      · have HY := Lib.hid hy
        have hb : (y1 == a) = true := by simp [hy]
        have hres : r = true := by
          rw [← HR.out]
          unfold hasB
          rw [List.any_eq_true]
          exact ⟨_, List.mem_of_getElem? HX.out, by simpa using hy⟩
        subst hres
        clear hy
        go_wp2
        go_ret
        exact ⟨rfl, Below.refl _ _⟩
      · have hb : (y1 == a) = false := by simp [hy]
        have HY := Lib.hid hy
        clear hy
        go_wp2
        go_roundw
        case rel =>
          refine ⟨k + 1, by omega, by go_num, fun j x hj hjx => ?_, rfl⟩
          by_cases e : j = k
          · subst e; rw [HX.out] at hjx; simp at hjx; subst hjx; exact HY.out
          · exact HN.out j x (by omega) hjx
        case measure => simp [intOf]; omega
    · have hres : r = false := by
        rw [← HR.out]
        unfold hasB
        rw [List.any_eq_false]
        intro x hx
        obtain ⟨j, hj⟩ := List.mem_iff_getElem?.1 hx
        have := HN.out j x (by have := (List.getElem?_eq_some_iff.1 hj).1; omega) hj
        simpa using this
      subst hres
      clear hc
      go_wp2
      go_ret
      exact ⟨rfl, Below.refl _ _⟩

def rootB (vs : List Int) (bl : List (Int × Int)) (i : Nat) : Bool := vs.getD (22 + i) 0 == 0 || hasB bl (vs.getD (22 + i) 0)
def rootsF (vs : List Int) (t p s : Int) : Bool := allN (rootB vs (blocksF vs t p s)) 8
theorem blocksF_len (vs : List Int) (t p s : Int) (h : p ≤ 1024) : (blocksF vs t p s).length ≤ 33792 := by
  have h1 := liveL_len (partsF vs t p s)
  have h2 := partsL_len vs t s p.toNat
  unfold blocksF
  unfold partsF at h1 ⊢
  omega

set_option maxHeartbeats 4000000 in
set_option maxRecDepth 100000 in
theorem roots_any (c : Nat) (w : World) (h : XV w t p s ad n vs) :
    Calls Tryz.prog 47 #[.agg #[.int .i64 t, .int .i64 p, .int .i64 s, .slice (some ad) n c]] w fun e w' => e = .returned (.bool (rootsF vs t p s)) ∧ Below w.heap.size w w' := by
  have X0 := h.boxed c
  have hnn : 30 ≤ n := by have := h.bd; omega
  have hbl := blocksF_len vs t p s h.few
  have HP := Lib.hid (fun (w : World) (h : XV w t p s ad n vs) => blocks_any c w h)
  have HC := Lib.hid h.cells
  have HU := Lib.hid (fun i => getD_u32 h.u32 i)
  generalize hr : rootsF vs t p s = r
  have hr2 : allN (rootB vs (blocksF vs t p s)) 8 = r := hr
  have HR := Lib.hid hr2
  generalize blocksF vs t p s = l at *
  clear h hr hr2
  obtain ⟨x0, x1, x2, x3⟩ := X0.cells
  have xz := X0.lt
  go_enter Tryz.func47, Tryz.ntmps47
  go_wp2_with fail
  refine (HP.out _ X0.xv).mono ?_
  rintro e w1 ⟨lv, rfl, hlv⟩
  have X1 := X0.keep hlv.2.2
  have hls : ∃ a c, lv = .slice a l.length c := row_shape hlv.1
  obtain ⟨la, lc, rfl⟩ := hls
  have HL := Lib.hid hlv.1
  clear hlv X0 x0 x1 x2 x3 xz
  go_wp2_with fail
  go_loopw [4, 5] (fun v4 _ wr => AllRel (rootB vs l) 8 w1 v4 wr) (fun v4 _ _ => 8 - (intOf v4).toNat)
  case atStart => exact ⟨0, by omega, rfl, rfl, Below.refl _ _⟩
  case round =>
    obtain ⟨i, hi, rfl, hall, hbel⟩ := hrel
    have X3 := X1.keep hbel
    have HA := Lib.hid hall
    have HB := Lib.hid hbel
    clear hall hbel
    obtain ⟨x0, x1, x2, x3⟩ := X3.cells
    by_cases hlt : i < 8
    · have hRo := Lib.hid (fun w => rroot_any i w hlt)
      have hd0 := (BS.mk X3.bel (by simp) : BS w [] wr).old (HC.out (22 + i) (by omega))
      have hu := HU.out (22 + i)
      have hrb : rootB vs l i = (vs.getD (22 + i) 0 == 0 || hasB l (vs.getD (22 + i) 0)) := rfl
      have HBox := Lib.hid X3.box
      have hxl := X3.lt
      have hin : 22 + i < n := by omega
      generalize vs.getD (22 + i) 0 = a at *
      generalize hki : 22 + i = ki at *
      clear hki
      obtain ⟨hu0, hu1⟩ := hu
      have hwa : IntKind.i64.wrap a = a := wrap_in _ (by omega)
      have HH := Lib.hid (fun (w' : World) (hb : Below w1.heap.size w1 w') => hasb_any l a (.slice la l.length lc) w' (ownsRow_block HL.out fun k hk => hb.block k (ownsRow_lt HL.out hk)) (by omega))
      clear HC HU
      by_cases ha : a = 0
      · subst ha
        have hyes : rootB vs l i = true := by rw [hrb]; simp
        have HY := Lib.hid hyes
        clear hyes hrb
        go_wp2_with fail
        refine wp_region_noPanic ?_
        refine wp_region_held_drew (S := fun w' => BS wr ([] : List Nat) w' ∧ (∀ o : Nat, w'.cell? ⟨w.heap.size, o, none⟩ = (#[.int .i64 t, .int .i64 p, .int .i64 s, .slice (some ad) n c] : Array Value)[o]?) ∧ w'.cell? (ad.add ki) = some (.int .u32 0)) (by kernel_rfl) ?_ (fun hHeld => ?_)
        · exact ⟨(BS.start wr).drew, HBox.out, hd0⟩
        refine wT 0 ?_
        refine wT 1 ?_
        refine wT 2 ?_
        refine wR 3 fun K hK => ?_
        go_simp
        refine (calls_b hHeld.1 (hRo.out _)).mono ?_
        rintro e wr1 ⟨rfl, hV, hVl⟩
        dsimp only
        refine hK.out _ _ ?_ (fun hHeld2 => ?_)
        · exact ⟨hV, hV.oldbox HBox.out hxl, hV.old hd0⟩
        clear hK K hV hVl hHeld
        have hHeld := hHeld2
        clear hHeld2
        try simp only [Act.put, zA, zB, zC, zD, zE, zF]
        refine wT 4 ?_
        refine wT 5 ?_
        refine wT 6 ?_
        refine wT 7 ?_
        refine wpAnyH_done (by kernel_rfl) (NoPanic.normal ?_) _
        refine world_gen ?_
        intro wz hwz
        rw [← hwz] at hHeld
        clear hwz
        have hbz := HB.out.trans (hHeld.1.bel.mono HB.out.size)
        clear hHeld
        go_wp2_with fail
        go_roundw
        case rel => exact ⟨i + 1, by omega, by go_num, by simp [allN, HA.out, HY.out], hbz⟩
        case measure => simp [intOf]; omega
      · have hab : (a != 0) = true := by simp [ha]
        cases hz : hasB l a
        · have hno : rootB vs l i = false := by rw [hrb, hz]; simp [ha]
          have hres : r = false := by rw [← HR.out]; exact allN_no hlt hno
          subst hres
          rw [hz] at HH
          clear hno hrb ha hz
          go_wp2_with fail
          refine wp_region_noPanic ?_
          refine wp_region_held_drew (S := fun w' => BS wr ([] : List Nat) w' ∧ (∀ o : Nat, w'.cell? ⟨w.heap.size, o, none⟩ = (#[.int .i64 t, .int .i64 p, .int .i64 s, .slice (some ad) n c] : Array Value)[o]?) ∧ w'.cell? (ad.add ki) = some (.int .u32 a)) (by kernel_rfl) ?_ (fun hHeld => ?_)
          · exact ⟨(BS.start wr).drew, HBox.out, hd0⟩
          refine wT 0 ?_
          refine wT 1 ?_
          refine wT 2 ?_
          refine wR 3 fun K hK => ?_
          go_simp
          refine (calls_b hHeld.1 (hRo.out _)).mono ?_
          rintro e wr1 ⟨rfl, hV, hVl⟩
          dsimp only
          refine hK.out _ _ ?_ (fun hHeld2 => ?_)
          · exact ⟨hV, hV.oldbox HBox.out hxl, hV.old hd0⟩
          clear hK K hV hVl hHeld
          have hHeld := hHeld2
          clear hHeld2
          try simp only [Act.put, zA, zB, zC, zD, zE, zF]
          refine wT 4 ?_
          refine wT 5 ?_
          refine wT 6 ?_
          refine wT 7 ?_
          refine wpAnyH_done (by kernel_rfl) (NoPanic.normal ?_) _
          refine world_gen ?_
          intro wz hwz
          rw [← hwz] at hHeld
          clear hwz
          have hbz := HB.out.trans (hHeld.1.bel.mono HB.out.size)
          have X5 := X3.keep hHeld.1.bel
          clear hHeld
          go_wp2_with fail
          refine (HH.out _ hbz).mono ?_
          rintro e w5 ⟨rfl, hb5⟩
          go_wp2
          go_ret
          exact ⟨rfl, (X5.keep hb5).bel⟩
        · have hyes : rootB vs l i = true := by rw [hrb, hz]; simp
          have HY := Lib.hid hyes
          rw [hz] at HH
          clear hyes hrb ha hz
          go_wp2_with fail
          refine wp_region_noPanic ?_
          refine wp_region_held_drew (S := fun w' => BS wr ([] : List Nat) w' ∧ (∀ o : Nat, w'.cell? ⟨w.heap.size, o, none⟩ = (#[.int .i64 t, .int .i64 p, .int .i64 s, .slice (some ad) n c] : Array Value)[o]?) ∧ w'.cell? (ad.add ki) = some (.int .u32 a)) (by kernel_rfl) ?_ (fun hHeld => ?_)
          · exact ⟨(BS.start wr).drew, HBox.out, hd0⟩
          refine wT 0 ?_
          refine wT 1 ?_
          refine wT 2 ?_
          refine wR 3 fun K hK => ?_
          go_simp
          refine (calls_b hHeld.1 (hRo.out _)).mono ?_
          rintro e wr1 ⟨rfl, hV, hVl⟩
          dsimp only
          refine hK.out _ _ ?_ (fun hHeld2 => ?_)
          · exact ⟨hV, hV.oldbox HBox.out hxl, hV.old hd0⟩
          clear hK K hV hVl hHeld
          have hHeld := hHeld2
          clear hHeld2
          try simp only [Act.put, zA, zB, zC, zD, zE, zF]
          refine wT 4 ?_
          refine wT 5 ?_
          refine wT 6 ?_
          refine wT 7 ?_
          refine wpAnyH_done (by kernel_rfl) (NoPanic.normal ?_) _
          refine world_gen ?_
          intro wz hwz
          rw [← hwz] at hHeld
          clear hwz
          have hbz := HB.out.trans (hHeld.1.bel.mono HB.out.size)
          clear hHeld
          go_wp2_with fail
          refine (HH.out _ hbz).mono ?_
          rintro e w5 ⟨rfl, hb5⟩
          have hbz5 := hbz.trans (hb5.mono hbz.size)
          go_wp2_with fail
          go_roundw
          case rel => exact ⟨i + 1, by omega, by go_num, by simp [allN, HA.out, HY.out], hbz5⟩
          case measure => simp [intOf]; omega
    · obtain rfl : i = 8 := by omega
      have hres : r = true := by rw [← HR.out]; exact HA.out
      subst hres
      go_wp2
      go_ret
      exact ⟨rfl, X3.bel⟩
end
end Go.Proofs.YtkhanbedcmmlcaaGreatDoor
/- the program's audit: what it looks at (look), and tiles. -/
set_option linter.unusedSimpArgs false
set_option linter.unusedVariables false
namespace Go.Proofs.YtkhanbedcmmlcaaGreatDoor
open Go.RowKit

/-- a look at a heap's values. -/
structure LK (b : Nat) (t p s : Int) (ad : Addr) (n c : Nat) (vs : List Int) (atv : Value) (mb : Nat) (W : World) : Prop where
  box : W.heap[b]? = some (.cells #[.int .i64 t, .int .i64 p, .int .i64 s, .slice (some ad) n c, atv, .map (some mb)] 96)
  xv : XV W t p s ad n vs
section
variable {b : Nat} {t p s : Int} {ad : Addr} {n c : Nat} {vs : List Int} {atv : Value} {mb : Nat} {W W' : World}
theorem LK.lt (h : LK b t p s ad n c vs atv mb W) : b < W.heap.size := (Array.getElem?_eq_some_iff.1 h.box).1
theorem LK.keep (h : LK b t p s ad n c vs atv mb W) (hb : Below W.heap.size W W') : LK b t p s ad n c vs atv mb W' :=
  ⟨(hb.block b h.lt).trans h.box, h.xv.keep hb⟩
theorem LK.cells (h : LK b t p s ad n c vs atv mb W) : (W.cell? ⟨b, 0, none⟩ = some (.int .i64 t) ∧ W.cell? ⟨b, 1, none⟩ = some (.int .i64 p) ∧ W.cell? ⟨b, 2, none⟩ = some (.int .i64 s)) ∧ W.cell? ⟨b, 3, none⟩ = some (.slice (some ad) n c) ∧ W.cell? ⟨b, 4, none⟩ = some atv ∧ W.cell? ⟨b, 5, none⟩ = some (.map (some mb)) :=
  ⟨⟨cell?_of_heap h.box, cell?_of_heap h.box, cell?_of_heap h.box⟩, cell?_of_heap h.box, cell?_of_heap h.box, cell?_of_heap h.box⟩
theorem LK.froz (h : LK b t p s ad n c vs atv mb W) (o : Nat) : W.frozen? ⟨b, o, none⟩ = false := frozen?_of_heap h.box

theorem pget_any (k : Nat) (W : World) (h : LK b t p s ad n c vs atv mb W) (hk : k < n) :
    Calls Tryz.prog 106 #[.pointer (some ⟨b, 0, none⟩), .int .i64 k] W fun e W' => e = .returned (.int .u32 (vs.getD k 0)) ∧ Below W.heap.size W W' := by
  obtain ⟨-, c3, -, -⟩ := h.cells
  have cv := h.xv.cells k hk
  have hlt : (k : Int) < n := by omega
  generalize vs.getD k 0 = x at *
  clear h
  go_enter Tryz.func106, Tryz.ntmps106
  go_wp2
  go_ret
  exact ⟨rfl, Below.refl _ _⟩
theorem held4 {w w' : World} {b : Nat} {v0 v1 v2 v3 : Value} (hb : Below w.heap.size w w') (h1 : b < w.heap.size)
    (h : (w.cell? ⟨b, 0, none⟩ = some v0 ∧ w.cell? ⟨b, 1, none⟩ = some v1 ∧ w.cell? ⟨b, 2, none⟩ = some v2) ∧ w.cell? ⟨b, 3, none⟩ = some v3) :
    (w'.cell? ⟨b, 0, none⟩ = some v0 ∧ w'.cell? ⟨b, 1, none⟩ = some v1 ∧ w'.cell? ⟨b, 2, none⟩ = some v2) ∧ w'.cell? ⟨b, 3, none⟩ = some v3 :=
  ⟨⟨(hb.cell (p := ⟨b, 0, none⟩) h1).trans h.1.1, (hb.cell (p := ⟨b, 1, none⟩) h1).trans h.1.2.1, (hb.cell (p := ⟨b, 2, none⟩) h1).trans h.1.2.2⟩, (hb.cell (p := ⟨b, 3, none⟩) h1).trans h.2⟩
theorem plsize_any (W : World) (h : LK b t p s ad n c vs atv mb W) :
    Calls Tryz.prog 59 #[.pointer (some ⟨b, 0, none⟩)] W fun e W' => e = .returned (.bool true) ∧ Below W.heap.size W W' := by
  obtain ⟨⟨c0, c1, c2⟩, c3, -, -⟩ := h.cells
  have HC := Lib.hid (fun w => check_right t p s w h.xv.right)
  have hcf : cellsF t p s = (n : Int) := by unfold cellsF; rw [h.xv.right, h.xv.num]; rfl
  have HN := Lib.hid (fun w => cells_any t p s w)
  rw [hcf] at HN
  have hlt := h.lt
  clear h hcf
  go_enter Tryz.func59, Tryz.ntmps59
  go_wp2_with fail
  refine wp_region_noPanic ?_
  refine wp_region_held_drew (S := fun w' => (w'.cell? ⟨b, 0, none⟩ = some (.int .i64 t) ∧ w'.cell? ⟨b, 1, none⟩ = some (.int .i64 p) ∧ w'.cell? ⟨b, 2, none⟩ = some (.int .i64 s)) ∧ w'.cell? ⟨b, 3, none⟩ = some (.slice (some ad) n c)) (by kernel_rfl) ?_ (fun hHeld => ?_)
  · exact ⟨⟨c0, c1, c2⟩, c3⟩
  refine wT 0 ?_
  refine wT 1 ?_
  refine wT 2 ?_
  refine wT 3 ?_
  refine wR 4 fun K hK => ?_
  go_simp
  refine (HC.out _).mono ?_
  rintro e w1 ⟨rfl, b1⟩
  have k1 := held4 b1 hlt hHeld
  refine hK.out _ _ ?_ (fun hHeld => ?_)
  · exact k1
  clear hK K
  try simp only [Act.put, zA, zB, zC, zD, zE, zF]
  refine wT 5 ?_
  refine wT 6 ?_
  refine wT 7 ?_
  refine wT 8 ?_
  refine wT 9 ?_
  refine wT 10 ?_
  refine wT 11 ?_
  refine wT 12 ?_
  refine wT 13 ?_
  refine wT 14 ?_
  refine wT 15 ?_
  refine wR 16 fun K hK => ?_
  go_simp
  refine (HN.out _).mono ?_
  rintro e w2 ⟨rfl, b2⟩
  have k2 := held4 b2 (Nat.lt_of_lt_of_le hlt b1.size) hHeld
  refine hK.out _ _ ?_ (fun hHeld => ?_)
  · exact k2
  clear hK K
  try simp only [Act.put, zA, zB, zC, zD, zE, zF]
  refine wT 17 ?_
  refine wT 18 ?_
  refine wT 19 ?_
  refine wpAnyH_done (by kernel_rfl) (NoPanic.normal ?_) _
  go_wp2
  go_ret
  exact ⟨rfl, ((Below.refl _ _).drew.trans b1).trans (b2.mono b1.size)⟩
end
end Go.Proofs.YtkhanbedcmmlcaaGreatDoor
/- the program's audit: tiles. -/
set_option linter.unusedSimpArgs false
set_option linter.unusedVariables false
namespace Go.Proofs.YtkhanbedcmmlcaaGreatDoor
open Go.RowKit

theorem infoInfo : (Tryz.prog.info? 40).map (fun i => (i.zero, i.size, i.bytes)) = some (some (.agg #[.int .i64 0, .int .i64 0, .int .i64 0]), 3, 24) := by kernel_rfl
theorem make_info (N : Nat) (hN : N ≤ 10000) (w : World) : (Instr.makeSlice 94 (.int .i64 (N : Int)) (.int .i64 (N : Int))).run Tryz.prog w = .ok (.slice (some ⟨w.heap.size, 0, none⟩) N N) (w.alloc (.cells (madeCells #[.int .i64 0, .int .i64 0, .int .i64 0] (N * 3)) 40)) := by
  obtain ⟨i, hi, hzz⟩ := Option.map_eq_some_iff.1 infoInfo
  simp only [Prod.mk.injEq] at hzz
  obtain ⟨hz, hs, hb⟩ := hzz
  have hr := run_make (P := Tryz.prog) w 94 40 i _ Tryz.underlying94 hi hz .i64 .i64 N N (by omega) (Int.le_refl _) (by rw [hb]; omega) (by omega)
  simp only [Int.toNat_natCast, hs] at hr
  exact hr
theorem partCells_at : ∀ (l : List (Int × Int × Int)) (k : Nat) (x : Int × Int × Int), l[k]? = some x → (partCells l)[k * 3]? = some (.int .i64 x.1) ∧ (partCells l)[k * 3 + 1]? = some (.int .i64 x.2.1) ∧ (partCells l)[k * 3 + 2]? = some (.int .i64 x.2.2)
  | [], _, _, h => by simp at h
  | y :: l, 0, x, h => by
    simp at h
    subst h
    exact ⟨rfl, rfl, rfl⟩
  | y :: l, k + 1, x, h => by
    have ih := partCells_at l k x (by simpa using h)
    have e : partCells (y :: l) = [.int .i64 y.1, .int .i64 y.2.1, .int .i64 y.2.2] ++ partCells l := rfl
    rw [e]
    refine ⟨?_, ?_, ?_⟩
    · rw [List.getElem?_append_right (by simp; omega)]; rw [← ih.1]; congr 1; simp; omega
    · rw [List.getElem?_append_right (by simp; omega)]; rw [← ih.2.1]; congr 1; simp; omega
    · rw [List.getElem?_append_right (by simp; omega)]; rw [← ih.2.2]; congr 1; simp; omega
theorem partCells_set : ∀ (l : List (Int × Int × Int)) (k : Nat) (x : Int × Int × Int), k < l.length → (((partCells l).set (k * 3) (.int .i64 x.1)).set (k * 3 + 1) (.int .i64 x.2.1)).set (k * 3 + 2) (.int .i64 x.2.2) = partCells (l.set k x)
  | [], _, _, h => by simp at h
  | y :: l, 0, x, h => rfl
  | y :: l, k + 1, x, h => by
    have ih := partCells_set l k x (by simpa using h)
    have e : partCells (y :: l) = .int .i64 y.1 :: .int .i64 y.2.1 :: .int .i64 y.2.2 :: partCells l := rfl
    rw [e, show (k + 1) * 3 + 2 = k * 3 + 2 + 1 + 1 + 1 by omega, show (k + 1) * 3 + 1 = k * 3 + 1 + 1 + 1 + 1 by omega, show (k + 1) * 3 = k * 3 + 1 + 1 + 1 by omega]
    simp only [List.set_cons_succ]
    rw [ih]
    rfl
theorem made_info (N : Nat) : madeCells #[.int .i64 0, .int .i64 0, .int .i64 0] (N * 3) = (partCells (List.replicate N (0, 0, 0))).toArray := by
  apply Array.ext_getElem?
  intro j
  have hl := partCells_len (List.replicate N (0, 0, 0))
  rw [List.length_replicate] at hl
  by_cases hj : j < N * 3
  · have hk : j / 3 < N := by omega
    obtain ⟨a0, a1, a2⟩ := partCells_at (List.replicate N (0, 0, 0)) (j / 3) (0, 0, 0) (by simp [hk])
    unfold madeCells
    simp only [Array.getElem?_map, Array.getElem?_range, hj, if_true, Option.map_some, List.getElem?_toArray]
    show some ((#[.int .i64 0, .int .i64 0, .int .i64 0] : Array Value)[j % 3]!) = _
    rcases (by omega : j % 3 = 0 ∨ j % 3 = 1 ∨ j % 3 = 2) with e | e | e <;> rw [e]
    · rw [show j = j / 3 * 3 by omega, a0]; rfl
    · rw [show j = j / 3 * 3 + 1 by omega, a1]; rfl
    · rw [show j = j / 3 * 3 + 2 by omega, a2]; rfl
  · rw [Array.getElem?_eq_none (by rw [size_madeCells]; omega), List.getElem?_toArray, List.getElem?_eq_none (by omega)]

def tlStep (vs : List Int) (t p : Int) (k : Nat) (st : Int × List (Int × Int × Int)) : Option (Int × List (Int × Int × Int)) :=
  if (k : Int) < st.1 then (if gv vs t k 0 = 0 then some st else none)
  else if okI (gv vs t k 0) = false ∨ iK (gv vs t k 0) = 0 ∨ p - k < iL (gv vs t k 0) then none
  else some (k + iL (gv vs t k 0), st.2.set k (iK (gv vs t k 0), iL (gv vs t k 0), iC (gv vs t k 0)))
def tlN (vs : List Int) (t p : Int) : Nat → Option (Int × List (Int × Int × Int))
  | 0 => some (0, List.replicate p.toNat (0, 0, 0))
  | k + 1 => match tlN vs t p k with
    | none => none
    | some st => tlStep vs t p k st
theorem tlStep_len {vs : List Int} {t p : Int} {k : Nat} {st st' : Int × List (Int × Int × Int)} (h : tlStep vs t p k st = some st') : st'.2.length = st.2.length := by
  unfold tlStep at h
  split at h
  · split at h
    · simp at h; rw [← h]
    · simp at h
  · split at h
    · simp at h
    · simp at h; rw [← h]; simp
theorem tlN_len {vs : List Int} {t p : Int} : ∀ {k : Nat} {st : Int × List (Int × Int × Int)}, tlN vs t p k = some st → st.2.length = p.toNat
  | 0, st, h => by simp [tlN] at h; rw [← h]; simp
  | k + 1, st, h => by
    unfold tlN at h
    cases h2 : tlN vs t p k with
    | none => rw [h2] at h; simp at h
    | some st2 => rw [h2] at h; rw [tlStep_len h, tlN_len h2]
theorem tlN_none {vs : List Int} {t p : Int} {k : Nat} (h : tlN vs t p k = none) : ∀ m, tlN vs t p (k + m) = none
  | 0 => h
  | m + 1 => by
    show (match tlN vs t p (k + m) with | none => none | some st => tlStep vs t p (k + m) st) = none
    rw [tlN_none h m]
theorem tlN_bd {vs : List Int} {t p : Int} (hp : 0 ≤ p) : ∀ {k : Nat} {st : Int × List (Int × Int × Int)}, (k : Int) ≤ p → tlN vs t p k = some st → 0 ≤ st.1 ∧ st.1 ≤ p
  | 0, st, _, h => by simp [tlN] at h; rw [← h]; simp; exact hp
  | k + 1, st, hk, h => by
    unfold tlN at h
    cases h2 : tlN vs t p k with
    | none => rw [h2] at h; simp at h
    | some st2 =>
      rw [h2] at h
      have ih := tlN_bd hp (by omega) h2
      simp only [tlStep] at h
      split at h
      · split at h
        · simp at h; rw [← h]; exact ih
        · simp at h
      · split at h
        · simp at h
        · rename_i h5
          simp at h
          rw [← h]
          have := inf_bd (gv vs t k 0)
          simp only
          omega

section
variable {b : Nat} {t p s : Int} {ad : Addr} {n c : Nat} {vs : List Int} {atv : Value} {mb : Nat}
/-- a look, its map of lists, and that nothing else has turned. -/
structure LS (w0 : World) (b : Nat) (t p s : Int) (ad : Addr) (n c : Nat) (vs : List Int) (atv : Value) (mb : Nat) (ml : List (Int × Int)) (W : World) : Prop where
  lk : LK b t p s ad n c vs atv mb W
  bs : BS w0 [b, mb] W
  ne : mb ≠ b
  map : MapIs W mb ml
theorem LS.keep {w0 W W' : World} {ml : List (Int × Int)} (h : LS w0 b t p s ad n c vs atv mb ml W) (hb : Below W.heap.size W W') : LS w0 b t p s ad n c vs atv mb ml W' := by
  obtain ⟨es, clk, h1, h2⟩ := h.map
  exact ⟨h.lk.keep hb, h.bs.below hb, h.ne, ⟨es, clk, (hb.block mb (h.bs.ls mb (by simp)).1).trans h1, h2⟩⟩
theorem LS.setOther {w0 W : World} {ml : List (Int × Int)} (h : LS w0 b t p s ad n c vs atv mb ml W) {g o : Nat} {v : Value} (hg : w0.heap.size ≤ g) (h1 : g ≠ b) (h2 : g ≠ mb) (h3 : g ≠ ad.block) : LS w0 b t p s ad n c vs atv mb ml (W.setCell ⟨g, o, none⟩ v) := by
  obtain ⟨es, clk, m1, m2⟩ := h.map
  refine ⟨⟨(heap_setCell_other (Ne.symm h1)).trans h.lk.box, ?_⟩, ⟨h.bs.bel.setCell hg v, fun L hL => by simpa using h.bs.ls L hL⟩, h.ne, ⟨es, clk, (heap_setCell_other (Ne.symm h2)).trans m1, m2⟩⟩
  obtain ⟨x1, x2, x3, x4, x5, x6⟩ := h.lk.xv
  exact ⟨x1, x2, x3, x4, x5, fun k hk => (World.cell?_of_block (a := ad.add k) (heap_setCell_other (by rw [add_block]; exact Ne.symm h3))).trans (x6 k hk)⟩

/-- a row of infos of the look's own. -/
structure AtR (w0 : World) (b : Nat) (mb g P : Nat) (al : List (Int × Int × Int)) (ad : Addr) (W : World) : Prop where
  row : W.ownsRow 0 40 3 (.slice (some ⟨g, 0, none⟩) P P) P (partCells al)
  ge : w0.heap.size ≤ g
  n1 : g ≠ b
  n2 : g ≠ mb
  n3 : g ≠ ad.block
theorem AtR.keep {w0 W W' : World} {g P : Nat} {al : List (Int × Int × Int)} (h : AtR w0 b mb g P al ad W) (hb : Below W.heap.size W W') : AtR w0 b mb g P al ad W' :=
  ⟨((BS.start _).below hb).row h.row, h.ge, h.n1, h.n2, h.n3⟩
def TlRel (w0 W : World) (b : Nat) (t p s : Int) (ad : Addr) (n c : Nat) (vs : List Int) (mb : Nat) (ml : List (Int × Int)) (g P : Nat) (v3 v22 : Value) (wr : World) : Prop :=
  ∃ (k : Nat) (nx : Int) (al : List (Int × Int × Int)), k ≤ P ∧ tlN vs t p k = some (nx, al) ∧ v22 = .int .i64 k ∧ v3 = .int .i64 nx ∧ LS w0 b t p s ad n c vs (.slice (some ⟨g, 0, none⟩) P P) mb ml wr ∧ AtR w0 b mb g P al ad wr ∧ (∀ k' : Nat, k' ≠ b → k' < W.heap.size → wr.heap[k']? = W.heap[k']?) ∧ W.heap.size ≤ wr.heap.size
set_option maxHeartbeats 2000000 in
set_option maxRecDepth 100000 in
theorem ptiles_any (w0 W : World) (ml : List (Int × Int)) (h : LS w0 b t p s ad n c vs atv mb ml W) (hv : ad.block < w0.heap.size) :
    Calls Tryz.prog 60 #[.pointer (some ⟨b, 0, none⟩)] W fun e W' => e = .returned (.bool (tlN vs t p p.toNat).isSome) ∧
      (∀ st, tlN vs t p p.toNat = some st → ∃ g, LS w0 b t p s ad n c vs (.slice (some ⟨g, 0, none⟩) p.toNat p.toNat) mb ml W' ∧ AtR w0 b mb g p.toNat st.2 ad W') ∧ Below w0.heap.size w0 W' ∧ (∀ k' : Nat, k' ≠ b → k' < W.heap.size → W'.heap[k']? = W.heap[k']?) ∧ W.heap.size ≤ W'.heap.size := by
  obtain ⟨⟨c0, c1, c2⟩, c3, c4, c5⟩ := h.lk.cells
  have f4 := h.lk.froz 4
  have hlt := h.lk.lt
  obtain ⟨b1, b2, b3, b4, b5, b6, b7⟩ := h.lk.xv.bd
  obtain ⟨P, rfl⟩ : ∃ P : Nat, p = P := ⟨p.toNat, by omega⟩
  have hmk := make_info P (by omega)
  have hst : TlRel w0 W b t P s ad n c vs mb ml W.heap.size P (.int .i64 0) (.int .i64 0) ((W.setCell ⟨b, 4, none⟩ (.slice (some ⟨W.heap.size, 0, none⟩) P P)).alloc (.cells (madeCells #[.int .i64 0, .int .i64 0, .int .i64 0] (P * 3)) 40)) := by
    have hb0 := h.bs.ls b (by simp)
    have hm0 := h.bs.ls mb (by simp)
    have hsz := h.bs.bel.size
    obtain ⟨es, clk, m1, m2⟩ := h.map
    obtain ⟨x1, x2, x3, x4, x5, x6⟩ := h.lk.xv
    have hL : LS w0 b t P s ad n c vs (.slice (some ⟨W.heap.size, 0, none⟩) P P) mb ml (W.setCell ⟨b, 4, none⟩ (.slice (some ⟨W.heap.size, 0, none⟩) P P)) := by
      refine ⟨⟨?_, x1, x2, x3, x4, x5, fun k hk => (World.cell?_of_block (a := ad.add k) (heap_setCell_other (by rw [add_block]; omega))).trans (x6 k hk)⟩, h.bs.setCell (by simp) _ _, h.ne, ⟨es, clk, (heap_setCell_other h.ne).trans m1, m2⟩⟩
      have := heap_setCell_same (o := 4) (v := .slice (some ⟨W.heap.size, 0, none⟩) P P) h.lk.box
      simpa using this
    refine ⟨0, 0, List.replicate P (0, 0, 0), by omega, by simp [tlN], rfl, rfl, hL.keep ((Below.refl _ _).alloc (Nat.le_refl _) _), ⟨?_, by omega, by omega, by omega, by omega⟩, fun k' h1 h2 => (heap_alloc_old _ _ (by simpa using h2)).trans (heap_setCell_other h1), by simp⟩
    rw [made_info]
    have hpl := partCells_len (List.replicate P (0, 0, 0))
    rw [List.length_replicate] at hpl
    have hh : ((W.setCell ⟨b, 4, none⟩ (.slice (some ⟨W.heap.size, 0, none⟩) P P)).alloc (.cells (partCells (List.replicate P (0, 0, 0))).toArray 40)).heap[W.heap.size]? = some (.cells (partCells (List.replicate P (0, 0, 0))).toArray 40) := hb_alloc _ _ _ (by simp)
    refine ⟨hpl, Or.inr ⟨W.heap.size, P, (partCells (List.replicate P (0, 0, 0))).toArray, rfl, Nat.zero_le _, hh, Nat.le_refl _, by unfold maxLen; omega, by simpa using hpl, ?_⟩⟩
    simp [← hpl]
  have H0 := Lib.hid h
  clear h
  go_enter Tryz.func60, Tryz.ntmps60
  go_wp2
  go_loopw [3, 22] (fun v3 v22 wr => TlRel w0 W b t P s ad n c vs mb ml W.heap.size P v3 v22 wr) (fun _ v22 _ => P - (intOf v22).toNat)
  case atStart => exact hst
  case round =>
    clear hst c0 c1 c2 c3 c4 c5 f4 hlt hmk
    obtain ⟨k, nx, al, hk, htl, rfl, rfl, hL, hA, hS, hSz⟩ := hrel
    have HSm := Lib.hid (And.intro hS hSz)
    clear hS hSz
    obtain ⟨⟨c0, c1, c2⟩, c3, c4, c5⟩ := hL.lk.cells
    have hlt := hL.lk.lt
    have hg := hL.lk
    by_cases hkP : k < P
    · have hcx := hL.lk.xv.cx (q := k) (part := 0) (by omega) (by omega) (by omega) (by omega)
      have HI := Lib.hid (fun w => pinfo_any t P s k w)
      rw [hcx.2] at HI
      have HLh := Lib.hid hL
      have HAh := Lib.hid hA
      have hgu := hL.lk.xv.gu k 0
      have HG := Lib.hid (fun (w : World) (h : LK b t P s ad n c vs (.slice (some ⟨W.heap.size, 0, none⟩) P P) mb w) => pget_any (cix t k 0) w h hcx.1)
      have hgd : vs.getD (cix t k 0) 0 = gv vs t k 0 := rfl
      rw [hgd] at HG
      have HN := Lib.hid (fun w => iget_any (gv vs t k 0) w hgu.1 hgu.2)
      clear hL hA hg
      go_wp2_with fail
      refine (HI.out _).mono ?_
      rintro e w1 ⟨rfl, d1⟩
      have HL1 := Lib.hid (HLh.out.keep d1)
      go_wp2_with fail
      refine (HG.out _ HL1.out.lk).mono ?_
      rintro e w2 ⟨rfl, d2⟩
      have HL2 := Lib.hid (HL1.out.keep d2)
      go_wp2_with fail
      refine (HN.out _).mono ?_
      rintro e w3 ⟨rfl, d3⟩
      have HL3 := Lib.hid (HL2.out.keep d3)
      have hstep : tlN vs t P (k + 1) = tlStep vs t P k (nx, al) := by
        show (match tlN vs t P k with | none => none | some st => tlStep vs t P k st) = _
        rw [htl]
      have HPk := Lib.hid (show P = (k + 1) + (P - (k + 1)) by omega)
      have hbd := inf_bd (gv vs t k 0)
      have hnb := tlN_bd (by omega) (by omega) htl
      have hall := tlN_len htl
      simp only [Int.toNat_natCast] at hall
      unfold tlStep at hstep
      have HS := Lib.hid hstep
      have HA3 := Lib.hid (((HAh.out.keep d1).keep d2).keep d3)
      have hdd : Below wr.heap.size wr (w3.alloc (.cells #[.int .i64 (iK (gv vs t k 0)), .int .i64 (iL (gv vs t k 0)), .int .i64 (iC (gv vs t k 0))] 40)) := (d1.trans ((d2.trans (d3.mono d2.size)).mono d1.size)).alloc (Nat.le_trans (Nat.le_trans d1.size d2.size) d3.size) _
      have HD := Lib.hid hdd
      clear hdd
      clear hstep HI HG HN d1 d2 d3 HL1 HL2 HLh HAh htl c0 c1 c2 c3 c4 c5 hlt
      generalize gv vs t k 0 = v at *
      generalize iK v = iKv at *
      generalize iL v = iLv at *
      generalize iC v = iCv at *
      obtain ⟨g1, g2, g3, g4, g5, g6, -, -⟩ := hbd
      have HL4 := Lib.hid (HL3.out.keep ((Below.refl _ _).alloc (Nat.le_refl _) (.cells #[.int .i64 iKv, .int .i64 iLv, .int .i64 iCv] 40)))
      have HA4 := Lib.hid (HA3.out.keep ((Below.refl _ _).alloc (Nat.le_refl _) (.cells #[.int .i64 iKv, .int .i64 iLv, .int .i64 iCv] 40)))
      have i4 := loc_alloc w3 #[.int .i64 iKv, .int .i64 iLv, .int .i64 iCv] 40
      obtain ⟨⟨c0, c1, c2⟩, c3, c4, c5⟩ := HL4.out.lk.cells
      have hltb := HL3.out.lk.lt
      have hwr : IntKind.i64.wrap ((P : Int) - k) = P - k := wrap_in _ (by omega)
      have hne4 : b ≠ w3.heap.size := by omega
      by_cases hkn : (k : Int) < nx
      · by_cases hv0 : v = 0
        · rw [if_pos hkn, if_pos hv0] at HS
          have hvb : (v != 0) = false := by simp [hv0]
          clear hv0
          go_wp2
          go_roundw
          case rel => exact ⟨k + 1, nx, al, by omega, HS.out, by go_num, rfl, HL4.out, HA4.out, fun k' h1 h2 => (HD.out.block k' (Nat.lt_of_lt_of_le h2 HSm.out.2)).trans (HSm.out.1 k' h1 h2), Nat.le_trans HSm.out.2 HD.out.size⟩
          case measure => simp [intOf]; omega
        · rw [if_pos hkn, if_neg hv0] at HS
          have hvb : (v != 0) = true := by simpa using hv0
          clear hv0
          have hno : tlN vs t P P = none := by
            have := tlN_none HS.out (P - (k + 1))
            rwa [← HPk.out] at this
          have HNo := Lib.hid hno
          clear hno HS
          go_wp2
          go_ret
          refine ⟨ret_bool ?_, fun st hst => ?_, HL4.out.bs.bel, fun k' h1 h2 => (HD.out.block k' (Nat.lt_of_lt_of_le h2 HSm.out.2)).trans (HSm.out.1 k' h1 h2), Nat.le_trans HSm.out.2 HD.out.size⟩
          · simp only [Int.toNat_natCast]
            rw [HNo.out]
            rfl
          · simp only [Int.toNat_natCast] at hst
            rw [HNo.out] at hst
            simp at hst
      · rw [if_neg hkn] at HS
        cases hok : okI v
        · rw [if_pos (Or.inl hok)] at HS
          have hno : tlN vs t P P = none := by
            have := tlN_none HS.out (P - (k + 1))
            rwa [← HPk.out] at this
          have HNo := Lib.hid hno
          clear hno HS
          go_wp2_with fail
          refine wp_region_noPanic ?_
          refine wp_region_held_drew (S := fun w' => (∀ o : Nat, w'.cell? ⟨w3.heap.size, o, none⟩ = (#[.int .i64 iKv, .int .i64 iLv, .int .i64 iCv] : Array Value)[o]?) ∧ w'.cell? ⟨b, 1, none⟩ = some (.int .i64 P)) (by kernel_rfl) ?_ (fun hHeld => ?_)
          · exact ⟨i4, c1⟩
          refine wT 0 ?_
          refine wT 1 ?_
          refine wT 2 ?_
          refine wU 3 ?_
          refine wU 4 ?_
          refine wU 5 ?_
          refine wT 6 ?_
          refine wT 7 ?_
          refine wU 8 ?_
          refine wU 9 ?_
          refine wU 10 ?_
          refine wU 11 ?_
          refine wU 12 ?_
          refine wU 13 ?_
          refine wU 14 ?_
          refine wU 15 ?_
          refine wU 16 ?_
          refine wU 17 ?_
          refine wT 18 ?_
          refine wT 19 ?_
          refine wpAnyH_done (by kernel_rfl) (NoPanic.normal ?_) _
          go_wp2
          go_ret
          refine ⟨ret_bool ?_, fun st hst => ?_, HL4.out.bs.bel.drew, fun k' h1 h2 => (HD.out.drew.block k' (Nat.lt_of_lt_of_le h2 HSm.out.2)).trans (HSm.out.1 k' h1 h2), Nat.le_trans HSm.out.2 HD.out.drew.size⟩
          · simp only [Int.toNat_natCast]
            rw [HNo.out]
            rfl
          · simp only [Int.toNat_natCast] at hst
            rw [HNo.out] at hst
            simp at hst
        · by_cases hK : iKv = 0
          · rw [if_pos (Or.inr (Or.inl hK))] at HS
            have hno : tlN vs t P P = none := by
              have := tlN_none HS.out (P - (k + 1))
              rwa [← HPk.out] at this
            have HNo := Lib.hid hno
            clear hno HS
            subst hK
            go_wp2_with fail
            refine wp_region_noPanic ?_
            refine wp_region_held_drew (S := fun w' => (∀ o : Nat, w'.cell? ⟨w3.heap.size, o, none⟩ = (#[.int .i64 0, .int .i64 iLv, .int .i64 iCv] : Array Value)[o]?) ∧ w'.cell? ⟨b, 1, none⟩ = some (.int .i64 P)) (by kernel_rfl) ?_ (fun hHeld => ?_)
            · exact ⟨i4, c1⟩
            refine wT 0 ?_
            refine wT 1 ?_
            refine wT 2 ?_
            refine wT 3 ?_
            refine wT 4 ?_
            refine wT 5 ?_
            refine wT 6 ?_
            refine wT 7 ?_
            refine wU 8 ?_
            refine wU 9 ?_
            refine wU 10 ?_
            refine wU 11 ?_
            refine wU 12 ?_
            refine wU 13 ?_
            refine wU 14 ?_
            refine wU 15 ?_
            refine wU 16 ?_
            refine wU 17 ?_
            refine wT 18 ?_
            refine wT 19 ?_
            refine wpAnyH_done (by kernel_rfl) (NoPanic.normal ?_) _
            go_wp2
            go_ret
            refine ⟨ret_bool ?_, fun st hst => ?_, HL4.out.bs.bel.drew, fun k' h1 h2 => (HD.out.drew.block k' (Nat.lt_of_lt_of_le h2 HSm.out.2)).trans (HSm.out.1 k' h1 h2), Nat.le_trans HSm.out.2 HD.out.drew.size⟩
            · simp only [Int.toNat_natCast]
              rw [HNo.out]
              rfl
            · simp only [Int.toNat_natCast] at hst
              rw [HNo.out] at hst
              simp at hst
          · have hKb : (iKv == 0) = false := by simpa using hK
            by_cases hLn : (P : Int) - k < iLv
            · rw [if_pos (Or.inr (Or.inr hLn))] at HS
              have hno : tlN vs t P P = none := by
                have := tlN_none HS.out (P - (k + 1))
                rwa [← HPk.out] at this
              have HNo := Lib.hid hno
              clear hno HS
              clear hK
              go_wp2_with fail
              refine wp_region_noPanic ?_
              refine wp_region_held_drew (S := fun w' => (∀ o : Nat, w'.cell? ⟨w3.heap.size, o, none⟩ = (#[.int .i64 iKv, .int .i64 iLv, .int .i64 iCv] : Array Value)[o]?) ∧ w'.cell? ⟨b, 1, none⟩ = some (.int .i64 P)) (by kernel_rfl) ?_ (fun hHeld => ?_)
              · exact ⟨i4, c1⟩
              refine wT 0 ?_
              refine wT 1 ?_
              refine wT 2 ?_
              refine wT 3 ?_
              refine wT 4 ?_
              refine wT 5 ?_
              refine wT 6 ?_
              refine wT 7 ?_
              refine wT 8 ?_
              refine wT 9 ?_
              refine wT 10 ?_
              refine wT 11 ?_
              refine wT 12 ?_
              refine wT 13 ?_
              refine wT 14 ?_
              refine wT 15 ?_
              refine wT 16 ?_
              refine wT 17 ?_
              refine wT 18 ?_
              refine wT 19 ?_
              refine wpAnyH_done (by kernel_rfl) (NoPanic.normal ?_) _
              go_wp2
              go_ret
              refine ⟨ret_bool ?_, fun st hst => ?_, HL4.out.bs.bel.drew, fun k' h1 h2 => (HD.out.drew.block k' (Nat.lt_of_lt_of_le h2 HSm.out.2)).trans (HSm.out.1 k' h1 h2), Nat.le_trans HSm.out.2 HD.out.drew.size⟩
              · simp only [Int.toNat_natCast]
                rw [HNo.out]
                rfl
              · simp only [Int.toNat_natCast] at hst
                rw [HNo.out] at hst
                simp at hst
            · rw [if_neg (fun h => h.elim (fun h => by rw [hok] at h; simp at h) (fun h => h.elim hK hLn))] at HS
              clear hK
              have hLn2 : iLv ≤ (P : Int) - k := by omega
              clear hLn
              go_wp2_with fail
              refine wp_region_noPanic ?_
              refine wp_region_held_drew (S := fun w' => (∀ o : Nat, w'.cell? ⟨w3.heap.size, o, none⟩ = (#[.int .i64 iKv, .int .i64 iLv, .int .i64 iCv] : Array Value)[o]?) ∧ w'.cell? ⟨b, 1, none⟩ = some (.int .i64 P)) (by kernel_rfl) ?_ (fun hHeld => ?_)
              · exact ⟨i4, c1⟩
              refine wT 0 ?_
              refine wT 1 ?_
              refine wT 2 ?_
              refine wT 3 ?_
              refine wT 4 ?_
              refine wT 5 ?_
              refine wT 6 ?_
              refine wT 7 ?_
              refine wT 8 ?_
              refine wT 9 ?_
              refine wT 10 ?_
              refine wT 11 ?_
              refine wT 12 ?_
              refine wT 13 ?_
              refine wT 14 ?_
              refine wT 15 ?_
              refine wT 16 ?_
              refine wT 17 ?_
              refine wT 18 ?_
              refine wT 19 ?_
              refine wpAnyH_done (by kernel_rfl) (NoPanic.normal ?_) _
              go_wp2_with fail
              have hgw : W.heap.size < w3.heap.size := ownsRow_lt HA3.out.row rfl
              have hgb : W.heap.size ≠ b := HA3.out.n1
              refine world_gen ?_
              intro wz hwz
              have hL5 : LS w0 b t P s ad n c vs (.slice (some ⟨W.heap.size, 0, none⟩) P P) mb ml wz := by rw [hwz]; exact HL4.out.keep (Below.refl _ _).drew
              have hA5 : AtR w0 b mb W.heap.size P al ad wz := by rw [hwz]; exact HA4.out.keep (Below.refl _ _).drew
              have i5 : ∀ o : Nat, wz.cell? ⟨w3.heap.size, o, none⟩ = (#[.int .i64 iKv, .int .i64 iLv, .int .i64 iCv] : Array Value)[o]? := by rw [hwz]; exact i4
              have HZ : Hid (Below wr.heap.size wr wz) := Lib.hid (by rw [hwz]; exact HD.out.drew)
              have c5' := hL5.lk.cells.2.2.1
              clear hwz i4 c0 c1 c2 c3 c4 c5 hHeld HL4 HA4 HL3 HA3
              have hrow := hA5.row
              obtain ⟨x, hx⟩ : ∃ x, al[k]? = some x := ⟨_, List.getElem?_eq_getElem (by omega)⟩
              obtain ⟨p0, p1, p2⟩ := partCells_at al k x hx
              have q0 : wz.cell? ⟨W.heap.size, k * 3, none⟩ = some (.int .i64 x.1) := (hrow.cellAt (k * 3) (by omega)).trans p0
              have q1 : wz.cell? ⟨W.heap.size, k * 3 + 1, none⟩ = some (.int .i64 x.2.1) := (hrow.cellAt (k * 3 + 1) (by omega)).trans p1
              have q2 : wz.cell? ⟨W.heap.size, k * 3 + 2, none⟩ = some (.int .i64 x.2.2) := (hrow.cellAt (k * 3 + 2) (by omega)).trans p2
              have j0 : wz.frozen? ⟨W.heap.size, k * 3, none⟩ = false := hrow.frozenAt (k * 3)
              have j1 : wz.frozen? ⟨W.heap.size, k * 3 + 1, none⟩ = false := hrow.frozenAt (k * 3 + 1)
              have j2 : wz.frozen? ⟨W.heap.size, k * 3 + 2, none⟩ = false := hrow.frozenAt (k * 3 + 2)
              have hkP2 : (k : Int) < P := by omega
              have HL5 := Lib.hid hL5
              have HA5 := Lib.hid hA5
              have HX := Lib.hid hx
              clear p0 p1 p2 hL5 hA5 hrow hx
              have keep : (∀ o : Nat, (((wz.drew.setCell ⟨W.heap.size, k * 3, none⟩ (.int .i64 iKv)).setCell ⟨W.heap.size, k * 3 + 1, none⟩ (.int .i64 iLv)).setCell ⟨W.heap.size, k * 3 + 2, none⟩ (.int .i64 iCv)).cell? ⟨w3.heap.size, o, none⟩ = (#[.int .i64 iKv, .int .i64 iLv, .int .i64 iCv] : Array Value)[o]?) ∧ (((wz.drew.setCell ⟨W.heap.size, k * 3, none⟩ (.int .i64 iKv)).setCell ⟨W.heap.size, k * 3 + 1, none⟩ (.int .i64 iLv)).setCell ⟨W.heap.size, k * 3 + 2, none⟩ (.int .i64 iCv)).cell? ⟨b, 4, none⟩ = some (.slice (some ⟨W.heap.size, 0, none⟩) P P) := by
                refine ⟨fun o => ?_, ?_⟩
                · refine (World.cell?_of_block (a := ⟨w3.heap.size, o, none⟩) ?_).trans (i5 o)
                  show (((wz.drew.setCell ⟨W.heap.size, k * 3, none⟩ (.int .i64 iKv)).setCell ⟨W.heap.size, k * 3 + 1, none⟩ (.int .i64 iLv)).setCell ⟨W.heap.size, k * 3 + 2, none⟩ (.int .i64 iCv)).heap[w3.heap.size]? = _
                  rw [heap_setCell_other (by omega), heap_setCell_other (by omega), heap_setCell_other (by omega)]
                  rfl
                · refine (World.cell?_of_block (a := ⟨b, 4, none⟩) ?_).trans c5'
                  show (((wz.drew.setCell ⟨W.heap.size, k * 3, none⟩ (.int .i64 iKv)).setCell ⟨W.heap.size, k * 3 + 1, none⟩ (.int .i64 iLv)).setCell ⟨W.heap.size, k * 3 + 2, none⟩ (.int .i64 iCv)).heap[b]? = _
                  rw [heap_setCell_other (Ne.symm hgb), heap_setCell_other (Ne.symm hgb), heap_setCell_other (Ne.symm hgb)]
                  rfl
              have HKeep := Lib.hid keep
              clear keep
              refine wp_region_noPanic ?_
              refine wp_region_held_drew (S := fun w' => (∀ o : Nat, w'.cell? ⟨w3.heap.size, o, none⟩ = (#[.int .i64 iKv, .int .i64 iLv, .int .i64 iCv] : Array Value)[o]?) ∧ w'.cell? ⟨b, 4, none⟩ = some (.slice (some ⟨W.heap.size, 0, none⟩) P P)) (by kernel_rfl) ?_ (fun hHeld => ?_)
              · exact ⟨i5, c5'⟩
              refine wT 0 ?_
              refine wT 1 ?_
              refine wT 2 ?_
              refine wT 3 ?_
              refine wT 4 ?_
              refine wT 5 ?_
              refine wT 6 ?_
              refine wR 7 fun K hK => ?_
              go_simp
              refine hK.out _ _ ?_ (fun hHeld => ?_)
              · exact HKeep.out
              clear hK K
              try simp only [Act.put, zA, zB, zC, zD, zE, zF]
              refine wpAnyH_done (by kernel_rfl) (NoPanic.normal ?_) _
              have HFin : Hid (TlRel w0 W b t P s ad n c vs mb ml W.heap.size P (.int .i64 (k + iLv)) (.int .i64 (k + 1)) (((wz.drew.setCell ⟨W.heap.size, k * 3, none⟩ (.int .i64 iKv)).setCell ⟨W.heap.size, k * 3 + 1, none⟩ (.int .i64 iLv)).setCell ⟨W.heap.size, k * 3 + 2, none⟩ (.int .i64 iCv))) := by
                have ge := HA5.out.ge
                have hlS := (((HL5.out.keep (Below.refl _ _).drew).setOther (o := k * 3) (v := .int .i64 iKv) ge HA5.out.n1 HA5.out.n2 HA5.out.n3).setOther (o := k * 3 + 1) (v := .int .i64 iLv) ge HA5.out.n1 HA5.out.n2 HA5.out.n3).setOther (o := k * 3 + 2) (v := .int .i64 iCv) ge HA5.out.n1 HA5.out.n2 HA5.out.n3
                have hrow := (HA5.out.keep (Below.refl _ _).drew).row
                have hr3 := (((hrow.stored (k * 3) (.int .i64 iKv)).1.stored (k * 3 + 1) (.int .i64 iLv)).1.stored (k * 3 + 2) (.int .i64 iCv)).1
                rw [partCells_set al k (iKv, iLv, iCv) (by omega)] at hr3
                refine ⟨k + 1, k + iLv, al.set k (iKv, iLv, iCv), by omega, HS.out, by go_num, rfl, hlS, ⟨hr3, HA5.out.ge, HA5.out.n1, HA5.out.n2, HA5.out.n3⟩, fun k' h1 h2 => ?_, ?_⟩
                · rw [heap_setCell_other (by omega), heap_setCell_other (by omega), heap_setCell_other (by omega)]
                  exact (HZ.out.drew.block k' (Nat.lt_of_lt_of_le h2 HSm.out.2)).trans (HSm.out.1 k' h1 h2)
                · simpa using Nat.le_trans HSm.out.2 HZ.out.drew.size
              go_wp2
              go_roundw
              case rel => exact HFin.out
              case measure => simp [intOf]; omega
    · have h1 : k = P := by omega
      rw [h1] at htl
      have HTl := Lib.hid htl
      have HL := Lib.hid hL
      have HA := Lib.hid hA
      clear htl hL hA hg h1 c0 c1 c2 c3 c4 c5 hlt
      go_wp2
      go_ret
      refine ⟨ret_bool ?_, fun st hst => ?_, HL.out.bs.bel, HSm.out.1, HSm.out.2⟩
      · simp only [Int.toNat_natCast]
        rw [HTl.out]
        rfl
      · simp only [Int.toNat_natCast] at hst ⊢
        rw [HTl.out] at hst
        simp at hst
        subst hst
        exact ⟨_, HL.out, HA.out⟩
end
end Go.Proofs.YtkhanbedcmmlcaaGreatDoor
/- the program's audit: slots. -/
set_option linter.unusedSimpArgs false
set_option linter.unusedVariables false
namespace Go.Proofs.YtkhanbedcmmlcaaGreatDoor
open Go.RowKit

def andN (a b : Int) : Int := bits BinOp.andNot IntKind.u32 a b
def psB (vs : List Int) (t : Int) (al : List (Int × Int × Int)) (q : Nat) : Bool :=
  if (al.getD q (0, 0, 0)).1 = 3 then !(gv vs t q 5 == 0) && (andN (gv vs t q 5) (2 ^ (slotsF (al.getD q (0, 0, 0)).2.2).toNat - 1) == 0) && (andN (gv vs t q 4) (gv vs t q 5) == 0)
  else gv vs t q 4 == 0 && gv vs t q 5 == 0
section
variable {b : Nat} {t p s : Int} {ad : Addr} {n c : Nat} {vs : List Int} {mb : Nat}
def PsRel (vs : List Int) (t : Int) (al : List (Int × Int × Int)) (P : Nat) (W : World) (i : Value) (wr : World) : Prop := ∃ k : Nat, k ≤ P ∧ i = .int .i64 k ∧ allN (psB vs t al) k = true ∧ Below W.heap.size W wr
set_option maxHeartbeats 2000000 in
set_option maxRecDepth 100000 in
theorem pslotsr_any (w0 W : World) (ml : List (Int × Int)) (g P : Nat) (al : List (Int × Int × Int)) (h : LS w0 b t p s ad n c vs (.slice (some ⟨g, 0, none⟩) P P) mb ml W) (hA : AtR w0 b mb g P al ad W) (hP : p = P) :
    Calls Tryz.prog 63 #[.pointer (some ⟨b, 0, none⟩)] W fun e W' => e = .returned (.bool (allN (psB vs t al) P)) ∧ Below W.heap.size W W' := by
  subst hP
  obtain ⟨b1, b2, b3, b4, b5, b6, b7⟩ := h.lk.xv.bd
  have H0 := Lib.hid h
  have A0 := Lib.hid hA
  obtain ⟨⟨c0, c1, c2⟩, c3, c4, c5⟩ := h.lk.cells
  clear h hA
  go_enter Tryz.func63, Tryz.ntmps63
  go_wp2
  go_loopw [12] (fun i wr => PsRel vs t al P W i wr) (fun i _ => P - (intOf i).toNat)
  case atStart => exact ⟨0, by omega, rfl, rfl, Below.refl _ _⟩
  case round =>
    clear c0 c1 c2 c3 c4 c5
    obtain ⟨k, hk, rfl, hall, hbel⟩ := hrel
    have HX := Lib.hid hbel
    have HAl := Lib.hid hall
    have hL := H0.out.keep hbel
    have hA := A0.out.keep hbel
    by_cases hlt : k < P
    · have hkP : (k : Int) < P := by omega
      have hpl := hA.row.1
      have hal : k < al.length := by have := partCells_len al; omega
      obtain ⟨⟨K, L, C⟩, hx⟩ : ∃ x, al[k]? = some x := ⟨_, List.getElem?_eq_getElem hal⟩
      obtain ⟨p0, p1, p2⟩ := partCells_at al k _ hx
      have q0 : wr.cell? ⟨g, k * 3, none⟩ = some (.int .i64 K) := (hA.row.cellAt (k * 3) (by omega)).trans p0
      have q1 : wr.cell? ⟨g, k * 3 + 1, none⟩ = some (.int .i64 L) := (hA.row.cellAt (k * 3 + 1) (by omega)).trans p1
      have q2 : wr.cell? ⟨g, k * 3 + 2, none⟩ = some (.int .i64 C) := (hA.row.cellAt (k * 3 + 2) (by omega)).trans p2
      have hx4 := hL.lk.xv.cx (q := k) (part := 4) (by omega) (by omega) (by omega) (by omega)
      have hx5 := hL.lk.xv.cx (q := k) (part := 5) (by omega) (by omega) (by omega) (by omega)
      have H4 := Lib.hid (fun w => ppslots_any t P s k w)
      rw [hx4.2] at H4
      have H5 := Lib.hid (fun w => pptaken_any t P s k w)
      rw [hx5.2] at H5
      have G4 := Lib.hid (fun (w : World) (h : LK b t P s ad n c vs (.slice (some ⟨g, 0, none⟩) P P) mb w) => pget_any (cix t k 4) w h hx4.1)
      have G5 := Lib.hid (fun (w : World) (h : LK b t P s ad n c vs (.slice (some ⟨g, 0, none⟩) P P) mb w) => pget_any (cix t k 5) w h hx5.1)
      have hd4 : vs.getD (cix t k 4) 0 = gv vs t k 4 := rfl
      have hd5 : vs.getD (cix t k 5) 0 = gv vs t k 5 := rfl
      rw [hd4] at G4
      rw [hd5] at G5
      have HWh := Lib.hid (fun w => pwhole_any C w)
      have hb : psB vs t al k = if K = 3 then !(gv vs t k 5 == 0) && (andN (gv vs t k 5) (2 ^ (slotsF C).toNat - 1) == 0) && (andN (gv vs t k 4) (gv vs t k 5) == 0) else gv vs t k 4 == 0 && gv vs t k 5 == 0 := by
        unfold psB
        rw [List.getD_eq_getElem?_getD, hx]
        rfl
      have HB := Lib.hid hb
      have hLa := hL.keep ((Below.refl _ _).alloc (Nat.le_refl _) (.cells #[.int .i64 K, .int .i64 L, .int .i64 C] 40))
      obtain ⟨⟨c0, c1, c2⟩, c3, -, -⟩ := hLa.lk.cells
      have i4 := loc_alloc wr #[.int .i64 K, .int .i64 L, .int .i64 C] 40
      obtain ⟨⟨-, -, -⟩, -, d4, -⟩ := hL.lk.cells
      have hltb := hL.lk.lt
      have HLa := Lib.hid hLa
      have SA := (BS.start wr).alloc (.cells #[.int .i64 K, .int .i64 L, .int .i64 C] 40)
      clear hL hA hpl hx p0 p1 p2 hd4 hd5 hb hLa hall hbel hx4 hx5
      generalize gv vs t k 4 = a at *
      generalize gv vs t k 5 = u at *
      generalize (2 : Int) ^ (slotsF C).toNat - 1 = wv at *
      generalize cix t k 4 = x4 at *
      generalize cix t k 5 = x5 at *
      obtain ⟨x2, h2⟩ : ∃ x, bits BinOp.andNot IntKind.u32 u wv = x := ⟨_, rfl⟩
      obtain ⟨x3, h3⟩ : ∃ x, bits BinOp.andNot IntKind.u32 a u = x := ⟨_, rfl⟩
      unfold andN at HB
      rw [h2, h3] at HB
      go_wp2_with fail
      refine wp_region_noPanic ?_
      refine wp_region_held_drew (S := fun w' => (w'.cell? ⟨b, 0, none⟩ = some (.int .i64 t) ∧ w'.cell? ⟨b, 1, none⟩ = some (.int .i64 P) ∧ w'.cell? ⟨b, 2, none⟩ = some (.int .i64 s)) ∧ w'.cell? ⟨b, 3, none⟩ = some (.slice (some ad) n c)) (by kernel_rfl) ?_ (fun hHeld => ?_)
      · exact ⟨⟨c0, c1, c2⟩, c3⟩
      refine wT 0 ?_
      refine wT 1 ?_
      refine wT 2 ?_
      refine wT 3 ?_
      refine wT 4 ?_
      refine wT 5 ?_
      refine wT 8 ?_
      refine wT 9 ?_
      refine wT 10 ?_
      refine wT 11 ?_
      refine wT 12 ?_
      refine wT 13 ?_
      refine wR 6 fun K hK => ?_
      go_simp
      refine (H4.out _).mono ?_
      rintro e w1 ⟨rfl, d1⟩
      have L1 := Lib.hid ((HLa.out.keep (Below.refl _ _).drew).keep d1)
      have S1 := SA.drew.below d1
      have k1 := held4 d1 HLa.out.lk.lt hHeld
      refine hK.out _ _ ?_ (fun hHeld => ?_)
      · exact k1
      clear hK K
      try simp only [Act.put, zA, zB, zC, zD, zE, zF]
      refine wR 7 fun K hK => ?_
      go_simp
      refine (G4.out _ L1.out.lk).mono ?_
      rintro e w2 ⟨rfl, d2⟩
      have L2 := Lib.hid (L1.out.keep d2)
      have S2 := S1.below d2
      have k2 := held4 d2 L1.out.lk.lt hHeld
      refine hK.out _ _ ?_ (fun hHeld => ?_)
      · exact k2
      clear hK K
      try simp only [Act.put, zA, zB, zC, zD, zE, zF]
      refine wR 14 fun K hK => ?_
      go_simp
      refine (H5.out _).mono ?_
      rintro e w3 ⟨rfl, d3⟩
      have L3 := Lib.hid (L2.out.keep d3)
      have S3 := S2.below d3
      have k3 := held4 d3 L2.out.lk.lt hHeld
      refine hK.out _ _ ?_ (fun hHeld => ?_)
      · exact k3
      clear hK K
      try simp only [Act.put, zA, zB, zC, zD, zE, zF]
      refine wR 15 fun K hK => ?_
      go_simp
      refine (G5.out _ L3.out.lk).mono ?_
      rintro e w4 ⟨rfl, d5⟩
      have L4 := Lib.hid (L3.out.keep d5)
      have S4 := S3.below d5
      have k4 := held4 d5 L3.out.lk.lt hHeld
      refine hK.out _ _ ?_ (fun hHeld => ?_)
      · exact k4
      clear hK K
      try simp only [Act.put, zA, zB, zC, zD, zE, zF]
      refine wT 16 ?_
      refine wT 17 ?_
      refine wpAnyH_done (by kernel_rfl) (NoPanic.normal ?_) _
      have hsz := (SA.ls wr.heap.size (by simp)).1
      have dAll : Below (wr.alloc (.cells #[.int .i64 K, .int .i64 L, .int .i64 C] 40)).heap.size (wr.alloc (.cells #[.int .i64 K, .int .i64 L, .int .i64 C] 40)) w4 := (((((Below.refl _ _).drew).trans d1).trans (d2.mono d1.size)).trans (d3.mono (Nat.le_trans d1.size d2.size))).trans (d5.mono (Nat.le_trans (Nat.le_trans d1.size d2.size) d3.size))
      have i5 : ∀ o : Nat, w4.cell? ⟨wr.heap.size, o, none⟩ = (#[.int .i64 K, .int .i64 L, .int .i64 C] : Array Value)[o]? := ((BS.start _).below dAll).oldbox i4 (by simp)
      have e0 := i5 0
      have e2 := i5 2
      simp at e0 e2
      have bel4 : Below wr.heap.size wr w4 := S4.bel
      have HB4 := Lib.hid bel4
      clear i4 i5 c0 c1 c2 c3 d1 d2 d3 d5 dAll L1 L2 L3 S1 S2 S3 S4 SA k1 k2 k3 k4 hHeld G4 G5 H4 H5 bel4 q0 q1 q2 hsz
      have hne3 : wr.heap.size ≠ b := by omega
      by_cases hK3 : K = 3
      · subst hK3
        by_cases hu : u = 0
        · subst hu
          go_wp2
          go_ret
          refine ⟨ret_bool ?_, HX.out.trans (HB4.out.mono HX.out.size)⟩
          symm
          refine allN_no hlt ?_
          rw [HB.out]
          simp [*]
        · have hub : (u == 0) = false := by simpa using hu
          go_wp2_with fail
          refine (HWh.out _).mono ?_
          rintro e w5 ⟨rfl, d5⟩
          have HB5 := Lib.hid (HB4.out.trans (d5.mono HB4.out.size))
          by_cases hx2 : x2 = 0
          · subst hx2
            by_cases hx3 : x3 = 0
            · subst hx3
              go_wp2
              go_roundw
              case rel =>
                refine ⟨k + 1, by omega, by go_num, ?_, HX.out.trans (HB5.out.mono HX.out.size)⟩
                simp only [allN, HAl.out, Bool.true_and]
                rw [HB.out]
                simp [*]
              case measure => simp [intOf]; omega
            · have hxb : (x3 != 0) = true := by simpa using hx3
              go_wp2
              go_ret
              refine ⟨ret_bool ?_, HX.out.trans (HB5.out.mono HX.out.size)⟩
              symm
              refine allN_no hlt ?_
              rw [HB.out]
              simp [*]
          · have hxb : (x2 != 0) = true := by simpa using hx2
            go_wp2
            go_ret
            refine ⟨ret_bool ?_, HX.out.trans (HB5.out.mono HX.out.size)⟩
            symm
            refine allN_no hlt ?_
            rw [HB.out]
            simp [*]
      · have hKb : (K != 3) = true := by simpa using hK3
        by_cases ha : a = 0
        · subst ha
          by_cases hu : u = 0
          · subst hu
            go_wp2
            go_roundw
            case rel =>
              refine ⟨k + 1, by omega, by go_num, ?_, HX.out.trans (HB4.out.mono HX.out.size)⟩
              simp only [allN, HAl.out, Bool.true_and]
              rw [HB.out]
              simp [*]
            case measure => simp [intOf]; omega
          · have hub : (u != 0) = true := by simpa using hu
            go_wp2
            go_ret
            refine ⟨ret_bool ?_, HX.out.trans (HB4.out.mono HX.out.size)⟩
            symm
            refine allN_no hlt ?_
            rw [HB.out]
            simp [*]
        · have hab : (a != 0) = true := by simpa using ha
          go_wp2
          go_ret
          refine ⟨ret_bool ?_, HX.out.trans (HB4.out.mono HX.out.size)⟩
          symm
          refine allN_no hlt ?_
          rw [HB.out]
          simp [*]
    · have h1 : k = P := by omega
      go_wp2
      go_ret
      exact ⟨ret_bool (by rw [← HAl.out, h1]), HX.out⟩
end
end Go.Proofs.YtkhanbedcmmlcaaGreatDoor
/- the program's audit: lists (bins, racks). -/
set_option linter.unusedSimpArgs false
set_option linter.unusedVariables false
namespace Go.Proofs.YtkhanbedcmmlcaaGreatDoor
open Go.RowKit
section
variable {b : Nat} {t p s : Int} {ad : Addr} {n c : Nat} {vs : List Int} {mb : Nat}
def bnB (al : List (Int × Int × Int)) (k : Int) (q : Nat) : Bool := (al.getD q (0, 0, 0)).1 == 1 && logF (al.getD q (0, 0, 0)).2.1 == k
/-- what a page's info, as the look has it, offers. -/
theorem AtR.at {w0 W : World} {g P : Nat} {al : List (Int × Int × Int)} (hA : AtR w0 b mb g P al ad W) {q : Nat} (hq : q < P) : ∃ K L C, al[q]? = some (K, L, C) ∧ W.cell? ⟨g, q * 3, none⟩ = some (.int .i64 K) ∧ W.cell? ⟨g, q * 3 + 1, none⟩ = some (.int .i64 L) ∧ W.cell? ⟨g, q * 3 + 2, none⟩ = some (.int .i64 C) := by
  have hpl := hA.row.1
  have hal : q < al.length := by have := partCells_len al; omega
  obtain ⟨⟨K, L, C⟩, hx⟩ : ∃ x, al[q]? = some x := ⟨_, List.getElem?_eq_getElem hal⟩
  obtain ⟨p0, p1, p2⟩ := partCells_at al q _ hx
  exact ⟨K, L, C, hx, (hA.row.cellAt (q * 3) (by omega)).trans p0, (hA.row.cellAt (q * 3 + 1) (by omega)).trans p1, (hA.row.cellAt (q * 3 + 2) (by omega)).trans p2⟩
set_option maxHeartbeats 2000000 in
set_option maxRecDepth 100000 in
theorem pbinned1_any (w0 W : World) (ml : List (Int × Int)) (g P q kb kb2 : Nat) (k : Int) (al : List (Int × Int × Int)) (h : LS w0 b t p s ad n c vs (.slice (some ⟨g, 0, none⟩) P P) mb ml W) (hA : AtR w0 b mb g P al ad W) (hq : q < P)
    (hlen : ∀ x ∈ al, x.1 = 1 → 1 ≤ x.2.1 ∧ x.2.1 ≤ 1024) (hk : W.cell? ⟨kb, 0, none⟩ = some (.int .i64 k)) (hk2 : W.cell? ⟨kb2, 0, none⟩ = some (.pointer (some ⟨b, 0, none⟩))) :
    Calls Tryz.prog 140 #[.int .i64 q, .pointer (some ⟨kb2, 0, none⟩), .pointer (some ⟨kb, 0, none⟩)] W fun e W' => e = .returned (.bool (bnB al k q)) ∧ Below W.heap.size W W' := by
  obtain ⟨-, -, c4, -⟩ := h.lk.cells
  obtain ⟨K, L, C, hx, q0, q1, -⟩ := hA.at hq
  have hb : bnB al k q = (K == 1 && logF L == k) := by
    unfold bnB
    rw [List.getD_eq_getElem?_getD, hx]
    rfl
  have hl := hlen _ (List.mem_of_getElem? hx)
  have hqP : (q : Int) < P := by omega
  rw [hb]
  by_cases hK : K = 1
  · obtain ⟨l1, l2⟩ := hl hK
    simp only at l1 l2
    obtain ⟨Ln, rfl⟩ : ∃ Ln : Nat, L = Ln := ⟨L.toNat, by omega⟩
    have HL := Lib.hid (fun w => hlog_any Ln w (by omega) (by omega))
    subst hK
    have hlb := bitsN_le Ln
    generalize hlf : logF (Ln : Int) = lf at *
    clear h hA hx hl hlen hb hlf
    have z1 := World.block_lt_of_cell? W _ hk
    have z2 := World.block_lt_of_cell? W _ hk2
    have z3 := World.block_lt_of_cell? W _ c4
    have z4 := World.block_lt_of_cell? W _ q0
    have z5 := World.block_lt_of_cell? W _ q1
    go_enter Tryz.func140, Tryz.ntmps140
    go_wp2_with fail
    refine wp_region_noPanic ?_
    refine wp_region_held_drew (S := fun w' => w'.cell? ⟨kb, 0, none⟩ = some (.int .i64 k) ∧ w'.cell? ⟨kb2, 0, none⟩ = some (.pointer (some ⟨b, 0, none⟩)) ∧ w'.cell? ⟨b, 4, none⟩ = some (.slice (some ⟨g, 0, none⟩) P P) ∧ w'.cell? ⟨g, q * 3, none⟩ = some (.int .i64 1) ∧ w'.cell? ⟨g, q * 3 + 1, none⟩ = some (.int .i64 Ln)) (by kernel_rfl) ?_ (fun hHeld => ?_)
    · exact ⟨hk, hk2, c4, q0, q1⟩
    refine wT 0 ?_
    refine wT 1 ?_
    refine wT 2 ?_
    refine wT 3 ?_
    refine wT 4 ?_
    refine wT 5 ?_
    refine wT 6 ?_
    refine wT 7 ?_
    refine wT 8 ?_
    refine wT 9 ?_
    refine wT 10 ?_
    refine wT 11 ?_
    refine wT 12 ?_
    refine wT 13 ?_
    refine wT 14 ?_
    refine wT 15 ?_
    refine wT 16 ?_
    refine wT 17 ?_
    refine wT 19 ?_
    refine wR 18 fun K hK => ?_
    go_simp
    refine (HL.out _).mono ?_
    rintro e w1 ⟨rfl, d1⟩
    have k1 : w1.cell? ⟨kb, 0, none⟩ = some (.int .i64 k) ∧ w1.cell? ⟨kb2, 0, none⟩ = some (.pointer (some ⟨b, 0, none⟩)) ∧ w1.cell? ⟨b, 4, none⟩ = some (.slice (some ⟨g, 0, none⟩) P P) ∧ w1.cell? ⟨g, q * 3, none⟩ = some (.int .i64 1) ∧ w1.cell? ⟨g, q * 3 + 1, none⟩ = some (.int .i64 Ln) := ⟨(d1.cell z1).trans hk, (d1.cell z2).trans hk2, (d1.cell z3).trans c4, (d1.cell z4).trans q0, (d1.cell z5).trans q1⟩
    refine hK.out _ _ ?_ (fun hHeld => ?_)
    · exact k1
    clear hK K
    try simp only [Act.put, zA, zB, zC, zD, zE, zF]
    refine wT 20 ?_
    refine wT 21 ?_
    refine wT 22 ?_
    refine wpAnyH_done (by kernel_rfl) (NoPanic.normal ?_) _
    go_wp2
    go_ret
    exact ⟨ret_bool (by simp), (Below.refl _ _).drew.trans d1⟩
  · have hKb : (K == 1) = false := by simpa using hK
    clear h hA hx hl hlen hb hK
    go_enter Tryz.func140, Tryz.ntmps140
    go_wp2_with fail
    refine wp_region_noPanic ?_
    refine wp_region_held_drew (S := fun w' => w'.cell? ⟨kb2, 0, none⟩ = some (.pointer (some ⟨b, 0, none⟩)) ∧ w'.cell? ⟨b, 4, none⟩ = some (.slice (some ⟨g, 0, none⟩) P P) ∧ w'.cell? ⟨g, q * 3, none⟩ = some (.int .i64 K)) (by kernel_rfl) ?_ (fun hHeld => ?_)
    · exact ⟨hk2, c4, q0⟩
    refine wT 0 ?_
    refine wT 1 ?_
    refine wT 2 ?_
    refine wT 3 ?_
    refine wT 4 ?_
    refine wT 5 ?_
    refine wT 6 ?_
    refine wT 7 ?_
    refine wT 8 ?_
    refine wT 9 ?_
    refine wU 10 ?_
    refine wU 11 ?_
    refine wU 12 ?_
    refine wU 13 ?_
    refine wU 14 ?_
    refine wU 15 ?_
    refine wU 16 ?_
    refine wU 17 ?_
    refine wU 18 ?_
    refine wU 19 ?_
    refine wU 20 ?_
    refine wT 21 ?_
    refine wT 22 ?_
    refine wpAnyH_done (by kernel_rfl) (NoPanic.normal ?_) _
    go_wp2
    go_ret
    exact ⟨ret_bool (by simp [hKb]), (Below.refl _ _).drew⟩

/-- the pages that are met on the way of a list: how many, whether all is well, and all that were met. -/
def plL (f : Nat → Bool) (vs : List Int) (t : Int) (P : Nat) : Nat → Int → Int → Nat → List Nat → Nat × Bool × List Nat
  | 0, _, _, _, vis => (0, false, vis)
  | m + 1, q, ah, k, vis => if q = 0 then (k, true, vis) else if (P : Int) ≤ q - 1 ∨ (q - 1).toNat ∈ vis ∨ f (q - 1).toNat = false ∨ gv vs t (q - 1) 3 ≠ ah then (0, false, vis)
    else plL f vs t P m (gv vs t (q - 1) 2) q (k + 1) (vis ++ [(q - 1).toNat])
def mlOf (vis : List Nat) : List (Int × Int) := vis.map fun (q : Nat) => ((q : Int), (1 : Int))
theorem look_ml (q : Nat) : ∀ (vis : List Nat) (i : Nat), (look (mlOf vis) (q : Int) i).isSome = decide (q ∈ vis) ∧ ∀ x, look (mlOf vis) (q : Int) i = some x → x.2 = 1
  | [], i => by simp [mlOf, look]
  | y :: vis, i => by
    have ih := look_ml q vis (i + 1)
    have e : mlOf (y :: vis) = ((y : Int), 1) :: mlOf vis := rfl
    rw [e]
    simp only [look]
    by_cases h : (y : Int) = q
    · have : y = q := by omega
      subst this
      rw [if_pos rfl]
      exact ⟨by simp, fun x hx => by simp at hx; rw [← hx]⟩
    · rw [if_neg h]
      refine ⟨?_, ih.2⟩
      rw [ih.1]
      have : q ≠ y := by omega
      simp [this]
theorem assoc_ml (q : Nat) (vis : List Nat) : (assoc (mlOf vis) (q : Int)).getD 0 = if q ∈ vis then 1 else 0 := by
  have h := look_ml q vis 0
  unfold assoc
  cases hl : look (mlOf vis) (q : Int) 0 with
  | none =>
    rw [hl] at h
    have := h.1
    simp at this
    simp [this]
  | some x =>
    rw [hl] at h
    have h1 := h.1
    simp at h1
    have := h.2 x rfl
    simp [h1, this]
theorem upsert_ml (q : Nat) (vis : List Nat) (h : q ∉ vis) : upsert (mlOf vis) (q : Int) 1 = mlOf (vis ++ [q]) := by
  have hk := (look_ml q vis 0).1
  unfold upsert
  cases hl : look (mlOf vis) (q : Int) 0 with
  | none => simp [mlOf]
  | some x =>
    rw [hl] at hk
    simp at hk
    exact absurd hk h
theorem LS.grownMap {atv : Value} {w0 W W' : World} {ml ml' : List (Int × Int)} (h : LS w0 b t p s ad n c vs atv mb ml W) (hv : ad.block < w0.heap.size) (hg : W.grownBy W' (some mb)) (hm : MapIs W' mb ml') : LS w0 b t p s ad n c vs atv mb ml' W' := by
  have hb0 := h.bs.ls b (by simp)
  have hm0 := h.bs.ls mb (by simp)
  obtain ⟨x1, x2, x3, x4, x5, x6⟩ := h.lk.xv
  refine ⟨⟨(hg.block b hb0.1 (by simp; exact Ne.symm h.ne)).trans h.lk.box, x1, x2, x3, x4, x5, fun k hk => hg.cell (x6 k hk) (by rw [add_block]; simp; omega)⟩, h.bs.grown hg (fun k hk => by simp at hk; subst hk; simp) _ (fun L hL => Or.inl hL), h.ne, hm⟩
theorem AtR.grownMap {w0 W W' : World} {g P : Nat} {al : List (Int × Int × Int)} (h : AtR w0 b mb g P al ad W) (hg : W.grownBy W' (some mb)) : AtR w0 b mb g P al ad W' :=
  ⟨h.row.kept hg (Or.inr (by simp [Value.ownBlock]; exact h.n2)), h.ge, h.n1, h.n2, h.n3⟩
def PlRel (w0 W : World) (b : Nat) (t p s : Int) (ad : Addr) (n c : Nat) (vs : List Int) (mb g P kb kb2 : Nat) (k : Int) (al : List (Int × Int × Int)) (f : Nat → Bool) (res : Nat × Bool × List Nat) (va vn vq : Value) (wr : World) : Prop :=
  ∃ (q ah : Int) (m : Nat) (vis : List Nat), vq = .int .u32 q ∧ va = .int .u32 ah ∧ vn = .int .i64 m ∧ 0 ≤ q ∧ q < 4294967296 ∧ 0 ≤ ah ∧ ah < 4294967296 ∧ m ≤ vis.length ∧ vis.Nodup ∧ (∀ y ∈ vis, y < P) ∧ plL f vs t P (P + 1 - vis.length) q ah m vis = res ∧
    LS w0 b t p s ad n c vs (.slice (some ⟨g, 0, none⟩) P P) mb (mlOf vis) wr ∧ AtR w0 b mb g P al ad wr ∧ wr.cell? ⟨kb, 0, none⟩ = some (.int .i64 k) ∧ wr.cell? ⟨kb2, 0, none⟩ = some (.pointer (some ⟨b, 0, none⟩)) ∧ (∀ k' : Nat, k' ≠ mb → k' < W.heap.size → wr.heap[k']? = W.heap[k']?) ∧ W.heap.size ≤ wr.heap.size
set_option maxHeartbeats 2000000 in
set_option maxRecDepth 100000 in
theorem plistb_any (w0 W : World) (k : Int) (hd g P kb kb2 : Nat) (vis : List Nat) (al : List (Int × Int × Int)) (h : LS w0 b t p s ad n c vs (.slice (some ⟨g, 0, none⟩) P P) mb (mlOf vis) W) (hA : AtR w0 b mb g P al ad W) (hP : p = P)
    (hlen : ∀ x ∈ al, x.1 = 1 → 1 ≤ x.2.1 ∧ x.2.1 ≤ 1024) (hk : W.cell? ⟨kb, 0, none⟩ = some (.int .i64 k)) (hk2 : W.cell? ⟨kb2, 0, none⟩ = some (.pointer (some ⟨b, 0, none⟩))) (hd1 : hd < n) (hv : ad.block < w0.heap.size) (hnd : vis.Nodup) (hvis : ∀ y ∈ vis, y < P) :
    Calls Tryz.prog 142 #[.pointer (some ⟨b, 0, none⟩), .int .i64 hd, .func (.func 140) #[] #[.pointer (some ⟨kb2, 0, none⟩), .pointer (some ⟨kb, 0, none⟩)]] W fun e W' =>
      ∃ r, r = plL (bnB al k) vs t P (P + 1 - vis.length) (vs.getD hd 0) 0 0 vis ∧ e = .returned (.tuple #[.int .i64 r.1, .bool r.2.1]) ∧ LS w0 b t p s ad n c vs (.slice (some ⟨g, 0, none⟩) P P) mb (mlOf r.2.2) W' ∧ AtR w0 b mb g P al ad W' ∧ (∀ k' : Nat, k' ≠ mb → k' < W.heap.size → W'.heap[k']? = W.heap[k']?) ∧ W.heap.size ≤ W'.heap.size := by
  subst hP
  obtain ⟨b1, b2, b3, b4, b5, b6, b7⟩ := h.lk.xv.bd
  have HG := Lib.hid (fun (w : World) (h : LK b t P s ad n c vs (.slice (some ⟨g, 0, none⟩) P P) mb w) => pget_any hd w h hd1)
  have hu := getD_u32 h.lk.xv.u32 hd
  have H0 := Lib.hid h
  have A0 := Lib.hid hA
  have HK := Lib.hid (And.intro hk hk2)
  have hvl := VS.length_le_of_nodup P vis hnd hvis
  have hkm : kb ≠ mb := by
    rintro rfl
    obtain ⟨es, clk, h1, -⟩ := h.map
    simp [World.cell?, h1] at hk
  have hkm2 : kb2 ≠ mb := by
    rintro rfl
    obtain ⟨es, clk, h1, -⟩ := h.map
    simp [World.cell?, h1] at hk2
  have hbm := h.ne
  generalize hres : plL (bnB al k) vs t P (P + 1 - vis.length) (vs.getD hd 0) 0 0 vis = res
  have HRes := Lib.hid hres
  unfold VS.U32 at hu
  clear hres h hA hk hk2
  go_enter Tryz.func142, Tryz.ntmps142
  go_wp2_with fail
  refine (HG.out _ H0.out.lk).mono ?_
  rintro e w1 ⟨rfl, d1⟩
  generalize vs.getD hd 0 = q0 at *
  have hstart : PlRel w0 W b t P s ad n c vs mb g P kb kb2 k al (bnB al k) res (.int .u32 0) (.int .i64 0) (.int .u32 q0) w1 := by
    refine ⟨q0, 0, 0, vis, rfl, rfl, rfl, by omega, by omega, by omega, by omega, by omega, hnd, hvis, HRes.out, H0.out.keep d1, A0.out.keep d1, (d1.cell (World.block_lt_of_cell? _ _ HK.out.1)).trans HK.out.1, (d1.cell (World.block_lt_of_cell? _ _ HK.out.2)).trans HK.out.2, fun k' _ hk' => d1.block k' hk', d1.size⟩
  clear d1 HRes
  go_wp2
  go_loopw [8, 9, 10] (fun va vn vq wr => PlRel w0 W b t P s ad n c vs mb g P kb kb2 k al (bnB al k) res va vn vq wr) (fun _ vn _ _ => P + 1 - (intOf vn).toNat)
  case atStart => exact hstart
  case round =>
    clear hstart
    obtain ⟨q, ah, m, vi, rfl, rfl, rfl, z0, z1, z2, z3, hm, hnd2, hvis2, hpl, hL, hA, hk, hk2, hsame, hsz⟩ := hrel
    have hvl2 := VS.length_le_of_nodup P vi hnd2 hvis2
    obtain ⟨fu, hfu⟩ : ∃ fu, P + 1 - vi.length = fu + 1 := ⟨P - vi.length, by omega⟩
    rw [hfu] at hpl
    have HFu := Lib.hid hfu
    clear hfu
    unfold plL at hpl
    by_cases hq0 : q = 0
    · rw [if_pos hq0] at hpl
      subst hq0
      have HP := Lib.hid hpl
      have HL := Lib.hid hL
      have HA := Lib.hid hA
      have HS := Lib.hid (And.intro hsame hsz)
      clear hpl hL hA hk hk2 hsame hsz
      go_wp2
      exact bodyPost_ret (v := .tuple #[.int .i64 m, .bool true]) (by simp [results, Tryz.results142, go_sem]) rfl ⟨res, rfl, by rw [← HP.out], by rw [← HP.out]; exact HL.out, HA.out, HS.out.1, HS.out.2⟩
    · rw [if_neg hq0] at hpl
      obtain ⟨x, hqx⟩ : ∃ x : Nat, q - 1 = (x : Int) := ⟨(q - 1).toNat, by omega⟩
      rw [hqx, Int.toNat_natCast] at hpl
      have hqb : (q != 0) = true := by simpa using hq0
      obtain ⟨⟨c0, c1, c2⟩, c3, c4, c5⟩ := hL.lk.cells
      have hlkq := run_lookup_ok (P := Tryz.prog) hL.map uMap Tryz.underlying3 (zInt _) (x : Int) false
      simp only [Bool.false_eq_true, if_false] at hlkq
      rw [assoc_ml] at hlkq
      by_cases hPx : (P : Int) ≤ x
      · rw [if_pos (Or.inl hPx)] at hpl
        have HP := Lib.hid hpl
        have HL := Lib.hid hL
        have HA := Lib.hid hA
        have HS := Lib.hid (And.intro hsame hsz)
        clear hpl hL hA hk hk2 hsame hsz hlkq
        go_wp2
        exact bodyPost_ret (v := .tuple #[.int .i64 0, .bool false]) (by simp [results, Tryz.results142, go_sem]) rfl ⟨res, rfl, by rw [← HP.out]; rfl, by rw [← HP.out]; exact HL.out, HA.out, HS.out.1, HS.out.2⟩
      · have hPx2 : (x : Int) < P := by omega
        have hPxn : x < P := by omega
        by_cases hxv : x ∈ vi
        · rw [if_pos (Or.inr (Or.inl hxv))] at hpl
          rw [if_pos hxv] at hlkq
          have HP := Lib.hid hpl
          have HL := Lib.hid hL
          have HA := Lib.hid hA
          have HS := Lib.hid (And.intro hsame hsz)
          clear hpl hL hA hk hk2 hsame hsz hPx
          go_wp2
          exact bodyPost_ret (v := .tuple #[.int .i64 0, .bool false]) (by simp [results, Tryz.results142, go_sem]) rfl ⟨res, rfl, by rw [← HP.out]; rfl, by rw [← HP.out]; exact HL.out, HA.out, HS.out.1, HS.out.2⟩
        · rw [if_neg hxv] at hlkq
          have HB := Lib.hid (pbinned1_any w0 wr (mlOf vi) g P x kb kb2 k al hL hA hPxn hlen hk hk2)
          have HL := Lib.hid hL
          have HA := Lib.hid hA
          have HS := Lib.hid (And.intro hsame hsz)
          have HKK := Lib.hid (And.intro hk hk2)
          have HP := Lib.hid hpl
          clear hpl hL hA hk hk2 hsame hsz hPx
          generalize bnB al k x = bx at *
          go_wp2_with fail
          refine (HB.out).mono ?_
          rintro e w2 ⟨rfl, d2⟩
          have hx3 := HL.out.lk.xv.cx (q := x) (part := 3) (by omega) (by omega) (by omega) (by omega)
          have hx2 := HL.out.lk.xv.cx (q := x) (part := 2) (by omega) (by omega) (by omega) (by omega)
          have H3 := Lib.hid (fun w => ppprev_any t P s x w)
          rw [hx3.2] at H3
          have H2 := Lib.hid (fun w => ppnext_any t P s x w)
          rw [hx2.2] at H2
          have G3 := Lib.hid (fun (w : World) (h : LK b t P s ad n c vs (.slice (some ⟨g, 0, none⟩) P P) mb w) => pget_any (cix t x 3) w h hx3.1)
          have G2 := Lib.hid (fun (w : World) (h : LK b t P s ad n c vs (.slice (some ⟨g, 0, none⟩) P P) mb w) => pget_any (cix t x 2) w h hx2.1)
          have hd3 : vs.getD (cix t x 3) 0 = gv vs t x 3 := rfl
          have hd2 : vs.getD (cix t x 2) 0 = gv vs t x 2 := rfl
          rw [hd3] at G3
          rw [hd2] at G2
          have hgu := HL.out.lk.xv.gu x 2
          have hL2 := HL.out.keep d2
          have HL2 := Lib.hid hL2
          obtain ⟨⟨c0, c1, c2⟩, c3, c4, c5⟩ := hL2.lk.cells
          clear hL2 hx3 hx2 hd3 hd2
          generalize gv vs t x 3 = pv at *
          generalize gv vs t x 2 = nv at *
          generalize cix t x 3 = x3 at *
          generalize cix t x 2 = x2 at *
          cases bx
          · rw [if_pos (Or.inr (Or.inr (Or.inl rfl)))] at HP
            have DD := Lib.hid d2
            go_wp2
            exact bodyPost_ret (v := .tuple #[.int .i64 0, .bool false]) (by simp [results, Tryz.results142, go_sem]) rfl ⟨res, rfl, by rw [← HP.out]; rfl, by rw [← HP.out]; exact HL.out.keep DD.out, HA.out.keep DD.out, fun k' h1 h2 => (DD.out.block k' (Nat.lt_of_lt_of_le h2 HS.out.2)).trans (HS.out.1 k' h1 h2), Nat.le_trans HS.out.2 DD.out.size⟩
          · go_wp2_with fail
            refine (H3.out _).mono ?_
            rintro e w3 ⟨rfl, d3⟩
            have HL3 := Lib.hid (HL2.out.keep d3)
            go_wp2_with fail
            refine (G3.out _ HL3.out.lk).mono ?_
            rintro e w4 ⟨rfl, d4⟩
            have HL4 := Lib.hid (HL3.out.keep d4)
            have DD := Lib.hid (d2.trans ((d3.trans (d4.mono d3.size)).mono d2.size))
            clear d2 d3 d4 c0 c1 c2 c3 c4 c5
            obtain ⟨⟨c0, c1, c2⟩, c3, c4, c5⟩ := HL4.out.lk.cells
            by_cases hpa : pv = ah
            · subst hpa
              rw [if_neg (by simp [hxv, hPxn])] at HP
              obtain ⟨w5, hrun, hm5, hg5⟩ := run_update (P := Tryz.prog) HL4.out.map uMap Tryz.underlying3 (x : Int) 1
              rw [upsert_ml x vi hxv] at hm5
              have HL5 := Lib.hid (HL4.out.grownMap hv hg5 hm5)
              have HA5 := Lib.hid ((HA.out.keep DD.out).grownMap hg5)
              obtain ⟨⟨e0, e1, e2⟩, e3, e4, e5⟩ := HL5.out.lk.cells
              have hk5 := hg5.cell ((DD.out.cell (World.block_lt_of_cell? _ _ HKK.out.1)).trans HKK.out.1) (by simp; exact hkm)
              have hk52 := hg5.cell ((DD.out.cell (World.block_lt_of_cell? _ _ HKK.out.2)).trans HKK.out.2) (by simp; exact hkm2)
              have HKK5 := Lib.hid (And.intro hk5 hk52)
              have HS5 : Hid ((∀ k' : Nat, k' ≠ mb → k' < W.heap.size → w5.heap[k']? = W.heap[k']?) ∧ W.heap.size ≤ w5.heap.size) := Lib.hid ⟨fun k' h1 h2 => (hg5.block k' (Nat.lt_of_lt_of_le (Nat.lt_of_lt_of_le h2 HS.out.2) DD.out.size) (by simp; exact h1)).trans ((DD.out.block k' (Nat.lt_of_lt_of_le h2 HS.out.2)).trans (HS.out.1 k' h1 h2)), Nat.le_trans (Nat.le_trans HS.out.2 DD.out.size) hg5.size⟩
              have hnd5 : (vi ++ [x]).Nodup := by
                rw [List.nodup_append]
                exact ⟨hnd2, by simp, fun a ha c hc e => by simp at hc; subst hc; subst e; exact hxv ha⟩
              have hvis5 : ∀ y ∈ vi ++ [x], y < P := by
                intro y hy
                simp at hy
                rcases hy with hy | rfl
                · exact hvis2 y hy
                · exact hPxn
              have hvl5 := VS.length_le_of_nodup P _ hnd5 hvis5
              have HN5 := Lib.hid (And.intro hnd5 hvis5)
              clear hm5 hg5 hk5 hk52 hnd5 hvis5
              go_wp2_with fail
              refine (H2.out _).mono ?_
              rintro e w6 ⟨rfl, d6⟩
              have HL6 := Lib.hid (HL5.out.keep d6)
              go_wp2_with fail
              refine (G2.out _ HL6.out.lk).mono ?_
              rintro e w7 ⟨rfl, d7⟩
              have D7 := Lib.hid (d6.trans (d7.mono d6.size))
              clear d6 d7
              go_wp2
              go_roundw
              case rel =>
                refine ⟨nv, q, m + 1, vi ++ [x], rfl, rfl, by go_num, by omega, by omega, by omega, by omega, by simp; omega, HN5.out.1, HN5.out.2, ?_, HL5.out.keep D7.out, HA5.out.keep D7.out, (D7.out.cell (World.block_lt_of_cell? _ _ HKK5.out.1)).trans HKK5.out.1, (D7.out.cell (World.block_lt_of_cell? _ _ HKK5.out.2)).trans HKK5.out.2, fun k' h1 h2 => (D7.out.block k' (Nat.lt_of_lt_of_le h2 HS5.out.2)).trans (HS5.out.1 k' h1 h2), Nat.le_trans HS5.out.2 D7.out.size⟩
                rw [← HP.out]
                have := HFu.out
                congr 1
                simp
                omega
              case measure => simp [intOf] at hvl5 ⊢; omega
            · rw [if_pos (Or.inr (Or.inr (Or.inr hpa)))] at HP
              have hpb : (pv != ah) = true := by simpa using hpa
              go_wp2
              exact bodyPost_ret (v := .tuple #[.int .i64 0, .bool false]) (by simp [results, Tryz.results142, go_sem]) rfl ⟨res, rfl, by rw [← HP.out]; rfl, by rw [← HP.out]; exact HL.out.keep DD.out, HA.out.keep DD.out, fun k' h1 h2 => (DD.out.block k' (Nat.lt_of_lt_of_le h2 HS.out.2)).trans (HS.out.1 k' h1 h2), Nat.le_trans HS.out.2 DD.out.size⟩
end
end Go.Proofs.YtkhanbedcmmlcaaGreatDoor
/- the program's audit: count, binned. -/
set_option linter.unusedSimpArgs false
set_option linter.unusedVariables false
namespace Go.Proofs.YtkhanbedcmmlcaaGreatDoor
open Go.RowKit
section
variable {b : Nat} {t p s : Int} {ad : Addr} {n c : Nat} {vs : List Int} {mb : Nat}
def cntN (f : Nat → Bool) : Nat → Nat
  | 0 => 0
  | k + 1 => cntN f k + if f k then 1 else 0
theorem cntN_le (f : Nat → Bool) : ∀ k, cntN f k ≤ k
  | 0 => Nat.le_refl _
  | k + 1 => by have := cntN_le f k; unfold cntN; split <;> omega
def CbRel (f : Nat → Bool) (P : Nat) (W : World) (vn vi : Value) (wr : World) : Prop := ∃ k : Nat, k ≤ P ∧ vi = .int .i64 k ∧ vn = .int .i64 (cntN f k) ∧ Below W.heap.size W wr
set_option maxHeartbeats 2000000 in
set_option maxRecDepth 100000 in
theorem pcountb_any (w0 W : World) (k : Int) (g P kb kb2 : Nat) (ml : List (Int × Int)) (al : List (Int × Int × Int)) (h : LS w0 b t p s ad n c vs (.slice (some ⟨g, 0, none⟩) P P) mb ml W) (hA : AtR w0 b mb g P al ad W) (hP : P ≤ 1024)
    (hlen : ∀ x ∈ al, x.1 = 1 → 1 ≤ x.2.1 ∧ x.2.1 ≤ 1024) (hk : W.cell? ⟨kb, 0, none⟩ = some (.int .i64 k)) (hk2 : W.cell? ⟨kb2, 0, none⟩ = some (.pointer (some ⟨b, 0, none⟩))) :
    Calls Tryz.prog 144 #[.pointer (some ⟨b, 0, none⟩), .func (.func 140) #[] #[.pointer (some ⟨kb2, 0, none⟩), .pointer (some ⟨kb, 0, none⟩)]] W fun e W' =>
      e = .returned (.int .i64 (cntN (bnB al k) P)) ∧ Below W.heap.size W W' := by
  obtain ⟨-, -, c4, -⟩ := h.lk.cells
  have H0 := Lib.hid h
  have A0 := Lib.hid hA
  have HK := Lib.hid (And.intro hk hk2)
  clear h hA hk hk2
  go_enter Tryz.func144, Tryz.ntmps144
  go_wp2
  go_loopw [5, 12] (fun vn vi wr => CbRel (bnB al k) P W vn vi wr) (fun _ vi _ => P - (intOf vi).toNat)
  case atStart => exact ⟨0, by omega, rfl, rfl, Below.refl _ _⟩
  case round =>
    clear c4
    obtain ⟨q, hq, rfl, rfl, hb⟩ := hrel
    have hcl := cntN_le (bnB al k) q
    by_cases hlt : q < P
    · have HB := Lib.hid (pbinned1_any w0 wr ml g P q kb kb2 k al (H0.out.keep hb) (A0.out.keep hb) hlt hlen ((hb.cell (World.block_lt_of_cell? _ _ HK.out.1)).trans HK.out.1) ((hb.cell (World.block_lt_of_cell? _ _ HK.out.2)).trans HK.out.2))
      have HX := Lib.hid hb
      have hs : cntN (bnB al k) (q + 1) = cntN (bnB al k) q + if bnB al k q then 1 else 0 := rfl
      have HS := Lib.hid hs
      have hqP : (q : Int) < P := by omega
      clear hb hs
      generalize bnB al k q = z at *
      generalize cntN (bnB al k) q = m at *
      cases z
      · go_wp2_with fail
        refine (HB.out).mono ?_
        rintro e w2 ⟨rfl, d2⟩
        go_wp2
        go_roundw
        case rel => exact ⟨q + 1, by omega, by go_num, by rw [HS.out]; simp, HX.out.trans (d2.mono HX.out.size)⟩
        case measure => simp [intOf]; omega
      · go_wp2_with fail
        refine (HB.out).mono ?_
        rintro e w2 ⟨rfl, d2⟩
        go_wp2
        go_roundw
        case rel => exact ⟨q + 1, by omega, by go_num, by rw [HS.out]; simp, HX.out.trans (d2.mono HX.out.size)⟩
        case measure => simp [intOf]; omega
    · have h1 : q = P := by omega
      rw [h1]
      go_wp2
      go_ret
      exact ⟨rfl, hb⟩
theorem plL_nd {f : Nat → Bool} {vs : List Int} {t : Int} {P : Nat} : ∀ (m : Nat) (q ah : Int) (k : Nat) (vis : List Nat), vis.Nodup → (∀ y ∈ vis, y < P) → 0 ≤ q → (∀ q part, 0 ≤ gv vs t q part) → (plL f vs t P m q ah k vis).2.2.Nodup ∧ ∀ y ∈ (plL f vs t P m q ah k vis).2.2, y < P
  | 0, q, ah, k, vis, h1, h2, _, _ => ⟨h1, h2⟩
  | m + 1, q, ah, k, vis, h1, h2, h3, h4 => by
    unfold plL
    by_cases e : q = 0
    · rw [if_pos e]; exact ⟨h1, h2⟩
    · rw [if_neg e]
      by_cases e2 : (P : Int) ≤ q - 1 ∨ (q - 1).toNat ∈ vis ∨ f (q - 1).toNat = false ∨ gv vs t (q - 1) 3 ≠ ah
      · rw [if_pos e2]; exact ⟨h1, h2⟩
      · rw [if_neg e2]
        have a1 : ¬ (P : Int) ≤ q - 1 := fun h => e2 (Or.inl h)
        have a2 : (q - 1).toNat ∉ vis := fun h => e2 (Or.inr (Or.inl h))
        refine plL_nd m _ _ _ _ ?_ ?_ (h4 _ _) h4
        · rw [List.nodup_append]
          exact ⟨h1, by simp, fun a ha c hc e => by simp only [List.mem_singleton] at hc; subst hc; subst e; exact a2 ha⟩
        · intro y hy
          simp at hy
          rcases hy with hy | rfl
          · exact h2 y hy
          · omega
/-- what binned and racked answer. -/
def BnP (w0 W : World) (b : Nat) (t p s : Int) (ad : Addr) (n c : Nat) (vs : List Int) (mb g P : Nat) (al : List (Int × Int × Int)) (f : Nat → Bool) (r : Nat × Bool × List Nat) (e : Ending) (W' : World) : Prop :=
  e = .returned (.bool (r.2.1 && r.1 == cntN f P)) ∧ LS w0 b t p s ad n c vs (.slice (some ⟨g, 0, none⟩) P P) mb (mlOf r.2.2) W' ∧ AtR w0 b mb g P al ad W' ∧ (∀ k' : Nat, k' ≠ mb → k' < W.heap.size → W'.heap[k']? = W.heap[k']?) ∧ W.heap.size ≤ W'.heap.size
set_option maxHeartbeats 2000000 in
set_option maxRecDepth 100000 in
theorem pbinned_any (w0 W : World) (k g P : Nat) (hk : k < 11) (vis : List Nat) (al : List (Int × Int × Int)) (h : LS w0 b t p s ad n c vs (.slice (some ⟨g, 0, none⟩) P P) mb (mlOf vis) W) (hA : AtR w0 b mb g P al ad W) (hP : p = P)
    (hlen : ∀ x ∈ al, x.1 = 1 → 1 ≤ x.2.1 ∧ x.2.1 ≤ 1024) (hv : ad.block < w0.heap.size) (hnd : vis.Nodup) (hvis : ∀ y ∈ vis, y < P) :
    Calls Tryz.prog 111 #[.pointer (some ⟨b, 0, none⟩), .int .i64 k] W (BnP w0 W b t p s ad n c vs mb g P al (bnB al k) (plL (bnB al k) vs t P (P + 1 - vis.length) (vs.getD (2 + k) 0) 0 0 vis)) := by
  subst hP
  obtain ⟨b1, b2, b3, b4, b5, b6, b7⟩ := h.lk.xv.bd
  have HB := Lib.hid (fun w => pbin_any k w)
  have hwf : withinF 2 k 11 = ((2 + k : Nat) : Int) := by unfold withinF; rw [if_neg (by omega)]; omega
  rw [hwf] at HB
  have hmW := (h.bs.ls mb (by simp)).1
  have hm1 : W.heap.size ≠ mb := by omega
  have hm2 : W.heap.size + 1 ≠ mb := by omega
  have S0 := ((BS.start W).alloc (.cells #[.pointer (some ⟨b, 0, none⟩)] 69)).alloc (.cells #[.int .i64 k] 3)
  simp only [World.size_alloc] at S0
  have x0 : ((W.alloc (.cells #[.pointer (some ⟨b, 0, none⟩)] 69)).alloc (.cells #[.int .i64 k] 3)).cell? ⟨W.heap.size, 0, none⟩ = some (.pointer (some ⟨b, 0, none⟩)) := loc_old (.cells #[.int .i64 k] 3) (by simp) (loc_alloc W #[.pointer (some ⟨b, 0, none⟩)] 69) 0
  have x1 : ((W.alloc (.cells #[.pointer (some ⟨b, 0, none⟩)] 69)).alloc (.cells #[.int .i64 k] 3)).cell? ⟨W.heap.size + 1, 0, none⟩ = some (.int .i64 k) := by
    simp
  have HL0 := Lib.hid (h.keep S0.bel)
  have HA0 := Lib.hid (hA.keep S0.bel)
  have HLi := Lib.hid (fun (w : World) (hw : LS w0 b t P s ad n c vs (.slice (some ⟨g, 0, none⟩) P P) mb (mlOf vis) w) (ha : AtR w0 b mb g P al ad w) (h1 : w.cell? ⟨W.heap.size + 1, 0, none⟩ = some (.int .i64 k)) (h2 : w.cell? ⟨W.heap.size, 0, none⟩ = some (.pointer (some ⟨b, 0, none⟩))) => plistb_any w0 w k (2 + k) g P (W.heap.size + 1) W.heap.size vis al hw ha rfl hlen h1 h2 (by omega) hv hnd hvis)
  have HCo := Lib.hid (fun (ml : List (Int × Int)) (w : World) (hw : LS w0 b t P s ad n c vs (.slice (some ⟨g, 0, none⟩) P P) mb ml w) (ha : AtR w0 b mb g P al ad w) (h1 : w.cell? ⟨W.heap.size + 1, 0, none⟩ = some (.int .i64 k)) (h2 : w.cell? ⟨W.heap.size, 0, none⟩ = some (.pointer (some ⟨b, 0, none⟩))) => pcountb_any w0 w k g P (W.heap.size + 1) W.heap.size ml al hw ha (by omega) hlen h1 h2)
  generalize plL (bnB al k) vs t P (P + 1 - vis.length) (vs.getD (2 + k) 0) 0 0 vis = res at *
  obtain ⟨rn, rb, rv⟩ := res
  generalize 2 + k = k2 at *
  clear h hA hwf hnd hvis hlen
  go_enter Tryz.func111, Tryz.ntmps111
  go_wp2_with fail
  refine wp_region_noPanic ?_
  refine wp_region_held_drew (S := fun w' => w'.cell? ⟨W.heap.size, 0, none⟩ = some (.pointer (some ⟨b, 0, none⟩)) ∧ w'.cell? ⟨W.heap.size + 1, 0, none⟩ = some (.int .i64 k)) (by kernel_rfl) ?_ (fun hHeld => ?_)
  · exact ⟨x0, x1⟩
  refine wT 0 ?_
  refine wT 1 ?_
  refine wT 3 ?_
  refine wR 2 fun K hK => ?_
  go_simp
  refine (HB.out _).mono ?_
  rintro e w1 ⟨rfl, d1⟩
  have L1 := Lib.hid ((HL0.out.keep (Below.refl _ _).drew).keep d1)
  have A1 := Lib.hid ((HA0.out.keep (Below.refl _ _).drew).keep d1)
  have y0 := (d1.cell (World.block_lt_of_cell? _ _ hHeld.1)).trans hHeld.1
  have y1 := (d1.cell (World.block_lt_of_cell? _ _ hHeld.2)).trans hHeld.2
  have S1 := S0.drew.below d1
  refine hK.out _ _ ?_ (fun hHeld => ?_)
  · exact ⟨y0, y1⟩
  clear hK K
  try simp only [Act.put, zA, zB, zC, zD, zE, zF]
  refine wR 4 fun K hK => ?_
  go_simp
  refine (HLi.out _ L1.out A1.out y1 y0).mono ?_
  rintro e w2 ⟨r, rfl, rfl, hL2, hA2, hs2, hz2⟩
  have z0 : w2.cell? ⟨W.heap.size, 0, none⟩ = some (.pointer (some ⟨b, 0, none⟩)) := (World.cell?_of_block (a := ⟨W.heap.size, 0, none⟩) (hs2 _ hm1 (World.block_lt_of_cell? _ _ y0))).trans y0
  have z1 : w2.cell? ⟨W.heap.size + 1, 0, none⟩ = some (.int .i64 k) := (World.cell?_of_block (a := ⟨W.heap.size + 1, 0, none⟩) (hs2 _ hm2 (World.block_lt_of_cell? _ _ y1))).trans y1
  refine hK.out _ _ ?_ (fun hHeld => ?_)
  · exact ⟨z0, z1⟩
  clear hK K
  try simp only [Act.put, zA, zB, zC, zD, zE, zF]
  refine wT 5 ?_
  refine wT 6 ?_
  refine wT 7 ?_
  refine wT 8 ?_
  refine wT 9 ?_
  refine wpAnyH_done (by kernel_rfl) (NoPanic.normal ?_) _
  have hsAll : ∀ k' : Nat, k' ≠ mb → k' < W.heap.size → w2.heap[k']? = W.heap[k']? := fun k' h1 h2 => (hs2 k' h1 (Nat.lt_of_lt_of_le h2 S1.bel.size)).trans (S1.bel.block k' h2)
  have hzAll : W.heap.size ≤ w2.heap.size := Nat.le_trans S1.bel.size hz2
  have HS := Lib.hid (And.intro hsAll hzAll)
  have HL2 := Lib.hid hL2
  have HA2 := Lib.hid hA2
  clear hs2 hz2 hsAll hzAll hL2 hA2 L1 A1 y0 y1 S1 S0 x0 x1 hHeld d1
  cases rb
  · go_wp2
    go_ret
    exact ⟨rfl, HL2.out, HA2.out, HS.out.1, HS.out.2⟩
  · go_wp2_with fail
    refine (HCo.out _ _ HL2.out HA2.out z1 z0).mono ?_
    rintro e w3 ⟨rfl, d3⟩
    go_wp2
    go_ret
    refine ⟨ret_bool ?_, HL2.out.keep d3, HA2.out.keep d3, fun k' h1 h2 => (d3.block k' (Nat.lt_of_lt_of_le h2 HS.out.2)).trans (HS.out.1 k' h1 h2), Nat.le_trans HS.out.2 d3.size⟩
    simp only [Bool.true_and]
    rw [Bool.eq_iff_iff]
    simp
    try omega
end
end Go.Proofs.YtkhanbedcmmlcaaGreatDoor
