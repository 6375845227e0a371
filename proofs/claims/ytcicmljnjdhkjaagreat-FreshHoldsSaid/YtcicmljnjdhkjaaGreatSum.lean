/- sum: what a register is behind words; the document's sum is the same. -/
import Derived.Test.YtcicmljnjdhkjaaGreatPlace
import Derived.Laws.BitsLemmas
import Derived.Laws.Bits64b
namespace Go.Proofs.YtcicmljnjdhkjaaGreat
open Go.RowKit

def crcS (r : Int) (b : Bool) : Int := if (decide (r % 2 = 1) != b) = true then bits .xor .u32 (r / 2) 2197175160 else r / 2
theorem bits_xor32 (a b : Int) : 0 ≤ bits .xor .u32 a b ∧ bits .xor .u32 a b < 4294967296 := by
  show 0 ≤ IntKind.u32.wrap _ ∧ IntKind.u32.wrap _ < 4294967296
  rw [IntKind.wrap_u32]
  omega
theorem crcS_bd {r : Int} (b : Bool) (h0 : 0 ≤ r) (h1 : r < 4294967296) : 0 ≤ crcS r b ∧ crcS r b < 4294967296 := by
  unfold crcS
  split
  · exact bits_xor32 _ _
  · omega
def crcN (r w : Int) : Nat → Int
  | 0 => r
  | k + 1 => crcS (crcN r w k) (decide (w / 2 ^ k % 2 = 1))
theorem crcN_bd {r : Int} (w : Int) (h0 : 0 ≤ r) (h1 : r < 4294967296) : ∀ k, 0 ≤ crcN r w k ∧ crcN r w k < 4294967296
  | 0 => ⟨h0, h1⟩
  | k + 1 => crcS_bd _ (crcN_bd w h0 h1 k).1 (crcN_bd w h0 h1 k).2
theorem wraps_u32 (n : Int) (h₀ : 0 ≤ n) (h₁ : n < 2 ^ 32) : IntKind.u32.wrap n = n := by rw [IntKind.wrap_u32]; omega
theorem wraps_u64 (n : Int) (h₀ : 0 ≤ n) (h₁ : n < 2 ^ 64) : IntKind.u64.wrap n = n := by rw [IntKind.wrap_u64]; omega
theorem and1_u32 {r : Int} (h0 : 0 ≤ r) (h1 : r < 4294967296) : bits .and .u32 r 1 = r % 2 := bits_mask .u32 32 (by decide) wraps_u32 1 (by decide) r h0 (by omega)
theorem and1_u64 {r : Int} (h0 : 0 ≤ r) (h1 : r < 18446744073709551616) : bits .and .u64 r 1 = r % 2 := bits_mask .u64 64 (by decide) wraps_u64 1 (by decide) r h0 (by omega)
theorem xor1 (a b : Int) (ha : a = 0 ∨ a = 1) (hb : b = 0 ∨ b = 1) : bits .xor .u32 a b = if (decide (a = 1) != decide (b = 1)) = true then 1 else 0 := by
  rcases ha with rfl | rfl <;> rcases hb with rfl | rfl <;> rfl

def NextRel (r x : Int) (w : World) (a b i : Value) (wr : World) : Prop := ∃ k : Nat, k ≤ 64 ∧ i = .int .i64 k ∧ a = .int .u32 (crcN r x k) ∧ b = .int .u64 (x / 2 ^ k) ∧ Below w.heap.size w wr

theorem crcS_00 (r : Int) (h : r % 2 = 0) : crcS r (decide ((0 : Int) = 1)) = r / 2 := by simp [crcS, h]
theorem crcS_01 (r : Int) (h : r % 2 = 0) : crcS r (decide ((1 : Int) = 1)) = bits .xor .u32 (r / 2) 2197175160 := by simp [crcS, h]
theorem crcS_10 (r : Int) (h : r % 2 = 1) : crcS r (decide ((0 : Int) = 1)) = bits .xor .u32 (r / 2) 2197175160 := by simp [crcS, h]
theorem crcS_11 (r : Int) (h : r % 2 = 1) : crcS r (decide ((1 : Int) = 1)) = r / 2 := by simp [crcS, h]
theorem x00 : bits .xor .u32 0 0 = 0 := by decide
theorem x01 : bits .xor .u32 0 1 = 1 := by decide
theorem x10 : bits .xor .u32 1 0 = 1 := by decide
theorem x11 : bits .xor .u32 1 1 = 0 := by decide

def NextRelA (r x : Int) (w : World) (a i : Value) (wr : World) : Prop := ∃ k : Nat, k ≤ 32 ∧ i = .int .i64 k ∧ a = .int .u32 (crcN r x k) ∧ Below w.heap.size w wr
def NextRelB (r x : Int) (w : World) (a i : Value) (wr : World) : Prop := ∃ k : Nat, k ≤ 32 ∧ i = .int .i64 k ∧ a = .int .u32 (crcN r x (32 + k)) ∧ Below w.heap.size w wr
theorem hi_bit (x : Int) (k : Nat) : x / 4294967296 / 2 ^ k = x / 2 ^ (32 + k) := by
  rw [Int.ediv_ediv_of_nonneg (by omega), Int.pow_add]
  rfl
theorem lo_bit (x : Int) (k : Nat) (h : k < 32) : x % 4294967296 / 2 ^ k % 2 = x / 2 ^ k % 2 := by
  have e : (4294967296 : Int) = 2 ^ k * (2 * 2 ^ (31 - k)) := by
    rw [← Int.pow_succ', ← Int.pow_add, show k + (31 - k + 1) = 32 by omega]
    rfl
  have hp : (0 : Int) < 2 ^ k := Int.pow_pos (by omega)
  have hx := Int.emod_def x 4294967296
  generalize x / 4294967296 = q at hx
  rw [hx, e, show x - 2 ^ k * (2 * 2 ^ (31 - k)) * q = x + (-(2 * 2 ^ (31 - k) * q)) * 2 ^ k by rw [Int.neg_mul, Int.mul_comm (2 * 2 ^ (31 - k) * q), Int.mul_assoc (2 ^ k)]; rfl, Int.add_mul_ediv_right _ _ (by omega), Int.mul_assoc]
  generalize 2 ^ (31 - k) * q = z
  omega

theorem snext_any (r x : Int) (w : World) (h0 : 0 ≤ r) (h1 : r < 4294967296) (h2 : 0 ≤ x) (h3 : x < 18446744073709551616) :
    Calls Tryz.prog 176 #[.int .u32 r, .int .u64 x] w fun e w' => e = .returned (.int .u32 (crcN r x 64)) ∧ Below w.heap.size w w' := by
  go_enter Tryz.func176, Tryz.ntmps176
  go_wp2
  go_loopw [0, 1, 6] (fun a b i wr => NextRel r x w a b i wr) (fun _ _ i _ => 64 - (intOf i).toNat)
  case atStart => exact ⟨0, by omega, rfl, rfl, by simp, Below.refl _ _⟩
  case round =>
    obtain ⟨k, hk, rfl, rfl, rfl, hb⟩ := hrel
    by_cases hlt : k < 64
    · obtain ⟨q0, q1⟩ := crcN_bd (r := r) x h0 h1 k
      have y0 : 0 ≤ x / 2 ^ k := Int.ediv_nonneg h2 (Int.pow_nonneg (by omega))
      have y1 : x / 2 ^ k < 18446744073709551616 := Int.lt_of_le_of_lt (Int.ediv_le_self _ h2) h3
      have hn : crcN r x (k + 1) = crcS (crcN r x k) (decide (x / 2 ^ k % 2 = 1)) := rfl
      have hd : x / 2 ^ (k + 1) = x / 2 ^ k / 2 := by rw [Int.pow_succ, Int.ediv_ediv_of_nonneg (Int.pow_nonneg (by omega))]
      generalize crcN r x k = a at *
      generalize x / 2 ^ k = y at *
      have hA := and1_u32 q0 q1
      have hB := and1_u64 y0 y1
      have HD := Lib.hid hd
      have HX := Lib.hid hb
      clear hd hb
      have p00 := x00
      have p01 := x01
      have p10 := x10
      have p11 := x11
      rcases (by omega : a % 2 = 0 ∨ a % 2 = 1) with e1 | e1 <;> rcases (by omega : y % 2 = 0 ∨ y % 2 = 1) with e2 | e2 <;> rw [e1] at hA <;> rw [e2] at hB hn
      · have HN := Lib.hid (hn.trans (crcS_00 a e1))
        clear e1 e2 hn
        go_wp2
        go_roundw
        case rel => exact ⟨k + 1, by omega, by go_num, by rw [HN.out], by rw [HD.out], HX.out⟩
        case measure => simp [intOf]; omega
      · have HN := Lib.hid (hn.trans (crcS_01 a e1))
        clear e1 e2 hn
        go_wp2
        go_roundw
        case rel => exact ⟨k + 1, by omega, by go_num, by rw [HN.out], by rw [HD.out], HX.out⟩
        case measure => simp [intOf]; omega
      · have HN := Lib.hid (hn.trans (crcS_10 a e1))
        clear e1 e2 hn
        go_wp2
        go_roundw
        case rel => exact ⟨k + 1, by omega, by go_num, by rw [HN.out], by rw [HD.out], HX.out⟩
        case measure => simp [intOf]; omega
      · have HN := Lib.hid (hn.trans (crcS_11 a e1))
        clear e1 e2 hn
        go_wp2
        go_roundw
        case rel => exact ⟨k + 1, by omega, by go_num, by rw [HN.out], by rw [HD.out], HX.out⟩
        case measure => simp [intOf]; omega
    · obtain rfl : k = 64 := by omega
      go_wp2
      go_ret
      exact ⟨rfl, hb⟩
theorem sfirst_any (w : World) : Calls Tryz.prog 175 #[] w fun e w' => e = .returned (.int .u32 4294967295) ∧ Below w.heap.size w w' := by
  go_enter Tryz.func175, Tryz.ntmps175
  go_wp2
  go_ret
  exact ⟨rfl, Below.refl _ _⟩
theorem xor_max {r : Int} (h0 : 0 ≤ r) (h1 : r < 4294967296) : bits .xor .u32 IntKind.u32.max r = 4294967295 - r := by
  obtain ⟨a, rfl⟩ := Int.eq_ofNat_of_zero_le h0
  have ha : a < 4294967296 := by omega
  have h2 : (BitVec.ofInt 32 (a : Int)).toNat = a := by
    rw [BitVec.ofInt_natCast, BitVec.toNat_ofNat]; exact Nat.mod_eq_of_lt (by omega)
  have h3 : BitVec.ofInt 32 IntKind.u32.max = BitVec.allOnes 32 := by decide
  show IntKind.u32.wrap ((BitVec.ofInt 32 IntKind.u32.max ^^^ BitVec.ofInt 32 (a : Int)).toNat : Int) = _
  rw [h3, BitVec.allOnes_xor, BitVec.toNat_not, h2, IntKind.wrap_u32]
  omega
theorem slast_any (r : Int) (w : World) (h0 : 0 ≤ r) (h1 : r < 4294967296) : Calls Tryz.prog 177 #[.int .u32 r] w fun e w' => e = .returned (.int .u32 (4294967295 - r)) ∧ Below w.heap.size w w' := by
  have hx := xor_max h0 h1
  go_enter Tryz.func177, Tryz.ntmps177
  go_wp2
  go_ret
  exact ⟨rfl, Below.refl _ _⟩
theorem rbitw_any (v : Int) (i : Nat) (b : Bool) (w : World) (h : i < 32) (h1 : 0 ≤ v) (hb : decide (v / 2 ^ i % 2 = 1) = b) :
    Calls Tryz.prog 136 #[.int .u32 v, .int .i64 i] w fun e w' => e = .returned (.bool b) ∧ Below w.heap.size w w' := by
  have hd : 0 ≤ v / 2 ^ i := Int.ediv_nonneg h1 (Int.pow_nonneg (by omega))
  go_enter Tryz.func136, Tryz.ntmps136
  go_wp2
  go_ret
  exact ⟨ret_bool (by rw [← hb]; rfl), Below.refl _ _⟩
def sumR (l : List Int) : Nat → Int
  | 0 => 4294967295
  | k + 1 => crcN (sumR l k) (l.getD k 0) 64
theorem sumR_bd (l : List Int) : ∀ k, 0 ≤ sumR l k ∧ sumR l k < 4294967296
  | 0 => ⟨by unfold sumR; omega, by unfold sumR; omega⟩
  | k + 1 => crcN_bd _ (sumR_bd l k).1 (sumR_bd l k).2 64
def sumF (l : List Int) : Int := 4294967295 - sumR l l.length
theorem sumF_bd (l : List Int) : 0 ≤ sumF l ∧ sumF l < 4294967296 := by have := sumR_bd l l.length; unfold sumF; omega
def SumWRel (l : List Int) (w : World) (a i : Value) (wr : World) : Prop := ∃ k : Nat, k ≤ l.length ∧ i = .int .i64 k ∧ a = .int .u32 (sumR l k) ∧ Below w.heap.size w wr
theorem u64s_get {l : List Int} (h : ∀ x ∈ l, 0 ≤ x ∧ x < 18446744073709551616) (k : Nat) : 0 ≤ l.getD k 0 ∧ l.getD k 0 < 18446744073709551616 := by
  rw [List.getD_eq_getElem?_getD]
  cases h2 : l[k]? with
  | none => simp
  | some x => exact h x (List.mem_of_getElem? h2)
theorem ssum_any (l : List Int) (g : Nat) (w : World) (hl : l.length ≤ 1000) (hu : ∀ x ∈ l, 0 ≤ x ∧ x < 18446744073709551616) (hg : g < w.heap.size) (hc : ∀ j, j < l.length → w.cell? ⟨g, j, none⟩ = some (.int .u64 (l.getD j 0))) :
    Calls Tryz.prog 115 #[.slice (some ⟨g, 0, none⟩) l.length l.length] w fun e w' => e = .returned (.int .u32 (sumF l)) ∧ Below w.heap.size w w' := by
  have HN := Lib.hid (fun k w => snext_any (sumR l k) (l.getD k 0) w (sumR_bd l k).1 (sumR_bd l k).2 (u64s_get hu k).1 (u64s_get hu k).2)
  go_enter Tryz.func115, Tryz.ntmps115
  go_wp2_with fail
  refine (sfirst_any _).mono ?_
  rintro e w1 ⟨rfl, b1⟩
  go_wp2_with fail
  go_loopw [3, 9] (fun a i wr => SumWRel l w a i wr) (fun _ i _ => l.length - (intOf i).toNat)
  case atStart => exact ⟨0, by omega, rfl, rfl, b1⟩
  case round =>
    clear b1
    obtain ⟨k, hk, rfl, rfl, hb⟩ := hrel
    have HX := Lib.hid hb
    by_cases hlt : k < l.length
    · have c0 := (hb.cell (p := ⟨g, k, none⟩) hg).trans (hc k hlt)
      have hs : sumR l (k + 1) = crcN (sumR l k) (l.getD k 0) 64 := rfl
      have HS := Lib.hid hs
      have HK := Lib.hid (HN.out k)
      clear hs hb hc HN hu
      generalize l.getD k 0 = x at *
      generalize sumR l k = r at *
      generalize crcN r x 64 = y at *
      go_wp2_with fail
      refine (HK.out _).mono ?_
      rintro e w1 ⟨rfl, b1⟩
      go_wp2
      go_roundw
      case rel => exact ⟨k + 1, by omega, by go_num, by rw [HS.out], HX.out.trans (b1.mono HX.out.size)⟩
      case measure => simp [intOf]; omega
    · have h32 := Lib.hid (show k = l.length by omega)
      obtain ⟨r0, r1⟩ := sumR_bd l k
      have HL := Lib.hid (fun w => slast_any (sumR l k) w r0 r1)
      clear hb hc HN hu
      have HF := Lib.hid (show sumF l = 4294967295 - sumR l k by rw [h32.out]; rfl)
      generalize sumR l k = r at *
      go_wp2_with fail
      refine (HL.out _).mono ?_
      rintro e w1 ⟨rfl, b1⟩
      go_wp2
      go_ret
      exact ⟨ret_int HF.out.symm, HX.out.trans (b1.mono HX.out.size)⟩
end Go.Proofs.YtcicmljnjdhkjaaGreat
