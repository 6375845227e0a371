/- tell: the document's numbers and operations. -/
import Derived.Test.YtloilknkhloegaaDoorTxt
set_option linter.unusedSimpArgs false
set_option linter.unusedVariables false
namespace Go.Proofs.YtloilknkhloegaaDoor
open Go.RowKit

theorem ret_str {a b : ByteArray} (h : a = b) : Ending.returned (.string a) = Ending.returned (.string b) := by rw [h]

/-- what is left to write of a number, ahead of what is written. -/
def moreD (u : Nat) (s : List UInt8) : List UInt8 := if u = 0 ∧ s ≠ [] then s else Lib.decDigits u ++ s
theorem moreD_step (u : Nat) (s : List UInt8) (h : 0 < u ∨ s = []) : moreD (u / 10) (UInt8.ofNat (48 + u % 10) :: s) = moreD u s := by
  have hu : moreD u s = Lib.decDigits u ++ s := by
    unfold moreD
    rw [if_neg]
    rintro ⟨rfl, h2⟩
    rcases h with h | h
    · omega
    · exact h2 h
  rw [hu]
  by_cases h10 : u < 10
  · rw [Lib.decDigits_one h10]
    unfold moreD
    rw [if_pos ⟨by omega, by simp⟩, Nat.mod_eq_of_lt h10]
    rfl
  · unfold moreD
    rw [if_neg (by omega), Lib.decDigits.eq_1 u, dif_neg h10]
    simp
def absN (n : Int) : Nat := n.natAbs
theorem itoa_abs (n : Int) : Lib.itoa n = if n < 0 then 45 :: Lib.decDigits (absN n) else Lib.decDigits (absN n) := by
  unfold Lib.itoa absN
  split
  · rfl
  · rw [show n.toNat = n.natAbs by omega]
def strLen : Value → Nat
  | .string s => s.size
  | _ => 0
def digM (u s : Value) : Nat := 2 * (intOf u).toNat + (1 - strLen s)
def DigRel (n : Int) (w : World) (u s : Value) (wr : World) : Prop := ∃ (k : Nat) (l : List UInt8), k < 18446744073709551616 ∧ u = .int .u64 k ∧ s = .string (bs l) ∧ moreD k l = Lib.decDigits (absN n) ∧ Below w.heap.size w wr

theorem conv_one (x : Nat) (y : Int) (hy : y = (x : Int)) (hx : x < 256) (T : Nat) (w : World) : (convert 92 9 (.slice (some ⟨w.heap.size, 0, none⟩) 1 1)).run Tryd.prog (w.alloc (.cells #[.int .u8 y] T)) = .ok (.string (bs [UInt8.ofNat x])) (w.alloc (.cells #[.int .u8 y] T)) := by
  subst hy
  refine run_convert_bytes_back (w.alloc (.cells #[.int .u8 (x : Int)] T)) 92 9 5 ⟨w.heap.size, 0, none⟩ 1 [UInt8.ofNat x] Tryd.underlying92 Tryd.underlying5 Tryd.underlying9 (fun j hj => ?_)
  simp at hj
  subst hj
  rw [cell_one_new w _ T 0 _ rfl]
  simp
  omega

theorem bs_cat (a b : List UInt8) : bs a ++ bs b = bs (a ++ b) := ByteArray.mk_append_mk a b
theorem moreD_len (k : Nat) (l : List UInt8) : l.length ≤ (moreD k l).length := by
  unfold moreD
  split
  · exact Nat.le_refl _
  · simp
theorem dig_step {n : Int} {w wr : World} {k : Nat} {l : List UInt8} (o : Obj) {u : Int} {c : UInt8} (hu : u = ((k / 10 : Nat) : Int)) (hcc : c = UInt8.ofNat (48 + k % 10)) (hk : k < 18446744073709551616) (hc : 0 < k ∨ l = [])
    (hm : moreD k l = Lib.decDigits (absN n)) (hb : Below w.heap.size w wr) : DigRel n w (.int .u64 u) (.string (bs [c] ++ bs l)) (wr.alloc o) := by
  subst hu hcc
  exact ⟨k / 10, UInt8.ofNat (48 + k % 10) :: l, by omega, rfl, by rw [bs_cat]; rfl, by rw [moreD_step k l hc]; exact hm, hb.alloc hb.size _⟩
theorem dig_less {k : Nat} {l : List UInt8} {u : Int} (c : UInt8) (hu : u = ((k / 10 : Nat) : Int)) (hc : 0 < k ∨ l = []) : digM (.int .u64 u) (.string (bs [c] ++ bs l)) < digM (.int .u64 k) (.string (bs l)) := by
  subst hu
  rw [bs_cat]
  simp only [digM, intOf, strLen, ByteArray.size, List.size_toArray, List.length_append, List.length_cons, List.length_nil]
  rcases hc with hc | rfl
  · omega
  · simp
    omega
theorem dig_end {k : Nat} {n : Int} {l : List UInt8} (hk : k = 0) (hl : l ≠ []) (hm : moreD k l = Lib.decDigits (absN n)) : Lib.decDigits (absN n) = l := by
  rw [← hm, moreD, if_pos ⟨hk, hl⟩]
set_option maxHeartbeats 1000000 in
set_option maxRecDepth 100000 in
theorem digits_pos (n : Int) (w : World) (h : inI n) (hn : ¬ n < 0) :
    Calls Tryd.prog 30 #[.int .i64 n] w fun e w' => e = .returned (.string (bs (Lib.itoa n))) ∧ Below w.heap.size w w' := by
  have h1 := h.1
  have h2 := h.2
  have ha : absN n < 18446744073709551616 := by unfold absN; omega
  have HA := Lib.hid ha
  have hi := itoa_abs n
  rw [if_neg hn] at hi
  have hdl : (Lib.decDigits (absN n)).length ≤ 21 := by have := itoa_len h; rw [hi] at this; exact this
  have HDL := Lib.hid hdl
  have hu : n = (absN n : Int) := by unfold absN; omega
  have HI := Lib.hid hi
  have HU := Lib.hid hu
  clear ha hdl h hi hu
  go_enter Tryd.func30, Tryd.ntmps30
  go_wp2
  go_loopw [3, 4] (fun u s wr => DigRel n w u s wr) (fun u s _ => digM u s)
  case atStart => exact ⟨absN n, [], HA.out, by rw [← HU.out], rfl, by simp [moreD], Below.refl _ _⟩
  case round =>
    obtain ⟨k, l, hk, rfl, rfl, hm, hb⟩ := hrel
    have hlen2 : l.length ≤ 21 := by have := moreD_len k l; rw [hm] at this; exact Nat.le_trans this HDL.out
    have HM := Lib.hid hm
    have HB := Lib.hid hb
    clear hm hb
    by_cases h0 : 0 < k
    · have hki : (0 : Int) < k := by omega
      have hc := conv_one (48 + k % 10) (48 + (k : Int) % 10) (by omega) (by omega) 5 wr
      go_wp2
      go_roundw
      case rel => exact dig_step _ (by omega) (by simp) hk (Or.inl h0) HM.out HB.out
      case measure => exact dig_less _ (by omega) (Or.inl h0)
    · obtain rfl : k = 0 := by omega
      by_cases hl : l = []
      · subst hl
        have hc := conv_one 48 48 (by omega) (by omega) 5 wr
        go_wp2
        exact ⟨dig_step (k := 0) _ (by omega) (by simp) hk (Or.inr rfl) HM.out HB.out, dig_less (k := 0) _ (by omega) (Or.inr rfl)⟩
      · have he : (l == []) = false := by simpa using hl
        have hd : l.isEmpty = false := by cases l; exact absurd rfl hl; rfl
        have HE := Lib.hid (dig_end rfl hl HM.out)
        clear hl HM
        go_wp2
        go_ret
        exact ⟨ret_str (by rw [HI.out, HE.out]), HB.out⟩
set_option maxHeartbeats 1000000 in
set_option maxRecDepth 100000 in
theorem digits_neg (n : Int) (w : World) (h : inI n) (hn : n < 0) :
    Calls Tryd.prog 30 #[.int .i64 n] w fun e w' => e = .returned (.string (bs (Lib.itoa n))) ∧ Below w.heap.size w w' := by
  have h1 := h.1
  have h2 := h.2
  have ha : absN n < 18446744073709551616 := by unfold absN; omega
  have HA := Lib.hid ha
  have hi := itoa_abs n
  rw [if_pos hn] at hi
  have hdl : (Lib.decDigits (absN n)).length ≤ 21 := by have := itoa_len h; rw [hi] at this; exact Nat.le_trans (Nat.le_succ _) this
  have HDL := Lib.hid hdl
  have hu : IntKind.u64.wrap (-IntKind.u64.wrap n) = (absN n : Int) := by
    simp only [IntKind.wrap_u64, absN]
    omega
  have HI := Lib.hid hi
  have HU := Lib.hid hu
  clear ha hdl h hi hu
  go_enter Tryd.func30, Tryd.ntmps30
  go_wp2
  go_loopw [3, 4] (fun u s wr => DigRel n w u s wr) (fun u s _ => digM u s)
  case atStart => exact ⟨absN n, [], HA.out, by rw [HU.out], rfl, by simp [moreD], Below.refl _ _⟩
  case round =>
    obtain ⟨k, l, hk, rfl, rfl, hm, hb⟩ := hrel
    have hlen2 : l.length ≤ 21 := by have := moreD_len k l; rw [hm] at this; exact Nat.le_trans this HDL.out
    have HM := Lib.hid hm
    have HB := Lib.hid hb
    clear hm hb
    by_cases h0 : 0 < k
    · have hki : (0 : Int) < k := by omega
      have hc := conv_one (48 + k % 10) (48 + (k : Int) % 10) (by omega) (by omega) 5 wr
      go_wp2
      go_roundw
      case rel => exact dig_step _ (by omega) (by simp) hk (Or.inl h0) HM.out HB.out
      case measure => exact dig_less _ (by omega) (Or.inl h0)
    · obtain rfl : k = 0 := by omega
      by_cases hl : l = []
      · subst hl
        have hc := conv_one 48 48 (by omega) (by omega) 5 wr
        go_wp2
        exact ⟨dig_step (k := 0) _ (by omega) (by simp) hk (Or.inr rfl) HM.out HB.out, dig_less (k := 0) _ (by omega) (Or.inr rfl)⟩
      · have he : (l == []) = false := by simpa using hl
        have hd : l.isEmpty = false := by cases l; exact absurd rfl hl; rfl
        have HE := Lib.hid (dig_end rfl hl HM.out)
        clear hl HM
        go_wp2
        go_ret
        exact ⟨ret_str (by rw [HI.out, HE.out]; exact bs_cat [45] l), HB.out⟩
theorem digits_any (n : Int) (w : World) (h : inI n) :
    Calls Tryd.prog 30 #[.int .i64 n] w fun e w' => e = .returned (.string (bs (Lib.itoa n))) ∧ Below w.heap.size w w' := by
  by_cases hn : n < 0
  · exact digits_neg n w h hn
  · exact digits_pos n w h hn
theorem num_any (n : Int) (w : World) (h : inI n) :
    Calls Tryd.prog 31 #[.int .i64 n] w fun e w' => e = .returned (.string (bs (nm n))) ∧ Below w.heap.size w w' := by
  have hl := itoa_len h
  have H := Lib.hid (fun w => digits_any n w h)
  have HN : Hid (nm n = 32 :: Lib.itoa n) := Lib.hid rfl
  clear h
  generalize Lib.itoa n = l at *
  go_enter Tryd.func31, Tryd.ntmps31
  go_wp2_with fail
  refine (H.out _).mono ?_
  rintro e w1 ⟨rfl, b1⟩
  go_wp2
  go_ret
  exact ⟨ret_str (by rw [HN.out]; exact bs_cat [32] l), b1⟩
end Go.Proofs.YtloilknkhloegaaDoor
