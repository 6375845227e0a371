/- the document's small functions: places, bits, classes, infos. -/
import Derived.Test.YtcicmljnjdhkjaaGreatBSt
namespace Go.Proofs.YtcicmljnjdhkjaaGreat
open Go.RowKit

theorem rinfo_any (t p s q : Int) (w : World) :
    Calls Tryz.prog 133 #[.agg #[.int .i64 t, .int .i64 p, .int .i64 s], .int .i64 q] w fun e w' => e = .returned (.int .i64 (ofF t p s q 0)) ∧ Below w.heap.size w w' := by
  go_enter Tryz.func133, Tryz.ntmps133
  go_wp2_with fail
  refine (rpage_any _ _ _ _ _ _ (by omega) (by omega)).mono ?_
  rintro e w1 ⟨rfl, ha⟩
  obtain ⟨hac, haf⟩ := bcell ha
  go_wp2
  go_ret
  refine ⟨rfl, ?_⟩
  (repeat (first | exact Below.refl _ _ | assumption | refine Below.setCell ?_ (by first | omega | (simp; done) | (simp; omega)) _ | refine Below.alloc ?_ (by first | omega | (simp; done) | (simp; omega)) _ | refine Below.drew ?_ | refine Below.trans ?_ (Below.mono ‹Below _ _ _› (by first | omega | (simp; done) | (simp; omega)))))
theorem rfoot_any (t p s q : Int) (w : World) :
    Calls Tryz.prog 135 #[.agg #[.int .i64 t, .int .i64 p, .int .i64 s], .int .i64 q] w fun e w' => e = .returned (.int .i64 (ofF t p s q 1)) ∧ Below w.heap.size w w' := by
  go_enter Tryz.func135, Tryz.ntmps135
  go_wp2_with fail
  refine (rpage_any _ _ _ _ _ _ (by omega) (by omega)).mono ?_
  rintro e w1 ⟨rfl, ha⟩
  obtain ⟨hac, haf⟩ := bcell ha
  go_wp2
  go_ret
  refine ⟨rfl, ?_⟩
  (repeat (first | exact Below.refl _ _ | assumption | refine Below.setCell ?_ (by first | omega | (simp; done) | (simp; omega)) _ | refine Below.alloc ?_ (by first | omega | (simp; done) | (simp; omega)) _ | refine Below.drew ?_ | refine Below.trans ?_ (Below.mono ‹Below _ _ _› (by first | omega | (simp; done) | (simp; omega)))))
theorem rslots_any (t p s q : Int) (w : World) :
    Calls Tryz.prog 92 #[.agg #[.int .i64 t, .int .i64 p, .int .i64 s], .int .i64 q] w fun e w' => e = .returned (.int .i64 (ofF t p s q 4)) ∧ Below w.heap.size w w' := by
  go_enter Tryz.func92, Tryz.ntmps92
  go_wp2_with fail
  refine (rpage_any _ _ _ _ _ _ (by omega) (by omega)).mono ?_
  rintro e w1 ⟨rfl, ha⟩
  obtain ⟨hac, haf⟩ := bcell ha
  go_wp2
  go_ret
  refine ⟨rfl, ?_⟩
  (repeat (first | exact Below.refl _ _ | assumption | refine Below.setCell ?_ (by first | omega | (simp; done) | (simp; omega)) _ | refine Below.alloc ?_ (by first | omega | (simp; done) | (simp; omega)) _ | refine Below.drew ?_ | refine Below.trans ?_ (Below.mono ‹Below _ _ _› (by first | omega | (simp; done) | (simp; omega)))))
theorem rtaken_any (t p s q : Int) (w : World) :
    Calls Tryz.prog 93 #[.agg #[.int .i64 t, .int .i64 p, .int .i64 s], .int .i64 q] w fun e w' => e = .returned (.int .i64 (ofF t p s q 5)) ∧ Below w.heap.size w w' := by
  go_enter Tryz.func93, Tryz.ntmps93
  go_wp2_with fail
  refine (rpage_any _ _ _ _ _ _ (by omega) (by omega)).mono ?_
  rintro e w1 ⟨rfl, ha⟩
  obtain ⟨hac, haf⟩ := bcell ha
  go_wp2
  go_ret
  refine ⟨rfl, ?_⟩
  (repeat (first | exact Below.refl _ _ | assumption | refine Below.setCell ?_ (by first | omega | (simp; done) | (simp; omega)) _ | refine Below.alloc ?_ (by first | omega | (simp; done) | (simp; omega)) _ | refine Below.drew ?_ | refine Below.trans ?_ (Below.mono ‹Below _ _ _› (by first | omega | (simp; done) | (simp; omega)))))

theorem rbin_any (k : Nat) (w : World) (h : k < 11) :
    Calls Tryz.prog 140 #[.int .i64 k] w fun e w' => e = .returned (.int .i64 ((2 + k : Nat) : Int)) ∧ Below w.heap.size w w' := by
  go_enter Tryz.func140, Tryz.ntmps140
  go_wp2
  go_ret
  exact ⟨ret_int (by omega), Below.refl _ _⟩
theorem rrack_any (k : Nat) (w : World) (h : k < 9) :
    Calls Tryz.prog 97 #[.int .i64 k] w fun e w' => e = .returned (.int .i64 ((13 + k : Nat) : Int)) ∧ Below w.heap.size w w' := by
  go_enter Tryz.func97, Tryz.ntmps97
  go_wp2
  go_ret
  exact ⟨ret_int (by omega), Below.refl _ _⟩
theorem rroot_any (k : Nat) (w : World) (h : k < 8) :
    Calls Tryz.prog 53 #[.int .i64 k] w fun e w' => e = .returned (.int .i64 ((22 + k : Nat) : Int)) ∧ Below w.heap.size w w' := by
  go_enter Tryz.func53, Tryz.ntmps53
  go_wp2
  go_ret
  exact ⟨ret_int (by omega), Below.refl _ _⟩

def bitB (v : Int) (i : Nat) : Bool := decide (i < 32) && (v / 2 ^ i % 2 == 1)
theorem rbit_any (v : Int) (i : Nat) (w : World) (h : i < 32) (h1 : 0 ≤ v) :
    Calls Tryz.prog 136 #[.int .u32 v, .int .i64 i] w fun e w' => e = .returned (.bool (bitB v i)) ∧ Below w.heap.size w w' := by
  have hd : 0 ≤ v / 2 ^ i := Int.ediv_nonneg h1 (Int.pow_nonneg (by omega))
  go_enter Tryz.func136, Tryz.ntmps136
  go_wp2
  go_ret
  exact ⟨ret_bool (by simp [bitB, h]), Below.refl _ _⟩

def slotsF (k : Int) : Int := if k = 0 then 32 else if k = 1 then 21 else if k = 2 then 16 else if k = 3 then 10 else if k = 4 then 8 else if k = 5 then 5 else if k = 6 then 4 else if k = 7 then 3 else if k = 8 then 2 else 0
theorem slots_bd (k : Int) : 0 ≤ slotsF k ∧ slotsF k ≤ 32 := by unfold slotsF; repeat' split <;> omega
theorem rkslots_any (k : Int) (w : World) :
    Calls Tryz.prog 121 #[.int .i64 k] w fun e w' => e = .returned (.int .i64 (slotsF k)) ∧ Below w.heap.size w w' := by
  generalize hF : slotsF k = F
  have HF := Lib.hid hF
  clear hF
  go_enter Tryz.func121, Tryz.ntmps121
  go_wp2
  all_goals
    go_ret
    refine ⟨ret_int ?_, Below.refl _ _⟩
    have e := HF.out
    subst e
    clear HF
    simp_all [slotsF]


def onesN (v : Int) : Nat → Nat
  | 0 => 0
  | k + 1 => onesN v k + if bitB v k then 1 else 0
theorem onesN_le (v : Int) (k : Nat) : onesN v k ≤ k := by
  induction k with
  | zero => exact Nat.le_refl _
  | succ k ih => unfold onesN; split <;> omega
def OnesRel (v : Int) (w : World) (a i : Value) (wr : World) : Prop := ∃ k : Nat, k ≤ 32 ∧ i = .int .i64 k ∧ a = .int .i64 (onesN v k) ∧ Below w.heap.size w wr
theorem rones_any (v : Int) (w : World) (h1 : 0 ≤ v) :
    Calls Tryz.prog 146 #[.int .u32 v] w fun e w' => e = .returned (.int .i64 (onesN v 32)) ∧ Below w.heap.size w w' := by
  go_enter Tryz.func146, Tryz.ntmps146
  go_wp2
  go_loopw [3, 4] (fun a i wr => OnesRel v w a i wr) (fun _ i _ => 32 - (intOf i).toNat)
  case atStart => exact ⟨0, by omega, rfl, rfl, Below.refl _ _⟩
  case round =>
    obtain ⟨k, hk, rfl, rfl, hb⟩ := hrel
    have hle := onesN_le v k
    by_cases hlt : k < 32
    · have HB := rbit_any v k wr hlt h1
      have hs : onesN v (k + 1) = onesN v k + if bitB v k then 1 else 0 := rfl
      have HS := Lib.hid hs
      clear hs
      generalize bitB v k = z at *
      have HC := Lib.hid HB
      have HX := Lib.hid hb
      clear HB hb
      cases z
      · go_wp2_with fail
        refine HC.out.mono ?_
        rintro e w1 ⟨rfl, b1⟩
        go_wp2_with fail
        go_roundw
        case rel => exact ⟨k + 1, by omega, by go_num, by rw [HS.out]; simp, HX.out.trans (b1.mono HX.out.size)⟩
        case measure => simp [intOf]; omega
      · go_wp2_with fail
        refine HC.out.mono ?_
        rintro e w1 ⟨rfl, b1⟩
        go_wp2_with fail
        go_roundw
        case rel => exact ⟨k + 1, by omega, by go_num, by rw [HS.out]; simp, HX.out.trans (b1.mono HX.out.size)⟩
        case measure => simp [intOf]; omega
    · obtain rfl : k = 32 := by omega
      go_wp2
      go_ret
      exact ⟨rfl, hb⟩

def bitsN (n : Nat) : Nat := if n = 0 then 0 else n.log2 + 1
theorem bitsN_half (n : Nat) (h : 1 ≤ n) : bitsN n = bitsN (n / 2) + 1 := by
  unfold bitsN
  rw [if_neg (by omega), Nat.log2_def]
  by_cases h2 : 2 ≤ n
  · rw [if_pos h2, if_neg (by omega)]
  · rw [if_neg h2, if_pos (by omega)]
theorem bitsN_le (n : Nat) : bitsN n ≤ n := by
  unfold bitsN
  split
  · omega
  · have := Nat.log2_lt (n := n) (k := n) (by omega)
    have := this.2 Nat.lt_two_pow_self
    omega
def logF (n : Int) : Int := (bitsN n.toNat : Int) - 1
def LogRel (n : Int) (w : World) (a i : Value) (wr : World) : Prop := ∃ c k : Nat, a = .int .i64 c ∧ c ≤ 1000000 ∧ i = .int .i64 ((k : Int) - 1) ∧ k + bitsN c = bitsN n.toNat ∧ w = wr
theorem rlog_any (n : Int) (w : World) (h1 : 0 ≤ n) (h2 : n ≤ 1000000) :
    Calls Tryz.prog 189 #[.int .i64 n] w fun e w' => e = .returned (.int .i64 (logF n)) ∧ Below w.heap.size w w' := by
  have hbn := bitsN_le n.toNat
  obtain ⟨m, rfl⟩ := Int.eq_ofNat_of_zero_le h1
  simp at hbn
  generalize hF : logF m = F
  have HF := Lib.hid hF
  clear hF h1
  have h3 : m ≤ 1000000 := by omega
  clear h2
  go_enter Tryz.func189, Tryz.ntmps189
  go_wp2
  go_loopw [0, 3] (fun a i wr => LogRel m w a i wr) (fun a _ _ => (intOf a).toNat)
  case atStart => exact ⟨m, 0, rfl, h3, rfl, by simp, rfl⟩
  case round =>
    obtain ⟨c, k, rfl, hc, rfl, hs, rfl⟩ := hrel
    have hbc := bitsN_le c
    have hs2 : k + bitsN c = bitsN m := by simpa using hs
    have HS := Lib.hid hs2
    have hk : k ≤ 1000000 := by omega
    clear hs hs2
    by_cases hlt : 1 ≤ c
    · go_wp2
      go_roundw
      case rel => exact ⟨c / 2, k + 1, by simp, by omega, by congr 1; omega, by have := HS.out; have := bitsN_half c hlt; simp; omega, rfl⟩
      case measure => simp [intOf]; omega
    · go_wp2
      go_ret
      refine ⟨ret_int ?_, Below.refl _ _⟩
      have := HS.out
      have e := HF.out
      subst e
      have : bitsN c = 0 := by unfold bitsN; rw [if_pos (by omega)]
      simp [logF]
      omega

def fullB (v k : Int) : Bool := ((onesN v 32 : Nat) : Int) == slotsF k
theorem rfull_any (v k : Int) (w : World) (h1 : 0 ≤ v) :
    Calls Tryz.prog 95 #[.int .u32 v, .int .i64 k] w fun e w' => e = .returned (.bool (fullB v k)) ∧ Below w.heap.size w w' := by
  have H1 := Lib.hid (fun w => rones_any v w h1)
  generalize hz : fullB v k = z
  have HZ := Lib.hid hz
  clear hz h1
  go_enter Tryz.func95, Tryz.ntmps95
  go_wp2_with fail
  refine (H1.out _).mono ?_
  rintro e w1 ⟨rfl, b1⟩
  go_wp2_with fail
  refine (rkslots_any _ _).mono ?_
  rintro e w2 ⟨rfl, b2⟩
  go_wp2_with fail
  go_ret
  exact ⟨ret_bool HZ.out, b1.trans (b2.mono b1.size)⟩

def rightI (k l c : Int) : Bool :=
  if k = 0 then decide (l = 0) && decide (c = 0)
  else if k = 1 ∨ k = 2 then decide (1 ≤ l) && decide (l ≤ 1024) && decide (c = 0)
  else if k = 3 then decide (l = 1) && decide (0 ≤ c) && decide (c ≤ 8) else false
theorem riright_any (k l c : Int) (w : World) :
    Calls Tryz.prog 199 #[.agg #[.int .i64 k, .int .i64 l, .int .i64 c]] w fun e w' => e = .returned (.bool (rightI k l c)) ∧ Below w.heap.size w w' := by
  generalize hF : rightI k l c = F
  have HF := Lib.hid hF
  clear hF
  go_enter Tryz.func199, Tryz.ntmps199
  go_wp2
  all_goals
    go_ret
    refine ⟨ret_bool ?_, by (repeat (first | exact Below.refl _ _ | assumption | refine Below.setCell ?_ (by first | omega | (simp; done) | (simp; omega)) _ | refine Below.alloc ?_ (by first | omega | (simp; done) | (simp; omega)) _ | refine Below.drew ?_ | refine Below.trans ?_ (Below.mono ‹Below _ _ _› (by first | omega | (simp; done) | (simp; omega)))))⟩
    have e := HF.out
    subst e
    clear HF
    rw [Bool.eq_iff_iff]
    simp_all [rightI] <;> omega

end Go.Proofs.YtcicmljnjdhkjaaGreat
