/- bound: the numbers of acts; the document's answers for conf, place and bound. -/
import Derived.Test.YtkfcjlampnjfbaaPlace
import Derived.Deep.RegionHeld3
namespace Go.Proofs.Ytkfcjlampnjfbaa
open Go.RowKit

def sumL : List Int → Int
  | [] => 0
  | x :: r => x + sumL r
theorem sumL_snoc (l : List Int) (x : Int) : sumL (l ++ [x]) = sumL l + x := by
  induction l with
  | nil => simp [sumL]
  | cons y r ih => simp [sumL, ih]; omega
def okL (l : List Int) : Prop := ∀ x ∈ l, 0 ≤ x ∧ x ≤ 1000000000
theorem sumL_bd (l : List Int) (h : okL l) : 0 ≤ sumL l ∧ sumL l ≤ 1000000000 * l.length := by
  induction l with
  | nil => simp [sumL]
  | cons y r ih =>
    have h1 := ih fun x hx => h x (List.mem_cons_of_mem _ hx)
    have h2 := h y (List.mem_cons_self)
    simp [sumL]; omega
theorem okL_take {l : List Int} (h : okL l) (k : Nat) : okL (l.take k) := fun x hx => h x (List.mem_of_mem_take hx)
theorem take_succL (l : List Int) (k : Nat) (h : k < l.length) : l.take (k + 1) = l.take k ++ [l[k]] := by
  rw [List.take_succ_eq_append_getElem h]

def SumRel (xs : List Int) (out i : Value) : Prop := ∃ k : Nat, k ≤ xs.length ∧ i = .int .i64 k ∧ out = .int .i64 (sumL (xs.take k))

theorem sum_any (xs : List Int) (g n : Nat) (w : World) (hl : xs.length = n) (hn : n ≤ 8) (hok : okL xs) (h : w.heap[g]? = some (.cells (xs.map (Value.int .i64)).toArray 3)) :
    Calls Try.prog 49 #[.slice (some ⟨g, 0, none⟩) n n] w fun e w' => e = .returned (.int .i64 (sumL xs)) ∧ w = w' := by
  have hc : ∀ (k : Nat) (hk : k < xs.length), w.cell? ⟨g, k, none⟩ = some (.int .i64 xs[k]) := by
    intro k hk
    simp [World.cell?, h, hk]
  clear h
  subst hl
  go_enter Try.func49, Try.ntmps49
  go_wp2
  go_loop [3, 5, 8] (fun out _ i => SumRel xs out i) (fun _ _ i => xs.length - (intOf i).toNat)
  case atStart => exact ⟨0, by omega, rfl, by simp [sumL]⟩
  case round =>
    obtain ⟨k, hk, rfl, rfl⟩ := hrel
    have hb := sumL_bd _ (okL_take hok k)
    have hlen : (xs.take k).length = k := by simp; omega
    rw [hlen] at hb
    by_cases hlt : k < xs.length
    · have c0 := hc k hlt
      have hx := hok xs[k] (List.getElem_mem hlt)
      have hs : sumL (xs.take (k + 1)) = sumL (xs.take k) + xs[k] := by rw [take_succL _ _ hlt, sumL_snoc]
      have HS := Lib.hid hs
      clear hs hlen hc hok
      generalize xs[k] = x at *
      generalize sumL (xs.take k) = y at *
      obtain ⟨hb1, hb2⟩ := hb
      obtain ⟨hx1, hx2⟩ := hx
      go_wp2
      go_round
      case rel => exact ⟨k + 1, by omega, by go_num, by rw [HS.out]⟩
      case measure => simp [intOf]; omega
    · have hs : sumL (xs.take k) = sumL xs := by rw [List.take_of_length_le (by omega)]
      have HS := Lib.hid hs
      clear hs hlen hc hok
      generalize sumL (xs.take k) = y at *
      go_wp2
      go_ret
      exact ⟨by simp [HS.out], rfl⟩

def passF (t p s : Int) : Int := if rightB t p s then 420 + cellsN t p else 0

theorem pass_any (t p s : Int) (w : World) :
    Calls Try.prog 10 #[.agg #[.int .i64 t, .int .i64 p, .int .i64 s]] w fun e w' => e = .returned (.int .i64 (passF t p s)) ∧ Below w.heap.size w w' := by
  cases hr : rightB t p s
  · have hF : passF t p s = 0 := by simp [passF, hr]
    have hC : cellsF t p s = 0 := by simp [cellsF, hr]
    have H := cells_any t p s
    rw [hF]
    rw [hC] at H
    have HH := Lib.hid H
    clear H
    go_enter Try.func10, Try.ntmps10
    go_wp2_with fail
    refine (HH.out _).mono ?_
    rintro e w1 ⟨rfl, ha⟩
    obtain ⟨hac, haf⟩ := bcell ha
    have haz0 : w.heap.size < w1.heap.size := by have := ha.size; first | omega | (simp at this; omega)
    go_wp2
    go_ret
    refine ⟨rfl, ?_⟩
    (repeat (first | exact Below.refl _ _ | assumption | refine Below.setCell ?_ (by first | omega | (simp; done) | (simp; omega)) _ | refine Below.alloc ?_ (by first | omega | (simp; done) | (simp; omega)) _ | refine Below.drew ?_ | refine Below.trans ?_ (Below.mono ‹Below _ _ _› (by first | omega | (simp; done) | (simp; omega)))))
  · have hF : passF t p s = 420 + cellsN t p := by simp [passF, hr]
    have hC : cellsF t p s = cellsN t p := by simp [cellsF, hr]
    have hb1 : 0 < cellsN t p := by have := right_bd hr; unfold cellsN; omega
    have hb2 : cellsN t p ≤ 10000 := by have := right_bd hr; unfold cellsN; omega
    have hn : (cellsN t p == 0) = false := by simp; omega
    have H := cells_any t p s
    rw [hF]
    rw [hC] at H
    have HH := Lib.hid H
    clear H hF hC
    generalize cellsN t p = n at *
    have HS := fun (w : World) (g : Nat) => Lib.hid (sum_any [2, 112, 294, 12, n] g 5 w rfl (by omega) (by intro x hx; simp at hx; omega))
    go_enter Try.func10, Try.ntmps10
    go_wp2_with fail
    refine (HH.out _).mono ?_
    rintro e w1 ⟨rfl, ha⟩
    obtain ⟨hac, haf⟩ := bcell ha
    have haz0 : w.heap.size < w1.heap.size := by have := ha.size; first | omega | (simp at this; omega)
    go_wp2_with fail
    refine ((HS _ _).out (heap_alloc_new _ _)).mono ?_
    rintro e w2 ⟨rfl, rfl⟩
    go_wp2
    go_ret
    refine ⟨by simp [sumL]; omega, ?_⟩
    (repeat (first | exact Below.refl _ _ | assumption | refine Below.setCell ?_ (by first | omega | (simp; done) | (simp; omega)) _ | refine Below.alloc ?_ (by first | omega | (simp; done) | (simp; omega)) _ | refine Below.drew ?_ | refine Below.trans ?_ (Below.mono ‹Below _ _ _› (by first | omega | (simp; done) | (simp; omega)))))

theorem pass_bd (t p s : Int) : 0 ≤ passF t p s ∧ passF t p s ≤ 10000 := by
  unfold passF
  split
  · rename_i h; have := right_bd h; unfold cellsN; omega
  · omega

theorem alone_any (t p s : Int) (w : World) :
    Calls Try.prog 12 #[.agg #[.int .i64 t, .int .i64 p, .int .i64 s]] w fun e w' => e = .returned (.int .i64 (4 * passF t p s)) ∧ Below w.heap.size w w' := by
  obtain ⟨h1, h2⟩ := pass_bd t p s
  go_enter Try.func12, Try.ntmps12
  go_wp2_with fail
  refine (pass_any _ _ _ _).mono ?_
  rintro e w1 ⟨rfl, ha⟩
  obtain ⟨hac, haf⟩ := bcell ha
  go_wp2
  go_ret
  refine ⟨rfl, ?_⟩
  (repeat (first | exact Below.refl _ _ | assumption | refine Below.setCell ?_ (by first | omega | (simp; done) | (simp; omega)) _ | refine Below.alloc ?_ (by first | omega | (simp; done) | (simp; omega)) _ | refine Below.drew ?_ | refine Below.trans ?_ (Below.mono ‹Below _ _ _› (by first | omega | (simp; done) | (simp; omega)))))

theorem wrap_zero : IntKind.i64.wrap 0 = 0 := by decide
theorem mul_bd {a b : Int} (h1 : 0 ≤ a) (h2 : a ≤ 100000) (h3 : 0 ≤ b) (h4 : b ≤ 100000) : -9223372036854775808 ≤ a * b ∧ a * b ≤ 9223372036854775807 := by
  have h5 := Int.mul_nonneg h1 h3
  have h6 : a * b ≤ 100000 * 100000 := Int.mul_le_mul h2 h4 h3 (by omega)
  omega
theorem mul_bd2 {a b c : Int} (h1 : 0 ≤ a) (h2 : a ≤ 100000) (h3 : 0 ≤ b) (h4 : b ≤ 100000) (h5 : 0 ≤ c) (h6 : c ≤ 10000) : -9223372036854775808 ≤ a * b * c ∧ a * b * c ≤ 9223372036854775807 := by
  have h7 := Int.mul_nonneg h1 h3
  have h8 : a * b ≤ 100000 * 100000 := Int.mul_le_mul h2 h4 h3 (by omega)
  have h9 := Int.mul_nonneg h7 h5
  have h10 : a * b * c ≤ 100000 * 100000 * 10000 := Int.mul_le_mul h8 h6 h5 (by omega)
  omega

def raceF (t p s : Int) : Int := t * (2 * t + 3) * passF t p s

theorem race_right (t p s : Int) (w : World) (hr : rightB t p s = true) :
    Calls Try.prog 14 #[.agg #[.int .i64 t, .int .i64 p, .int .i64 s]] w fun e w' => e = .returned (.int .i64 (raceF t p s)) ∧ Below w.heap.size w w' := by
  obtain ⟨h1, h2⟩ := pass_bd t p s
  obtain ⟨b1, b2, b3, b4, b5, b6⟩ := right_bd hr
  have HS := fun (w : World) (g : Nat) => Lib.hid (sum_any [t, t, 3] g 3 w rfl (by omega) (by intro x hx; simp at hx; omega))
  have HP := Lib.hid (fun w => pass_any t p s w)
  go_enter Try.func14, Try.ntmps14
  go_wp2
  have st := startB w #[.int .i64 t, .int .i64 p, .int .i64 s] 23
  go_region_held3 (fun w' => (∀ o : Nat, w'.cell? ⟨w.heap.size, o, none⟩ = (#[.int .i64 t, .int .i64 p, .int .i64 s] : Array Value)[o]?) ∧ w.heap.size < w'.heap.size ∧ Below w.heap.size w w') (first | assumption | exact keepB ((Below.refl _ _).alloc (Nat.le_refl _) _) (by assumption) | exact keepD (by assumption)) (first | (go_at_call 49; go_must (refine ((HS _ _).out ?hh).mono ?_); go_must (case hh => (exact hb_drew (hb_alloc _ _ _ (by simp)))); rintro e w' ⟨rfl, rfl⟩) | (go_at_call 10; go_must (refine (HP.out _).mono ?_); go_must (rintro e w' ⟨rfl, hb⟩); go_must (have hS := keepB (b := w.heap.size) (cs := #[.int .i64 t, .int .i64 p, .int .i64 s]) (w0 := w) hb (by assumption))))
  go_wp2
  go_ret
  refine ⟨?_, hS.2.2⟩
  rw [wrap_in (t * sumL [t, t, 3]) (mul_bd (by omega) (by omega) (by simp [sumL]; omega) (by simp [sumL]; omega)), wrap_in _ (mul_bd2 (by omega) (by omega) (by simp [sumL]; omega) (by simp [sumL]; omega) h1 h2)]
  simp [raceF, sumL]
  congr 2
  omega

def SomeI (w : World) (e : Ending) (w' : World) : Prop := ∃ n : Int, e = .returned (.int .i64 n) ∧ w = w'
def SumAny (xs : List Int) (out i : Value) : Prop := ∃ k : Nat, k ≤ xs.length ∧ i = .int .i64 k ∧ ∃ n : Int, out = .int .i64 n

theorem sum_some (xs : List Int) (g n : Nat) (w : World) (hl : xs.length = n) (hn : n ≤ 8) (h : w.heap[g]? = some (.cells (xs.map (Value.int .i64)).toArray 3)) :
    Calls Try.prog 49 #[.slice (some ⟨g, 0, none⟩) n n] w (SomeI w) := by
  have hc : ∀ (k : Nat) (hk : k < xs.length), w.cell? ⟨g, k, none⟩ = some (.int .i64 xs[k]) := by
    intro k hk
    simp [World.cell?, h, hk]
  clear h
  subst hl
  go_enter Try.func49, Try.ntmps49
  go_wp2
  go_loop [3, 5, 8] (fun out _ i => SumAny xs out i) (fun _ _ i => xs.length - (intOf i).toNat)
  case atStart => exact ⟨0, by omega, rfl, 0, rfl⟩
  case round =>
    obtain ⟨k, hk, rfl, y, rfl⟩ := hrel
    by_cases hlt : k < xs.length
    · have c0 := hc k hlt
      clear hc
      generalize xs[k] = x at *
      go_wp2
      go_round
      case rel => exact ⟨k + 1, by omega, by go_num, _, rfl⟩
      case measure => simp [intOf]; omega
    · clear hc
      go_wp2
      go_ret
      exact ⟨y, rfl, rfl⟩

theorem race_wrong (t p s : Int) (w : World) (hr : rightB t p s = false) :
    Calls Try.prog 14 #[.agg #[.int .i64 t, .int .i64 p, .int .i64 s]] w fun e w' => e = .returned (.int .i64 0) ∧ Below w.heap.size w w' := by
  have hp : passF t p s = 0 := by simp [passF, hr]
  have HS := fun (w : World) (g : Nat) => Lib.hid (sum_some [t, t, 3] g 3 w rfl (by omega))
  have HP0 := fun w => pass_any t p s w
  rw [hp] at HP0
  have HP := Lib.hid HP0
  clear HP0 hp
  go_enter Try.func14, Try.ntmps14
  go_wp2
  have st := startB w #[.int .i64 t, .int .i64 p, .int .i64 s] 23
  go_region_held3 (fun w' => (∀ o : Nat, w'.cell? ⟨w.heap.size, o, none⟩ = (#[.int .i64 t, .int .i64 p, .int .i64 s] : Array Value)[o]?) ∧ w.heap.size < w'.heap.size ∧ Below w.heap.size w w') (first | assumption | exact keepB ((Below.refl _ _).alloc (Nat.le_refl _) _) (by assumption) | exact keepD (by assumption)) (first | (go_at_call 49; go_must (refine ((HS _ _).out ?hh).mono ?_); go_must (case hh => (exact hb_drew (hb_alloc _ _ _ (by simp)))); rintro e w' ⟨v, rfl, rfl⟩) | (go_at_call 10; go_must (refine (HP.out _).mono ?_); go_must (rintro e w' ⟨rfl, hb⟩); go_must (have hS := keepB (b := w.heap.size) (cs := #[.int .i64 t, .int .i64 p, .int .i64 s]) (w0 := w) hb (by assumption))))
  go_wp2
  go_ret
  refine ⟨?_, hS.2.2⟩
  simp [wrap_zero]

def mendF (t p s : Int) : Int := if rightB t p s then 400 + p * (410 + cellsN t p) else 0

theorem mend_wrong (t p s : Int) (w : World) (hr : rightB t p s = false) :
    Calls Try.prog 16 #[.agg #[.int .i64 t, .int .i64 p, .int .i64 s]] w fun e w' => e = .returned (.int .i64 0) ∧ Below w.heap.size w w' := by
  have hp : cellsF t p s = 0 := by simp [cellsF, hr]
  have HP0 := fun w => cells_any t p s w
  rw [hp] at HP0
  have HP := Lib.hid HP0
  clear HP0 hp
  go_enter Try.func16, Try.ntmps16
  go_wp2_with fail
  refine (HP.out _).mono ?_
  rintro e w1 ⟨rfl, ha⟩
  obtain ⟨hac, haf⟩ := bcell ha
  go_wp2
  go_ret
  refine ⟨rfl, ?_⟩
  (repeat (first | exact Below.refl _ _ | assumption | refine Below.setCell ?_ (by first | omega | (simp; done) | (simp; omega)) _ | refine Below.alloc ?_ (by first | omega | (simp; done) | (simp; omega)) _ | refine Below.drew ?_ | refine Below.trans ?_ (Below.mono ‹Below _ _ _› (by first | omega | (simp; done) | (simp; omega)))))

theorem mend_right (t p s : Int) (w : World) (hr : rightB t p s = true) :
    Calls Try.prog 16 #[.agg #[.int .i64 t, .int .i64 p, .int .i64 s]] w fun e w' => e = .returned (.int .i64 (mendF t p s)) ∧ Below w.heap.size w w' := by
  have hp : cellsF t p s = cellsN t p := by simp [cellsF, hr]
  have hF : mendF t p s = 400 + p * (410 + cellsN t p) := by simp [mendF, hr]
  rw [hF]
  obtain ⟨b1, b2, b3, b4, b5, b6⟩ := right_bd hr
  have hb1 : 0 < cellsN t p := by unfold cellsN; omega
  have hb2 : cellsN t p ≤ 10000 := by unfold cellsN; omega
  have hn : (cellsN t p == 0) = false := by simp; omega
  have HP0 := fun w => cells_any t p s w
  rw [hp] at HP0
  have HP := Lib.hid HP0
  clear HP0 hp hF
  generalize cellsN t p = n at *
  have hm1 : 0 ≤ p * (410 + n) := Int.mul_nonneg (by omega) (by omega)
  have hm2 : p * (410 + n) ≤ 1024 * 10410 := Int.mul_le_mul (by omega) (by omega) (by omega) (by omega)
  have HS := fun (w : World) (g : Nat) => Lib.hid (sum_any [410, n] g 2 w rfl (by omega) (by intro x hx; simp at hx; omega))
  have HT := fun (w : World) (g : Nat) => Lib.hid (sum_any [400, p * (410 + n)] g 2 w rfl (by omega) (by intro x hx; simp at hx; omega))
  go_enter Try.func16, Try.ntmps16
  go_wp2_with fail
  refine (HP.out _).mono ?_
  rintro e w1 ⟨rfl, ha⟩
  obtain ⟨hac, haf⟩ := bcell ha
  have haz0 : w.heap.size < w1.heap.size := by have := ha.size; first | omega | (simp at this; omega)
  go_wp2
  have st := keepB ha (startB w #[.int .i64 t, .int .i64 p, .int .i64 s] 23)
  have hw : IntKind.i64.wrap (p * sumL [410, n]) = p * (410 + n) := by
    have : p * sumL [410, n] = p * (410 + n) := by simp [sumL]
    rw [this, wrap_in _ (by omega)]
  clear ha hac haf
  go_region_held3 (fun w' => (∀ o : Nat, w'.cell? ⟨w.heap.size, o, none⟩ = (#[.int .i64 t, .int .i64 p, .int .i64 s] : Array Value)[o]?) ∧ w.heap.size < w'.heap.size ∧ Below w.heap.size w w') (first | assumption | exact keepB ((Below.refl _ _).alloc (Nat.le_refl _) _) (by assumption) | exact keepD (by assumption)) (first | (go_at_call 49; go_must (first | (refine ((HS _ _).out ?hh).mono ?_; case hh => (exact hb_drew (hb_alloc _ _ _ (by simp)))) | (refine ((HT _ _).out ?hh).mono ?_; case hh => (exact hb_drew (hb_alloc _ _ _ (by simp))))); rintro e w' ⟨rfl, rfl⟩))
  go_wp2
  go_ret
  refine ⟨by simp [sumL], ?_⟩
  obtain ⟨-, -, hB⟩ := st
  (repeat (first | exact Below.refl _ _ | assumption | refine Below.setCell ?_ (by first | omega | (simp; done) | (simp; omega)) _ | refine Below.alloc ?_ (by first | omega | (simp; done) | (simp; omega)) _ | refine Below.drew ?_ | refine Below.trans ?_ (Below.mono ‹Below _ _ _› (by first | omega | (simp; done) | (simp; omega)))))

end Go.Proofs.Ytkfcjlampnjfbaa
