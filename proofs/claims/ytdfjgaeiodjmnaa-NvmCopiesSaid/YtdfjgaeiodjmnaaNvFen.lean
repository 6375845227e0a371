/- NvmFences: the law's walk. -/
import Derived.Test.YtdfjgaeiodjmnaaNvFenL
set_option linter.unusedSimpArgs false
set_option linter.unusedVariables false
namespace Go.Proofs.Ytdfjgaeiodjmnaa
open Go.RowKit

set_option maxRecDepth 100000 in
theorem nfences_many (a1 a2 : Option Addr) (n1 n2 c1 c2 : Nat) (xd xw xa xm xo xv : Int) (w : World) (h : (decide (n1 ≤ 64) && decide (n2 ≤ 200)) = false) :
    Calls Try.prog 3 #[.slice a1 n1 c1, .slice a2 n2 c2, .agg #[.int .i64 xd, .int .i64 xw, .int .i64 xa, .int .i64 xm, .int .u64 xo, .int .u64 xv]] w fun e w' => e = .returned (.bool true) ∧ Below w.heap.size w w' := by
  have HF := nfew_any a1 a2 n1 n2 c1 c2
  rw [h] at HF
  have HH := Lib.hid HF
  clear HF h
  go_enter Try.func3, Try.ntmps3
  go_wp2_with fail
  refine (HH.out _).mono ?_
  rintro e w1 ⟨rfl, rfl⟩
  go_wp2_with fail
  refine (nlive_any _).mono ?_
  rintro e w2 ⟨rfl, hb⟩
  go_wp2
  go_ret
  exact ⟨rfl, ((Below.refl _ _).alloc (Nat.le_refl _) _).trans (hb.mono (by simp))⟩

set_option maxRecDepth 100000 in
theorem nfences_none (a1 a2 : Option Addr) (n1 n2 c1 c2 : Nat) (xd xw xa xm xo xv : Int) (w : World) (h : (decide (n1 ≤ 64) && decide (n2 ≤ 200)) = true) (h1 : n1 = 0 ∨ n1 % 8 ≠ 0 ∨ xa < 0 ∨ n1 ≤ xa ∨ xw < 0 ∨ 16 < xw) :
    Calls Try.prog 3 #[.slice a1 n1 c1, .slice a2 n2 c2, .agg #[.int .i64 xd, .int .i64 xw, .int .i64 xa, .int .i64 xm, .int .u64 xo, .int .u64 xv]] w fun e w' => e = .returned (.bool true) ∧ Below w.heap.size w w' := by
  have HF := nfew_any a1 a2 n1 n2 c1 c2
  rw [h] at HF
  have HH := Lib.hid HF
  clear HF h
  by_cases g0 : n1 = 0
  · clear h1
    have e0 : ((n1 : Int) == 0) = true := by simp; omega
    clear g0
    go_enter Try.func3, Try.ntmps3
    go_wp2_with fail
    refine (HH.out _).mono ?_
    rintro e w1 ⟨rfl, rfl⟩
    go_wp2_with fail
    refine (nlive_any _).mono ?_
    rintro e w2 ⟨rfl, hb⟩
    go_wp2
    go_ret
    exact ⟨rfl, ((Below.refl _ _).alloc (Nat.le_refl _) _).trans (hb.mono (by simp))⟩
  · skip
    have e0 : ((n1 : Int) == 0) = false := by simp; omega
    have h1 : n1 % 8 ≠ 0 ∨ xa < 0 ∨ n1 ≤ xa ∨ xw < 0 ∨ 16 < xw := by omega
    clear g0
    by_cases g1 : n1 % 8 ≠ 0
    · clear h1
      have e1 : ((n1 : Int) % 8 != 0) = true := by simp; omega
      clear g1
      go_enter Try.func3, Try.ntmps3
      go_wp2_with fail
      refine (HH.out _).mono ?_
      rintro e w1 ⟨rfl, rfl⟩
      go_wp2_with fail
      refine (nlive_any _).mono ?_
      rintro e w2 ⟨rfl, hb⟩
      go_wp2
      go_ret
      exact ⟨rfl, ((Below.refl _ _).alloc (Nat.le_refl _) _).trans (hb.mono (by simp))⟩
    · skip
      have e1 : ((n1 : Int) % 8 != 0) = false := by simp; omega
      have h1 : xa < 0 ∨ n1 ≤ xa ∨ xw < 0 ∨ 16 < xw := by omega
      clear g1
      by_cases g2 : xa < 0
      · clear h1
        go_enter Try.func3, Try.ntmps3
        go_wp2_with fail
        refine (HH.out _).mono ?_
        rintro e w1 ⟨rfl, rfl⟩
        go_wp2_with fail
        refine (nlive_any _).mono ?_
        rintro e w2 ⟨rfl, hb⟩
        go_wp2
        go_ret
        exact ⟨rfl, ((Below.refl _ _).alloc (Nat.le_refl _) _).trans (hb.mono (by simp))⟩
      · skip
        have e2 : ¬ xa < 0 := by assumption
        by_cases g3 : (n1 : Int) ≤ xa
        · clear h1
          go_enter Try.func3, Try.ntmps3
          go_wp2_with fail
          refine (HH.out _).mono ?_
          rintro e w1 ⟨rfl, rfl⟩
          go_wp2_with fail
          refine (nlive_any _).mono ?_
          rintro e w2 ⟨rfl, hb⟩
          go_wp2
          go_ret
          exact ⟨rfl, ((Below.refl _ _).alloc (Nat.le_refl _) _).trans (hb.mono (by simp))⟩
        · skip
          have e3 : decide ((n1 : Int) ≤ xa) = false := by simp; omega
          by_cases g4 : xw < 0
          · clear h1
            go_enter Try.func3, Try.ntmps3
            go_wp2_with fail
            refine (HH.out _).mono ?_
            rintro e w1 ⟨rfl, rfl⟩
            go_wp2_with fail
            refine (nlive_any _).mono ?_
            rintro e w2 ⟨rfl, hb⟩
            go_wp2
            go_ret
            exact ⟨rfl, ((Below.refl _ _).alloc (Nat.le_refl _) _).trans (hb.mono (by simp))⟩
          · skip
            have g5 : 16 < xw := by omega
            clear h1
            go_enter Try.func3, Try.ntmps3
            go_wp2_with fail
            refine (HH.out _).mono ?_
            rintro e w1 ⟨rfl, rfl⟩
            go_wp2_with fail
            refine (nlive_any _).mono ?_
            rintro e w2 ⟨rfl, hb⟩
            go_wp2
            go_ret
            exact ⟨rfl, ((Below.refl _ _).alloc (Nat.le_refl _) _).trans (hb.mono (by simp))⟩
end Go.Proofs.Ytdfjgaeiodjmnaa
