/- parts of the proof, merged by a program. -/
import Derived.Test.YtpmoajhpgekhcaaGreatMsk10
set_option linter.unusedSimpArgs false
set_option linter.unusedVariables false
/- SweepKeeps: every input. -/
set_option linter.unusedSimpArgs false
set_option linter.unusedVariables false
namespace Go.Proofs.YtpmoajhpgekhcaaGreat
open Go.RowKit

theorem skeeps_few (t p s : Int) (a : Option Addr) (m cp : Nat) (w : World) (hp : ¬ p ≤ 64) :
    Calls Tryz.prog 4 #[.agg #[.int .i64 t, .int .i64 p, .int .i64 s], .slice a m cp] w fun e W' => e = .returned (.bool true) ∧ Below w.heap.size w W' := by
  have hd : decide (p ≤ 64) = false := by simpa using hp
  have HF := Lib.hid (fun w => few12_any t p s w)
  rw [hd] at HF
  have HL := Lib.hid swlive_any
  have c0 := loc_alloc w #[.int .i64 t, .int .i64 p, .int .i64 s] 23
  have S0 := ((BS.start w).alloc (.cells #[.int .i64 t, .int .i64 p, .int .i64 s] 23))
  clear hd hp
  go_enter Tryz.func4, Tryz.ntmps4
  go_wp2_with fail
  refine (calls_b S0 (HF.out _)).mono ?_
  rintro e w1 ⟨rfl, S1, S1l⟩
  have c1 := loc_step S1l (by simp) c0
  clear S1l
  go_wp2_with fail
  refine (HL.out _).mono ?_
  rintro e w4 ⟨rfl, r4⟩
  go_wp2
  go_ret
  exact ⟨rfl, S1.bel.trans (r4.mono S1.bel.size)⟩
theorem skeeps_bad (t p s : Int) (a : Option Addr) (m cp : Nat) (w : World) (hp : p ≤ 64) (hS : ∀ W, Below w.heap.size w W → Calls Tryz.prog 6 #[.agg #[.int .i64 t, .int .i64 p, .int .i64 s], .slice a m cp] W fun e W' => e = .returned (.bool false) ∧ Below W.heap.size W W') :
    Calls Tryz.prog 4 #[.agg #[.int .i64 t, .int .i64 p, .int .i64 s], .slice a m cp] w fun e W' => e = .returned (.bool true) ∧ Below w.heap.size w W' := by
  have hd : decide (p ≤ 64) = true := by simpa using hp
  have HF := Lib.hid (fun w => few12_any t p s w)
  rw [hd] at HF
  have HL := Lib.hid swlive_any
  have HS := Lib.hid hS
  have c0 := loc_alloc w #[.int .i64 t, .int .i64 p, .int .i64 s] 23
  have S0 := ((BS.start w).alloc (.cells #[.int .i64 t, .int .i64 p, .int .i64 s] 23))
  clear hd hp hS
  go_enter Tryz.func4, Tryz.ntmps4
  go_wp2_with fail
  refine (calls_b S0 (HF.out _)).mono ?_
  rintro e w1 ⟨rfl, S1, S1l⟩
  have c1 := loc_step S1l (by simp) c0
  clear S1l
  go_wp2_with fail
  refine (calls_b S1 (HS.out _ S1.bel)).mono ?_
  rintro e w2 ⟨rfl, S2, S2l⟩
  have c2 := loc_step S2l (by simp) c1
  clear S2l
  go_wp2_with fail
  refine (HL.out _).mono ?_
  rintro e w4 ⟨rfl, r4⟩
  go_wp2
  go_ret
  exact ⟨rfl, S2.bel.trans (r4.mono S2.bel.size)⟩

theorem skeeps_any (t p s : Int) (sv : Value) (vals : List Int) (w : World) (hR : Rd w sv 1 vals.length (uints vals)) (hu : ∀ u ∈ vals, VS.U32 u) :
    Calls Tryz.prog 4 #[.agg #[.int .i64 t, .int .i64 p, .int .i64 s], sv] w fun e W' => e = .returned (.bool true) ∧ Below w.heap.size w W' := by
  by_cases hp : p ≤ 64
  · rcases sound_cases t p s sv vals w hR hu hp with ⟨P, ad, c, rfl, rfl, hx, hs⟩ | hS
    · have hb := hx.bd
      obtain ⟨T, rfl⟩ : ∃ T : Nat, t = T := ⟨t.toNat, by omega⟩
      exact skeeps_main T s P ad c vals w hR hu hp hx hs
    · obtain ⟨a, cp, rfl⟩ := rd12_len hR
      exact skeeps_bad t p s a _ cp w hp hS
  · obtain ⟨a, cp, rfl⟩ := rd12_len hR
    exact skeeps_few t p s a _ cp w hp
end Go.Proofs.YtpmoajhpgekhcaaGreat
