/- parts of the proof, merged by a program. -/
import Derived.Test.YtpmoajhpgekhcaaGreatMsa12
set_option linter.unusedSimpArgs false
set_option linter.unusedVariables false
/- SweepAny: every input. -/
set_option linter.unusedSimpArgs false
set_option linter.unusedVariables false
namespace Go.Proofs.YtpmoajhpgekhcaaGreat
open Go.ChangeShapes Go.RowKit

theorem sany_few (t p s : Int) (a oa : Option Addr) (m cp on oc : Nat) (w : World) (hp : ¬ p ≤ 64) :
    Calls Tryz.prog 3 #[.agg #[.int .i64 t, .int .i64 p, .int .i64 s], .slice a m cp, .slice oa on oc] w fun e W' => e = .returned (.bool true) ∧ Below w.heap.size w W' := by
  have HF := Lib.hid (fun w => few12_any t p s w)
  rw [show decide (p ≤ 64) = false by simpa using hp] at HF
  clear hp
  have HL := Lib.hid swlive_any
  have c0 := loc_alloc w #[.int .i64 t, .int .i64 p, .int .i64 s] 23
  have S0 := ((BS.start w).alloc (.cells #[.int .i64 t, .int .i64 p, .int .i64 s] 23))
  go_enter Tryz.func3, Tryz.ntmps3
  go_wp2_with fail
  refine (calls_b S0 (HF.out _)).mono ?_
  rintro e w1 ⟨rfl, S1, S1l⟩
  have c1 := loc_step S1l (by simp) c0
  clear S1l
  go_wp2_with fail
  refine (HL.out _).mono ?_
  rintro e w4 ⟨rfl, r4⟩
  go_wp2
  go_ret
  exact ⟨rfl, S1.bel.trans (r4.mono S1.bel.size)⟩
theorem sany_bad (t p s : Int) (a oa : Option Addr) (m cp on oc : Nat) (w : World) (hp : p ≤ 64) (hS : ∀ W, Below w.heap.size w W → Calls Tryz.prog 6 #[.agg #[.int .i64 t, .int .i64 p, .int .i64 s], .slice a m cp] W fun e W' => e = .returned (.bool false) ∧ Below W.heap.size W W') :
    Calls Tryz.prog 3 #[.agg #[.int .i64 t, .int .i64 p, .int .i64 s], .slice a m cp, .slice oa on oc] w fun e W' => e = .returned (.bool true) ∧ Below w.heap.size w W' := by
  have HF := Lib.hid (fun w => few12_any t p s w)
  rw [show decide (p ≤ 64) = true by simpa using hp] at HF
  clear hp
  have HS := Lib.hid hS
  clear hS
  have HL := Lib.hid swlive_any
  have c0 := loc_alloc w #[.int .i64 t, .int .i64 p, .int .i64 s] 23
  have S0 := ((BS.start w).alloc (.cells #[.int .i64 t, .int .i64 p, .int .i64 s] 23))
  go_enter Tryz.func3, Tryz.ntmps3
  go_wp2_with fail
  refine (calls_b S0 (HF.out _)).mono ?_
  rintro e w1 ⟨rfl, S1, S1l⟩
  have c1 := loc_step S1l (by simp) c0
  clear S1l
  go_wp2_with fail
  refine (calls_b S1 (HS.out _ S1.bel)).mono ?_
  rintro e w2 ⟨rfl, S2, S2l⟩
  have c2 := loc_step S2l (by simp) c1
  clear S2l
  go_wp2_with fail
  refine (HL.out _).mono ?_
  rintro e w4 ⟨rfl, r4⟩
  go_wp2
  go_ret
  exact ⟨rfl, S2.bel.trans (r4.mono S2.bel.size)⟩
theorem sany_long (t p s : Int) (a oa : Option Addr) (m cp on oc : Nat) (w : World) (hp : p ≤ 64) (hl : 100 < on) (hS : ∀ W, Below w.heap.size w W → Calls Tryz.prog 6 #[.agg #[.int .i64 t, .int .i64 p, .int .i64 s], .slice a m cp] W fun e W' => e = .returned (.bool true) ∧ Below W.heap.size W W') :
    Calls Tryz.prog 3 #[.agg #[.int .i64 t, .int .i64 p, .int .i64 s], .slice a m cp, .slice oa on oc] w fun e W' => e = .returned (.bool true) ∧ Below w.heap.size w W' := by
  have HF := Lib.hid (fun w => few12_any t p s w)
  rw [show decide (p ≤ 64) = true by simpa using hp] at HF
  clear hp
  have HS := Lib.hid hS
  clear hS
  have hl2 : (100 : Int) < on := by omega
  have HL := Lib.hid swlive_any
  have c0 := loc_alloc w #[.int .i64 t, .int .i64 p, .int .i64 s] 23
  have S0 := ((BS.start w).alloc (.cells #[.int .i64 t, .int .i64 p, .int .i64 s] 23))
  go_enter Tryz.func3, Tryz.ntmps3
  go_wp2_with fail
  refine (calls_b S0 (HF.out _)).mono ?_
  rintro e w1 ⟨rfl, S1, S1l⟩
  have c1 := loc_step S1l (by simp) c0
  clear S1l
  go_wp2_with fail
  refine (calls_b S1 (HS.out _ S1.bel)).mono ?_
  rintro e w2 ⟨rfl, S2, S2l⟩
  have c2 := loc_step S2l (by simp) c1
  clear S2l
  go_wp2_with fail
  refine (HL.out _).mono ?_
  rintro e w4 ⟨rfl, r4⟩
  go_wp2
  go_ret
  exact ⟨rfl, S2.bel.trans (r4.mono S2.bel.size)⟩
theorem sany_any (t p s : Int) (sv ov : Value) (vals ord : List Int) (w : World) (hR : Rd w sv 1 vals.length (uints vals)) (hu : ∀ u ∈ vals, VS.U32 u) (hO : RdI w ov ord) :
    Calls Tryz.prog 3 #[.agg #[.int .i64 t, .int .i64 p, .int .i64 s], sv, ov] w fun e W' => e = .returned (.bool true) ∧ Below w.heap.size w W' := by
  obtain ⟨oa, oc, rfl⟩ := hO.len
  by_cases hp : p ≤ 64
  · rcases sound_cases t p s sv vals w hR hu hp with ⟨P, ad, c, rfl, rfl, hx, hs⟩ | hS
    · have hb := hx.bd
      obtain ⟨T, rfl⟩ : ∃ T : Nat, t = T := ⟨t.toNat, by omega⟩
      by_cases ho : ord.length ≤ 100
      · exact sany_main T s P ad c vals oa oc ord w hR hu hO ho hp hx hs
      · refine sany_long T P s _ oa _ c _ oc w hp (by omega) (fun W hb => ?_)
        have := rsound_any c W (hx.keep hb)
        rwa [hs] at this
    · obtain ⟨a, cp, rfl⟩ := rd12_len hR
      exact sany_bad t p s a oa _ cp _ oc w hp hS
  · obtain ⟨a, cp, rfl⟩ := rd12_len hR
    exact sany_few t p s a oa _ cp _ oc w hp

section
variable {H : Type} {enc : TypeId × Value → H} {w : World} {base : Nat} {spare : Nat → Bool} {held : Bool}
theorem rd_ints {fuel : Nat} {cs : List Value} {x : DataW H × List MemPlace} (h : DataW.trod enc Tryz.prog w base spare held fuel 25 cs = some x) :
    ∃ v l, cs = [v] ∧ RdI w v l := by
  rcases open_ints Tryz.underlying25 Tryz.underlying3 (by kernel_rfl) h with ⟨rfl, -⟩ | ⟨a, len, cap, zs, rfl, -, hl, -, hz, -, hc, hw⟩
  · exact ⟨_, [], rfl, rfl, Or.inl ⟨rfl, rfl⟩⟩
  · have hle : len ≤ zs.length := by rw [hz]; split <;> omega
    have e : (zs.take len).length = len := by simp; omega
    refine ⟨_, zs.take len, rfl, ⟨by simp [longs], Or.inr ⟨a, cap, by rw [e], ?_⟩⟩⟩
    intro j u hj
    have hjl : j < len := by
      have := (List.getElem?_eq_some_iff.1 hj).1
      simp [longs] at this; omega
    rw [hc j (by omega), ← hj]
    simp [longs, hjl, show j < zs.length by omega]
end
end Go.Proofs.YtpmoajhpgekhcaaGreat
