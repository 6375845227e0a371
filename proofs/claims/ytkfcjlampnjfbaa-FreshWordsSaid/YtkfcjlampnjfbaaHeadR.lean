/- head: the document's Encode; the words of cells and of the tip. -/
import Derived.Test.YtkfcjlampnjfbaaWords
namespace Go.Proofs.Ytkfcjlampnjfbaa
open Go.RowKit

set_option maxHeartbeats 1000000 in
set_option maxRecDepth 100000 in
theorem rencode_right (t p s x : Nat) (n : Int) (w : World) (hr : rightB t p s = true) (hx : t + p * 65536 + s * 4294967296 = x) (hn : wordsN t p = n) :
    Calls Try.prog 83 #[.agg #[.int .i64 t, .int .i64 p, .int .i64 s]] w (WordsP w (headL x n)) := by
  obtain ⟨b1, b2, b3, b4, b5, b6⟩ := right_bd hr
  have HC := Lib.hid (fun w => rword_right t p s w hr)
  rw [hx] at HC
  have HW := Lib.hid (fun w => rwords_right t p s w hr)
  rw [hn] at HW
  have hx2 : x < 18446744073709551616 := by omega
  have hn2 : 0 ≤ n ∧ n ≤ 100000 := by rw [← hn]; unfold wordsN makersN cellsN; omega
  have hwn : IntKind.u64.wrap n = n := wraps_u64 _ (by omega) (by omega)
  have hu := Lib.hid (headB_u64 hx2 hn2.1 hn2.2)
  have hsb := sumF_bd (headB x n)
  have hws : IntKind.u64.wrap (sumF (headB x n)) = sumF (headB x n) := wraps_u64 _ (by omega) (by omega)
  have hL : headL x n = headB x n ++ [sumF (headB x n)] := rfl
  have HL := Lib.hid hL
  have HS := Lib.hid (fun g w => rsum_any (headB x n) g w)
  generalize sumF (headB x n) = y at *
  obtain ⟨i0, hi0, hi1, hi2, hi3⟩ := info_parts infoU64
  have HI := Lib.hid (And.intro hi0 (And.intro hi1 (And.intro hi2 hi3)))
  clear hi0 hi1 hi2 hi3 hr hx hn hL
  have c0 := loc_alloc w #[.int .i64 t, .int .i64 p, .int .i64 s] 23
  have S0 := ((BS.start w).alloc (.cells #[.int .i64 t, .int .i64 p, .int .i64 s] 23))
  go_enter Try.func83, Try.ntmps83
  go_wp2_with fail
  refine (calls_b S0 (HC.out _)).mono ?_
  rintro e w1 ⟨rfl, S1, S1l⟩
  have c1 := loc_step S1l (by simp) c0
  clear S1l
  go_wp2_with fail
  refine (calls_b S1 (HW.out _)).mono ?_
  rintro e w2 ⟨rfl, S2, S2l⟩
  have c2 := loc_step S2l (by simp) c1
  clear S2l
  have R2 : (w2.alloc (.cells #[.int .u64 5638862229071736881, .int .u64 1, .int .u64 x, .int .u64 n, .int .u64 0, .int .u64 0, .int .u64 0] 100)).ownsRow 0 100 1 (.slice (some ⟨w2.heap.size, 0, none⟩) 7 7) 7 (ulongs (headB x n)) := row_built w2 (ulongs (headB x n)) 7 (by simp [ulongs, headB]) (by omega)
  have S3 := S2.alloc (.cells #[.int .u64 5638862229071736881, .int .u64 1, .int .u64 x, .int .u64 n, .int .u64 0, .int .u64 0, .int .u64 0] 100)
  go_wp2_with fail
  refine (HS.out w2.heap.size _ (by simp [headB]) hu.out (by simp) (fun j hj => ?_)).mono ?_
  · have := R2.cellAt j (by simpa [headB] using hj)
    rw [this]
    simp [ulongs, hj]
  rintro e w3 ⟨rfl, b3⟩
  have R3 := ((BS.start _).below b3).row R2
  have S4 := S3.below b3
  have l2 : w2.heap.size < w3.heap.size := (S4.ls w2.heap.size (by simp)).1
  clear S0 S1 S2 S3 R2 c0 c1 c2 b3 HC HW HS hu
  go_wp2_with (at_builtin; go_must (refine wpL_append rfl _ _ rfl 100 i0 (.int .u64 0) 1 8 Try.underlying58 HI.out.1 HI.out.2.1 HI.out.2.2.1 HI.out.2.2.2 rfl (by decide) (.slice (some ⟨w2.heap.size, 0, none⟩) 7 7) 7 (ulongs (headB x n)) rfl (R3.alloc _) ⟨w3.heap.size, 0, none⟩ 1 1 [.int .u64 y] rfl rfl (cell_one_new _ _ _) ?c1 ?c2 ?c3 ?_); go_must (case c1 => (simp [Value.oneCell'])); go_must (case c2 => (unfold maxLen; omega)); go_must (case c3 => (omega)); go_must (intro v' w5 hown5 hg5 hnew5 hnil5); clear hnil5)
  go_ret
  have S5 := (S4.alloc (.cells #[.int .u64 y] 100)).grown hg5 (fun k hk => by simp [Value.ownBlock] at hk; simp [hk]) [] (by simp)
  refine ⟨v', rfl, ?_, fun k hk => ?_, S5.bel⟩
  · rw [HL.out]
    simpa [headB, ulongs] using hown5
  · have := S4.bel.size
    rcases hnew5 k hk with h | h
    · simp [Value.ownBlock] at h
      have := (S4.ls w2.heap.size (by simp)).2
      omega
    · simp at h; omega
theorem rencode_wrong (t p s : Int) (w : World) (hr : rightB t p s = false) :
    Calls Try.prog 83 #[.agg #[.int .i64 t, .int .i64 p, .int .i64 s]] w (WordsP w []) := by
  have HC := Lib.hid (fun w => rword_wrong t p s w hr)
  go_enter Try.func83, Try.ntmps83
  go_wp2_with fail
  refine (HC.out _).mono ?_
  rintro e w1 ⟨rfl, ha⟩
  obtain ⟨hac, haf⟩ := bcell ha
  have haz0 : w.heap.size < w1.heap.size := by have := ha.size; first | omega | (simp at this; omega)
  go_wp2
  go_ret
  refine ⟨_, rfl, World.ownsRow_nil _ _ _ _, by simp [Value.ownBlock], ?_⟩
  (repeat (first | exact Below.refl _ _ | assumption | refine Below.setCell ?_ (by first | omega | (simp; done) | (simp; omega)) _ | refine Below.alloc ?_ (by first | omega | (simp; done) | (simp; omega)) _ | refine Below.drew ?_ | refine Below.trans ?_ (Below.mono ‹Below _ _ _› (by first | omega | (simp; done) | (simp; omega)))))

theorem rjoin10 (w : World) : Calls Try.prog 84 #[.int .u32 1, .int .u32 0] w fun e w' => e = .returned (.int .u64 4294967296) ∧ Below w.heap.size w w' := by
  go_enter Try.func84, Try.ntmps84
  go_wp2
  go_ret
  exact ⟨rfl, Below.refl _ _⟩
theorem hjoin10 (w : World) : Calls Try.prog 117 #[.int .u32 1, .int .u32 0] w fun e w' => e = .returned (.int .u64 4294967296) ∧ Below w.heap.size w w' := by
  go_enter Try.func117, Try.ntmps117
  go_wp2
  go_ret
  exact ⟨rfl, Below.refl _ _⟩
theorem hjoin0 (v : Int) (w : World) (h0 : 0 ≤ v) (h1 : v < 4294967296) : Calls Try.prog 117 #[.int .u32 0, .int .u32 v] w fun e w' => e = .returned (.int .u64 v) ∧ Below w.heap.size w w' := by
  have hw : IntKind.u64.wrap v = v := wraps_u64 _ (by omega) (by omega)
  have ho : bits BinOp.or IntKind.u64 0 v = v := by
    have := bits_join .u64 64 (by decide) wraps_u64 32 0 v (by omega) (by decide) (by decide) h0 (by omega) (by omega)
    omega
  go_enter Try.func117, Try.ntmps117
  go_wp2
  go_ret
  exact ⟨rfl, Below.refl _ _⟩
theorem mcell_any (v : Int) (w : World) (h0 : 0 ≤ v) (h1 : v < 4294967296) : Calls Try.prog 80 #[.int .u32 0, .int .u32 v] w fun e w' => e = .returned (.int .u64 v) ∧ Below w.heap.size w w' := by
  have H := Lib.hid (fun w => hjoin0 v w h0 h1)
  go_enter Try.func80, Try.ntmps80
  go_wp2_with fail
  refine (H.out _).mono ?_
  rintro e w1 ⟨rfl, b1⟩
  go_wp2
  go_ret
  exact ⟨rfl, b1⟩
theorem maker0 (w : World) : Calls Try.prog 116 #[.int .i64 0] w fun e w' => e = .returned (.bool true) ∧ Below w.heap.size w w' := by
  go_enter Try.func116, Try.ntmps116
  go_wp2
  go_ret
  exact ⟨rfl, Below.refl _ _⟩
theorem mtip_any (w : World) : Calls Try.prog 79 #[.int .u32 1, .int .i64 0] w fun e w' => e = .returned (.tuple #[.int .u64 4294967296, .bool true]) ∧ Below w.heap.size w w' := by
  have H := Lib.hid hjoin10
  have HM := Lib.hid maker0
  go_enter Try.func79, Try.ntmps79
  go_wp2_with fail
  refine (HM.out _).mono ?_
  rintro e w1 ⟨rfl, b1⟩
  go_wp2_with fail
  refine (H.out _).mono ?_
  rintro e w2 ⟨rfl, b2⟩
  go_wp2
  exact bodyPost_ret (v := .tuple #[.int .u64 4294967296, .bool true]) (by simp [results, Try.results79, go_sem]) rfl ⟨rfl, b1.trans (b2.mono b1.size)⟩
theorem pword_any (t p s c : Int) (w : World) (hr : rightB t p s = true) (h0 : 0 ≤ c) (h1 : c < cellsN t p) :
    Calls Try.prog 81 #[.agg #[.int .i64 t, .int .i64 p, .int .i64 s], .int .i64 c] w fun e w' => e = .returned (.int .i64 (16 + c)) ∧ Below w.heap.size w w' := by
  have HL := Lib.hid (fun w => lay_right t p s w hr)
  have HC := Lib.hid (fun m w => lcells_any t p s m w hr)
  have hb : cellsN t p ≤ 10000 := by have := right_bd hr; unfold cellsN; omega
  have HW := Lib.hid (fun w => within_any 16 c (cellsN t p) w (by omega) (by omega) (by omega))
  have hwf : withinF 16 c (cellsN t p) = 16 + c := by unfold withinF; rw [if_neg (by omega)]
  rw [hwf] at HW
  generalize cellsN t p = n at *
  clear hwf hr
  go_enter Try.func81, Try.ntmps81
  go_wp2_with fail
  refine (HL.out _).mono ?_
  rintro e w1 ⟨rfl, ha⟩
  obtain ⟨hac, haf⟩ := bcell ha
  have haz0 : w.heap.size < w1.heap.size := by have := ha.size; first | omega | (simp at this; omega)
  go_wp2_with fail
  refine (HC.out _ _).mono ?_
  rintro e w2 ⟨rfl, hb2⟩
  obtain ⟨hb2c, hb2f⟩ := bcell hb2
  go_wp2_with fail
  refine (HW.out _).mono ?_
  rintro e w3 ⟨rfl, rfl⟩
  go_wp2
  go_ret
  refine ⟨rfl, ?_⟩
  (repeat (first | exact Below.refl _ _ | assumption | refine Below.setCell ?_ (by first | omega | (simp; done) | (simp; omega)) _ | refine Below.alloc ?_ (by first | omega | (simp; done) | (simp; omega)) _ | refine Below.drew ?_ | refine Below.trans ?_ (Below.mono ‹Below _ _ _› (by first | omega | (simp; done) | (simp; omega)))))
end Go.Proofs.Ytkfcjlampnjfbaa
