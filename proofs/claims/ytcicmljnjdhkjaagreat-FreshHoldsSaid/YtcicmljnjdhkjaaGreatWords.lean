/- words: rows of words against one another; places of words. -/
import Derived.Test.YtcicmljnjdhkjaaGreatHead
import Derived.Test.YtcicmljnjdhkjaaGreatVals
namespace Go.Proofs.YtcicmljnjdhkjaaGreat
open Go.RowKit

def ulongs (l : List Int) : List Value := l.map (.int .u64)

def FirstRel (n m : Int) (w : World) (a : Value) (wr : World) : Prop := ∃ k : Int, a = .int .i64 k ∧ n ≤ k ∧ k ≤ m ∧ Below w.heap.size w wr
theorem infoU64 : (Tryz.prog.info? 72).map (fun i => (i.zero, i.size, i.bytes)) = some (some (.int .u64 0), 1, 8) := by kernel_rfl
theorem row_built (w : World) (cs : List Value) (n : Nat) (hn : cs.length = n) (h : n ≤ 1000000) : (w.alloc (.cells cs.toArray 72)).ownsRow 0 72 1 (.slice (some ⟨w.heap.size, 0, none⟩) n n) n cs := by
  refine ⟨by simpa using hn, Or.inr ⟨w.heap.size, n, cs.toArray, rfl, Nat.zero_le _, heap_alloc_new w _, Nat.le_refl _, by unfold maxLen; omega, by simpa using hn, ?_⟩⟩
  simp [← hn]
def headB (x : Nat) (n : Int) : List Int := [5638862229071736881, 1, x, n, 0, 0, 0]
def headL (x : Nat) (n : Int) : List Int := headB x n ++ [sumF (headB x n)]
/-- what answers a row of words of its own. -/
def WordsP (w : World) (l : List Int) (e : Ending) (w' : World) : Prop :=
  ∃ v, e = .returned v ∧ w'.ownsRow 0 72 1 v l.length (ulongs l) ∧ (∀ k, v.ownBlock = some k → w.heap.size ≤ k) ∧ Below w.heap.size w w'
theorem headB_u64 {x : Nat} {n : Int} (hx : x < 18446744073709551616) (hn : 0 ≤ n) (hn2 : n ≤ 100000) : ∀ y ∈ headB x n, 0 ≤ y ∧ y < 18446744073709551616 := by
  intro y hy
  simp [headB] at hy
  omega
set_option maxHeartbeats 1000000 in
set_option maxRecDepth 100000 in
theorem encode_right (t p s x : Nat) (n : Int) (w : World) (hr : rightB t p s = true) (hx : t + p * 65536 + s * 4294967296 = x) (hn : wordsN t p = n) :
    Calls Tryz.prog 48 #[.agg #[.int .i64 t, .int .i64 p, .int .i64 s]] w (WordsP w (headL x n)) := by
  obtain ⟨b1, b2, b3, b4, b5, b6⟩ := right_bd hr
  have HC := Lib.hid (fun w => cword_right t p s w hr)
  rw [hx] at HC
  have HW := Lib.hid (fun w => words_any t p s w)
  have hwf : wordsF t p s = wordsN t p := by simp [wordsF, hr]
  rw [hwf, hn] at HW
  have hx2 : x < 18446744073709551616 := by omega
  have hn2 : 0 ≤ n ∧ n ≤ 100000 := by rw [← hn]; unfold wordsN makersN cellsN; omega
  have hwn : IntKind.u64.wrap n = n := wraps_u64 _ (by omega) (by omega)
  have hu := Lib.hid (headB_u64 hx2 hn2.1 hn2.2)
  have hsb := sumF_bd (headB x n)
  have hws : IntKind.u64.wrap (sumF (headB x n)) = sumF (headB x n) := wraps_u64 _ (by omega) (by omega)
  have hL : headL x n = headB x n ++ [sumF (headB x n)] := rfl
  have HL := Lib.hid hL
  have HS := Lib.hid (fun g w => ssum_any (headB x n) g w)
  generalize sumF (headB x n) = y at *
  obtain ⟨i0, hi0, hi1, hi2, hi3⟩ := info_parts infoU64
  have HI := Lib.hid (And.intro hi0 (And.intro hi1 (And.intro hi2 hi3)))
  clear hi0 hi1 hi2 hi3 hwf hr hx hn hL
  have c0 := loc_alloc w #[.int .i64 t, .int .i64 p, .int .i64 s] 23
  have S0 := ((BS.start w).alloc (.cells #[.int .i64 t, .int .i64 p, .int .i64 s] 23))
  go_enter Tryz.func48, Tryz.ntmps48
  go_wp2_with fail
  refine (calls_b S0 (HC.out _)).mono ?_
  rintro e w1 ⟨rfl, S1, S1l⟩
  have c1 := loc_step S1l (by simp) c0
  clear S1l
  go_wp2_with fail
  refine (calls_b S1 (HW.out _)).mono ?_
  rintro e w2 ⟨rfl, S2, S2l⟩
  have c2 := loc_step S2l (by simp) c1
  clear S2l
  have R2 : (w2.alloc (.cells #[.int .u64 5638862229071736881, .int .u64 1, .int .u64 x, .int .u64 n, .int .u64 0, .int .u64 0, .int .u64 0] 72)).ownsRow 0 72 1 (.slice (some ⟨w2.heap.size, 0, none⟩) 7 7) 7 (ulongs (headB x n)) := row_built w2 (ulongs (headB x n)) 7 (by simp [ulongs, headB]) (by omega)
  have S3 := S2.alloc (.cells #[.int .u64 5638862229071736881, .int .u64 1, .int .u64 x, .int .u64 n, .int .u64 0, .int .u64 0, .int .u64 0] 72)
  go_wp2_with fail
  refine (HS.out w2.heap.size _ (by simp [headB]) hu.out (by simp) (fun j hj => ?_)).mono ?_
  · have := R2.cellAt j (by simpa [headB] using hj)
    rw [this]
    simp [ulongs, hj]
  rintro e w3 ⟨rfl, b3⟩
  have R3 := ((BS.start _).below b3).row R2
  have S4 := S3.below b3
  have l2 : w2.heap.size < w3.heap.size := (S4.ls w2.heap.size (by simp)).1
  clear S0 S1 S2 S3 R2 c0 c1 c2 b3 HC HW HS hu
  go_wp2_with (at_builtin; go_must (refine wpL_append rfl _ _ rfl 72 i0 (.int .u64 0) 1 8 Tryz.underlying27 HI.out.1 HI.out.2.1 HI.out.2.2.1 HI.out.2.2.2 rfl (by decide) (.slice (some ⟨w2.heap.size, 0, none⟩) 7 7) 7 (ulongs (headB x n)) rfl (R3.alloc _) ⟨w3.heap.size, 0, none⟩ 1 1 [.int .u64 y] rfl rfl (cell_one_new _ _ _) ?c1 ?c2 ?c3 ?_); go_must (case c1 => (simp [Value.oneCell'])); go_must (case c2 => (unfold maxLen; omega)); go_must (case c3 => (omega)); go_must (intro v' w5 hown5 hg5 hnew5 hnil5); clear hnil5)
  go_ret
  have S5 := (S4.alloc (.cells #[.int .u64 y] 72)).grown hg5 (fun k hk => by simp [Value.ownBlock] at hk; simp [hk]) [] (by simp)
  refine ⟨v', rfl, ?_, fun k hk => ?_, S5.bel⟩
  · rw [HL.out]
    simpa [headB, ulongs] using hown5
  · have := S4.bel.size
    rcases hnew5 k hk with h | h
    · simp [Value.ownBlock] at h
      have := (S4.ls w2.heap.size (by simp)).2
      omega
    · simp at h; omega
theorem encode_wrong (t p s : Int) (w : World) (hr : rightB t p s = false) :
    Calls Tryz.prog 48 #[.agg #[.int .i64 t, .int .i64 p, .int .i64 s]] w (WordsP w []) := by
  have HC := Lib.hid (fun w => cword_wrong t p s w hr)
  go_enter Tryz.func48, Tryz.ntmps48
  go_wp2_with fail
  refine (HC.out _).mono ?_
  rintro e w1 ⟨rfl, ha⟩
  obtain ⟨hac, haf⟩ := bcell ha
  have haz0 : w.heap.size < w1.heap.size := by have := ha.size; first | omega | (simp at this; omega)
  go_wp2
  go_ret
  refine ⟨_, rfl, World.ownsRow_nil _ _ _ _, by simp [Value.ownBlock], ?_⟩
  (repeat (first | exact Below.refl _ _ | assumption | refine Below.setCell ?_ (by first | omega | (simp; done) | (simp; omega)) _ | refine Below.alloc ?_ (by first | omega | (simp; done) | (simp; omega)) _ | refine Below.drew ?_ | refine Below.trans ?_ (Below.mono ‹Below _ _ _› (by first | omega | (simp; done) | (simp; omega)))))
end Go.Proofs.YtcicmljnjdhkjaaGreat
