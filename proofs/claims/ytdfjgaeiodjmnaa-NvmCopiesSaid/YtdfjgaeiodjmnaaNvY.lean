/- the document's memories: New. -/
import Derived.Test.YtdfjgaeiodjmnaaNvX
set_option linter.unusedSimpArgs false
set_option linter.unusedVariables false
namespace Go.Proofs.Ytdfjgaeiodjmnaa
open Go.RowKit

theorem rnew_no (ad : Option Addr) (n c : Nat) (w : World) (h : n = 0 ∨ n % 8 ≠ 0 ∨ 65536 < n) :
    Calls Try.prog 17 #[.slice ad n c] w fun e w' => e = .returned (.pointer none) ∧ w = w' := by
  by_cases h1 : n < 8
  · have h1b : (n : Int) < 8 := by omega
    go_enter Try.func17, Try.ntmps17
    go_wp2
    go_ret
    exact ⟨rfl, rfl⟩
  · have h1b : ¬ (n : Int) < 8 := by omega
    by_cases h2 : n % 8 = 0
    · have h2b : ((n : Int) % 8 != 0) = false := by simp; omega
      have h3 : (65536 : Int) < n := by omega
      go_enter Try.func17, Try.ntmps17
      go_wp2
      go_ret
      exact ⟨rfl, rfl⟩
    · have h2b : ((n : Int) % 8 != 0) = true := by simp; omega
      go_enter Try.func17, Try.ntmps17
      go_wp2
      go_ret
      exact ⟨rfl, rfl⟩

/-- a document's memory that a call has made. -/
def NewRP (w : World) (s : NM) (e : Ending) (w' : World) : Prop := ∃ b, e = .returned (.pointer (some ⟨b, 0, none⟩)) ∧ w.heap.size ≤ b ∧ (∃ S, RM w' b S s ∧ ∀ k, S k → w.heap.size ≤ k) ∧ Below w.heap.size w w'

/-- a row of words that is new since w. -/
structure NewRow (w w' : World) (v : Value) (n : Nat) (xs : List Int) : Prop where
  row : w'.ownsRow w.heap.size 24 1 v n (u64s xs)
  bel : Below w.heap.size w w'
theorem NewRow.of {w w1 w5 : World} {v : Value} {n : Nat} {xs : List Int} (hw : Below w.heap.size w w1) (hown : w5.ownsRow 0 24 1 v n (u64s xs)) (hg : (w1.alloc (.cells #[] 24)).grownBy w5 (some w1.heap.size)) (hn : ∀ k, v.ownBlock = some k → (Value.slice (some ⟨w1.heap.size, 0, none⟩) 0 0).ownBlock = some k ∨ (w1.alloc (.cells #[] 24)).heap.size ≤ k) :
    NewRow w1 w5 v n xs ∧ Below w.heap.size w w5 := by
  have hz := hw.size
  have hb : Below w1.heap.size w1 w5 := ((Below.refl w1.heap.size w1).alloc (Nat.le_refl _) _).grown hg (by simp) (fun x hx => by simp at hx; omega)
  refine ⟨⟨ownsRow_base hown fun x hx => ?_, hb⟩, hw.trans (hb.mono hz)⟩
  rcases hn x hx with h1 | h1
  · simp [Value.ownBlock] at h1; omega
  · simp at h1; omega

def nilM (v1 v2 : Value) : Array Value := #[v1, v2, .slice none 0 0, .slice none 0 0, .slice none 0 0, .slice none 0 0, .slice none 0 0, .slice none 0 0, .slice none 0 0, .slice none 0 0, .slice none 0 0, .slice none 0 0, .slice none 0 0, .slice none 0 0, .slice none 0 0, .slice none 0 0, .slice none 0 0, .slice none 0 0, .slice none 0 0]

theorem rq_made {w w1 w2 : World} {v1 v2 : Value} {W K : List Int} {rows : Nat → List Value} (h1 : NewRow w w1 v1 W.length W) (h2 : NewRow w1 w2 v2 K.length K) :
    RQ (w2.alloc (.cells (nilM v1 v2) 46)) w2.heap.size (fun k => w.heap.size ≤ k ∧ k < w2.heap.size + 1) W K v1 v2 (fun _ => .slice none 0 0) 0 rows ∧ Below w.heap.size w (w2.alloc (.cells (nilM v1 v2) 46)) := by
  have z1 := h1.bel.size
  have z2 := h2.bel.size
  have hw1 : w2.ownsRow w.heap.size 24 1 v1 W.length (u64s W) := ownsRow_keep h1.row fun k hk => h2.bel.block k (h1.row.lt k hk).2
  have hw2 : w2.ownsRow w.heap.size 24 1 v2 K.length (u64s K) := Joins.ownsRow_le h2.row z1
  refine ⟨⟨⟨nilM v1 v2, heap_alloc_new w2 _, rfl, rfl, rfl, ?_⟩, Joins.ownsRow_le (hw1.alloc _) (Nat.zero_le _), Joins.ownsRow_le (hw2.alloc _) (Nat.zero_le _), fun i hi => absurd hi (by omega), ?_, fun i hi => absurd hi (by omega), ⟨by omega, by omega⟩, ?_, ?_, fun i hi => absurd hi (by omega), fun x hx => by simpa using hx.2⟩, (h1.bel.trans (h2.bel.mono z1)).alloc (by omega) _⟩
  · intro i hi
    have : i = 0 ∨ i = 1 ∨ i = 2 ∨ i = 3 ∨ i = 4 ∨ i = 5 ∨ i = 6 ∨ i = 7 ∨ i = 8 ∨ i = 9 ∨ i = 10 ∨ i = 11 ∨ i = 12 ∨ i = 13 ∨ i = 14 ∨ i = 15 ∨ i = 16 := by omega
    rcases this with rfl | rfl | rfl | rfl | rfl | rfl | rfl | rfl | rfl | rfl | rfl | rfl | rfl | rfl | rfl | rfl | rfl <;> rfl
  · intro x hx hx2
    have := (h1.row.lt x hx).2
    have := (h2.row.lt x hx2).1
    omega
  · intro x hx
    have := hw1.lt x hx
    exact ⟨this.1, by omega⟩
  · intro x hx
    have := hw2.lt x hx
    exact ⟨this.1, by omega⟩

set_option maxHeartbeats 1000000 in
theorem rnew_any (ad : Addr) (n c : Nat) (xs : List Int) (w : World) (hl : xs.length = n) (h1 : n ≠ 0) (h2 : n % 8 = 0) (h3 : n ≤ 65536) (hu : ∀ v ∈ xs, NM.U64 v) (hc : ∀ j, j < n → w.cell? (ad.add j) = some (.int .u64 (xs.getD j 0))) :
    Calls Try.prog 17 #[.slice (some ad) n c] w (NewRP w ⟨xs, xs, []⟩) := by
  have h1b : ¬ (n : Int) < 8 := by omega
  have h2b : ((n : Int) % 8 != 0) = false := by simp; omega
  have h3b : ¬ (65536 : Int) < n := by omega
  have HI := Lib.hid (NM.new_inv (xs := xs) (by omega) (by omega) (by omega) hu)
  have HL := Lib.hid hl
  have HN0 := Lib.hid (show 0 < n by omega)
  obtain ⟨i0, hi0, hi1, hi2, hi3⟩ := info_parts infoU64
  have HT := Lib.hid (And.intro hi0 (And.intro hi1 (And.intro hi2 hi3)))
  have HC := Lib.hid (fun j u (hj : (u64s xs)[j]? = some u) => show w.cell? (ad.add j) = some u by
    have hjl : j < xs.length := by
      by_cases hjl : j < xs.length
      · exact hjl
      · rw [List.getElem?_eq_none (by rw [u64s_len]; omega)] at hj; cases hj
    rw [hc j (by omega)]
    rw [u64s_get hjl] at hj
    exact hj)
  have HC1 := Lib.hid (fun u (hu : u ∈ u64s xs) => (by obtain ⟨z, -, rfl⟩ := List.mem_map.1 hu; rfl : u.oneCell' = true))
  clear hc hu h1 h2 hl hi0 hi1 hi2 hi3
  go_enter Try.func17, Try.ntmps17
  have T0 := Lib.hid (Below.refl w.heap.size w)
  go_wp2_with (first | (have tok := T0; at_builtin; go_must (refine wpL_append rfl _ _ rfl 24 i0 (.int .u64 0) 1 8 Try.underlying22 HT.out.1 HT.out.2.1 HT.out.2.2.1 HT.out.2.2.2 rfl (by decide) (.slice (some ⟨w.heap.size, 0, none⟩) 0 0) 0 [] rfl (row_empty w 24 1) ad n c (u64s xs) rfl (by rw [u64s_len, HL.out, Nat.mul_one]) ?c0 HC1.out ?c2 ?c3 ?_); go_must (case c0 => (exact fun j u hj => (World.cell?_alloc_lt (w := w) (a := ad.add j) _ (World.block_lt_of_cell? w _ (HC.out j u hj))).trans (HC.out j u hj))); go_must (case c2 => (unfold maxLen; omega)); go_must (case c3 => (omega)); go_must (intro v' w1 hown hg hnew hnil); clear hnil; go_must (obtain ⟨g', cap', rfl⟩ := Joins.ownsRow_form hown (by have := HN0.out; omega)); go_must (rw [Nat.zero_add] at hown hnew ⊢); go_must (rw [List.nil_append] at hown); go_must (have R1 := Lib.hid (NewRow.of T0.out hown hg hnew)); clear hown hg hnew tok T0; go_must (have T1 := Lib.hid R1.out.2)) | (have tok := T1; at_builtin; go_must (refine wpL_append rfl _ _ rfl 24 i0 (.int .u64 0) 1 8 Try.underlying22 HT.out.1 HT.out.2.1 HT.out.2.2.1 HT.out.2.2.2 rfl (by decide) (.slice (some ⟨w1.heap.size, 0, none⟩) 0 0) 0 [] rfl (row_empty w1 24 1) ad n c (u64s xs) rfl (by rw [u64s_len, HL.out, Nat.mul_one]) ?c0 HC1.out ?c2 ?c3 ?_); go_must (case c0 => (exact fun j u hj => ((T1.out.alloc T1.out.size _).cell (World.block_lt_of_cell? w _ (HC.out j u hj))).trans (HC.out j u hj))); go_must (case c2 => (unfold maxLen; omega)); go_must (case c3 => (omega)); go_must (intro v' w2 hown hg hnew hnil); clear hnil; go_must (obtain ⟨g', cap', rfl⟩ := Joins.ownsRow_form hown (by have := HN0.out; omega)); go_must (rw [Nat.zero_add] at hown hnew ⊢); go_must (rw [List.nil_append] at hown); go_must (have R2 := Lib.hid (NewRow.of T1.out hown hg hnew)); clear hown hg hnew tok T1))
  obtain ⟨n1, n2⟩ := rq_made (rows := fun _ => noRow (xs.length / 8)) (w := w) (w1 := w1) (w2 := w2) (W := xs) (K := xs) (by rw [HL.out]; exact R1.out.1) (by rw [HL.out]; exact R2.out.1)
  have N1 := Lib.hid n1
  have N2 := Lib.hid n2
  have hz2 := R2.out.2.size
  clear n1 n2
  refine (rquiet_any _ _ _ xs xs _ _ _ _ N1.out (by rw [HL.out]; exact h3) (by rw [HL.out]; exact HN0.out)).mono ?_
  rintro e w6 ⟨rfl, ⟨pv', h6⟩, f6⟩
  have hz6 := f6.size
  rw [World.size_alloc] at hz6
  have H6 := Lib.hid (show RM w6 w2.heap.size (fun k => w.heap.size ≤ k ∧ k < w6.heap.size) ⟨xs, xs, []⟩ from RM.of_quiet (s := ⟨xs, xs, []⟩) (h6.move (fun _ _ => rfl) (fun x hx => by
      rcases hx with hx | hx
      · exact ⟨hx.1, by omega⟩
      · have h1 := hx.1
        rw [World.size_alloc] at h1
        exact ⟨by omega, hx.2⟩) (fun x hx => hx.2)) HI.out rfl)
  have B6 := Lib.hid (show Below w.heap.size w w6 from N2.out.trans (f6.below N2.out.size (fun x hx => hx.1)))
  clear h6 f6 hz6
  go_wp2
  go_ret
  exact ⟨_, rfl, hz2, ⟨_, H6.out, fun k hk => hk.1⟩, B6.out⟩
end Go.Proofs.Ytdfjgaeiodjmnaa
