/- slices.Clone at four types; the program's Whole, Reads, Writes, Missing. -/
import Derived.Test.YtcicmljnjdhkjaaGreatWalkGen
namespace Go.Proofs.YtcicmljnjdhkjaaGreat
open Go.RowKit

/-- the slice v of n elements reads as xs. -/
def Rd (w : World) (v : Value) (sz n : Nat) (xs : List Value) : Prop :=
  xs.length = n * sz ∧ ((v = .slice none 0 0 ∧ n = 0) ∨ ∃ ad c, v = .slice (some ad) n c ∧ ∀ j u, xs[j]? = some u → w.cell? (ad.add j) = some u)

theorem Rd.of_row {w : World} {e sz n : Nat} {v : Value} {xs : List Value} (h : w.ownsRow 0 e sz v n xs) : Rd w v sz n xs := by
  refine ⟨h.1, ?_⟩
  rcases h.2 with ⟨h1, h2⟩ | ⟨g, cap, cur, rfl, -⟩
  · exact Or.inl ⟨h1, h2⟩
  · exact Or.inr ⟨_, _, rfl, h.cells (g := g) rfl⟩

/-- a copy of its own comes back. -/
def CloneP (w : World) (E sz n : Nat) (xs : List Value) (e : Ending) (w' : World) : Prop :=
  ∃ v', e = .returned v' ∧ w'.ownsRow 0 E sz v' n xs ∧ (∀ k, v'.ownBlock = some k → w.heap.size ≤ k) ∧ Below w.heap.size w w'

theorem infoU32 : (Tryz.prog.info? 37).map (fun i => (i.zero, i.size, i.bytes)) = some (some (.int .u32 0), 1, 4) := by kernel_rfl

theorem cloneU32 (v : Value) (n : Nat) (xs : List Value) (w : World) (h : Rd w v 1 n xs) (h1 : ∀ u ∈ xs, u.oneCell' = true) (hn : n ≤ 4294967296) :
    Calls Tryz.prog 80 #[v] w (CloneP w 37 1 n xs) := by
  obtain ⟨hl, ⟨rfl, rfl⟩ | ⟨ad, c, rfl, hc⟩⟩ := h
  · obtain rfl : xs = [] := List.eq_nil_of_length_eq_zero (by simpa using hl)
    have he := fun w => Lib.run_eql_slice_nil (P := Tryz.prog) w 24 37 none 0 0 0 0 Tryz.underlying24
    simp only [Option.isNone_none] at he
    clear hl h1 hn
    go_enter Tryz.func80, Tryz.ntmps80
    go_wp2
    go_ret
    exact ⟨_, rfl, World.ownsRow_nil _ _ _ _, by simp [Value.ownBlock], Below.refl _ _⟩
  · have he := fun w => Lib.run_eql_slice_nil (P := Tryz.prog) w 24 37 (some ad) n c 0 0 Tryz.underlying24
    simp only [Option.isNone_some] at he
    have HL := Lib.hid hl
    have H1 := Lib.hid h1
    have HC := Lib.hid hc
    have HN := Lib.hid hn
    obtain ⟨i0, hi0, hi1, hi2, hi3⟩ := info_parts infoU32
    have HI := Lib.hid (And.intro hi0 (And.intro hi1 (And.intro hi2 hi3)))
    clear hl h1 hc hn hi0 hi1 hi2 hi3
    go_enter Tryz.func80, Tryz.ntmps80
    go_wp2_with (at_builtin; go_must (refine wpL_append rfl _ _ rfl 37 i0 (.int .u32 0) 1 4 Tryz.underlying24 HI.out.1 HI.out.2.1 HI.out.2.2.1 HI.out.2.2.2 rfl (by decide) (.slice (some ⟨w.heap.size, 0, none⟩) 0 0) 0 [] rfl (World.ownsRow_made w #[] 0 (Nat.zero_le _) (Nat.zero_le _) rfl) ad n c xs rfl HL.out ?c0 H1.out ?c2 ?c3 ?_); go_must (case c0 => (intro j u hj; exact (World.cell?_alloc_lt _ _ _ (World.block_lt_of_cell? w _ (HC.out j u hj))).trans (HC.out j u hj))); go_must (case c2 => (have := HN.out; unfold maxLen; omega)); go_must (case c3 => (have := HN.out; omega)); go_must (intro v' w2 hown2 hg2 hnew2 hnil2); clear hnil2)
    go_ret
    simp only [Nat.zero_add, List.nil_append] at hown2
    refine ⟨_, rfl, hown2, ?_, ?_⟩
    · intro k hk
      rcases hnew2 k hk with h | h
      · simp [Value.ownBlock] at h; omega
      · simp at h; omega
    · exact ((Below.refl _ _).alloc (Nat.le_refl _) _).grown hg2 (by simp) (by intro k hk; simp [Value.ownBlock] at hk; omega)

theorem cloneList (v : Value) (n : Nat) (xs : List Value) (w : World) (h : Rd w v 1 n xs) (h1 : ∀ u ∈ xs, u.oneCell' = true) (hn : n ≤ 4294967296) :
    Calls Tryz.prog 87 #[v] w (CloneP w 37 1 n xs) := by
  obtain ⟨hl, ⟨rfl, rfl⟩ | ⟨ad, c, rfl, hc⟩⟩ := h
  · obtain rfl : xs = [] := List.eq_nil_of_length_eq_zero (by simpa using hl)
    have he := fun w => Lib.run_eql_slice_nil (P := Tryz.prog) w 102 37 none 0 0 0 0 Tryz.underlying102
    simp only [Option.isNone_none] at he
    clear hl h1 hn
    go_enter Tryz.func87, Tryz.ntmps87
    go_wp2
    go_ret
    exact ⟨_, rfl, World.ownsRow_nil _ _ _ _, by simp [Value.ownBlock], Below.refl _ _⟩
  · have he := fun w => Lib.run_eql_slice_nil (P := Tryz.prog) w 102 37 (some ad) n c 0 0 Tryz.underlying102
    simp only [Option.isNone_some] at he
    have HL := Lib.hid hl
    have H1 := Lib.hid h1
    have HC := Lib.hid hc
    have HN := Lib.hid hn
    obtain ⟨i0, hi0, hi1, hi2, hi3⟩ := info_parts infoU32
    have HI := Lib.hid (And.intro hi0 (And.intro hi1 (And.intro hi2 hi3)))
    clear hl h1 hc hn hi0 hi1 hi2 hi3
    go_enter Tryz.func87, Tryz.ntmps87
    go_wp2_with (at_builtin; go_must (refine wpL_append rfl _ _ rfl 37 i0 (.int .u32 0) 1 4 Tryz.underlying102 HI.out.1 HI.out.2.1 HI.out.2.2.1 HI.out.2.2.2 rfl (by decide) (.slice (some ⟨w.heap.size, 0, none⟩) 0 0) 0 [] rfl (World.ownsRow_made w #[] 0 (Nat.zero_le _) (Nat.zero_le _) rfl) ad n c xs rfl HL.out ?c0 H1.out ?c2 ?c3 ?_); go_must (case c0 => (intro j u hj; exact (World.cell?_alloc_lt _ _ _ (World.block_lt_of_cell? w _ (HC.out j u hj))).trans (HC.out j u hj))); go_must (case c2 => (have := HN.out; unfold maxLen; omega)); go_must (case c3 => (have := HN.out; omega)); go_must (intro v' w2 hown2 hg2 hnew2 hnil2); clear hnil2)
    go_ret
    simp only [Nat.zero_add, List.nil_append] at hown2
    refine ⟨_, rfl, hown2, ?_, ?_⟩
    · intro k hk
      rcases hnew2 k hk with h | h
      · simp [Value.ownBlock] at h; omega
      · simp at h; omega
    · exact ((Below.refl _ _).alloc (Nat.le_refl _) _).grown hg2 (by simp) (by intro k hk; simp [Value.ownBlock] at hk; omega)

/-- the values of all cells, at first. -/
def wholeVS (vals : List Int) : VS := { n := vals.length, known := fun i => vals[i]?, reads := [], writes := [], miss := none }
def uints (l : List Int) : List Value := l.map (.int .u32)

theorem vof_any (n : Nat) (fv : Value) (w : World) (hf : ∃ T v, fv = .iface T v) :
    Calls Tryz.prog 81 #[.int .i64 n, fv] w fun e w' => e = .returned (.pointer (some ⟨w.heap.size + 2, 0, none⟩)) ∧ w' = ((w.alloc (.map #[] 0)).alloc (.map #[] 0)).alloc (.cells #[.int .i64 n, fv, .slice none 0 0, .map (some w.heap.size), .slice none 0 0, .map (some (w.heap.size + 1)), .slice none 0 0, .int .i64 (-1), .bool false] 109) := by
  obtain ⟨T, v, rfl⟩ := hf
  have hmm := @run_makeMap Tryz.prog
  go_enter Tryz.func81, Tryz.ntmps81
  go_wp2
  go_ret
  exact ⟨rfl, rfl⟩

/-- a new view comes back. -/
def NewV (w : World) (s : VS) (e : Ending) (w' : World) : Prop :=
  ∃ b, e = .returned (.pointer (some ⟨b, 0, none⟩)) ∧ PV w' b (fun k => w.heap.size ≤ k ∧ k < w'.heap.size) s ∧ Below w.heap.size w w'

theorem row_shape {w : World} {e sz n : Nat} {v : Value} {xs : List Value} (h : w.ownsRow 0 e sz v n xs) : ∃ a c, v = .slice a n c := by
  rcases h.2 with ⟨rfl, rfl⟩ | ⟨g, cap, cur, rfl, -⟩
  · exact ⟨_, _, rfl⟩
  · exact ⟨_, _, rfl⟩

theorem whole_new {w w1 : World} {vals : List Int} {sv : Value} (h2 : w1.ownsRow 0 37 1 sv vals.length (uints vals)) (hb : Below w.heap.size w w1) (hnew : ∀ k, sv.ownBlock = some k → w.heap.size ≤ k) (hn : vals.length ≤ 2147483648) (hu : ∀ v ∈ vals, VS.U32 v) :
    NewV w (wholeVS vals) (.returned (.pointer (some ⟨w1.heap.size + 2, 0, none⟩))) (((w1.alloc (.map #[] 0)).alloc (.map #[] 0)).alloc (.cells #[.int .i64 vals.length, .iface 102 sv, sv, .map (some w1.heap.size), .slice none 0 0, .map (some (w1.heap.size + 1)), .slice none 0 0, .int .i64 (-1), .bool false] 109)) := by
  have hz := hb.size
  have B3 : Below w1.heap.size w1 (((w1.alloc (.map #[] 0)).alloc (.map #[] 0)).alloc (.cells #[.int .i64 vals.length, .iface 102 sv, sv, .map (some w1.heap.size), .slice none 0 0, .map (some (w1.heap.size + 1)), .slice none 0 0, .int .i64 (-1), .bool false] 109)) := by (repeat (first | exact Below.refl _ _ | assumption | refine Below.setCell ?_ (by first | omega | (simp; done) | (simp; omega)) _ | refine Below.alloc ?_ (by first | omega | (simp; done) | (simp; omega)) _ | refine Below.drew ?_ | refine Below.trans ?_ (Below.mono ‹Below _ _ _› (by first | omega | (simp; done) | (simp; omega)))))
  refine ⟨_, rfl, ⟨.iface 102 sv, sv, .slice none 0 0, .slice none 0 0, w1.heap.size, w1.heap.size + 1, ?_⟩, hb.trans (B3.mono hz)⟩
  have e1 : (w1.alloc (.map #[] 0)).heap[w1.heap.size]? = some (.map #[] 0) := heap_alloc_new w1 _
  have e2 : ((w1.alloc (.map #[] 0)).alloc (.map #[] 0)).heap[w1.heap.size + 1]? = some (.map #[] 0) := hb_alloc _ _ _ (by simp)
  refine ⟨?_, ?_, ?_, World.ownsRow_nil _ _ _ _, World.ownsRow_nil _ _ _ _, ?_, by omega, ?_, ?_, ?_, by simp [Value.ownBlock], by simp [Value.ownBlock], fun k hk => hk.2, ?_⟩
  · exact hb_alloc _ _ _ (by simp)
  · exact ⟨#[], 0, by rw [Below.heap_alloc _ _ _ (by simp; omega), Below.heap_alloc _ _ _ (by simp)]; exact e1, rfl⟩
  · exact ⟨#[], 0, by rw [Below.heap_alloc _ _ _ (by simp)]; exact e2, rfl⟩
  · refine ⟨sv, vals, rfl, ownsRow_block h2 (fun k hk => B3.block k (ownsRow_lt h2 hk)), fun i _ => rfl, fun k hk => ⟨hnew k hk, ?_⟩, rfl⟩
    have := ownsRow_lt h2 hk
    simp; omega
  · constructor <;> (try simp) <;> omega
  · constructor <;> (try simp) <;> omega
  · constructor <;> (try simp) <;> omega
  · refine ⟨hn, by simp [wholeVS], by simp [wholeVS], by simp [wholeVS], by simp [wholeVS], ?_, by simp [wholeVS]⟩
    intro i v hv
    exact hu v (List.mem_of_getElem? hv)

theorem whole_any (v : Value) (vals : List Int) (w : World) (h : Rd w v 1 vals.length (uints vals)) (hn : vals.length ≤ 2147483648) (hu : ∀ v ∈ vals, VS.U32 v) :
    Calls Tryz.prog 33 #[v] w (NewV w (wholeVS vals)) := by
  have HC := Lib.hid (cloneU32 v vals.length (uints vals) w h (by intro u hu; obtain ⟨x, -, rfl⟩ := List.mem_map.1 hu; rfl) (by omega))
  have HN := Lib.hid hn
  have HU := Lib.hid hu
  clear h hn hu
  go_enter Tryz.func33, Tryz.ntmps33
  go_wp2_with fail
  refine HC.out.mono ?_
  rintro e w1 ⟨sv, rfl, hown, hnew, hb⟩
  have HO := Lib.hid hown
  have HW := Lib.hid hnew
  have HB := Lib.hid hb
  obtain ⟨a, c, rfl⟩ := row_shape hown
  clear hown hnew hb
  go_wp2_with fail
  refine (vof_any _ _ _ ⟨_, _, rfl⟩).mono ?_
  rintro e w2 ⟨rfl, rfl⟩
  go_wp2
  go_ret
  exact whole_new HO.out HB.out HW.out HN.out HU.out

end Go.Proofs.YtcicmljnjdhkjaaGreat
