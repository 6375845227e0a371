/- parts of the proof, merged by a program. -/
import Derived.Test.YtnagdljgeglceaaGreatMpf8
import Derived.ProofKit
import Derived.OpenShut
import Derived.Deep.Slices
set_option linter.unusedSimpArgs false
set_option linter.unusedVariables false
/- the laws of the audit: the page's example; Few; the same parts; values among the arguments. -/
set_option linter.unusedSimpArgs false
set_option linter.unusedVariables false
namespace Go.Proofs.YtnagdljgeglceaaGreat
open Go.ChangeShapes Go.RowKit

theorem few12_any (t p s : Int) (w : World) :
 Calls Tryz.prog 7 #[.agg #[.int .i64 t, .int .i64 p, .int .i64 s]] w fun e w' => e = .returned (.bool (decide (p ≤ 64))) ∧ Below w.heap.size w w' := by
 go_enter Tryz.func7, Tryz.ntmps7
 go_wp2
 go_ret
 refine ⟨rfl, ?_⟩
 (repeat (first | exact Below.refl _ _ | assumption | refine Below.setCell ?_ (by first | omega | (simp; done) | (simp; omega)) _ | refine Below.alloc ?_ (by first | omega | (simp; done) | (simp; omega)) _ | refine Below.drew ?_ | refine Below.trans ?_ (Below.mono ‹Below _ _ _› (by first | omega | (simp; done) | (simp; omega)))))
section
variable {H : Type} {enc : TypeId × Value → H} {w : World} {base : Nat} {spare : Nat → Bool} {held : Bool}
theorem rd12_u32 {fuel : Nat} {cs : List Value} {x : DataW H × List MemPlace} (h : DataW.trod enc Tryz.prog w base spare held fuel 24 cs = some x) :
 ∃ v vals, cs = [v] ∧ Rd w v 1 vals.length (uints vals) ∧ ∀ u ∈ vals, VS.U32 u := by
 rcases open_ints Tryz.underlying24 Tryz.underlying41 (by kernel_rfl) h with ⟨rfl, -⟩ | ⟨a, len, cap, zs, rfl, -, hl, -, hz, -, hc, hw⟩
 ·exact ⟨_, [], rfl, ⟨rfl, Or.inl ⟨rfl, rfl⟩⟩, by simp⟩
 ·have hle : len ≤ zs.length := by rw [hz]; split <;> omega
  have e : (zs.take len).length = len := by simp; omega
  refine ⟨_, zs.take len, rfl, ⟨by simp [uints], Or.inr ⟨a, cap, by rw [e], ?_⟩⟩, ?_⟩
  ·intro j u hj
   have hjl : j < len := by
    have := (List.getElem?_eq_some_iff.1 hj).1
    simp [uints] at this; omega
   rw [hc j (by omega), ← hj]
   simp [uints, hjl, show j < zs.length by omega]
  ·intro u hu
   have := hw u (List.mem_of_mem_take hu)
   simp [Lit.wf] at this
   have e1 : IntKind.u32.min = 0 := by decide
   have e2 : IntKind.u32.max = 4294967295 := by decide
   exact ⟨by omega, by omega⟩
end
theorem rd12_len {w : World} {v : Value} {sz n : Nat} {xs : List Value} (h : Rd w v sz n xs) : ∃ a c, v = .slice a n c := by
 rcases h.2 with ⟨rfl, rfl⟩ | ⟨ad, c, rfl, -⟩
 ·exact ⟨_, _, rfl⟩
 ·exact ⟨_, _, rfl⟩
theorem Rd.keepB {w w' : World} {v : Value} {sz n : Nat} {xs : List Value} (h : Rd w v sz n xs) (hb : Below w.heap.size w w') : Rd w' v sz n xs :=
 ⟨h.1, h.2.imp id fun ⟨ad, c, e, hc⟩ => ⟨ad, c, e, fun j u hj => (hb.cell (World.block_lt_of_cell? _ _ (hc j u hj))).trans (hc j u hj)⟩⟩
/-- values that are as many as there must be. -/
theorem Rd.xv {w : World} {v : Value} {vals : List Int} {t p s : Int} (h : Rd w v 1 vals.length (uints vals)) (hu : ∀ u ∈ vals, VS.U32 u) (hr : rightB t p s = true) (hp : p ≤ 64) (hn : (vals.length : Int) = cellsN t p) :
 ∃ ad c, v = .slice (some ad) vals.length c ∧ XV w t p s ad vals.length vals := by
 have bd := right_bd hr
 rcases h.2 with ⟨-, h0⟩ | ⟨ad, c, rfl, hc⟩
 ·unfold cellsN at hn; omega
 ·refine ⟨ad, c, rfl, hr, hp, rfl, by rw [hn]; rfl, hu, fun k hk => hc k _ ?_⟩
  simp [uints, hk]

end Go.Proofs.YtnagdljgeglceaaGreat
/- the walk of AuditParts. -/
set_option linter.unusedSimpArgs false
set_option linter.unusedVariables false
namespace Go.Proofs.YtnagdljgeglceaaGreat
open Go.ChangeShapes Go.RowKit
/-- the document's Sound, of what is none. -/
theorem rsound_no {t p s : Int} (a : Option Addr) (m c : Nat) (w : World) (h : rightB t p s = false ∨ (m : Int) ≠ cellsN t p) :
 Calls Tryz.prog 8 #[.agg #[.int .i64 t, .int .i64 p, .int .i64 s], .slice a m c] w fun e w' => e = .returned (.bool false) ∧ Below w.heap.size w w' := by
 have H := Lib.hid (fun w => rcheck_no a m c w h)
 clear h
 go_enter Tryz.func8, Tryz.ntmps8
 go_wp2_with fail
 refine (H.out _).mono ?_
 rintro e w1 ⟨rfl, hb⟩
 go_wp2
 go_ret
 refine ⟨rfl, ?_⟩
 (repeat (first | exact Below.refl _ _ | assumption | refine Below.setCell ?_ (by first | omega | (simp; done) | (simp; omega)) _ | refine Below.alloc ?_ (by first | omega | (simp; done) | (simp; omega)) _ | refine Below.drew ?_ | refine Below.trans ?_ (Below.mono ‹Below _ _ _› (by first | omega | (simp; done) | (simp; omega)))))
end Go.Proofs.YtnagdljgeglceaaGreat
/- PocketFits: the law's own example; the law's walk. -/
set_option linter.unusedSimpArgs false
set_option linter.unusedVariables false
namespace Go.Proofs.YtnagdljgeglceaaGreat
open Go.RowKit

theorem cloneI64 (v : Value) (n : Nat) (xs : List Value) (w : World) (h : Rd w v 1 n xs) (h1 : ∀ u ∈ xs, u.oneCell' = true) (hn : n ≤ 4294967296) :
 Calls Tryz.prog 100 #[v] w (CloneP w 2 1 n xs) := by
 obtain ⟨hl, ⟨rfl, rfl⟩ | ⟨ad, c, rfl, hc⟩⟩ := h
 ·obtain rfl : xs = [] := List.eq_nil_of_length_eq_zero (by simpa using hl)
  have he := fun w => Lib.run_eql_slice_nil (P := Tryz.prog) w 56 2 none 0 0 0 0 Tryz.underlying56
  simp only [Option.isNone_none] at he
  clear hl h1 hn
  go_enter Tryz.func100, Tryz.ntmps100
  go_wp2
  go_ret
  exact ⟨_, rfl, World.ownsRow_nil _ _ _ _, by simp [Value.ownBlock], Below.refl _ _⟩
 ·have he := fun w => Lib.run_eql_slice_nil (P := Tryz.prog) w 56 2 (some ad) n c 0 0 Tryz.underlying56
  simp only [Option.isNone_some] at he
  have HL := Lib.hid hl
  have H1 := Lib.hid h1
  have HC := Lib.hid hc
  have HN := Lib.hid hn
  obtain ⟨i0, hi0, hi1, hi2, hi3⟩ := info_parts infoI64p
  have HI := Lib.hid (And.intro hi0 (And.intro hi1 (And.intro hi2 hi3)))
  clear hl h1 hc hn hi0 hi1 hi2 hi3
  go_enter Tryz.func100, Tryz.ntmps100
  go_wp2_with (at_builtin; go_must (refine wpL_append rfl _ _ rfl 2 i0 (.int .i64 0) 1 8 Tryz.underlying56 HI.out.1 HI.out.2.1 HI.out.2.2.1 HI.out.2.2.2 rfl (by decide) (.slice (some ⟨w.heap.size, 0, none⟩) 0 0) 0 [] rfl (World.ownsRow_made w #[] 0 (Nat.zero_le _) (Nat.zero_le _) rfl) ad n c xs rfl HL.out ?c0 H1.out ?c2 ?c3 ?_); go_must (case c0 => (intro j u hj; exact (World.cell?_alloc_lt _ _ _ (World.block_lt_of_cell? w _ (HC.out j u hj))).trans (HC.out j u hj))); go_must (case c2 => (have := HN.out; unfold maxLen; omega)); go_must (case c3 => (have := HN.out; omega)); go_must (intro v' w2 hown2 hg2 hnew2 hnil2); clear hnil2)
  go_ret
  simp only [Nat.zero_add, List.nil_append] at hown2
  refine ⟨_, rfl, hown2, ?_, ?_⟩
  ·intro k hk
   rcases hnew2 k hk with h | h
   ·simp [Value.ownBlock] at h; omega
   ·simp at h; omega
  ·exact ((Below.refl _ _).alloc (Nat.le_refl _) _).grown hg2 (by simp) (by intro k hk; simp [Value.ownBlock] at hk; omega)


theorem cell_1_at (w : World) (u : Value) (T : TypeId) (k : Nat) (hk : k = w.heap.size) : ∀ (j : Nat) (x : Value), [u][j]? = some x → (w.alloc (.cells #[u] T)).cell? ((⟨k, 0, none⟩ : Addr).add j) = some x := by
 subst hk
 intro j x hj
 rcases j with _ | j
 ·simp at hj; subst hj; exact cell?_of_heap (o := 0) (heap_alloc_new w (.cells #[u] T))
 ·simp at hj
def push9 (w : World) (p r : Nat) (v : Value) : World := (((((((((w.setCell ⟨p, 3, none⟩ v).setCell ⟨r, 0, none⟩ (.slice none 0 0)).setCell ⟨r, 1, none⟩ (.slice none 0 0)).setCell ⟨r, 2, none⟩ (.slice none 0 0)).setCell ⟨r, 3, none⟩ (v)).setCell ⟨r, 4, none⟩ (.slice none 0 0)).setCell ⟨r, 5, none⟩ (.slice none 0 0)).setCell ⟨r, 6, none⟩ (.slice none 0 0)).setCell ⟨r, 7, none⟩ (.slice none 0 0)).setCell ⟨r, 8, none⟩ (.slice none 0 0)
theorem push9_keep (w : World) (p r : Nat) (v : Value) {k : Nat} (h1 : k ≠ p) (h2 : k ≠ r) : (push9 w p r v).heap[k]? = w.heap[k]? := by
 unfold push9
 exact (heap_setCell_other h2).trans ((heap_setCell_other h2).trans ((heap_setCell_other h2).trans ((heap_setCell_other h2).trans ((heap_setCell_other h2).trans ((heap_setCell_other h2).trans ((heap_setCell_other h2).trans ((heap_setCell_other h2).trans ((heap_setCell_other h2).trans (heap_setCell_other h1)))))))))
theorem push9_below {w0 w : World} {B p r : Nat} (v : Value) (h : Below B w0 w) (hp : B ≤ p) (hr : B ≤ r) : Below B w0 (push9 w p r v) := by
 unfold push9
 exact Below.setCell (Below.setCell (Below.setCell (Below.setCell (Below.setCell (Below.setCell (Below.setCell (Below.setCell (Below.setCell (h.setCell hp _) hr _) hr _) hr _) hr _) hr _) hr _) hr _) hr _) hr _
theorem push9_cells {w : World} {p r : Nat} (v : Value) {T : TypeId} (h : w.heap[r]? = some (.cells #[.slice none 0 0, .slice none 0 0, .slice none 0 0, .slice none 0 0, .slice none 0 0, .slice none 0 0, .slice none 0 0, .slice none 0 0, .slice none 0 0] T)) (hp : p ≠ r) : (push9 w p r v).heap[r]? = some (.cells #[.slice none 0 0, .slice none 0 0, .slice none 0 0, v, .slice none 0 0, .slice none 0 0, .slice none 0 0, .slice none 0 0, .slice none 0 0] T) := by
 unfold push9
 have h0 : (w.setCell ⟨p, 3, none⟩ v).heap[r]? = some (.cells #[.slice none 0 0, .slice none 0 0, .slice none 0 0, .slice none 0 0, .slice none 0 0, .slice none 0 0, .slice none 0 0, .slice none 0 0, .slice none 0 0] T) := (heap_setCell_other (Ne.symm hp)).trans h
 have h9 := (heap_setCell_same (o := 8) (v := .slice none 0 0) (heap_setCell_same (o := 7) (v := .slice none 0 0) (heap_setCell_same (o := 6) (v := .slice none 0 0) (heap_setCell_same (o := 5) (v := .slice none 0 0) (heap_setCell_same (o := 4) (v := .slice none 0 0) (heap_setCell_same (o := 3) (v := v) (heap_setCell_same (o := 2) (v := .slice none 0 0) (heap_setCell_same (o := 1) (v := .slice none 0 0) (heap_setCell_same (o := 0) (v := .slice none 0 0) h0)))))))))
 simpa using h9
def agg3 (v : Value) : Value := .agg #[.slice none 0 0, .slice none 0 0, .slice none 0 0, v, .slice none 0 0, .slice none 0 0, .slice none 0 0, .slice none 0 0, .slice none 0 0]
/-- pockets that a call hands back, whose fourth is a row. -/
def PushP (w : World) (l : List Int) (ok : Bool) (e : Ending) (w' : World) : Prop := ∃ a c, e = .returned (.tuple #[agg3 (.slice a l.length c), .bool ok]) ∧ RdI w' (.slice a l.length c) l ∧ Below w.heap.size w w'
def PushQ (w : World) (l : List Int) (e : Ending) (w' : World) : Prop := ∃ a c, e = .returned (.tuple #[agg3 (.slice a l.length c), .bool true]) ∧ w'.ownsRow 0 2 1 (.slice a l.length c) l.length (longs l) ∧ Below w.heap.size w w'
theorem pthere_yes (k : Nat) (hk : k < 9) (w : World) : Calls Tryz.prog 99 #[.int .i64 k] w fun e w' => e = .returned (.bool true) ∧ w = w' := by
 have h9 : (k : Int) < 9 := by omega
 go_enter Tryz.func99, Tryz.ntmps99
 go_wp2
 go_ret
 exact ⟨rfl, rfl⟩
set_option maxHeartbeats 1000000 in
set_option maxRecDepth 100000 in
theorem ppush_yes (a : Option Addr) (c : Nat) (l : List Int) (x : Int) (w : World) (h : RdI w (.slice a l.length c) l) (hl : l.length ≤ 3) :
 Calls Tryz.prog 60 #[agg3 (.slice a l.length c), .int .i64 3, .int .i64 x] w (PushQ w (l ++ [x])) := by
 have HC := Lib.hid (fun W (hb : Below w.heap.size w W) => cloneI64 (.slice a l.length c) l.length (longs l) W (Rd.keepBy h hb (Nat.le_refl _)) (by intro u hu; obtain ⟨x, -, rfl⟩ := List.mem_map.1 hu; rfl) (by omega))
 have HT := Lib.hid (fun W => pthere_yes 3 (by omega) W)
 have hl4 : (l.length : Int) < 4 := by omega
 obtain ⟨i0, hi0, hi1, hi2, hi3⟩ := info_parts infoI64p
 have HI := Lib.hid (And.intro hi0 (And.intro hi1 (And.intro hi2 hi3)))
 clear hi0 hi1 hi2 hi3 h
 unfold agg3
 go_enter Tryz.func60, Tryz.ntmps60
 go_wp2_with fail
 refine (HT.out _).mono ?_
 rintro e w1 ⟨rfl, rfl⟩
 go_wp2_with fail
 have hb0 : Below w.heap.size w ((w.alloc (.cells #[.slice none 0 0, .slice none 0 0, .slice none 0 0, .slice a l.length c, .slice none 0 0, .slice none 0 0, .slice none 0 0, .slice none 0 0, .slice none 0 0] 58)).alloc (.cells #[.slice none 0 0, .slice none 0 0, .slice none 0 0, .slice none 0 0, .slice none 0 0, .slice none 0 0, .slice none 0 0, .slice none 0 0, .slice none 0 0] 58)) := ((Below.refl w.heap.size w).alloc (Nat.le_refl _) _).alloc (by simp) _
 refine (HC.out _ hb0).mono ?_
 rintro e w2 ⟨v2, rfl, hown, hnew, hb⟩
 have hp2 : w2.heap[w.heap.size]? = some (.cells #[.slice none 0 0, .slice none 0 0, .slice none 0 0, .slice a l.length c, .slice none 0 0, .slice none 0 0, .slice none 0 0, .slice none 0 0, .slice none 0 0] 58) := (hb.block w.heap.size (by simp; omega)).trans ((Below.heap_alloc _ _ _ (by simp)).trans (heap_alloc_new w _))
 have hr2 : w2.heap[w.heap.size + 1]? = some (.cells #[.slice none 0 0, .slice none 0 0, .slice none 0 0, .slice none 0 0, .slice none 0 0, .slice none 0 0, .slice none 0 0, .slice none 0 0, .slice none 0 0] 58) := (hb.block (w.heap.size + 1) (by simp)).trans (by
  have := heap_alloc_new (w.alloc (.cells #[.slice none 0 0, .slice none 0 0, .slice none 0 0, .slice a l.length c, .slice none 0 0, .slice none 0 0, .slice none 0 0, .slice none 0 0, .slice none 0 0] 58)) (.cells #[.slice none 0 0, .slice none 0 0, .slice none 0 0, .slice none 0 0, .slice none 0 0, .slice none 0 0, .slice none 0 0, .slice none 0 0, .slice none 0 0] 58)
  rw [World.size_alloc] at this
  exact this)
 have hz2 := hb.size
 simp only [World.size_alloc] at hz2
 have HB2 := Lib.hid (hb0.trans (hb.mono hb0.size))
 have HOwn := Lib.hid hown
 have HNew := Lib.hid (show ∀ k, v2.ownBlock = some k → w.heap.size + 1 + 1 ≤ k from fun k hk => by have := hnew k hk; simpa using this)
 obtain ⟨pv, cv, rfl⟩ := row_shape hown
 have HP2 := Lib.hid hp2
 have HR2 := Lib.hid hr2
 clear hb0 hb hown hnew hp2 hr2 HC HT
 go_wp2_with (at_builtin; go_must (refine wpL_append rfl _ _ rfl 2 i0 (.int .i64 0) 1 8 Tryz.underlying56 HI.out.1 HI.out.2.1 HI.out.2.2.1 HI.out.2.2.2 rfl (by decide) (.slice pv l.length cv) l.length (longs l) rfl (HOwn.out.alloc _) ⟨_, 0, none⟩ 1 1 [.int .i64 x] rfl rfl (cell_1_at _ _ _ _ (by simp)) ?c1 ?c2 ?c3 ?_); go_must (case c1 => (simp [Value.oneCell'])); go_must (case c2 => (unfold maxLen; omega)); go_must (case c3 => (omega)); go_must (intro v' w5 hown5 hg5 hnew5 hnil5); clear hnil5; go_must (obtain ⟨g5, c5, rfl⟩ := Joins.ownsRow_form hown5 (by omega)); go_must (have hp5 : w5.heap[w.heap.size]? = some (.cells #[.slice none 0 0, .slice none 0 0, .slice none 0 0, .slice a l.length c, .slice none 0 0, .slice none 0 0, .slice none 0 0, .slice none 0 0, .slice none 0 0] 58) := (hg5.block w.heap.size (by simp; omega) (fun e => by have := HNew.out _ e.symm; omega)).trans ((Below.heap_alloc _ _ _ (by omega)).trans HP2.out)); go_must (have hr5 : w5.heap[w.heap.size + 1]? = some (.cells #[.slice none 0 0, .slice none 0 0, .slice none 0 0, .slice none 0 0, .slice none 0 0, .slice none 0 0, .slice none 0 0, .slice none 0 0, .slice none 0 0] 58) := (hg5.block (w.heap.size + 1) (by simp; omega) (fun e => by have := HNew.out _ e.symm; omega)).trans ((Below.heap_alloc _ _ _ (by omega)).trans HR2.out)); go_must (have fp3 := frozen?_of_heap (o := 3) hp5); go_must (have q0 := cell?_of_heap (o := 0) hp5); go_must (have fr0 := frozen?_of_heap (o := 0) hr5); go_must (have r0 := cell?_of_heap (o := 0) hr5); go_must (have q1 := cell?_of_heap (o := 1) hp5); go_must (have fr1 := frozen?_of_heap (o := 1) hr5); go_must (have r1 := cell?_of_heap (o := 1) hr5); go_must (have q2 := cell?_of_heap (o := 2) hp5); go_must (have fr2 := frozen?_of_heap (o := 2) hr5); go_must (have r2 := cell?_of_heap (o := 2) hr5); go_must (have q3 := cell?_of_heap (o := 3) hp5); go_must (have fr3 := frozen?_of_heap (o := 3) hr5); go_must (have r3 := cell?_of_heap (o := 3) hr5); go_must (have q4 := cell?_of_heap (o := 4) hp5); go_must (have fr4 := frozen?_of_heap (o := 4) hr5); go_must (have r4 := cell?_of_heap (o := 4) hr5); go_must (have q5 := cell?_of_heap (o := 5) hp5); go_must (have fr5 := frozen?_of_heap (o := 5) hr5); go_must (have r5 := cell?_of_heap (o := 5) hr5); go_must (have q6 := cell?_of_heap (o := 6) hp5); go_must (have fr6 := frozen?_of_heap (o := 6) hr5); go_must (have r6 := cell?_of_heap (o := 6) hr5); go_must (have q7 := cell?_of_heap (o := 7) hp5); go_must (have fr7 := frozen?_of_heap (o := 7) hr5); go_must (have r7 := cell?_of_heap (o := 7) hr5); go_must (have q8 := cell?_of_heap (o := 8) hp5); go_must (have fr8 := frozen?_of_heap (o := 8) hr5); go_must (have r8 := cell?_of_heap (o := 8) hr5); go_must (simp at q0 q1 q2 q3 q4 q5 q6 q7 q8 r0 r1 r2 r3 r4 r5 r6 r7 r8))
 have hg5w : w.heap.size + 1 + 1 ≤ g5 := by
  rcases hnew5 g5 rfl with h1 | h1
  ·exact HNew.out _ h1
  ·simp at h1; omega
 have hz5 := hg5.size
 have B5 : Below w.heap.size w w5 := (HB2.out.alloc HB2.out.size _).grown hg5 (by have := HB2.out.size; simp; omega) (fun k hk => by have := HNew.out k hk; omega)
 show bodyPost _ _ _ _ _ (push9 w5 w.heap.size (w.heap.size + 1) (.slice (some ⟨g5, 0, none⟩) (l.length + 1) c5))
 have hcl := push9_cells (p := w.heap.size) (.slice (some ⟨g5, 0, none⟩) (l.length + 1) c5) hr5 (by omega)
 have hbl := push9_below (p := w.heap.size) (r := w.heap.size + 1) (.slice (some ⟨g5, 0, none⟩) (l.length + 1) c5) B5 (by omega) (by omega)
 have hkp := push9_keep w5 w.heap.size (w.heap.size + 1) (.slice (some ⟨g5, 0, none⟩) (l.length + 1) c5) (k := g5) (by omega) (by omega)
 clear q0 q1 q2 q3 q4 q5 q6 q7 q8 r0 r1 r2 r3 r4 r5 r6 r7 r8 fr0 fr1 fr2 fr3 fr4 fr5 fr6 fr7 fr8 fp3
 generalize push9 w5 w.heap.size (w.heap.size + 1) (.slice (some ⟨g5, 0, none⟩) (l.length + 1) c5) = wz at *
 have r0 := cell?_of_heap (o := 0) hcl
 have r1 := cell?_of_heap (o := 1) hcl
 have r2 := cell?_of_heap (o := 2) hcl
 have r3 := cell?_of_heap (o := 3) hcl
 have r4 := cell?_of_heap (o := 4) hcl
 have r5 := cell?_of_heap (o := 5) hcl
 have r6 := cell?_of_heap (o := 6) hcl
 have r7 := cell?_of_heap (o := 7) hcl
 have r8 := cell?_of_heap (o := 8) hcl
 simp at r0 r1 r2 r3 r4 r5 r6 r7 r8
 refine bodyPost_ret (v := .tuple #[agg3 (.slice (some ⟨g5, 0, none⟩) (l.length + 1) c5), .bool true]) (by simp [results, Tryz.results60, go_sem, agg3, r0, r1, r2, r3, r4, r5, r6, r7, r8]) rfl ?_
 have hl1 : (l ++ [x]).length = l.length + 1 := by simp
 refine ⟨some ⟨g5, 0, none⟩, c5, by rw [hl1], ?_, hbl⟩
 rw [hl1]
 have hown6 := ownsRow_block hown5 (w' := wz) (fun k hk => by
  have : k = g5 := by simpa [Value.ownBlock] using hk.symm
  subst this
  exact hkp)
 simpa [longs] using hown6

def cls9 (v : Value) : Array Value := #[.slice none 0 0, .slice none 0 0, .slice none 0 0, v, .slice none 0 0, .slice none 0 0, .slice none 0 0, .slice none 0 0, .slice none 0 0]
def stor9 (w : World) (r : Nat) (v : Value) : World := ((((((((w.setCell ⟨r, 0, none⟩ (.slice none 0 0)).setCell ⟨r, 1, none⟩ (.slice none 0 0)).setCell ⟨r, 2, none⟩ (.slice none 0 0)).setCell ⟨r, 3, none⟩ (v)).setCell ⟨r, 4, none⟩ (.slice none 0 0)).setCell ⟨r, 5, none⟩ (.slice none 0 0)).setCell ⟨r, 6, none⟩ (.slice none 0 0)).setCell ⟨r, 7, none⟩ (.slice none 0 0)).setCell ⟨r, 8, none⟩ (.slice none 0 0)
theorem stor9_keep (w : World) (r : Nat) (v : Value) {k : Nat} (h2 : k ≠ r) : (stor9 w r v).heap[k]? = w.heap[k]? := by
 unfold stor9
 exact (heap_setCell_other h2).trans ((heap_setCell_other h2).trans ((heap_setCell_other h2).trans ((heap_setCell_other h2).trans ((heap_setCell_other h2).trans ((heap_setCell_other h2).trans ((heap_setCell_other h2).trans ((heap_setCell_other h2).trans (heap_setCell_other h2))))))))
theorem stor9_below {w0 w : World} {B r : Nat} (v : Value) (h : Below B w0 w) (hr : B ≤ r) : Below B w0 (stor9 w r v) := by
 unfold stor9
 exact Below.setCell (Below.setCell (Below.setCell (Below.setCell (Below.setCell (Below.setCell (Below.setCell (Below.setCell (h.setCell hr _) hr _) hr _) hr _) hr _) hr _) hr _) hr _) hr _
theorem stor9_cells {w : World} {r : Nat} (u v : Value) {T : TypeId} (h : w.heap[r]? = some (.cells (cls9 u) T)) : (stor9 w r v).heap[r]? = some (.cells (cls9 v) T) := by
 unfold stor9
 unfold cls9 at h
 have h9 := (heap_setCell_same (o := 8) (v := .slice none 0 0) (heap_setCell_same (o := 7) (v := .slice none 0 0) (heap_setCell_same (o := 6) (v := .slice none 0 0) (heap_setCell_same (o := 5) (v := .slice none 0 0) (heap_setCell_same (o := 4) (v := .slice none 0 0) (heap_setCell_same (o := 3) (v := v) (heap_setCell_same (o := 2) (v := .slice none 0 0) (heap_setCell_same (o := 1) (v := .slice none 0 0) (heap_setCell_same (o := 0) (v := .slice none 0 0) h)))))))))
 simpa [cls9] using h9

set_option maxHeartbeats 1000000 in
set_option maxRecDepth 100000 in
theorem ppush_no (a : Option Addr) (c : Nat) (l : List Int) (x : Int) (w : World) (h : RdI w (.slice a l.length c) l) (hl : 4 ≤ l.length) :
 Calls Tryz.prog 60 #[agg3 (.slice a l.length c), .int .i64 3, .int .i64 x] w (PushP w l false) := by
 have HT := Lib.hid (fun W => pthere_yes 3 (by omega) W)
 have hl4 : (4 : Int) ≤ l.length := by omega
 have H := Lib.hid h
 clear h
 unfold agg3
 go_enter Tryz.func60, Tryz.ntmps60
 go_wp2_with fail
 refine (HT.out _).mono ?_
 rintro e w1 ⟨rfl, rfl⟩
 go_wp2
 have hcl := heap_alloc_new (w.alloc (.cells #[.slice none 0 0, .slice none 0 0, .slice none 0 0, .slice a l.length c, .slice none 0 0, .slice none 0 0, .slice none 0 0, .slice none 0 0, .slice none 0 0] 58)) (.cells #[.slice none 0 0, .slice none 0 0, .slice none 0 0, .slice a l.length c, .slice none 0 0, .slice none 0 0, .slice none 0 0, .slice none 0 0, .slice none 0 0] 58)
 rw [World.size_alloc] at hcl
 have hbl : Below w.heap.size w ((w.alloc (.cells #[.slice none 0 0, .slice none 0 0, .slice none 0 0, .slice a l.length c, .slice none 0 0, .slice none 0 0, .slice none 0 0, .slice none 0 0, .slice none 0 0] 58)).alloc (.cells #[.slice none 0 0, .slice none 0 0, .slice none 0 0, .slice a l.length c, .slice none 0 0, .slice none 0 0, .slice none 0 0, .slice none 0 0, .slice none 0 0] 58)) := ((Below.refl _ _).alloc (Nat.le_refl _) _).alloc (by simp) _
 generalize (w.alloc (.cells #[.slice none 0 0, .slice none 0 0, .slice none 0 0, .slice a l.length c, .slice none 0 0, .slice none 0 0, .slice none 0 0, .slice none 0 0, .slice none 0 0] 58)).alloc (.cells #[.slice none 0 0, .slice none 0 0, .slice none 0 0, .slice a l.length c, .slice none 0 0, .slice none 0 0, .slice none 0 0, .slice none 0 0, .slice none 0 0] 58) = wz at *
 have r0 := cell?_of_heap (o := 0) hcl
 have r1 := cell?_of_heap (o := 1) hcl
 have r2 := cell?_of_heap (o := 2) hcl
 have r3 := cell?_of_heap (o := 3) hcl
 have r4 := cell?_of_heap (o := 4) hcl
 have r5 := cell?_of_heap (o := 5) hcl
 have r6 := cell?_of_heap (o := 6) hcl
 have r7 := cell?_of_heap (o := 7) hcl
 have r8 := cell?_of_heap (o := 8) hcl
 simp at r0 r1 r2 r3 r4 r5 r6 r7 r8
 refine bodyPost_ret (v := .tuple #[agg3 (.slice a l.length c), .bool false]) (by simp [results, Tryz.results60, go_sem, agg3, r0, r1, r2, r3, r4, r5, r6, r7, r8]) rfl ?_
 exact ⟨a, c, rfl, Rd.keepBy H.out hbl (Nat.le_refl _), hbl⟩
set_option maxHeartbeats 1000000 in
set_option maxRecDepth 100000 in
theorem plast_one (a : Option Addr) (c : Nat) (x : Int) (w : World) (h : RdI w (.slice a 1 c) [x]) :
 Calls Tryz.prog 61 #[agg3 (.slice a 1 c), .int .i64 3] w fun e w' => e = .returned (.tuple #[.int .i64 x, .bool true]) ∧ Below w.heap.size w w' := by
 have HT := Lib.hid (fun W => pthere_yes 3 (by omega) W)
 obtain ⟨-, ⟨-, h0⟩ | ⟨ad, c', hv, hc⟩⟩ := h
 ·cases h0
 simp only [Value.slice.injEq] at hv
 obtain ⟨rfl, -, rfl⟩ := hv
 have r0 : w.cell? ad = some (.int .i64 x) := by simpa [Addr.add] using hc 0 (.int .i64 x) rfl
 have r1 := fun o => (World.cell?_alloc_lt w o ad (World.block_lt_of_cell? w _ r0)).trans r0
 clear hc
 unfold agg3
 go_enter Tryz.func61, Tryz.ntmps61
 go_wp2_with fail
 refine (HT.out _).mono ?_
 rintro e w1 ⟨rfl, rfl⟩
 go_wp2
 go_region
 go_wp2
 exact bodyPost_ret (v := .tuple #[.int .i64 x, .bool true]) (by simp [results, Tryz.results61, go_sem]) rfl ⟨rfl, ((Below.refl _ _).alloc (Nat.le_refl _) _).drew⟩
structure LvRel (w : World) (bp : Nat) (vi : Value) (wr : World) (k : Nat) (a : Option Addr) (c : Nat) (l : List Int) : Prop where
 le : k ≤ 3
 eq : vi = .int .i64 k
 ln : l.length = k + 1
 bx : wr.heap[bp]? = some (.cells (cls9 (.slice a l.length c)) 58)
 rd : wr.ownsRow 0 2 1 (.slice a l.length c) l.length (longs l)
 bel : Below w.heap.size w wr
def LvRelE (w : World) (bp : Nat) (vi : Value) (wr : World) : Prop := ∃ k a c l, LvRel w bp vi wr k a c l
set_option maxHeartbeats 1000000 in
set_option maxRecDepth 100000 in
theorem pklive_any (w : World) : Calls Tryz.prog 24 #[] w fun e w' => e = .returned (.bool true) ∧ Below w.heap.size w w' := by
 have HP := Lib.hid (fun (a : Option Addr) (c : Nat) (l : List Int) (W : World) (h : RdI W (.slice a l.length c) l) (hl : l.length ≤ 3) => ppush_yes a c l 1024 W h hl)
 unfold agg3 at HP
 go_enter Tryz.func24, Tryz.ntmps24
 go_wp2_with fail
 refine (HP.out none 0 [] _ ⟨rfl, Or.inl ⟨rfl, rfl⟩⟩ (by simp)).mono ?_
 rintro e w1 ⟨a1, c1, rfl, h1, b1⟩
 have H1 := Lib.hid h1
 have B1 := Lib.hid b1
 clear h1 b1
 unfold agg3
 go_wp2_with fail
 have HL := Lib.hid (fun W (h : RdI W (.slice a1 1 c1) [1024]) => plast_one a1 c1 1024 W h)
 unfold agg3 at HL
 refine (HL.out _ (Rd.of_row (H1.out.alloc _))).mono ?_
 rintro e w2 ⟨rfl, b2⟩
 have hb0 := (B1.out.alloc (o := .cells (cls9 (.slice a1 1 c1)) 58) B1.out.size)
 have HR0 := Lib.hid (show LvRelE w w1.heap.size (.int .i64 0) w2 from ⟨0, a1, c1, [1024], by omega, rfl, rfl, (b2.block w1.heap.size (by simp)).trans (heap_alloc_new w1 _), ownsRow_block H1.out (fun x hx => (b2.block x (by have := ownsRow_lt H1.out hx; simp; omega)).trans (Below.heap_alloc _ _ _ (ownsRow_lt H1.out hx))), hb0.trans (b2.mono (by have := B1.out.size; simp; omega))⟩)
 have hbp : w.heap.size ≤ w1.heap.size := B1.out.size
 generalize w1.heap.size = bp at *
 clear H1 b2 hb0 HL B1
 go_wp2
 go_loopw [5] (fun vi wr => LvRelE w bp vi wr) (fun vi _ => 3 - (intOf vi).toNat)
 case atStart => exact HR0.out
 case round =>
  clear HR0
  obtain ⟨k, a, c, l, hk, rfl, hln, hbx, hrd, hbel⟩ := hrel
  unfold cls9 at hbx
  have q0 := cell?_of_heap (o := 0) hbx
  have q1 := cell?_of_heap (o := 1) hbx
  have q2 := cell?_of_heap (o := 2) hbx
  have q3 := cell?_of_heap (o := 3) hbx
  have q4 := cell?_of_heap (o := 4) hbx
  have q5 := cell?_of_heap (o := 5) hbx
  have q6 := cell?_of_heap (o := 6) hbx
  have q7 := cell?_of_heap (o := 7) hbx
  have q8 := cell?_of_heap (o := 8) hbx
  simp at q0 q1 q2 q3 q4 q5 q6 q7 q8
  have HRd := Lib.hid hrd
  have HBx := Lib.hid hbx
  have HBe := Lib.hid hbel
  have HLn := Lib.hid hln
  clear hln
  by_cases hlt : k < 3
  ·have hk3 : (k : Int) < 3 := by omega
   clear hrd hbx hbel
   go_wp2_with fail
   refine (HP.out a c l _ (Rd.of_row HRd.out) (by rw [HLn.out]; omega)).mono ?_
   rintro e w3 ⟨a3, c3, rfl, h3, b3⟩
   have hbx3 := (b3.block bp (Array.getElem?_eq_some_iff.1 HBx.out).1).trans HBx.out
   have t0 := cell?_of_heap (o := 0) hbx3
   have f0 := frozen?_of_heap (o := 0) hbx3
   have t1 := cell?_of_heap (o := 1) hbx3
   have f1 := frozen?_of_heap (o := 1) hbx3
   have t2 := cell?_of_heap (o := 2) hbx3
   have f2 := frozen?_of_heap (o := 2) hbx3
   have t3 := cell?_of_heap (o := 3) hbx3
   have f3 := frozen?_of_heap (o := 3) hbx3
   have t4 := cell?_of_heap (o := 4) hbx3
   have f4 := frozen?_of_heap (o := 4) hbx3
   have t5 := cell?_of_heap (o := 5) hbx3
   have f5 := frozen?_of_heap (o := 5) hbx3
   have t6 := cell?_of_heap (o := 6) hbx3
   have f6 := frozen?_of_heap (o := 6) hbx3
   have t7 := cell?_of_heap (o := 7) hbx3
   have f7 := frozen?_of_heap (o := 7) hbx3
   have t8 := cell?_of_heap (o := 8) hbx3
   have f8 := frozen?_of_heap (o := 8) hbx3
   simp at t0 t1 t2 t3 t4 t5 t6 t7 t8
   have H3 := Lib.hid h3
   have HBx3 := Lib.hid hbx3
   have B3 := Lib.hid (HBe.out.trans (b3.mono HBe.out.size))
   clear h3 hbx3 b3 q0 q1 q2 q3 q4 q5 q6 q7 q8
   unfold agg3
   go_wp2
   have HX := Lib.hid (show LvRel w bp (.int .i64 ((k + 1 : Nat) : Int)) (stor9 w3 bp (.slice a3 (l ++ [1024]).length c3)) (k + 1) a3 c3 (l ++ [1024]) from ⟨by omega, rfl, by simp [HLn.out], stor9_cells (.slice a l.length c) _ HBx3.out, ownsRow_block H3.out (fun x hx => stor9_keep _ _ _ (fun e => ownsRow_elem H3.out HBx3.out (by decide) (e ▸ hx))), stor9_below _ B3.out hbp⟩)
   clear t0 t1 t2 t3 t4 t5 t6 t7 t8 f0 f1 f2 f3 f4 f5 f6 f7 f8
   unfold stor9 at HX
   go_roundw
   case rel => exact ⟨k + 1, a3, c3, l ++ [1024], by simpa using HX.out⟩
   case measure => simp [intOf]; omega
  ·have hke : k = 3 := by omega
   have hk3 : ¬ (k : Int) < 3 := by omega
   have HN := Lib.hid (fun W h => ppush_no a c l 1024 W h (by rw [HLn.out]; omega))
   unfold agg3 at HN
   clear hrd hbx hbel hke
   go_wp2_with fail
   refine (HN.out _ (Rd.of_row HRd.out)).mono ?_
   rintro e w3 ⟨a3, c3, rfl, -, b3⟩
   have B3 := Lib.hid (HBe.out.trans (b3.mono HBe.out.size))
   clear b3
   unfold agg3
   go_wp2
   go_ret
   refine ⟨rfl, ?_⟩
   first | exact B3.out | exact B3.out.alloc B3.out.size _
end Go.Proofs.YtnagdljgeglceaaGreat
/- PocketFits: the law's walk. -/
set_option linter.unusedSimpArgs false
set_option linter.unusedVariables false
namespace Go.Proofs.YtnagdljgeglceaaGreat
open Go.ChangeShapes Go.RowKit
section
variable {t p s : Int}
theorem pfits_bad (sv av : Value) (e1 : Int) (w : World) (H : ∀ W, Below w.heap.size w W → Calls Tryz.prog 62 #[.agg #[.int .i64 t, .int .i64 p, .int .i64 s], sv] W fun e W' => e = .returned (.tuple #[.int .i64 e1, .bool false]) ∧ Below W.heap.size W W') :
 Calls Tryz.prog 26 #[.agg #[.int .i64 t, .int .i64 p, .int .i64 s], sv, av] w fun e W' => e = .returned (.bool false) ∧ Below w.heap.size w W' := by
 have HH := Lib.hid H
 have c0 := loc_alloc w #[.int .i64 t, .int .i64 p, .int .i64 s] 23
 have S0 := ((BS.start w).alloc (.cells #[.int .i64 t, .int .i64 p, .int .i64 s] 23))
 clear H
 go_enter Tryz.func26, Tryz.ntmps26
 go_wp2_with fail
 refine (calls_b S0 (HH.out _ S0.bel)).mono ?_
 rintro e w1 ⟨rfl, S1, S1l⟩
 have c1 := loc_step S1l (by simp) c0
 clear S1l
 go_wp2
 go_ret
 exact ⟨rfl, S1.bel⟩
theorem pfits_len (sv : Value) (a : Option Addr) (m c : Nat) (e1 : Int) (w : World) (H : ∀ W, Below w.heap.size w W → Calls Tryz.prog 62 #[.agg #[.int .i64 t, .int .i64 p, .int .i64 s], sv] W fun e W' => e = .returned (.tuple #[.int .i64 e1, .bool true]) ∧ Below W.heap.size W W') (hm : (m : Int) ≠ t) :
 Calls Tryz.prog 26 #[.agg #[.int .i64 t, .int .i64 p, .int .i64 s], sv, .slice a m c] w fun e W' => e = .returned (.bool false) ∧ Below w.heap.size w W' := by
 have HH := Lib.hid H
 have c0 := loc_alloc w #[.int .i64 t, .int .i64 p, .int .i64 s] 23
 have S0 := ((BS.start w).alloc (.cells #[.int .i64 t, .int .i64 p, .int .i64 s] 23))
 have hb : ((m : Int) != t) = true := by simpa using hm
 clear H hm
 go_enter Tryz.func26, Tryz.ntmps26
 go_wp2_with fail
 refine (calls_b S0 (HH.out _ S0.bel)).mono ?_
 rintro e w1 ⟨rfl, S1, S1l⟩
 have c1 := loc_step S1l (by simp) c0
 clear S1l
 go_wp2
 go_ret
 exact ⟨rfl, S1.bel⟩
theorem rfits_bad (sv av : Value) (w : World) (H : ∀ W, Below w.heap.size w W → Calls Tryz.prog 8 #[.agg #[.int .i64 t, .int .i64 p, .int .i64 s], sv] W fun e W' => e = .returned (.bool false) ∧ Below W.heap.size W W') :
 Calls Tryz.prog 16 #[.agg #[.int .i64 t, .int .i64 p, .int .i64 s], sv, av] w fun e W' => e = .returned (.bool false) ∧ Below w.heap.size w W' := by
 have HH := Lib.hid H
 have c0 := loc_alloc w #[.int .i64 t, .int .i64 p, .int .i64 s] 23
 have S0 := ((BS.start w).alloc (.cells #[.int .i64 t, .int .i64 p, .int .i64 s] 23))
 clear H
 go_enter Tryz.func16, Tryz.ntmps16
 go_wp2_with fail
 refine (calls_b S0 (HH.out _ S0.bel)).mono ?_
 rintro e w1 ⟨rfl, S1, S1l⟩
 have c1 := loc_step S1l (by simp) c0
 clear S1l
 go_wp2
 go_ret
 exact ⟨rfl, S1.bel⟩
theorem rfits_len (sv : Value) (a : Option Addr) (m c : Nat) (w : World) (H : ∀ W, Below w.heap.size w W → Calls Tryz.prog 8 #[.agg #[.int .i64 t, .int .i64 p, .int .i64 s], sv] W fun e W' => e = .returned (.bool true) ∧ Below W.heap.size W W') (hm : (m : Int) ≠ t) :
 Calls Tryz.prog 16 #[.agg #[.int .i64 t, .int .i64 p, .int .i64 s], sv, .slice a m c] w fun e W' => e = .returned (.bool false) ∧ Below w.heap.size w W' := by
 have HH := Lib.hid H
 have c0 := loc_alloc w #[.int .i64 t, .int .i64 p, .int .i64 s] 23
 have S0 := ((BS.start w).alloc (.cells #[.int .i64 t, .int .i64 p, .int .i64 s] 23))
 have hb : ((m : Int) != t) = true := by simpa using hm
 clear H hm
 go_enter Tryz.func16, Tryz.ntmps16
 go_wp2_with fail
 refine (calls_b S0 (HH.out _ S0.bel)).mono ?_
 rintro e w1 ⟨rfl, S1, S1l⟩
 have c1 := loc_step S1l (by simp) c0
 clear S1l
 go_wp2
 go_ret
 exact ⟨rfl, S1.bel⟩

theorem fits_both (t p s : Int) (sv av : Value) (vals : List Int) (es : List PkE) (w : World) (hR : Rd w sv 1 vals.length (uints vals)) (hu : ∀ u ∈ vals, VS.U32 u) (hp : p ≤ 64) (hk : PkR w av es) (hf : ∀ e ∈ es, fewB e = true) (hn : es.length ≤ 20) :
 ∃ r : Bool, (∀ W, Below w.heap.size w W → Calls Tryz.prog 26 #[.agg #[.int .i64 t, .int .i64 p, .int .i64 s], sv, av] W fun e W' => e = .returned (.bool r) ∧ Below W.heap.size W W') ∧
  (∀ W, Below w.heap.size w W → Calls Tryz.prog 16 #[.agg #[.int .i64 t, .int .i64 p, .int .i64 s], sv, av] W fun e W' => e = .returned (.bool r) ∧ Below W.heap.size W W') := by
 by_cases hg : rightB t p s = true ∧ (vals.length : Int) = cellsN t p
 ·obtain ⟨hr, hnn⟩ := hg
  have bd := right_bd hr
  obtain ⟨P, rfl⟩ : ∃ P : Nat, p = P := ⟨p.toNat, by omega⟩
  obtain ⟨ad, c, rfl, hx⟩ := hR.xv hu hr hp hnn
  cases hs : (chkF vals t P s).2
  ·refine ⟨false, fun W hb => pfits_bad _ _ (chkF vals t P s).1 W (fun W' hb' => ?_), fun W hb => rfits_bad _ _ W (fun W' hb' => ?_)⟩
   ·have := pcheck_any ((hx.keep hb).keep hb') c
    rw [hs] at this; exact this
   ·have := rsound_any c W' ((hx.keep hb).keep hb')
    rw [hs] at this; exact this
  ·by_cases ht : (es.length : Int) = t
   ·subst ht
    have hxb := hx.bd
    have e := fits_alike (s := s) (chk_tiles hs) (P := P) (by omega) ⟨hxb.2.2.2.2.1, hxb.2.2.2.2.2.1⟩ (all := es.map PkE.ls) (by intro p hp; obtain ⟨e, -, rfl⟩ := List.mem_map.1 hp; rfl)
    refine ⟨fitsD (fun k => sizeF s k) (es.map PkE.ls) (partsF vals (es.length : Nat) P s), fun W hb => ?_, fun W hb => rfitsp_yes av es c W (hx.keep hb) hs (hk.keep hb (Nat.le_refl _)) hf hn⟩
    rw [← e]
    exact pfitsp_yes av es c W (hx.keep hb) hs (hk.keep hb (Nat.le_refl _)) hf hn
   ·obtain ⟨pa, pc, rfl⟩ := hk.rd.len
    refine ⟨false, fun W hb => pfits_len _ _ _ _ (chkF vals t P s).1 W (fun W' hb' => ?_) ht, fun W hb => rfits_len _ _ _ _ W (fun W' hb' => ?_) ht⟩
    ·have := pcheck_any ((hx.keep hb).keep hb') c
     rw [hs] at this; exact this
    ·have := rsound_any c W' ((hx.keep hb).keep hb')
     rw [hs] at this; exact this
 ·obtain ⟨a, c, rfl⟩ := rd12_len hR
  have hno : rightB t p s = false ∨ (vals.length : Int) ≠ cellsN t p := by
   cases hr : rightB t p s
   ·exact Or.inl rfl
   ·exact Or.inr fun h => hg ⟨hr, h⟩
  exact ⟨false, fun W _ => pfits_bad _ _ 1 W (fun W' _ => pcheck_no a _ c hno), fun W _ => rfits_bad _ _ W (fun W' _ => rsound_no a _ c W' hno)⟩
end
end Go.Proofs.YtnagdljgeglceaaGreat
/- PocketFits: the law's walk, main. -/
set_option linter.unusedSimpArgs false
set_option linter.unusedVariables false
namespace Go.Proofs.YtnagdljgeglceaaGreat
open Go.ChangeShapes Go.RowKit
structure PkfRel (w w1 : World) (es : List PkE) (vi : Value) (wr : World) (k : Nat) : Prop where
 le : k ≤ es.length
 eq : vi = .int .i64 k
 al : ∀ (j : Nat) (e : PkE), j < k → es[j]? = some e → fewB e = true
 bel : Below w1.heap.size w1 wr
def PkfRelE (w w1 : World) (es : List PkE) (vi : Value) (wr : World) : Prop := ∃ k, PkfRel w w1 es vi wr k

set_option maxHeartbeats 1000000 in
set_option maxRecDepth 100000 in
theorem pkfits_any (t p s : Int) (sv av : Value) (vals : List Int) (es : List PkE) (w : World) (hR : Rd w sv 1 vals.length (uints vals)) (hu : ∀ u ∈ vals, VS.U32 u) (hk : PkR w av es) :
 Calls Tryz.prog 6 #[.agg #[.int .i64 t, .int .i64 p, .int .i64 s], sv, av] w fun e W' => e = .returned (.bool true) ∧ Below w.heap.size w W' := by
 have HF := Lib.hid (fun w => few12_any t p s w)
 have HL := Lib.hid (fun w => pklive_any w)
 have c0 := loc_alloc w #[.int .i64 t, .int .i64 p, .int .i64 s] 23
 have S0 := ((BS.start w).alloc (.cells #[.int .i64 t, .int .i64 p, .int .i64 s] 23))
 obtain ⟨pa, pc, rfl⟩ := hk.rd.len
 obtain ⟨sa, sc, rfl⟩ := rd12_len hR
 have HK := Lib.hid hk
 have HR := Lib.hid hR
 have HU := Lib.hid hu
 clear hk hR hu
 by_cases hp : p ≤ 64
 ·have hd : decide (p ≤ 64) = true := by simpa using hp
  rw [hd] at HF
  by_cases hn : es.length ≤ 20
  ·have hni : ¬ (20 : Int) < es.length := by omega
   have HP := Lib.hid hp
   clear hd hp
   go_enter Tryz.func6, Tryz.ntmps6
   go_wp2_with fail
   refine (calls_b S0 (HF.out _)).mono ?_
   rintro e w1 ⟨rfl, S1, S1l⟩
   have c1 := loc_step S1l (by simp) c0
   clear S1l
   clear S0 c0
   go_wp2_with fail
   have hz1 : w.heap.size < w1.heap.size := (S1.ls w.heap.size (by simp)).1
   have HQ := Lib.hid (fun W (hW : Below w1.heap.size w1 W) => (⟨S1.bel.trans (hW.mono S1.bel.size), fun o => (World.cell?_of_block (a := ⟨w.heap.size, o, none⟩) (hW.block w.heap.size hz1)).trans (c1 o)⟩ : Below w.heap.size w W ∧ ∀ o : Nat, W.cell? ⟨w.heap.size, o, none⟩ = (#[.int .i64 t, .int .i64 p, .int .i64 s] : Array Value)[o]?))
   clear S1 c1 hz1
   go_loopw [7] (fun vi wr => PkfRelE w w1 es vi wr) (fun vi _ => es.length - (intOf vi).toNat)
   case atStart => exact ⟨0, by omega, rfl, fun j e hj => absurd hj (by omega), Below.refl _ _⟩
   case round =>
    obtain ⟨k, hkl, rfl, hal, hbel⟩ := hrel
    obtain ⟨hbw, hcfg⟩ := HQ.out _ hbel
    by_cases hlt : k < es.length
    ·have hki : (k : Int) < es.length := by omega
     obtain ⟨e, he⟩ : ∃ e, es[k]? = some e := ⟨_, List.getElem?_eq_getElem hlt⟩
     have hpk := HK.out.keep hbw (Nat.le_refl _)
     obtain ⟨b1, off, c', hvs, hcell⟩ := hpk.cell he
     simp only [Value.slice.injEq, true_and] at hvs
     obtain ⟨rfl, rfl⟩ := hvs
     have k0 := hcell 0 (by omega)
     have k1 := hcell 1 (by omega)
     have k2 := hcell 2 (by omega)
     have k3 := hcell 3 (by omega)
     have k4 := hcell 4 (by omega)
     have k5 := hcell 5 (by omega)
     have k6 := hcell 6 (by omega)
     have k7 := hcell 7 (by omega)
     have k8 := hcell 8 (by omega)
     simp only [Nat.add_zero, ← Nat.add_assoc, PkE.vs, List.getD_cons_zero, List.getD_cons_succ] at k0 k1 k2 k3 k4 k5 k6 k7 k8
     have HFw := Lib.hid (rfewp_any e wr (hpk.ok e (List.mem_of_getElem? he)))
     unfold aggP at HFw
     obtain ⟨r, hr⟩ : ∃ r, fewB e = r := ⟨_, rfl⟩
     rw [hr] at HFw
     have HRr := Lib.hid hr
     have HE := Lib.hid he
     have HAl := Lib.hid hal
     have HBl := Lib.hid hbel
     have HBw := Lib.hid hbw
     clear hcell hpk hcfg he hr hal hbel hbw
     go_wp2_with fail
     refine (HFw.out).mono ?_
     rintro x w2 ⟨rfl, b2⟩
     have B2 := Lib.hid (HBl.out.trans (b2.mono HBl.out.size))
     have BW := Lib.hid (HBw.out.trans (b2.mono HBw.out.size))
     clear b2 k0 k1 k2 k3 k4 k5 k6 k7 k8
     cases r
     ·go_wp2_with fail
      refine (HL.out _).mono ?_
      rintro x w3 ⟨rfl, b3⟩
      have B3 := Lib.hid (BW.out.trans (b3.mono BW.out.size))
      clear b3
      go_wp2
      go_ret
      exact ⟨rfl, B3.out⟩
     ·go_wp2
      go_roundw
      case rel => exact ⟨k + 1, by omega, by go_num, fun j e' hj he' => by
       by_cases e2 : j = k
       ·subst e2
        have := HE.out.symm.trans he'
        simp at this
        subst this
        exact HRr.out
       ·exact HAl.out j e' (by omega) he', B2.out⟩
      case measure => simp [intOf]; omega
    ·have hki : ¬ (k : Int) < es.length := by omega
     have hf : ∀ e ∈ es, fewB e = true := fun e he => by
      obtain ⟨j, hj, hje⟩ := List.getElem_of_mem he
      exact hal j e (by omega) (by rw [List.getElem?_eq_getElem hj, hje])
     obtain ⟨r, h1, h2⟩ := fits_both t p s _ _ vals es w HR.out HU.out HP.out HK.out hf hn
     have H1 := Lib.hid h1
     have H2 := Lib.hid h2
     have HS := Lib.hid (fun W (hW : Below w1.heap.size w1 W) => (⟨(HQ.out W hW).1, hW, ((HQ.out W hW).2 0).trans rfl, ((HQ.out W hW).2 1).trans rfl, ((HQ.out W hW).2 2).trans rfl⟩ : Below w.heap.size w W ∧ Below w1.heap.size w1 W ∧ W.cell? ⟨w.heap.size, 0, none⟩ = some (.int .i64 t) ∧ W.cell? ⟨w.heap.size, 1, none⟩ = some (.int .i64 p) ∧ W.cell? ⟨w.heap.size, 2, none⟩ = some (.int .i64 s)))
     have HBl := Lib.hid hbel
     have hrr : (r == r) = true := by simp
     clear h1 h2 hf hal hbel hbw hcfg
     go_wp2
     refine wp_region_noPanic ?_
     refine wp_region_held_drew (S := fun w' => Below w.heap.size w w' ∧ Below w1.heap.size w1 w' ∧ w'.cell? ⟨w.heap.size, 0, none⟩ = some (.int .i64 t) ∧ w'.cell? ⟨w.heap.size, 1, none⟩ = some (.int .i64 p) ∧ w'.cell? ⟨w.heap.size, 2, none⟩ = some (.int .i64 s)) (by kernel_rfl) ?_ (fun hHeld => ?_)
     ·exact HS.out _ HBl.out.drew
     refine wpAnyH_take (i := 0) (oi := _) (v := ?_) rfl (by kernel_rfl) (by kernel_rfl) (by kernel_rfl) (fun _ _ _ h => h) (Or.inl ⟨by rfl, ?_⟩) (by assumption) ?_
     rotate_left
     ·intro w hSw; (try dsimp only at hSw); go_simp; try with_reducible rfl
     try simp only [Act.put, zA, zB, zD, zE, zF]
     refine wpAnyH_take (i := 1) (oi := _) (v := ?_) rfl (by kernel_rfl) (by kernel_rfl) (by kernel_rfl) (fun _ _ _ h => h) (Or.inl ⟨by rfl, ?_⟩) (by assumption) ?_
     rotate_left
     ·intro w hSw; (try dsimp only at hSw); go_simp; try with_reducible rfl
     try simp only [Act.put, zA, zB, zC, zD, zE, zF]
     refine wpAnyH_take (i := 2) (oi := _) (v := ?_) rfl (by kernel_rfl) (by kernel_rfl) (by kernel_rfl) (fun _ _ _ h => h) (Or.inl ⟨by rfl, ?_⟩) (by assumption) ?_
     rotate_left
     ·intro w hSw; (try dsimp only at hSw); go_simp; try with_reducible rfl
     try simp only [Act.put, zA, zB, zC, zD, zE, zF]
     refine wpAnyH_take (i := 4) (oi := _) (v := ?_) rfl (by kernel_rfl) (by kernel_rfl) (by kernel_rfl) (fun _ _ _ h => h) (Or.inl ⟨by rfl, ?_⟩) (by assumption) ?_
     rotate_left
     ·intro w hSw; (try dsimp only at hSw); go_simp; try with_reducible rfl
     try simp only [Act.put, zA, zB, zC, zD, zE, zF]
     refine wpAnyH_take (i := 5) (oi := _) (v := ?_) rfl (by kernel_rfl) (by kernel_rfl) (by kernel_rfl) (fun _ _ _ h => h) (Or.inl ⟨by rfl, ?_⟩) (by assumption) ?_
     rotate_left
     ·intro w hSw; (try dsimp only at hSw); go_simp; try with_reducible rfl
     try simp only [Act.put, zA, zB, zC, zD, zE, zF]
     refine wpAnyH_take (i := 6) (oi := _) (v := ?_) rfl (by kernel_rfl) (by kernel_rfl) (by kernel_rfl) (fun _ _ _ h => h) (Or.inl ⟨by rfl, ?_⟩) (by assumption) ?_
     rotate_left
     ·intro w hSw; (try dsimp only at hSw); go_simp; try with_reducible rfl
     try simp only [Act.put, zA, zB, zC, zD, zE, zF]
     refine wpAnyH_ready (rs := [3]) (by kernel_rfl) (by simp) ?_
     refine AllReadyH.cons (o := _) rfl (fun K hK => ?_) AllReadyH.nil
     go_simp
     refine (H1.out _ hHeld.1).mono ?_
     rintro x w4 ⟨rfl, b4⟩
     have B4 := hHeld.2.1.trans (b4.mono hHeld.2.1.size)
     dsimp only
     refine hK.out _ _ ?_ (fun hHeld => ?_)
     ·exact HS.out _ B4
     clear hK K
     try simp only [Act.put, zA, zB, zC, zD, zE, zF]
     refine wpAnyH_ready (rs := [7]) (by kernel_rfl) (by simp) ?_
     refine AllReadyH.cons (o := _) rfl (fun K hK => ?_) AllReadyH.nil
     go_simp
     refine (H2.out _ hHeld.1).mono ?_
     rintro x w5 ⟨rfl, b5⟩
     have B5 := hHeld.2.1.trans (b5.mono hHeld.2.1.size)
     dsimp only
     refine hK.out _ _ ?_ (fun hHeld => ?_)
     ·exact HS.out _ B5
     clear hK K
     try simp only [Act.put, zA, zB, zC, zD, zE, zF]
     refine wpAnyH_take (i := 8) (oi := _) (v := ?_) rfl (by kernel_rfl) (by kernel_rfl) (by kernel_rfl) (fun _ _ _ h => h) (Or.inl ⟨by rfl, ?_⟩) (by assumption) ?_
     rotate_left
     ·intro w hSw; (try dsimp only at hSw); go_simp; try with_reducible rfl
     try simp only [Act.put, zA, zB, zC, zD, zE, zF]
     refine wpAnyH_take (i := 9) (oi := _) (v := ?_) rfl (by kernel_rfl) (by kernel_rfl) (by kernel_rfl) (fun _ _ _ h => h) (Or.inl ⟨by rfl, ?_⟩) (by assumption) ?_
     rotate_left
     ·intro w hSw; (try dsimp only at hSw); go_simp; try with_reducible rfl
     try simp only [Act.put, zA, zB, zC, zD, zE, zF]
     refine wpAnyH_ready (rs := [10]) (by kernel_rfl) (by simp) ?_
     refine AllReadyH.cons (o := _) rfl (fun K hK => ?_) AllReadyH.nil
     go_simp
     refine (HL.out _).mono ?_
     rintro x w6 ⟨rfl, b6⟩
     have B6 := hHeld.2.1.trans (b6.mono hHeld.2.1.size)
     dsimp only
     refine hK.out _ _ ?_ (fun hHeld => ?_)
     ·exact HS.out _ B6
     clear hK K
     try simp only [Act.put, zA, zB, zC, zD, zE, zF]
     refine wpAnyH_take (i := 11) (oi := _) (v := ?_) rfl (by kernel_rfl) (by kernel_rfl) (by kernel_rfl) (fun _ _ _ h => h) (Or.inl ⟨by rfl, ?_⟩) (by assumption) ?_
     rotate_left
     ·intro w hSw; (try dsimp only at hSw); go_simp; try with_reducible rfl
     try simp only [Act.put, zA, zB, zC, zD, zE, zF]
     refine wpAnyH_take (i := 12) (oi := _) (v := ?_) rfl (by kernel_rfl) (by kernel_rfl) (by kernel_rfl) (fun _ _ _ h => h) (Or.inl ⟨by rfl, ?_⟩) (by assumption) ?_
     rotate_left
     ·intro w hSw; (try dsimp only at hSw); go_simp; try with_reducible rfl
     try simp only [Act.put, zA, zB, zC, zD, zE, zF]
     refine wpAnyH_done (by kernel_rfl) ?_ _
     refine NoPanic.normal ?_
     have HB := Lib.hid hHeld.1
     clear hHeld
     go_wp2
     go_ret
     exact ⟨rfl, HB.out⟩
  ·have hni : (20 : Int) < es.length := by omega
   clear hd hp
   go_enter Tryz.func6, Tryz.ntmps6
   go_wp2_with fail
   refine (calls_b S0 (HF.out _)).mono ?_
   rintro e w1 ⟨rfl, S1, S1l⟩
   have c1 := loc_step S1l (by simp) c0
   clear S1l
   go_wp2_with fail
   refine (HL.out _).mono ?_
   rintro e w4 ⟨rfl, r4⟩
   go_wp2
   go_ret
   exact ⟨rfl, S1.bel.trans (r4.mono S1.bel.size)⟩
 ·have hd : decide (p ≤ 64) = false := by simpa using hp
  rw [hd] at HF
  clear hd hp
  go_enter Tryz.func6, Tryz.ntmps6
  go_wp2_with fail
  refine (calls_b S0 (HF.out _)).mono ?_
  rintro e w1 ⟨rfl, S1, S1l⟩
  have c1 := loc_step S1l (by simp) c0
  clear S1l
  go_wp2_with fail
  refine (HL.out _).mono ?_
  rintro e w4 ⟨rfl, r4⟩
  go_wp2
  go_ret
  exact ⟨rfl, S1.bel.trans (r4.mono S1.bel.size)⟩
end Go.Proofs.YtnagdljgeglceaaGreat
