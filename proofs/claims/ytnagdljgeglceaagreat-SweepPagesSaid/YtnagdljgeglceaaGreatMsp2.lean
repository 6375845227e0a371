/- parts of the proof, merged by a program. -/
import Derived.Test.YtnagdljgeglceaaGreatMsp1
set_option linter.unusedSimpArgs false
set_option linter.unusedVariables false
/- the document's view: blank and Whole. -/
set_option linter.unusedSimpArgs false
set_option linter.unusedVariables false
namespace Go.Proofs.YtnagdljgeglceaaGreat
open Go.RowKit

structure BSt (w wr : World) (b n : Nat) (kv vv iv tv : Value) (n1 n2 n3 n4 : Nat) (x1 x2 x3 x4 : List Value) (all : Bool) : Prop where
 cells : wr.heap[b]? = some (.cells #[.int .i64 n, kv, vv, iv, tv, .slice none 0 0, .slice none 0 0, .int .i64 (-1), .bool all] 98)
 r1 : wr.ownsRow 0 4 1 kv n1 x1
 r2 : wr.ownsRow 0 41 1 vv n2 x2
 r3 : wr.ownsRow 0 4 1 iv n3 x3
 r4 : wr.ownsRow 0 41 1 tv n4 x4
 d1 : ∀ k, kv.ownBlock = some k → iv.ownBlock ≠ some k
 d2 : ∀ k, vv.ownBlock = some k → tv.ownBlock ≠ some k
 bel : Below w.heap.size w wr
 hb : w.heap.size ≤ b
 g1 : ∀ k, kv.ownBlock = some k → w.heap.size ≤ k
 g2 : ∀ k, vv.ownBlock = some k → w.heap.size ≤ k
 g3 : ∀ k, iv.ownBlock = some k → w.heap.size ≤ k
 g4 : ∀ k, tv.ownBlock = some k → w.heap.size ≤ k

theorem BSt.cell {w wr : World} {b n : Nat} {kv vv iv tv : Value} {n1 n2 n3 n4 : Nat} {x1 x2 x3 x4 : List Value} {all : Bool} (h : BSt w wr b n kv vv iv tv n1 n2 n3 n4 x1 x2 x3 x4 all) (o : Nat) :
 wr.cell? ⟨b, o, none⟩ = (#[.int .i64 n, kv, vv, iv, tv, .slice none 0 0, .slice none 0 0, .int .i64 (-1), .bool all] : Array Value)[o]? := cell?_of_heap h.cells
theorem BSt.blt {w wr : World} {b n : Nat} {kv vv iv tv : Value} {n1 n2 n3 n4 : Nat} {x1 x2 x3 x4 : List Value} {all : Bool} (h : BSt w wr b n kv vv iv tv n1 n2 n3 n4 x1 x2 x3 x4 all) : b < wr.heap.size := (Array.getElem?_eq_some_iff.1 h.cells).1

theorem BSt.old1 {w wr : World} {b n : Nat} {kv vv iv tv : Value} {n1 n2 n3 n4 : Nat} {x1 x2 x3 x4 : List Value} {all : Bool} (h : BSt w wr b n kv vv iv tv n1 n2 n3 n4 x1 x2 x3 x4 all) {w2 : World} {X : Obj} (hg : (wr.alloc X).grownBy w2 kv.ownBlock) : w2.heap[b]? = wr.heap[b]? := by
 have hbl := h.blt
 rw [hg.block b (by simp; omega) (fun e => ownsRow_elem h.r1 h.cells (by decide) e.symm), Below.heap_alloc _ _ _ hbl]
theorem BSt.app1 {w wr : World} {b n : Nat} {kv vv iv tv : Value} {n1 n2 n3 n4 : Nat} {x1 x2 x3 x4 : List Value} {all : Bool} (h : BSt w wr b n kv vv iv tv n1 n2 n3 n4 x1 x2 x3 x4 all) {w2 : World} {X : Obj} {v' : Value} (hg : (wr.alloc X).grownBy w2 kv.ownBlock) (hown : w2.ownsRow 0 4 1 v' (n1 + 1) (x1 ++ [.bool false]))
 (hnew : ∀ k, v'.ownBlock = some k → kv.ownBlock = some k ∨ (wr.alloc X).heap.size ≤ k) :
 BSt w (w2.setCell ⟨b, 1, none⟩ v') b n v' vv iv tv (n1 + 1) n2 n3 n4 (x1 ++ [.bool false]) x2 x3 x4 all := by
 have bb := h.old1 hg
 have hbl := h.blt
 have vb := ownsRow_elem h.r1 h.cells (by decide)
 have hne : ∀ k, v'.ownBlock = some k → k ≠ b := by
  rintro k hk rfl
  rcases hnew _ hk with x | x
  ·exact vb x
  ·simp at x; omega
 have hbk : ∀ k, k < wr.heap.size → kv.ownBlock ≠ some k → k ≠ b → (w2.setCell ⟨b, 1, none⟩ v').heap[k]? = wr.heap[k]? := fun k hk h1 h2 => by
  rw [Below.heap_setCell _ _ _ _ (by simpa using h2), hg.block k (by simp; omega) (fun e => h1 e.symm), Below.heap_alloc _ _ _ hk]
 have hsz := h.bel.size
 refine ⟨?_, ?_, ?_, ?_, ?_, ?_, ?_, ?_, h.hb, ?_, ?_, ?_, ?_⟩
 ·have := Joins.block_setCell (i := 1) (bb.trans h.cells) v'
  rw [this]; rfl
 ·exact ownsRow_block hown fun k hk => Below.heap_setCell _ _ _ _ (by simpa using hne k hk)
 ·exact ownsRow_block h.r2 fun k hk => hbk k (ownsRow_lt h.r2 hk) (fun e => ownsRow_ne h.r2 h.r1 (by decide) e hk) (fun e => ownsRow_elem h.r2 h.cells (by decide) (e ▸ hk))
 ·exact ownsRow_block h.r3 fun k hk => hbk k (ownsRow_lt h.r3 hk) (fun e => h.d1 k e hk) (fun e => ownsRow_elem h.r3 h.cells (by decide) (e ▸ hk))
 ·exact ownsRow_block h.r4 fun k hk => hbk k (ownsRow_lt h.r4 hk) (fun e => ownsRow_ne h.r4 h.r1 (by decide) e hk) (fun e => ownsRow_elem h.r4 h.cells (by decide) (e ▸ hk))
 ·intro k hk hk2
  rcases hnew k hk with x | x
  ·exact h.d1 k x hk2
  ·have := ownsRow_lt h.r3 hk2; simp at x; omega
 ·exact h.d2
 ·exact ((((Fr.of_below (S := fun k => w.heap.size ≤ k) h.bel).alloc X).grown hg (fun k hk => Or.inl (h.g1 k hk))).setCell _ _ (Or.inl h.hb)).below (Nat.le_refl _) (fun _ x => x)
 ·intro k hk
  rcases hnew k hk with x | x
  ·exact h.g1 k x
  ·simp at x; omega
 ·exact h.g2
 ·exact h.g3
 ·exact h.g4

theorem BSt.old2 {w wr : World} {b n : Nat} {kv vv iv tv : Value} {n1 n2 n3 n4 : Nat} {x1 x2 x3 x4 : List Value} {all : Bool} (h : BSt w wr b n kv vv iv tv n1 n2 n3 n4 x1 x2 x3 x4 all) {w2 : World} {X : Obj} (hg : (wr.alloc X).grownBy w2 vv.ownBlock) : w2.heap[b]? = wr.heap[b]? := by
 have hbl := h.blt
 rw [hg.block b (by simp; omega) (fun e => ownsRow_elem h.r2 h.cells (by decide) e.symm), Below.heap_alloc _ _ _ hbl]
theorem BSt.app2 {w wr : World} {b n : Nat} {kv vv iv tv : Value} {n1 n2 n3 n4 : Nat} {x1 x2 x3 x4 : List Value} {all : Bool} (h : BSt w wr b n kv vv iv tv n1 n2 n3 n4 x1 x2 x3 x4 all) {w2 : World} {X : Obj} {v' : Value} (hg : (wr.alloc X).grownBy w2 vv.ownBlock) (hown : w2.ownsRow 0 41 1 v' (n2 + 1) (x2 ++ [.int .u32 0]))
 (hnew : ∀ k, v'.ownBlock = some k → vv.ownBlock = some k ∨ (wr.alloc X).heap.size ≤ k) :
 BSt w (w2.setCell ⟨b, 2, none⟩ v') b n kv v' iv tv n1 (n2 + 1) n3 n4 x1 (x2 ++ [.int .u32 0]) x3 x4 all := by
 have bb := h.old2 hg
 have hbl := h.blt
 have vb := ownsRow_elem h.r2 h.cells (by decide)
 have hne : ∀ k, v'.ownBlock = some k → k ≠ b := by
  rintro k hk rfl
  rcases hnew _ hk with x | x
  ·exact vb x
  ·simp at x; omega
 have hbk : ∀ k, k < wr.heap.size → vv.ownBlock ≠ some k → k ≠ b → (w2.setCell ⟨b, 2, none⟩ v').heap[k]? = wr.heap[k]? := fun k hk h1 h2 => by
  rw [Below.heap_setCell _ _ _ _ (by simpa using h2), hg.block k (by simp; omega) (fun e => h1 e.symm), Below.heap_alloc _ _ _ hk]
 have hsz := h.bel.size
 refine ⟨?_, ?_, ?_, ?_, ?_, ?_, ?_, ?_, h.hb, ?_, ?_, ?_, ?_⟩
 ·have := Joins.block_setCell (i := 2) (bb.trans h.cells) v'
  rw [this]; rfl
 ·exact ownsRow_block h.r1 fun k hk => hbk k (ownsRow_lt h.r1 hk) (fun e => ownsRow_ne h.r1 h.r2 (by decide) e hk) (fun e => ownsRow_elem h.r1 h.cells (by decide) (e ▸ hk))
 ·exact ownsRow_block hown fun k hk => Below.heap_setCell _ _ _ _ (by simpa using hne k hk)
 ·exact ownsRow_block h.r3 fun k hk => hbk k (ownsRow_lt h.r3 hk) (fun e => ownsRow_ne h.r3 h.r2 (by decide) e hk) (fun e => ownsRow_elem h.r3 h.cells (by decide) (e ▸ hk))
 ·exact ownsRow_block h.r4 fun k hk => hbk k (ownsRow_lt h.r4 hk) (fun e => h.d2 k e hk) (fun e => ownsRow_elem h.r4 h.cells (by decide) (e ▸ hk))
 ·exact h.d1
 ·intro k hk hk2
  rcases hnew k hk with x | x
  ·exact h.d2 k x hk2
  ·have := ownsRow_lt h.r4 hk2; simp at x; omega
 ·exact ((((Fr.of_below (S := fun k => w.heap.size ≤ k) h.bel).alloc X).grown hg (fun k hk => Or.inl (h.g2 k hk))).setCell _ _ (Or.inl h.hb)).below (Nat.le_refl _) (fun _ x => x)
 ·exact h.g1
 ·intro k hk
  rcases hnew k hk with x | x
  ·exact h.g2 k x
  ·simp at x; omega
 ·exact h.g3
 ·exact h.g4

theorem BSt.old3 {w wr : World} {b n : Nat} {kv vv iv tv : Value} {n1 n2 n3 n4 : Nat} {x1 x2 x3 x4 : List Value} {all : Bool} (h : BSt w wr b n kv vv iv tv n1 n2 n3 n4 x1 x2 x3 x4 all) {w2 : World} {X : Obj} (hg : (wr.alloc X).grownBy w2 iv.ownBlock) : w2.heap[b]? = wr.heap[b]? := by
 have hbl := h.blt
 rw [hg.block b (by simp; omega) (fun e => ownsRow_elem h.r3 h.cells (by decide) e.symm), Below.heap_alloc _ _ _ hbl]
theorem BSt.app3 {w wr : World} {b n : Nat} {kv vv iv tv : Value} {n1 n2 n3 n4 : Nat} {x1 x2 x3 x4 : List Value} {all : Bool} (h : BSt w wr b n kv vv iv tv n1 n2 n3 n4 x1 x2 x3 x4 all) {w2 : World} {X : Obj} {v' : Value} (hg : (wr.alloc X).grownBy w2 iv.ownBlock) (hown : w2.ownsRow 0 4 1 v' (n3 + 1) (x3 ++ [.bool false]))
 (hnew : ∀ k, v'.ownBlock = some k → iv.ownBlock = some k ∨ (wr.alloc X).heap.size ≤ k) :
 BSt w (w2.setCell ⟨b, 3, none⟩ v') b n kv vv v' tv n1 n2 (n3 + 1) n4 x1 x2 (x3 ++ [.bool false]) x4 all := by
 have bb := h.old3 hg
 have hbl := h.blt
 have vb := ownsRow_elem h.r3 h.cells (by decide)
 have hne : ∀ k, v'.ownBlock = some k → k ≠ b := by
  rintro k hk rfl
  rcases hnew _ hk with x | x
  ·exact vb x
  ·simp at x; omega
 have hbk : ∀ k, k < wr.heap.size → iv.ownBlock ≠ some k → k ≠ b → (w2.setCell ⟨b, 3, none⟩ v').heap[k]? = wr.heap[k]? := fun k hk h1 h2 => by
  rw [Below.heap_setCell _ _ _ _ (by simpa using h2), hg.block k (by simp; omega) (fun e => h1 e.symm), Below.heap_alloc _ _ _ hk]
 have hsz := h.bel.size
 refine ⟨?_, ?_, ?_, ?_, ?_, ?_, ?_, ?_, h.hb, ?_, ?_, ?_, ?_⟩
 ·have := Joins.block_setCell (i := 3) (bb.trans h.cells) v'
  rw [this]; rfl
 ·exact ownsRow_block h.r1 fun k hk => hbk k (ownsRow_lt h.r1 hk) (fun e => h.d1 k hk e) (fun e => ownsRow_elem h.r1 h.cells (by decide) (e ▸ hk))
 ·exact ownsRow_block h.r2 fun k hk => hbk k (ownsRow_lt h.r2 hk) (fun e => ownsRow_ne h.r2 h.r3 (by decide) e hk) (fun e => ownsRow_elem h.r2 h.cells (by decide) (e ▸ hk))
 ·exact ownsRow_block hown fun k hk => Below.heap_setCell _ _ _ _ (by simpa using hne k hk)
 ·exact ownsRow_block h.r4 fun k hk => hbk k (ownsRow_lt h.r4 hk) (fun e => ownsRow_ne h.r4 h.r3 (by decide) e hk) (fun e => ownsRow_elem h.r4 h.cells (by decide) (e ▸ hk))
 ·intro k hk hk2
  rcases hnew k hk2 with x | x
  ·exact h.d1 k hk x
  ·have := ownsRow_lt h.r1 hk; simp at x; omega
 ·exact h.d2
 ·exact ((((Fr.of_below (S := fun k => w.heap.size ≤ k) h.bel).alloc X).grown hg (fun k hk => Or.inl (h.g3 k hk))).setCell _ _ (Or.inl h.hb)).below (Nat.le_refl _) (fun _ x => x)
 ·exact h.g1
 ·exact h.g2
 ·intro k hk
  rcases hnew k hk with x | x
  ·exact h.g3 k x
  ·simp at x; omega
 ·exact h.g4

theorem BSt.old4 {w wr : World} {b n : Nat} {kv vv iv tv : Value} {n1 n2 n3 n4 : Nat} {x1 x2 x3 x4 : List Value} {all : Bool} (h : BSt w wr b n kv vv iv tv n1 n2 n3 n4 x1 x2 x3 x4 all) {w2 : World} {X : Obj} (hg : (wr.alloc X).grownBy w2 tv.ownBlock) : w2.heap[b]? = wr.heap[b]? := by
 have hbl := h.blt
 rw [hg.block b (by simp; omega) (fun e => ownsRow_elem h.r4 h.cells (by decide) e.symm), Below.heap_alloc _ _ _ hbl]
theorem BSt.app4 {w wr : World} {b n : Nat} {kv vv iv tv : Value} {n1 n2 n3 n4 : Nat} {x1 x2 x3 x4 : List Value} {all : Bool} (h : BSt w wr b n kv vv iv tv n1 n2 n3 n4 x1 x2 x3 x4 all) {w2 : World} {X : Obj} {v' : Value} (hg : (wr.alloc X).grownBy w2 tv.ownBlock) (hown : w2.ownsRow 0 41 1 v' (n4 + 1) (x4 ++ [.int .u32 0]))
 (hnew : ∀ k, v'.ownBlock = some k → tv.ownBlock = some k ∨ (wr.alloc X).heap.size ≤ k) :
 BSt w (w2.setCell ⟨b, 4, none⟩ v') b n kv vv iv v' n1 n2 n3 (n4 + 1) x1 x2 x3 (x4 ++ [.int .u32 0]) all := by
 have bb := h.old4 hg
 have hbl := h.blt
 have vb := ownsRow_elem h.r4 h.cells (by decide)
 have hne : ∀ k, v'.ownBlock = some k → k ≠ b := by
  rintro k hk rfl
  rcases hnew _ hk with x | x
  ·exact vb x
  ·simp at x; omega
 have hbk : ∀ k, k < wr.heap.size → tv.ownBlock ≠ some k → k ≠ b → (w2.setCell ⟨b, 4, none⟩ v').heap[k]? = wr.heap[k]? := fun k hk h1 h2 => by
  rw [Below.heap_setCell _ _ _ _ (by simpa using h2), hg.block k (by simp; omega) (fun e => h1 e.symm), Below.heap_alloc _ _ _ hk]
 have hsz := h.bel.size
 refine ⟨?_, ?_, ?_, ?_, ?_, ?_, ?_, ?_, h.hb, ?_, ?_, ?_, ?_⟩
 ·have := Joins.block_setCell (i := 4) (bb.trans h.cells) v'
  rw [this]; rfl
 ·exact ownsRow_block h.r1 fun k hk => hbk k (ownsRow_lt h.r1 hk) (fun e => ownsRow_ne h.r1 h.r4 (by decide) e hk) (fun e => ownsRow_elem h.r1 h.cells (by decide) (e ▸ hk))
 ·exact ownsRow_block h.r2 fun k hk => hbk k (ownsRow_lt h.r2 hk) (fun e => h.d2 k hk e) (fun e => ownsRow_elem h.r2 h.cells (by decide) (e ▸ hk))
 ·exact ownsRow_block h.r3 fun k hk => hbk k (ownsRow_lt h.r3 hk) (fun e => ownsRow_ne h.r3 h.r4 (by decide) e hk) (fun e => ownsRow_elem h.r3 h.cells (by decide) (e ▸ hk))
 ·exact ownsRow_block hown fun k hk => Below.heap_setCell _ _ _ _ (by simpa using hne k hk)
 ·exact h.d1
 ·intro k hk hk2
  rcases hnew k hk2 with x | x
  ·exact h.d2 k hk x
  ·have := ownsRow_lt h.r2 hk; simp at x; omega
 ·exact ((((Fr.of_below (S := fun k => w.heap.size ≤ k) h.bel).alloc X).grown hg (fun k hk => Or.inl (h.g4 k hk))).setCell _ _ (Or.inl h.hb)).below (Nat.le_refl _) (fun _ x => x)
 ·exact h.g1
 ·exact h.g2
 ·exact h.g3
 ·intro k hk
  rcases hnew k hk with x | x
  ·exact h.g4 k x
  ·simp at x; omega

theorem cell_one_at (w : World) (u : Value) (T : TypeId) (k : Nat) (hk : k = w.heap.size) : ∀ (j : Nat) (x : Value), [u][j]? = some x → (w.alloc (.cells #[u] T)).cell? ((⟨k, 0, none⟩ : Addr).add j) = some x := by
 subst hk; exact cell_one_new _ _ _

def BRel (w : World) (b n : Nat) (v4 : Value) (wr : World) : Prop := ∃ (k : Nat) (kv vv iv tv : Value), k ≤ n ∧ v4 = .int .i64 k ∧ BSt w wr b n kv vv iv tv k k k k (List.replicate k (.bool false)) (List.replicate k (.int .u32 0)) (List.replicate k (.bool false)) (List.replicate k (.int .u32 0)) false

theorem infoBool : (Tryz.prog.info? 4).map (fun i => (i.zero, i.size, i.bytes)) = some (some (.bool false), 1, 1) := by kernel_rfl

def BlankP (w : World) (n : Nat) (e : Ending) (w' : World) : Prop := ∃ b, e = .returned (.pointer (some ⟨b, 0, none⟩)) ∧ ∃ kv vv iv tv, BSt w w' b n kv vv iv tv n n n n (List.replicate n (.bool false)) (List.replicate n (.int .u32 0)) (List.replicate n (.bool false)) (List.replicate n (.int .u32 0)) false

set_option maxHeartbeats 1000000 in
set_option maxRecDepth 100000 in
theorem blank_any (n : Nat) (w : World) (hn : n ≤ 1000000) :
 Calls Tryz.prog 45 #[.int .i64 n] w (BlankP w n) := by
 obtain ⟨i0, hi0, hi1, hi2, hi3⟩ := info_parts infoU32
 have HI := Lib.hid (And.intro hi0 (And.intro hi1 (And.intro hi2 hi3)))
 obtain ⟨ib, hb0, hb1, hb2, hb3⟩ := info_parts infoBool
 have HB := Lib.hid (And.intro hb0 (And.intro hb1 (And.intro hb2 hb3)))
 clear hi0 hi1 hi2 hi3 hb0 hb1 hb2 hb3
 go_enter Tryz.func45, Tryz.ntmps45
 go_wp2_with fail
 generalize hbw : w.heap.size = b
 go_loopw [4] (fun v4 wr => BRel w b n v4 wr) (fun v4 _ => n - (intOf v4).toNat)
 case atStart =>
  subst hbw
  refine ⟨0, _, _, _, _, Nat.zero_le _, rfl, hb_alloc _ _ _ rfl, World.ownsRow_nil _ _ _ _, World.ownsRow_nil _ _ _ _, World.ownsRow_nil _ _ _ _, World.ownsRow_nil _ _ _ _, ?_, ?_, ?_, Nat.le_refl _, ?_, ?_, ?_, ?_⟩
  all_goals first | (simp [Value.ownBlock]; done) | exact (Below.refl _ _).alloc (Nat.le_refl _) _
 case round =>
  obtain ⟨k, kv, vv, iv, tv, hk, rfl, hB⟩ := hrel
  by_cases hlt : k < n
  ·have H0 := Lib.hid hB
   have c1 := hB.cell 1
   have c2 := hB.cell 2
   have c3 := hB.cell 3
   have c4 := hB.cell 4
   simp at c1 c2 c3 c4
   clear hB hbw
   go_wp2_with (first | (have tok := H0; at_builtin; go_must (refine wpL_append rfl _ _ rfl 4 ib (.bool false) 1 1 Tryz.underlying96 HB.out.1 HB.out.2.1 HB.out.2.2.1 HB.out.2.2.2 rfl (by decide) kv k (List.replicate k (.bool false)) rfl (H0.out.r1.alloc _) ⟨_, 0, none⟩ 1 1 [.bool false] rfl rfl (cell_one_at _ _ _ _ (by simp)) ?c1 ?c2 ?c3 ?_); go_must (case c1 => (simp [Value.oneCell'])); go_must (case c2 => (unfold maxLen; omega)); go_must (case c3 => (omega)); go_must (intro v1' w1 hown hg hnew hnil); clear hnil; go_must (obtain ⟨g0, cap0, rfl⟩ := Joins.ownsRow_form hown (by omega)); go_must (have bb := H0.out.old1 hg); go_must (have e00 : w1.cell? ⟨b, 1, none⟩ = some kv := (World.cell?_of_block (a := ⟨b, 1, none⟩) bb).trans ((H0.out.cell 1).trans rfl)); go_must (have e01 : w1.cell? ⟨b, 2, none⟩ = some vv := (World.cell?_of_block (a := ⟨b, 2, none⟩) bb).trans ((H0.out.cell 2).trans rfl)); go_must (have e02 : w1.cell? ⟨b, 3, none⟩ = some iv := (World.cell?_of_block (a := ⟨b, 3, none⟩) bb).trans ((H0.out.cell 3).trans rfl)); go_must (have e03 : w1.cell? ⟨b, 4, none⟩ = some tv := (World.cell?_of_block (a := ⟨b, 4, none⟩) bb).trans ((H0.out.cell 4).trans rfl)); go_must (have f0 : w1.frozen? ⟨b, 1, none⟩ = false := frozen_of_cells _ _ _ (bb.trans H0.out.cells) _); go_must (have hN := H0.out.app1 hg hown hnew); go_must (have H1 := Lib.hid hN); clear bb hN hown hg hnew tok H0) | (have tok := H1; at_builtin; go_must (refine wpL_append rfl _ _ rfl 41 i0 (.int .u32 0) 1 4 Tryz.underlying24 HI.out.1 HI.out.2.1 HI.out.2.2.1 HI.out.2.2.2 rfl (by decide) vv k (List.replicate k (.int .u32 0)) rfl (H1.out.r2.alloc _) ⟨_, 0, none⟩ 1 1 [.int .u32 0] rfl rfl (cell_one_at _ _ _ _ (by simp)) ?c1 ?c2 ?c3 ?_); go_must (case c1 => (simp [Value.oneCell'])); go_must (case c2 => (unfold maxLen; omega)); go_must (case c3 => (omega)); go_must (intro v2' w2 hown hg hnew hnil); clear hnil; go_must (obtain ⟨g1, cap1, rfl⟩ := Joins.ownsRow_form hown (by omega)); go_must (have bb := H1.out.old2 hg); go_must (have e11 : w2.cell? ⟨b, 2, none⟩ = some vv := (World.cell?_of_block (a := ⟨b, 2, none⟩) bb).trans ((H1.out.cell 2).trans rfl)); go_must (have e12 : w2.cell? ⟨b, 3, none⟩ = some iv := (World.cell?_of_block (a := ⟨b, 3, none⟩) bb).trans ((H1.out.cell 3).trans rfl)); go_must (have e13 : w2.cell? ⟨b, 4, none⟩ = some tv := (World.cell?_of_block (a := ⟨b, 4, none⟩) bb).trans ((H1.out.cell 4).trans rfl)); go_must (have f1 : w2.frozen? ⟨b, 2, none⟩ = false := frozen_of_cells _ _ _ (bb.trans H1.out.cells) _); go_must (have hN := H1.out.app2 hg hown hnew); go_must (have H2 := Lib.hid hN); clear bb hN hown hg hnew tok H1) | (have tok := H2; at_builtin; go_must (refine wpL_append rfl _ _ rfl 4 ib (.bool false) 1 1 Tryz.underlying96 HB.out.1 HB.out.2.1 HB.out.2.2.1 HB.out.2.2.2 rfl (by decide) iv k (List.replicate k (.bool false)) rfl (H2.out.r3.alloc _) ⟨_, 0, none⟩ 1 1 [.bool false] rfl rfl (cell_one_at _ _ _ _ (by simp)) ?c1 ?c2 ?c3 ?_); go_must (case c1 => (simp [Value.oneCell'])); go_must (case c2 => (unfold maxLen; omega)); go_must (case c3 => (omega)); go_must (intro v3' w3 hown hg hnew hnil); clear hnil; go_must (obtain ⟨g2, cap2, rfl⟩ := Joins.ownsRow_form hown (by omega)); go_must (have bb := H2.out.old3 hg); go_must (have e22 : w3.cell? ⟨b, 3, none⟩ = some iv := (World.cell?_of_block (a := ⟨b, 3, none⟩) bb).trans ((H2.out.cell 3).trans rfl)); go_must (have e23 : w3.cell? ⟨b, 4, none⟩ = some tv := (World.cell?_of_block (a := ⟨b, 4, none⟩) bb).trans ((H2.out.cell 4).trans rfl)); go_must (have f2 : w3.frozen? ⟨b, 3, none⟩ = false := frozen_of_cells _ _ _ (bb.trans H2.out.cells) _); go_must (have hN := H2.out.app3 hg hown hnew); go_must (have H3 := Lib.hid hN); clear bb hN hown hg hnew tok H2) | (have tok := H3; at_builtin; go_must (refine wpL_append rfl _ _ rfl 41 i0 (.int .u32 0) 1 4 Tryz.underlying24 HI.out.1 HI.out.2.1 HI.out.2.2.1 HI.out.2.2.2 rfl (by decide) tv k (List.replicate k (.int .u32 0)) rfl (H3.out.r4.alloc _) ⟨_, 0, none⟩ 1 1 [.int .u32 0] rfl rfl (cell_one_at _ _ _ _ (by simp)) ?c1 ?c2 ?c3 ?_); go_must (case c1 => (simp [Value.oneCell'])); go_must (case c2 => (unfold maxLen; omega)); go_must (case c3 => (omega)); go_must (intro v4' w4 hown hg hnew hnil); clear hnil; go_must (obtain ⟨g3, cap3, rfl⟩ := Joins.ownsRow_form hown (by omega)); go_must (have bb := H3.out.old4 hg); go_must (have e33 : w4.cell? ⟨b, 4, none⟩ = some tv := (World.cell?_of_block (a := ⟨b, 4, none⟩) bb).trans ((H3.out.cell 4).trans rfl)); go_must (have f3 : w4.frozen? ⟨b, 4, none⟩ = false := frozen_of_cells _ _ _ (bb.trans H3.out.cells) _); go_must (have hN := H3.out.app4 hg hown hnew); go_must (have H4 := Lib.hid hN); clear bb hN hown hg hnew tok H3))
   go_roundw
   case rel => exact ⟨k + 1, _, _, _, _, by omega, by go_num, by simpa only [List.replicate_succ'] using H4.out⟩
   case measure => simp [intOf]; omega
  ·have e : k = n := by omega
   subst e
   have H0 := Lib.hid hB
   clear hB hbw
   go_wp2
   go_ret
   exact ⟨b, rfl, kv, vv, iv, tv, H0.out⟩

theorem ownsRow_len {w : World} {e sz n m c : Nat} {ad : Option Addr} {xs : List Value} (h : w.ownsRow 0 e sz (.slice ad m c) n xs) : m = n := by
 rcases h.2 with ⟨h1, h2⟩ | ⟨g, cap, cur, h1, -⟩
 ·simp at h1; omega
 ·simp at h1; omega

theorem BSt.put1 {w wr : World} {b n g m c : Nat} {vv iv tv : Value} {n1 n2 n3 n4 : Nat} {x1 x2 x3 x4 : List Value} {all : Bool} (h : BSt w wr b n (.slice (some ⟨g, 0, none⟩) m c) vv iv tv n1 n2 n3 n4 x1 x2 x3 x4 all) (j : Nat) (v : Value) :
 BSt w (wr.setCell ⟨g, j, none⟩ v) b n (.slice (some ⟨g, 0, none⟩) m c) vv iv tv n1 n2 n3 n4 (x1.set j v) x2 x3 x4 all := by
 have vb : b ≠ g := fun e => ownsRow_elem h.r1 h.cells (by decide) (by rw [e]; rfl)
 have hbk : ∀ k, k ≠ g → (wr.setCell ⟨g, j, none⟩ v).heap[k]? = wr.heap[k]? := fun k hk => Below.heap_setCell _ _ _ _ (by simpa using hk)
 refine ⟨(hbk b vb).trans h.cells, ?_, ?_, ?_, ?_, h.d1, h.d2, ?_, h.hb, h.g1, h.g2, h.g3, h.g4⟩
 ·have hm : m = n1 := by have := ownsRow_len h.r1; exact this
  subst hm; exact (h.r1.stored j v).1
 ·exact ownsRow_block h.r2 fun k hk => hbk k (fun e => ownsRow_ne h.r2 h.r1 (by decide) (k := g) rfl (e ▸ hk))
 ·exact ownsRow_block h.r3 fun k hk => hbk k (fun e => h.d1 g rfl (e ▸ hk))
 ·exact ownsRow_block h.r4 fun k hk => hbk k (fun e => ownsRow_ne h.r4 h.r1 (by decide) (k := g) rfl (e ▸ hk))
 ·exact ((Fr.of_below (S := fun k => w.heap.size ≤ k) h.bel).setCell _ _ (Or.inl (h.g1 g rfl))).below (Nat.le_refl _) (fun _ x => x)

theorem BSt.put2 {w wr : World} {b n g m c : Nat} {kv iv tv : Value} {n1 n2 n3 n4 : Nat} {x1 x2 x3 x4 : List Value} {all : Bool} (h : BSt w wr b n kv (.slice (some ⟨g, 0, none⟩) m c) iv tv n1 n2 n3 n4 x1 x2 x3 x4 all) (j : Nat) (v : Value) :
 BSt w (wr.setCell ⟨g, j, none⟩ v) b n kv (.slice (some ⟨g, 0, none⟩) m c) iv tv n1 n2 n3 n4 x1 (x2.set j v) x3 x4 all := by
 have vb : b ≠ g := fun e => ownsRow_elem h.r2 h.cells (by decide) (by rw [e]; rfl)
 have hbk : ∀ k, k ≠ g → (wr.setCell ⟨g, j, none⟩ v).heap[k]? = wr.heap[k]? := fun k hk => Below.heap_setCell _ _ _ _ (by simpa using hk)
 refine ⟨(hbk b vb).trans h.cells, ?_, ?_, ?_, ?_, h.d1, h.d2, ?_, h.hb, h.g1, h.g2, h.g3, h.g4⟩
 ·exact ownsRow_block h.r1 fun k hk => hbk k (fun e => ownsRow_ne h.r1 h.r2 (by decide) (k := g) rfl (e ▸ hk))
 ·have hm : m = n2 := by have := ownsRow_len h.r2; exact this
  subst hm; exact (h.r2.stored j v).1
 ·exact ownsRow_block h.r3 fun k hk => hbk k (fun e => ownsRow_ne h.r3 h.r2 (by decide) (k := g) rfl (e ▸ hk))
 ·exact ownsRow_block h.r4 fun k hk => hbk k (fun e => h.d2 g rfl (e ▸ hk))
 ·exact ((Fr.of_below (S := fun k => w.heap.size ≤ k) h.bel).setCell _ _ (Or.inl (h.g2 g rfl))).below (Nat.le_refl _) (fun _ x => x)


theorem BSt.drew {w wr : World} {b n : Nat} {kv vv iv tv : Value} {n1 n2 n3 n4 : Nat} {x1 x2 x3 x4 : List Value} {all : Bool} (h : BSt w wr b n kv vv iv tv n1 n2 n3 n4 x1 x2 x3 x4 all) : BSt w wr.drew b n kv vv iv tv n1 n2 n3 n4 x1 x2 x3 x4 all :=
 ⟨h.cells, ownsRow_block h.r1 fun _ _ => rfl, ownsRow_block h.r2 fun _ _ => rfl, ownsRow_block h.r3 fun _ _ => rfl, ownsRow_block h.r4 fun _ _ => rfl, h.d1, h.d2, h.bel.drew, h.hb, h.g1, h.g2, h.g3, h.g4⟩

def kF (k : Nat) (i : Nat) : Value := .bool (decide (i < k))
def vF (vals : List Int) (k : Nat) (i : Nat) : Value := .int .u32 (if i < k then vals.getD i 0 else 0)
theorem rep_rowF (n : Nat) (u : Value) (f : Nat → Value) (h : ∀ i, i < n → f i = u) : List.replicate n u = rowF n f := by
 apply List.ext_getElem?
 intro i
 by_cases hi : i < n
 ·rw [rowF_get _ hi, h i hi]; simp [hi]
 ·rw [List.getElem?_eq_none (by simp; omega), List.getElem?_eq_none (by rw [rowF_length]; omega)]

def WRelR (w : World) (b : Nat) (vals : List Int) (v4 : Value) (wr : World) : Prop := ∃ (k : Nat) (kv vv iv tv : Value), k ≤ vals.length ∧ v4 = .int .i64 k ∧
 BSt w wr b vals.length kv vv iv tv vals.length vals.length vals.length vals.length (rowF vals.length (kF k)) (rowF vals.length (vF vals k)) (List.replicate vals.length (.bool false)) (List.replicate vals.length (.int .u32 0)) false

/-- a new view of the document's comes back. -/
def RNewV (w : World) (s : VS) (e : Ending) (w' : World) : Prop :=
 ∃ b, e = .returned (.pointer (some ⟨b, 0, none⟩)) ∧ RV w' b (fun k => w.heap.size ≤ k ∧ k < w'.heap.size) s ∧ Below w.heap.size w w'

theorem rnew {w wr : World} {b : Nat} {vals : List Int} {kv vv iv tv : Value} (h : BSt w wr b vals.length kv vv iv tv vals.length vals.length vals.length vals.length (rowF vals.length (kF vals.length)) (rowF vals.length (vF vals vals.length)) (List.replicate vals.length (.bool false)) (List.replicate vals.length (.int .u32 0)) false)
 (hn : vals.length ≤ 2147483648) (hu : ∀ v ∈ vals, VS.U32 v) : RNewV w (wholeVS vals) (.returned (.pointer (some ⟨b, 0, none⟩))) (wr.setCell ⟨b, 8, none⟩ (.bool true)) := by
 have hbl := h.blt
 have nb : ∀ {e sz n : Nat} {v : Value} {xs : List Value}, wr.ownsRow 0 e sz v n xs → (∀ k, v.ownBlock = some k → k ≠ b) → (wr.setCell ⟨b, 8, none⟩ (.bool true)).ownsRow 0 e sz v n xs :=
  fun hr hne => ownsRow_block hr fun k hk => Below.heap_setCell _ _ _ _ (by simpa using hne k hk)
 have ne1 : ∀ k, kv.ownBlock = some k → k ≠ b := fun k hk e => ownsRow_elem h.r1 h.cells (by decide) (e ▸ hk)
 have ne2 : ∀ k, vv.ownBlock = some k → k ≠ b := fun k hk e => ownsRow_elem h.r2 h.cells (by decide) (e ▸ hk)
 have ne3 : ∀ k, iv.ownBlock = some k → k ≠ b := fun k hk e => ownsRow_elem h.r3 h.cells (by decide) (e ▸ hk)
 have ne4 : ∀ k, tv.ownBlock = some k → k ≠ b := fun k hk e => ownsRow_elem h.r4 h.cells (by decide) (e ▸ hk)
 have q1 : rowF vals.length (kF vals.length) = rowF (wholeVS vals).n (knowF (wholeVS vals)) := by
  apply List.ext_getElem?
  intro i
  by_cases hi : i < vals.length
  ·rw [rowF_get _ hi, rowF_get _ (show i < (wholeVS vals).n from hi)]; simp [kF, knowF, wholeVS, hi]
  ·rw [List.getElem?_eq_none (by rw [rowF_length]; omega), List.getElem?_eq_none (by rw [rowF_length]; show vals.length ≤ i; omega)]
 have q2 : rowF vals.length (vF vals vals.length) = rowF (wholeVS vals).n (valF (wholeVS vals)) := by
  apply List.ext_getElem?
  intro i
  by_cases hi : i < vals.length
  ·rw [rowF_get _ hi, rowF_get _ (show i < (wholeVS vals).n from hi)]; simp [vF, valF, wholeVS, hi]
  ·rw [List.getElem?_eq_none (by rw [rowF_length]; omega), List.getElem?_eq_none (by rw [rowF_length]; show vals.length ≤ i; omega)]
 have q3 : List.replicate vals.length (Value.bool false) = rowF (wholeVS vals).n (isF (wholeVS vals)) := rep_rowF _ _ _ (fun i _ => by simp [isF, wholeVS, VS.wr, wix])
 have q4 : List.replicate vals.length (Value.int .u32 0) = rowF (wholeVS vals).n (toF (wholeVS vals)) := rep_rowF _ _ _ (fun i _ => by simp [toF, wholeVS, VS.wr, wix])
 have lt : ∀ {e sz n : Nat} {v : Value} {xs : List Value}, wr.ownsRow 0 e sz v n xs → ∀ k, v.ownBlock = some k → k < (wr.setCell ⟨b, 8, none⟩ (.bool true)).heap.size := fun hr k hk => by have := ownsRow_lt hr hk; simpa using this
 refine ⟨b, rfl, ⟨kv, vv, iv, tv, .slice none 0 0, .slice none 0 0, true, ?_, q1 ▸ nb h.r1 ne1, q2 ▸ nb h.r2 ne2, q3 ▸ nb h.r3 ne3, q4 ▸ nb h.r4 ne4, World.ownsRow_nil _ _ _ _, World.ownsRow_nil _ _ _ _, h.d1, h.d2, by simp [Value.ownBlock], ⟨h.hb, by simpa using hbl⟩, fun k hk => ⟨h.g1 k hk, lt h.r1 k hk⟩, fun k hk => ⟨h.g2 k hk, lt h.r2 k hk⟩, fun k hk => ⟨h.g3 k hk, lt h.r3 k hk⟩, fun k hk => ⟨h.g4 k hk, lt h.r4 k hk⟩, by simp [Value.ownBlock], by simp [Value.ownBlock], fun k hk => hk.2, ?_, ?_⟩, ?_⟩
 ·have := Joins.block_setCell (i := 8) h.cells (.bool true)
  rw [this]; rfl
 ·refine ⟨hn, by simp [wholeVS], by simp [wholeVS], by simp [wholeVS], by simp [wholeVS], ?_, by simp [wholeVS]⟩
  intro i v hv
  exact hu v (List.mem_of_getElem? hv)
 ·intro i hi
  exact ⟨_, List.getElem?_eq_getElem (show i < vals.length from hi)⟩
 ·exact ((Fr.of_below (S := fun k => w.heap.size ≤ k) h.bel).setCell _ _ (Or.inl h.hb)).below (Nat.le_refl _) (fun _ x => x)

set_option maxRecDepth 100000 in
theorem rwhole_any (v : Value) (vals : List Int) (w : World) (h : Rd w v 1 vals.length (uints vals)) (hn : vals.length ≤ 1000000) (hu : ∀ v ∈ vals, VS.U32 v) :
 Calls Tryz.prog 18 #[v] w (RNewV w (wholeVS vals)) := by
 have hc : ∀ wr, Below w.heap.size w wr → ∀ k, k < vals.length → ∃ ad c, v = .slice (some ad) vals.length c ∧ wr.cell? (ad.add k) = some (.int .u32 (vals.getD k 0)) ∧ ad.block < w.heap.size := by
  intro wr hb k hk
  obtain ⟨hl, ⟨rfl, h0⟩ | ⟨ad, c, rfl, hcc⟩⟩ := h
  ·omega
  ·have e0 : w.cell? (ad.add k) = some (.int .u32 (vals.getD k 0)) := hcc k _ (by simp [uints, hk])
   have l0 := World.block_lt_of_cell? w _ e0
   exact ⟨ad, c, rfl, (hb.cell l0).trans e0, (show (ad.add k).block = ad.block by unfold Addr.add; first | rfl | (split <;> rfl)) ▸ l0⟩
 have hv : ∃ a c, v = .slice a vals.length c := by
  obtain ⟨hl, ⟨rfl, h0⟩ | ⟨ad, c, rfl, hcc⟩⟩ := h
  ·exact ⟨_, _, by rw [h0]⟩
  ·exact ⟨_, _, rfl⟩
 obtain ⟨pa, pc, rfl⟩ := hv
 have HU := Lib.hid hu
 clear h hu
 go_enter Tryz.func18, Tryz.ntmps18
 go_wp2_with fail
 refine (blank_any _ _ hn).mono ?_
 rintro e w1 ⟨b, rfl, kv, vv, iv, tv, hB⟩
 have HB := Lib.hid hB
 clear hB
 go_wp2_with fail
 go_loopw [4] (fun v4 wr => WRelR w b vals v4 wr) (fun v4 _ => vals.length - (intOf v4).toNat)
 case atStart =>
  refine ⟨0, kv, vv, iv, tv, Nat.zero_le _, rfl, ?_⟩
  have h := HB.out
  have e1 := rep_rowF vals.length (.bool false) (kF 0) (fun i _ => by simp [kF])
  have e2 := rep_rowF vals.length (.int .u32 0) (vF vals 0) (fun i _ => by simp [vF])
  exact ⟨h.cells, e1 ▸ h.r1, e2 ▸ h.r2, h.r3, h.r4, h.d1, h.d2, h.bel, h.hb, h.g1, h.g2, h.g3, h.g4⟩
 case round =>
  obtain ⟨k, kv, vv, iv, tv, hk, rfl, hB⟩ := hrel
  by_cases hlt : k < vals.length
  ·obtain ⟨ad, c', hv', hcv, had⟩ := hc wr hB.bel k hlt
   simp only [Value.slice.injEq, true_and] at hv'
   obtain ⟨rfl, rfl⟩ := hv'
   clear hc
   obtain ⟨gk, ck, rfl⟩ := Joins.ownsRow_form hB.r1 (by omega)
   obtain ⟨gv, cv, rfl⟩ := Joins.ownsRow_form hB.r2 (by omega)
   have H0 := Lib.hid hB
   have c1 := hB.cell 1
   have c2 := hB.cell 2
   simp at c1 c2
   have ck0 : wr.cell? ⟨gk, k, none⟩ = some (.bool false) := by rw [hB.r1.cellAt k (by omega), rowF_get _ hlt]; simp [kF]
   have fk0 := hB.r1.frozenAt k
   have hB1 := hB.put1 k (.bool true)
   have d2 := hB1.cell 2
   simp at d2
   have hgk : w.heap.size ≤ gk := hB.g1 gk rfl
   have dv : (wr.setCell ⟨gk, k, none⟩ (.bool true)).cell? (ad.add k) = some (.int .u32 (vals.getD k 0)) := by
    rw [← hcv]
    exact World.cell?_of_block (Below.heap_setCell _ _ _ _ (by rw [show (ad.add k).block = ad.block by unfold Addr.add; first | rfl | (split <;> rfl)]; simp; omega))
   have dg : (wr.setCell ⟨gk, k, none⟩ (.bool true)).cell? ⟨gv, k, none⟩ = some (vF vals k k) := by rw [hB1.r2.cellAt k (by omega), rowF_get _ hlt]
   have df := hB1.r2.frozenAt k
   simp only [vF] at dg
   have H1 := Lib.hid hB1
   obtain ⟨y, hy⟩ : ∃ y, vals.getD k 0 = y := ⟨_, rfl⟩
   rw [hy] at hcv dv
   have HY := Lib.hid hy
   clear hB hB1 hy
   go_wp2
   generalize hw1 : wr.setCell ⟨gk, k, none⟩ (.bool true) = wr1 at *
   clear hw1
   go_region
   go_wp2
   go_roundw
   case rel =>
    have h := (H1.out.put2 k (.int .u32 y)).drew
    have e1 : (rowF vals.length (kF k)).set k (.bool true) = rowF vals.length (kF (k + 1)) := rowF_set _ _ _ (by simp [kF]) (fun j hj => by simp only [kF]; congr 1; rw [Bool.eq_iff_iff]; simp; omega)
    have e2 : (rowF vals.length (vF vals k)).set k (.int .u32 y) = rowF vals.length (vF vals (k + 1)) := rowF_set _ _ _ (by rw [← HY.out]; simp [vF]) (fun j hj => by
     simp only [vF]
     by_cases h1 : j < k
     ·rw [if_pos h1, if_pos (by omega)]
     ·rw [if_neg h1, if_neg (by omega)])
    rw [e1, e2] at h
    exact ⟨k + 1, _, _, _, _, by omega, by go_num, h⟩
   case measure => simp [intOf]; omega
  ·have e : k = vals.length := by omega
   subst e
   have H0 := Lib.hid hB
   have c8 := hB.cell 8
   have f8 : wr.frozen? ⟨b, 8, none⟩ = false := frozen_of_cells _ _ _ hB.cells _
   simp at c8
   clear hB hc HB
   go_wp2
   go_ret
   exact rnew H0.out (by omega) HU.out

end Go.Proofs.YtnagdljgeglceaaGreat
