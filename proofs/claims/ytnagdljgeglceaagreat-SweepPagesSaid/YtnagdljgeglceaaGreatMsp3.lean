/- parts of the proof, merged by a program. -/
import Derived.Test.YtnagdljgeglceaaGreatMsp1
set_option linter.unusedSimpArgs false
set_option linter.unusedVariables false
/- a call under way that makes new blocks alone: its own boxes, and what lies below. -/
set_option linter.unusedSimpArgs false
set_option linter.unusedVariables false
namespace Go.Proofs.YtnagdljgeglceaaGreat
open Go.RowKit

/-- since w0 nothing below has turned; the boxes Ls are the call's own. -/
structure BS (w0 : World) (Ls : List Nat) (w : World) : Prop where
 bel : Below w0.heap.size w0 w
 ls : ∀ L ∈ Ls, L < w.heap.size ∧ w0.heap.size ≤ L

section
variable {w0 w w' : World} {Ls : List Nat}

theorem BS.start (w0 : World) : BS w0 [] w0 := ⟨Below.refl _ _, by simp⟩

theorem BS.below (h : BS w0 Ls w) (hb : Below w.heap.size w w') : BS w0 Ls w' :=
 ⟨h.bel.trans (hb.mono h.bel.size), fun L hL => ⟨Nat.lt_of_lt_of_le (h.ls L hL).1 hb.size, (h.ls L hL).2⟩⟩

theorem BS.alloc (h : BS w0 Ls w) (o : Obj) : BS w0 (w.heap.size :: Ls) (w.alloc o) := by
 refine ⟨h.bel.alloc h.bel.size o, fun L hL => ?_⟩
 simp at hL
 rcases hL with rfl | hL
 ·exact ⟨by simp, h.bel.size⟩
 ·have := h.ls L hL; exact ⟨by simp; omega, this.2⟩

theorem BS.drew (h : BS w0 Ls w) : BS w0 Ls w.drew := ⟨h.bel.drew, h.ls⟩

theorem BS.setCell (h : BS w0 Ls w) {L : Nat} (hL : L ∈ Ls) (o : Nat) (v : Value) : BS w0 Ls (w.setCell ⟨L, o, none⟩ v) :=
 ⟨h.bel.setCell (h.ls L hL).2 v, fun M hM => ⟨by simpa using (h.ls M hM).1, (h.ls M hM).2⟩⟩

theorem BS.sub (h : BS w0 Ls w) (Ls' : List Nat) (hL : ∀ L ∈ Ls', L ∈ Ls) : BS w0 Ls' w := ⟨h.bel, fun L hm => h.ls L (hL L hm)⟩

theorem BS.grown (h : BS w0 Ls w) {row : Option Nat} (hg : w.grownBy w' row) (hr : ∀ k, row = some k → k ∈ Ls) (Ls' : List Nat) (hL : ∀ L ∈ Ls', L ∈ Ls ∨ (w.heap.size ≤ L ∧ L < w'.heap.size)) : BS w0 Ls' w' := by
 refine ⟨h.bel.grown hg h.bel.size (fun k hk => (h.ls k (hr k hk)).2), fun L hm => ?_⟩
 have := h.bel.size
 rcases hL L hm with y | y
 ·exact ⟨Nat.lt_of_lt_of_le (h.ls L y).1 hg.size, (h.ls L y).2⟩
 ·exact ⟨y.2, by omega⟩

/-- a call that makes new blocks alone. -/
theorem calls_b {P : Program} {f : FuncId} {args : Array Value} {val : Value} (h : BS w0 Ls w)
 (hc : Calls P f args w fun e w' => e = .returned val ∧ Below w.heap.size w w') :
 Calls P f args w fun e w' => e = .returned val ∧ BS w0 Ls w' ∧ ∀ L ∈ Ls, w'.heap[L]? = w.heap[L]? :=
 hc.mono fun _ _ ⟨he, hb⟩ => ⟨he, h.below hb, fun L hL => hb.block L (h.ls L hL).1⟩

/-- a cell of what lay there before. -/
theorem BS.old (h : BS w0 Ls w) {a : Addr} {u : Value} (hc : w0.cell? a = some u) : w.cell? a = some u :=
 (h.bel.cell (World.block_lt_of_cell? w0 a hc)).trans hc
end

theorem BS.oldbox {w0 w : World} {Ls : List Nat} {b : Nat} {cs : Array Value} (h : BS w0 Ls w) (hc : ∀ o : Nat, w0.cell? ⟨b, o, none⟩ = cs[o]?) (hb : b < w0.heap.size) : ∀ o : Nat, w.cell? ⟨b, o, none⟩ = cs[o]? :=
 fun o => (h.bel.cell (p := ⟨b, o, none⟩) hb).trans (hc o)

theorem BS.row {w0 w : World} {Ls : List Nat} {e sz n : Nat} {v : Value} {xs : List Value} (h : BS w0 Ls w) (hr : w0.ownsRow 0 e sz v n xs) : w.ownsRow 0 e sz v n xs :=
 ownsRow_block hr fun k hk => h.bel.block k (ownsRow_lt hr hk)

theorem world_gen {F : World → Prop} {W : World} (h : ∀ W', W' = W → F W') : F W := h W rfl

/-- behind an append to the row v, which a box went ahead of. -/
theorem BS.append {w0 w w' : World} {L : Nat} {v v' : Value} {ob : Obj} {e sz n : Nat} {xs : List Value} (h : BS w0 (L :: v.ownBlock.toList) w) (hg : (w.alloc ob).grownBy w' v.ownBlock)
 (hnew : ∀ k, v'.ownBlock = some k → v.ownBlock = some k ∨ (w.alloc ob).heap.size ≤ k) (hown : w'.ownsRow 0 e sz v' n xs) : BS w0 (L :: v'.ownBlock.toList) w' := by
 refine (h.alloc ob).grown hg (fun k hk => by simp [hk]) _ fun M hM => ?_
 simp at hM
 rcases hM with rfl | hM
 ·exact Or.inl (by simp)
 ·rcases hnew M hM with h1 | h1
  ·exact Or.inl (by simp [h1])
  ·exact Or.inr ⟨h1, ownsRow_lt hown hM⟩

/-- a box of the call's own, beside the others. -/
structure BA (w0 : World) (Ls : List Nat) (LA : Nat) (cs : Array Value) (T : TypeId) (w : World) : Prop where
 bs : BS w0 (LA :: Ls) w
 box : w.heap[LA]? = some (.cells cs T)
 ne : ∀ L ∈ Ls, L ≠ LA
section
variable {w0 w w' : World} {Ls : List Nat} {LA : Nat} {cs : Array Value} {T : TypeId}
theorem BS.allocd (h : BS w0 Ls w) (cs : Array Value) (T : TypeId) : BA w0 Ls w.heap.size cs T (w.alloc (.cells cs T)) :=
 ⟨h.alloc _, heap_alloc_new w _, fun L hL e => by have := (h.ls L hL).1; omega⟩
theorem BA.step (h : BA w0 Ls LA cs T w) (hV : BS w0 (LA :: Ls) w') (hl : ∀ L ∈ LA :: Ls, w'.heap[L]? = w.heap[L]?) : BA w0 Ls LA cs T w' :=
 ⟨hV, (hl _ (by simp)).trans h.box, h.ne⟩
theorem frozen?_of_heap {o : Nat} (h : w.heap[LA]? = some (.cells cs T)) : w.frozen? ⟨LA, o, none⟩ = false := by
 simp [World.frozen?, h]
theorem heap_setCell_same {L o : Nat} {v : Value} (h : w.heap[L]? = some (.cells cs T)) : (w.setCell ⟨L, o, none⟩ v).heap[L]? = some (.cells (cs.setIfInBounds o v) T) := by
 simp only [World.setCell]
 rw [Array.getElem?_modify, if_pos rfl, h]
 rfl
theorem heap_setCell_other {L M o : Nat} {v : Value} (h : M ≠ L) : (w.setCell ⟨L, o, none⟩ v).heap[M]? = w.heap[M]? := by
 simp only [World.setCell]
 rw [Array.getElem?_modify, if_neg (Ne.symm h)]
theorem BA.set (h : BA w0 Ls LA cs T w) (o : Nat) (v : Value) : BA w0 Ls LA (cs.setIfInBounds o v) T (w.setCell ⟨LA, o, none⟩ v) :=
 ⟨h.bs.setCell (by simp) _ _, heap_setCell_same h.box, h.ne⟩
theorem BA.loc (h : BA w0 Ls LA cs T w) {L : Nat} {ds : Array Value} (hm : L ∈ Ls) (o : Nat) (v : Value) (hc : ∀ i : Nat, w.cell? ⟨L, i, none⟩ = ds[i]?) : ∀ i : Nat, (w.setCell ⟨LA, o, none⟩ v).cell? ⟨L, i, none⟩ = ds[i]? :=
 fun i => (World.cell?_of_block (a := ⟨L, i, none⟩) (heap_setCell_other (h.ne L hm))).trans (hc i)
theorem BA.hloc (h : BA w0 Ls LA cs T w) {L : Nat} {x : Option Obj} (hm : L ∈ Ls) (o : Nat) (v : Value) (hc : w.heap[L]? = x) : (w.setCell ⟨LA, o, none⟩ v).heap[L]? = x :=
 (heap_setCell_other (h.ne L hm)).trans hc
theorem BA.grown (h : BA w0 Ls LA cs T w) {ob : Obj} {row : Option Nat} (hg : (w.alloc ob).grownBy w' row) (hr : ∀ k, row = some k → k < w0.heap.size) : ∀ o : Nat, w'.cell? ⟨LA, o, none⟩ = cs[o]? := by
 have hl := h.bs.ls LA (by simp)
 exact loc_grown hg (by simp; omega) (fun e => by have := hr _ e; omega) (loc_old ob hl.1 fun o => cell?_of_heap h.box)
/-- what a box of three cells offers the walk. -/
theorem BA.cells3 {x y z : Value} (h : BA w0 Ls LA #[x, y, z] T w) : (w.cell? ⟨LA, 0, none⟩ = some x ∧ w.cell? ⟨LA, 1, none⟩ = some y ∧ w.cell? ⟨LA, 2, none⟩ = some z) ∧ w.frozen? ⟨LA, 0, none⟩ = false ∧ w.frozen? ⟨LA, 1, none⟩ = false ∧ w.frozen? ⟨LA, 2, none⟩ = false ∧ LA < w.heap.size ∧ w0.heap.size ≤ LA ∧ Below w0.heap.size w0 w :=
 ⟨⟨cell?_of_heap h.box, cell?_of_heap h.box, cell?_of_heap h.box⟩, frozen?_of_heap h.box, frozen?_of_heap h.box, frozen?_of_heap h.box, (h.bs.ls LA (by simp)).1, (h.bs.ls LA (by simp)).2, h.bs.bel⟩
theorem cells3 {L : Nat} {x y z : Value} (h : w.heap[L]? = some (.cells #[x, y, z] T)) : (w.cell? ⟨L, 0, none⟩ = some x ∧ w.cell? ⟨L, 1, none⟩ = some y ∧ w.cell? ⟨L, 2, none⟩ = some z) ∧ w.frozen? ⟨L, 0, none⟩ = false ∧ w.frozen? ⟨L, 1, none⟩ = false ∧ w.frozen? ⟨L, 2, none⟩ = false :=
 ⟨⟨cell?_of_heap h, cell?_of_heap h, cell?_of_heap h⟩, frozen?_of_heap h, frozen?_of_heap h, frozen?_of_heap h⟩
end

/-- a configuration's values: the slice (ad, n, c) holds a heap's cells. -/
structure XV (w : World) (t p s : Int) (ad : Addr) (n : Nat) (vs : List Int) : Prop where
 right : rightB t p s = true
 few : p ≤ 64
 len : vs.length = n
 num : (n : Int) = 30 + 4 * t + 6 * p
 u32 : ∀ v ∈ vs, VS.U32 v
 cells : ∀ k, k < n → w.cell? (ad.add k) = some (.int .u32 (vs.getD k 0))

theorem XV.keep {w w' : World} {t p s : Int} {ad : Addr} {n : Nat} {vs : List Int} (h : XV w t p s ad n vs) (hb : Below w.heap.size w w') : XV w' t p s ad n vs :=
 ⟨h.right, h.few, h.len, h.num, h.u32, fun k hk => (hb.cell (World.block_lt_of_cell? w _ (h.cells k hk))).trans (h.cells k hk)⟩

/-- the place of a page's cell. -/
def cix (t q part : Int) : Nat := (30 + 4 * t + 6 * q + part).toNat
def gv (vs : List Int) (t q part : Int) : Int := vs.getD (cix t q part) 0

theorem add_block (a : Addr) (k : Nat) : (a.add k).block = a.block := by unfold Addr.add; split <;> rfl

theorem getD_u32 {vs : List Int} (h : ∀ v ∈ vs, VS.U32 v) (k : Nat) : VS.U32 (vs.getD k 0) := by
 by_cases hk : k < vs.length
 ·have e : vs.getD k 0 = vs[k] := by simp [hk]
  rw [e]; exact h _ (List.getElem_mem hk)
 ·have e : vs.getD k 0 = 0 := by simp [show ¬ k < vs.length from hk]
  rw [e]; exact VS.u32_zero

section
variable {w : World} {t p s : Int} {ad : Addr} {n : Nat} {vs : List Int}
theorem XV.bd (h : XV w t p s ad n vs) : 1 ≤ t ∧ t ≤ 16 ∧ 4 ≤ p ∧ p ≤ 64 ∧ 10 ≤ s ∧ s ≤ 20 ∧ (n : Int) = 30 + 4 * t + 6 * p := by
 have := right_bd h.right
 have := h.few
 have := h.num
 omega
theorem XV.of (h : XV w t p s ad n vs) {q part : Int} (h1 : 0 ≤ q) (h2 : q < p) : ofF t p s q part = 30 + 4 * t + 6 * q + part := by
 simp [ofF, h.right, h1, h2]
theorem XV.cx (h : XV w t p s ad n vs) {q part : Int} (h1 : 0 ≤ q) (h2 : q < p) (h3 : 0 ≤ part) (h4 : part ≤ 5) : cix t q part < n ∧ ofF t p s q part = ((cix t q part : Nat) : Int) := by
 have b := h.bd
 rw [h.of h1 h2]
 unfold cix
 omega
theorem XV.gu (h : XV w t p s ad n vs) (q part : Int) : 0 ≤ gv vs t q part ∧ gv vs t q part < 4294967296 := getD_u32 h.u32 _
end

end Go.Proofs.YtnagdljgeglceaaGreat
/- the document's small functions: places, bits, classes, infos. -/
set_option linter.unusedSimpArgs false
set_option linter.unusedVariables false
namespace Go.Proofs.YtnagdljgeglceaaGreat
open Go.RowKit

theorem rinfo_any (t p s q : Int) (w : World) :
 Calls Tryz.prog 90 #[.agg #[.int .i64 t, .int .i64 p, .int .i64 s], .int .i64 q] w fun e w' => e = .returned (.int .i64 (ofF t p s q 0)) ∧ Below w.heap.size w w' := by
 go_enter Tryz.func90, Tryz.ntmps90
 go_wp2_with fail
 refine (rpage_any _ _ _ _ _ _ (by omega) (by omega)).mono ?_
 rintro e w1 ⟨rfl, ha⟩
 obtain ⟨hac, haf⟩ := bcell ha
 go_wp2
 go_ret
 refine ⟨rfl, ?_⟩
 (repeat (first | exact Below.refl _ _ | assumption | refine Below.setCell ?_ (by first | omega | (simp; done) | (simp; omega)) _ | refine Below.alloc ?_ (by first | omega | (simp; done) | (simp; omega)) _ | refine Below.drew ?_ | refine Below.trans ?_ (Below.mono ‹Below _ _ _› (by first | omega | (simp; done) | (simp; omega)))))
theorem rfoot_any (t p s q : Int) (w : World) :
 Calls Tryz.prog 96 #[.agg #[.int .i64 t, .int .i64 p, .int .i64 s], .int .i64 q] w fun e w' => e = .returned (.int .i64 (ofF t p s q 1)) ∧ Below w.heap.size w w' := by
 go_enter Tryz.func96, Tryz.ntmps96
 go_wp2_with fail
 refine (rpage_any _ _ _ _ _ _ (by omega) (by omega)).mono ?_
 rintro e w1 ⟨rfl, ha⟩
 obtain ⟨hac, haf⟩ := bcell ha
 go_wp2
 go_ret
 refine ⟨rfl, ?_⟩
 (repeat (first | exact Below.refl _ _ | assumption | refine Below.setCell ?_ (by first | omega | (simp; done) | (simp; omega)) _ | refine Below.alloc ?_ (by first | omega | (simp; done) | (simp; omega)) _ | refine Below.drew ?_ | refine Below.trans ?_ (Below.mono ‹Below _ _ _› (by first | omega | (simp; done) | (simp; omega)))))
theorem rslots_any (t p s q : Int) (w : World) :
 Calls Tryz.prog 48 #[.agg #[.int .i64 t, .int .i64 p, .int .i64 s], .int .i64 q] w fun e w' => e = .returned (.int .i64 (ofF t p s q 4)) ∧ Below w.heap.size w w' := by
 go_enter Tryz.func48, Tryz.ntmps48
 go_wp2_with fail
 refine (rpage_any _ _ _ _ _ _ (by omega) (by omega)).mono ?_
 rintro e w1 ⟨rfl, ha⟩
 obtain ⟨hac, haf⟩ := bcell ha
 go_wp2
 go_ret
 refine ⟨rfl, ?_⟩
 (repeat (first | exact Below.refl _ _ | assumption | refine Below.setCell ?_ (by first | omega | (simp; done) | (simp; omega)) _ | refine Below.alloc ?_ (by first | omega | (simp; done) | (simp; omega)) _ | refine Below.drew ?_ | refine Below.trans ?_ (Below.mono ‹Below _ _ _› (by first | omega | (simp; done) | (simp; omega)))))
theorem rtaken_any (t p s q : Int) (w : World) :
 Calls Tryz.prog 49 #[.agg #[.int .i64 t, .int .i64 p, .int .i64 s], .int .i64 q] w fun e w' => e = .returned (.int .i64 (ofF t p s q 5)) ∧ Below w.heap.size w w' := by
 go_enter Tryz.func49, Tryz.ntmps49
 go_wp2_with fail
 refine (rpage_any _ _ _ _ _ _ (by omega) (by omega)).mono ?_
 rintro e w1 ⟨rfl, ha⟩
 obtain ⟨hac, haf⟩ := bcell ha
 go_wp2
 go_ret
 refine ⟨rfl, ?_⟩
 (repeat (first | exact Below.refl _ _ | assumption | refine Below.setCell ?_ (by first | omega | (simp; done) | (simp; omega)) _ | refine Below.alloc ?_ (by first | omega | (simp; done) | (simp; omega)) _ | refine Below.drew ?_ | refine Below.trans ?_ (Below.mono ‹Below _ _ _› (by first | omega | (simp; done) | (simp; omega)))))

theorem rbin_any (k : Nat) (w : World) (h : k < 11) :
 Calls Tryz.prog 110 #[.int .i64 k] w fun e w' => e = .returned (.int .i64 ((2 + k : Nat) : Int)) ∧ Below w.heap.size w w' := by
 go_enter Tryz.func110, Tryz.ntmps110
 go_wp2
 go_ret
 exact ⟨ret_int (by omega), Below.refl _ _⟩
theorem rrack_any (k : Nat) (w : World) (h : k < 9) :
 Calls Tryz.prog 53 #[.int .i64 k] w fun e w' => e = .returned (.int .i64 ((13 + k : Nat) : Int)) ∧ Below w.heap.size w w' := by
 go_enter Tryz.func53, Tryz.ntmps53
 go_wp2
 go_ret
 exact ⟨ret_int (by omega), Below.refl _ _⟩
theorem rroot_any (k : Nat) (w : World) (h : k < 8) :
 Calls Tryz.prog 38 #[.int .i64 k] w fun e w' => e = .returned (.int .i64 ((22 + k : Nat) : Int)) ∧ Below w.heap.size w w' := by
 go_enter Tryz.func38, Tryz.ntmps38
 go_wp2
 go_ret
 exact ⟨ret_int (by omega), Below.refl _ _⟩

def bitB (v : Int) (i : Nat) : Bool := decide (i < 32) && (v / 2 ^ i % 2 == 1)
theorem rbit_any (v : Int) (i : Nat) (w : World) (h : i < 32) (h1 : 0 ≤ v) :
 Calls Tryz.prog 106 #[.int .u32 v, .int .i64 i] w fun e w' => e = .returned (.bool (bitB v i)) ∧ Below w.heap.size w w' := by
 have hd : 0 ≤ v / 2 ^ i := Int.ediv_nonneg h1 (Int.pow_nonneg (by omega))
 go_enter Tryz.func106, Tryz.ntmps106
 go_wp2
 go_ret
 exact ⟨ret_bool (by simp [bitB, h]), Below.refl _ _⟩

def slotsF (k : Int) : Int := if k = 0 then 32 else if k = 1 then 21 else if k = 2 then 16 else if k = 3 then 10 else if k = 4 then 8 else if k = 5 then 5 else if k = 6 then 4 else if k = 7 then 3 else if k = 8 then 2 else 0
theorem slots_bd (k : Int) : 0 ≤ slotsF k ∧ slotsF k ≤ 32 := by unfold slotsF; repeat' split <;> omega
theorem rkslots_any (k : Int) (w : World) :
 Calls Tryz.prog 88 #[.int .i64 k] w fun e w' => e = .returned (.int .i64 (slotsF k)) ∧ Below w.heap.size w w' := by
 generalize hF : slotsF k = F
 have HF := Lib.hid hF
 clear hF
 go_enter Tryz.func88, Tryz.ntmps88
 go_wp2
 all_goals
  go_ret
  refine ⟨ret_int ?_, Below.refl _ _⟩
  have e := HF.out
  subst e
  clear HF
  simp_all [slotsF]


def onesN (v : Int) : Nat → Nat
 | 0 => 0
 | k + 1 => onesN v k + if bitB v k then 1 else 0
theorem onesN_le (v : Int) (k : Nat) : onesN v k ≤ k := by
 induction k with
 | zero => exact Nat.le_refl _
 | succ k ih => unfold onesN; split <;> omega
def OnesRel (v : Int) (w : World) (a i : Value) (wr : World) : Prop := ∃ k : Nat, k ≤ 32 ∧ i = .int .i64 k ∧ a = .int .i64 (onesN v k) ∧ Below w.heap.size w wr
theorem rones_any (v : Int) (w : World) (h1 : 0 ≤ v) :
 Calls Tryz.prog 93 #[.int .u32 v] w fun e w' => e = .returned (.int .i64 (onesN v 32)) ∧ Below w.heap.size w w' := by
 go_enter Tryz.func93, Tryz.ntmps93
 go_wp2
 go_loopw [3, 4] (fun a i wr => OnesRel v w a i wr) (fun _ i _ => 32 - (intOf i).toNat)
 case atStart => exact ⟨0, by omega, rfl, rfl, Below.refl _ _⟩
 case round =>
  obtain ⟨k, hk, rfl, rfl, hb⟩ := hrel
  have hle := onesN_le v k
  by_cases hlt : k < 32
  ·have HB := rbit_any v k wr hlt h1
   have hs : onesN v (k + 1) = onesN v k + if bitB v k then 1 else 0 := rfl
   have HS := Lib.hid hs
   clear hs
   generalize bitB v k = z at *
   have HC := Lib.hid HB
   have HX := Lib.hid hb
   clear HB hb
   cases z
   ·go_wp2_with fail
    refine HC.out.mono ?_
    rintro e w1 ⟨rfl, b1⟩
    go_wp2_with fail
    go_roundw
    case rel => exact ⟨k + 1, by omega, by go_num, by rw [HS.out]; simp, HX.out.trans (b1.mono HX.out.size)⟩
    case measure => simp [intOf]; omega
   ·go_wp2_with fail
    refine HC.out.mono ?_
    rintro e w1 ⟨rfl, b1⟩
    go_wp2_with fail
    go_roundw
    case rel => exact ⟨k + 1, by omega, by go_num, by rw [HS.out]; simp, HX.out.trans (b1.mono HX.out.size)⟩
    case measure => simp [intOf]; omega
  ·obtain rfl : k = 32 := by omega
   go_wp2
   go_ret
   exact ⟨rfl, hb⟩

def bitsN (n : Nat) : Nat := if n = 0 then 0 else n.log2 + 1
theorem bitsN_half (n : Nat) (h : 1 ≤ n) : bitsN n = bitsN (n / 2) + 1 := by
 unfold bitsN
 rw [if_neg (by omega), Nat.log2_def]
 by_cases h2 : 2 ≤ n
 ·rw [if_pos h2, if_neg (by omega)]
 ·rw [if_neg h2, if_pos (by omega)]
theorem bitsN_le (n : Nat) : bitsN n ≤ n := by
 unfold bitsN
 split
 ·omega
 ·have := Nat.log2_lt (n := n) (k := n) (by omega)
  have := this.2 Nat.lt_two_pow_self
  omega
def logF (n : Int) : Int := (bitsN n.toNat : Int) - 1
def LogRel (n : Int) (w : World) (a i : Value) (wr : World) : Prop := ∃ c k : Nat, a = .int .i64 c ∧ c ≤ 1000000 ∧ i = .int .i64 ((k : Int) - 1) ∧ k + bitsN c = bitsN n.toNat ∧ w = wr
theorem rlog_any (n : Int) (w : World) (h1 : 0 ≤ n) (h2 : n ≤ 1000000) :
 Calls Tryz.prog 143 #[.int .i64 n] w fun e w' => e = .returned (.int .i64 (logF n)) ∧ Below w.heap.size w w' := by
 have hbn := bitsN_le n.toNat
 obtain ⟨m, rfl⟩ := Int.eq_ofNat_of_zero_le h1
 simp at hbn
 generalize hF : logF m = F
 have HF := Lib.hid hF
 clear hF h1
 have h3 : m ≤ 1000000 := by omega
 clear h2
 go_enter Tryz.func143, Tryz.ntmps143
 go_wp2
 go_loopw [0, 3] (fun a i wr => LogRel m w a i wr) (fun a _ _ => (intOf a).toNat)
 case atStart => exact ⟨m, 0, rfl, h3, rfl, by simp, rfl⟩
 case round =>
  obtain ⟨c, k, rfl, hc, rfl, hs, rfl⟩ := hrel
  have hbc := bitsN_le c
  have hs2 : k + bitsN c = bitsN m := by simpa using hs
  have HS := Lib.hid hs2
  have hk : k ≤ 1000000 := by omega
  clear hs hs2
  by_cases hlt : 1 ≤ c
  ·go_wp2
   go_roundw
   case rel => exact ⟨c / 2, k + 1, by simp, by omega, by congr 1; omega, by have := HS.out; have := bitsN_half c hlt; simp; omega, rfl⟩
   case measure => simp [intOf]; omega
  ·go_wp2
   go_ret
   refine ⟨ret_int ?_, Below.refl _ _⟩
   have := HS.out
   have e := HF.out
   subst e
   have : bitsN c = 0 := by unfold bitsN; rw [if_pos (by omega)]
   simp [logF]
   omega

def fullB (v k : Int) : Bool := ((onesN v 32 : Nat) : Int) == slotsF k
theorem rfull_any (v k : Int) (w : World) (h1 : 0 ≤ v) :
 Calls Tryz.prog 51 #[.int .u32 v, .int .i64 k] w fun e w' => e = .returned (.bool (fullB v k)) ∧ Below w.heap.size w w' := by
 have H1 := Lib.hid (fun w => rones_any v w h1)
 generalize hz : fullB v k = z
 have HZ := Lib.hid hz
 clear hz h1
 go_enter Tryz.func51, Tryz.ntmps51
 go_wp2_with fail
 refine (H1.out _).mono ?_
 rintro e w1 ⟨rfl, b1⟩
 go_wp2_with fail
 refine (rkslots_any _ _).mono ?_
 rintro e w2 ⟨rfl, b2⟩
 go_wp2_with fail
 go_ret
 exact ⟨ret_bool HZ.out, b1.trans (b2.mono b1.size)⟩

def rightI (k l c : Int) : Bool :=
 if k = 0 then decide (l = 0) && decide (c = 0)
 else if k = 1 ∨ k = 2 then decide (1 ≤ l) && decide (l ≤ 1024) && decide (c = 0)
 else if k = 3 then decide (l = 1) && decide (0 ≤ c) && decide (c ≤ 8) else false
theorem riright_any (k l c : Int) (w : World) :
 Calls Tryz.prog 128 #[.agg #[.int .i64 k, .int .i64 l, .int .i64 c]] w fun e w' => e = .returned (.bool (rightI k l c)) ∧ Below w.heap.size w w' := by
 generalize hF : rightI k l c = F
 have HF := Lib.hid hF
 clear hF
 go_enter Tryz.func128, Tryz.ntmps128
 go_wp2
 all_goals
  go_ret
  refine ⟨ret_bool ?_, by (repeat (first | exact Below.refl _ _ | assumption | refine Below.setCell ?_ (by first | omega | (simp; done) | (simp; omega)) _ | refine Below.alloc ?_ (by first | omega | (simp; done) | (simp; omega)) _ | refine Below.drew ?_ | refine Below.trans ?_ (Below.mono ‹Below _ _ _› (by first | omega | (simp; done) | (simp; omega)))))⟩
  have e := HF.out
  subst e
  clear HF
  rw [Bool.eq_iff_iff]
  simp_all [rightI] <;> omega

end Go.Proofs.YtnagdljgeglceaaGreat
/- the document's audit: infos of pages. -/
set_option linter.unusedSimpArgs false
set_option linter.unusedVariables false
namespace Go.Proofs.YtnagdljgeglceaaGreat
open Go.RowKit

def okI (v : Int) : Bool := rightI (v % 16) (v / 16 % 4096) (v / 65536)
def iK (v : Int) : Int := if okI v then v % 16 else 0
def iL (v : Int) : Int := if okI v then v / 16 % 4096 else 0
def iC (v : Int) : Int := if okI v then v / 65536 else 0
theorem inf_bd (v : Int) : 0 ≤ iK v ∧ iK v ≤ 3 ∧ 0 ≤ iL v ∧ iL v ≤ 1024 ∧ 0 ≤ iC v ∧ iC v ≤ 8 ∧ (iK v ≠ 0 → okI v = true ∧ 1 ≤ iL v) ∧ (okI v = false → iK v = 0) := by
 unfold iK iL iC
 cases h : okI v
 ·simp
 ·unfold okI rightI at h
  have h0 := h
  split at h0
  ·simp at h0; simp; omega
  ·split at h0
   ·simp at h0; simp; omega
   ·split at h0
    ·simp at h0; simp; omega
    ·simp at h0

theorem rget9_any (v : Int) (w : World) (h1 : 0 ≤ v) (h2 : v < 4294967296) :
 Calls Tryz.prog 89 #[.int .u32 v] w fun e w' => e = .returned (.tuple #[.agg #[.int .i64 (iK v), .int .i64 (iL v), .int .i64 (iC v)], .bool (okI v)]) ∧ Below w.heap.size w w' := by
 have H := fun w => riright_any (v % 16) (v / 16 % 4096) (v / 65536) w
 have hz : rightI (v % 16) (v / 16 % 4096) (v / 65536) = okI v := rfl
 rw [hz] at H
 have HZ : ∀ z, okI v = z → (iK v = if z then v % 16 else 0) ∧ (iL v = if z then v / 16 % 4096 else 0) ∧ (iC v = if z then v / 65536 else 0) := by
  intro z hz; subst hz; exact ⟨rfl, rfl, rfl⟩
 clear hz
 cases hok : okI v
 ·obtain ⟨e1, e2, e3⟩ := HZ _ hok
  simp at e1 e2 e3
  rw [e1, e2, e3]
  rw [hok] at H
  have HH := Lib.hid H
  clear H HZ hok e1 e2 e3
  go_enter Tryz.func89, Tryz.ntmps89
  go_wp2_with fail
  refine (HH.out _).mono ?_
  rintro e w1 ⟨rfl, hb⟩
  obtain ⟨hbc, hbf⟩ := bcell hb
  have z0 : w.heap.size < w1.heap.size := by have := hb.size; simp at this; omega
  have k := fun o => (hbc w.heap.size o (by simp; omega)).trans (loc_old (.cells #[.int .i64 (v % 16), .int .i64 (v / 16 % 4096), .int .i64 (v / 65536)] 73) (by simp) (loc_alloc w #[.int .i64 0, .int .i64 0, .int .i64 0] 73) o)
  have k0 := k 0
  have k1 := k 1
  have k2 := k 2
  simp at k0 k1 k2
  clear k
  go_wp2
  clear hbc hbf
  refine bodyPost_ret (v := .tuple #[.agg #[.int .i64 0, .int .i64 0, .int .i64 0], .bool false]) (by simp [results, Tryz.results89, go_sem, *]) rfl ⟨rfl, ?_⟩
  (repeat (first | exact Below.refl _ _ | assumption | refine Below.setCell ?_ (by first | omega | (simp; done) | (simp; omega)) _ | refine Below.alloc ?_ (by first | omega | (simp; done) | (simp; omega)) _ | refine Below.drew ?_ | refine Below.trans ?_ (Below.mono ‹Below _ _ _› (by first | omega | (simp; done) | (simp; omega)))))
 ·obtain ⟨e1, e2, e3⟩ := HZ _ hok
  simp at e1 e2 e3
  rw [e1, e2, e3]
  rw [hok] at H
  have HH := Lib.hid H
  clear H HZ hok e1 e2 e3
  go_enter Tryz.func89, Tryz.ntmps89
  go_wp2_with fail
  refine (HH.out _).mono ?_
  rintro e w1 ⟨rfl, hb⟩
  obtain ⟨hbc, hbf⟩ := bcell hb
  have z0 : w.heap.size < w1.heap.size := by have := hb.size; simp at this; omega
  have z1 : w.heap.size + 1 < w1.heap.size := by have := hb.size; simp at this; omega
  have k := fun o => (hbc w.heap.size o (by simp; omega)).trans (loc_old (.cells #[.int .i64 (v % 16), .int .i64 (v / 16 % 4096), .int .i64 (v / 65536)] 73) (by simp) (loc_alloc w #[.int .i64 0, .int .i64 0, .int .i64 0] 73) o)
  have k0 := k 0
  have k1 := k 1
  have k2 := k 2
  simp at k0 k1 k2
  clear k
  go_wp2
  clear hbc hbf
  refine bodyPost_ret (v := .tuple #[.agg #[.int .i64 (v % 16), .int .i64 (v / 16 % 4096), .int .i64 (v / 65536)], .bool true]) (by simp [results, Tryz.results89, go_sem, *]) rfl ⟨rfl, ?_⟩
  (repeat (first | exact Below.refl _ _ | assumption | refine Below.setCell ?_ (by first | omega | (simp; done) | (simp; omega)) _ | refine Below.alloc ?_ (by first | omega | (simp; done) | (simp; omega)) _ | refine Below.drew ?_ | refine Below.trans ?_ (Below.mono ‹Below _ _ _› (by first | omega | (simp; done) | (simp; omega)))))

section
variable {t p s : Int} {ad : Addr} {n : Nat} {vs : List Int}

set_option maxHeartbeats 800000 in
theorem xinfo_any (q : Int) (c : Nat) (w : World) (h : XV w t p s ad n vs) (h0 : 0 ≤ q) (h1 : q < p) :
 Calls Tryz.prog 105 #[.agg #[.int .i64 t, .int .i64 p, .int .i64 s, .slice (some ad) n c], .int .i64 q] w fun e w' => e = .returned (.agg #[.int .i64 (iK (gv vs t q 0)), .int .i64 (iL (gv vs t q 0)), .int .i64 (iC (gv vs t q 0))]) ∧ Below w.heap.size w w' := by
 obtain ⟨hx1, hx2⟩ := h.cx h0 h1 (part := 0) (by omega) (by omega)
 have hc0 := h.cells _ hx1
 have hgu := h.gu q 0
 have hI := fun w => rinfo_any t p s q w
 rw [hx2] at hI
 have hd : vs.getD (cix t q 0) 0 = gv vs t q 0 := rfl
 rw [hd] at hc0
 generalize gv vs t q 0 = v at *
 have hG := fun w => rget9_any v w hgu.1 hgu.2
 generalize okI v = ok at *
 generalize iK v = a1 at *
 generalize iL v = a2 at *
 generalize iC v = a3 at *
 generalize cix t q 0 = k at *
 have H1 := Lib.hid hI
 have H2 := Lib.hid hG
 clear h hd hgu hI hG hx2
 have hS0 := (((BS.start w).alloc (.cells #[.int .i64 t, .int .i64 p, .int .i64 s, .slice (some ad) n c] 114)).alloc (.cells #[.int .i64 0, .int .i64 0, .int .i64 0] 73))
 simp only [World.size_alloc] at hS0
 go_enter Tryz.func105, Tryz.ntmps105
 go_wp2_with fail
 refine wp_region_noPanic ?_
 refine wp_region_held_drew (S := fun w' => BS w [w.heap.size + 1, w.heap.size] w' ∧ (∀ o : Nat, w'.cell? ⟨w.heap.size, o, none⟩ = (#[.int .i64 t, .int .i64 p, .int .i64 s, .slice (some ad) n c] : Array Value)[o]?) ∧ w'.heap[w.heap.size + 1]? = some (.cells (#[.int .i64 0, .int .i64 0, .int .i64 0]) 73) ∧ w'.cell? (ad.add k) = some (.int .u32 v)) (by kernel_rfl) ?_ (fun hHeld => ?_)
 ·exact ⟨hS0.drew, loc_old _ (by simp) (loc_alloc w _ _), hb_alloc _ _ _ (by simp), hS0.drew.old hc0⟩
 refine wpAnyH_take (i := 0) (oi := _) (v := ?_) rfl (by kernel_rfl) (by kernel_rfl) (by kernel_rfl) (fun _ _ _ h => h) (Or.inl ⟨by rfl, ?_⟩) (by assumption) ?_
 rotate_left
 ·intro w hSw; (try dsimp only at hSw); go_simp; try with_reducible rfl
 try simp only [Act.put, zA, zB, zD, zE, zF]
 refine wpAnyH_take (i := 1) (oi := _) (v := ?_) rfl (by kernel_rfl) (by kernel_rfl) (by kernel_rfl) (fun _ _ _ h => h) (Or.inl ⟨by rfl, ?_⟩) (by assumption) ?_
 rotate_left
 ·intro w hSw; (try dsimp only at hSw); go_simp; try with_reducible rfl
 try simp only [Act.put, zA, zB, zC, zD, zE, zF]
 refine wpAnyH_take (i := 2) (oi := _) (v := ?_) rfl (by kernel_rfl) (by kernel_rfl) (by kernel_rfl) (fun _ _ _ h => h) (Or.inl ⟨by rfl, ?_⟩) (by assumption) ?_
 rotate_left
 ·intro w hSw; (try dsimp only at hSw); go_simp; try with_reducible rfl
 try simp only [Act.put, zA, zB, zC, zD, zE, zF]
 refine wpAnyH_take (i := 3) (oi := _) (v := ?_) rfl (by kernel_rfl) (by kernel_rfl) (by kernel_rfl) (fun _ _ _ h => h) (Or.inl ⟨by rfl, ?_⟩) (by assumption) ?_
 rotate_left
 ·intro w hSw; (try dsimp only at hSw); go_simp; try with_reducible rfl
 try simp only [Act.put, zA, zB, zC, zD, zE, zF]
 refine wpAnyH_take (i := 4) (oi := _) (v := ?_) rfl (by kernel_rfl) (by kernel_rfl) (by kernel_rfl) (fun _ _ _ h => h) (Or.inl ⟨by rfl, ?_⟩) (by assumption) ?_
 rotate_left
 ·intro w hSw; (try dsimp only at hSw); go_simp; try with_reducible rfl
 try simp only [Act.put, zA, zB, zC, zD, zE, zF]
 refine wpAnyH_ready (rs := [5, 12]) (by kernel_rfl) (by simp) ?_
 refine AllReadyH.cons (o := _) rfl (fun K hK => ?_) (AllReadyH.cons (o := _) rfl (fun K hK => ?_) AllReadyH.nil)
 ·go_simp
  refine (calls_b hHeld.1 (H1.out _)).mono ?_
  rintro e wr1 ⟨rfl, hV, hVl⟩
  dsimp only
  refine hK.out _ _ ?_ (fun hHeld2 => ?_)
  ·exact ⟨hV, loc_step hVl (by simp) hHeld.2.1, (hVl _ (by simp)).trans hHeld.2.2.1, hV.old hc0⟩
  clear hK K hV hVl hHeld
  have hHeld := hHeld2
  clear hHeld2
  try simp only [Act.put, zA, zB, zC, zD, zE, zF]
  refine wpAnyH_take (i := 6) (oi := _) (v := ?_) rfl (by kernel_rfl) (by kernel_rfl) (by kernel_rfl) (fun _ _ _ h => h) (Or.inl ⟨by rfl, ?_⟩) (by assumption) ?_
  rotate_left
  ·intro w hSw; (try dsimp only at hSw); go_simp; try with_reducible rfl
  try simp only [Act.put, zA, zB, zC, zD, zE, zF]
  refine wpAnyH_take (i := 7) (oi := _) (v := ?_) rfl (by kernel_rfl) (by kernel_rfl) (by kernel_rfl) (fun _ _ _ h => h) (Or.inl ⟨by rfl, ?_⟩) (by assumption) ?_
  rotate_left
  ·intro w hSw; (try dsimp only at hSw); go_simp; try with_reducible rfl
  try simp only [Act.put, zA, zB, zC, zD, zE, zF]
  refine wpAnyH_ready (rs := [8, 12]) (by kernel_rfl) (by simp) ?_
  refine AllReadyH.cons (o := _) rfl (fun K hK => ?_) (AllReadyH.cons (o := _) rfl (fun K hK => ?_) AllReadyH.nil)
  ·go_simp
   refine (calls_b hHeld.1 (H2.out _)).mono ?_
   rintro e wr2 ⟨rfl, hV, hVl⟩
   dsimp only
   refine hK.out _ _ ?_ (fun hHeld2 => ?_)
   ·exact ⟨hV, loc_step hVl (by simp) hHeld.2.1, (hVl _ (by simp)).trans hHeld.2.2.1, hV.old hc0⟩
   clear hK K hV hVl hHeld
   have hHeld := hHeld2
   clear hHeld2
   try simp only [Act.put, zA, zB, zC, zD, zE, zF]
   refine wpAnyH_take (i := 9) (oi := _) (v := ?_) rfl (by kernel_rfl) (by kernel_rfl) (by kernel_rfl) (fun _ _ _ h => h) (Or.inl ⟨by rfl, ?_⟩) (by assumption) ?_
   rotate_left
   ·intro w hSw; (try dsimp only at hSw); go_simp; try with_reducible rfl
   try simp only [Act.put, zA, zB, zC, zD, zE, zF]
   refine wpAnyH_take (i := 10) (oi := _) (v := ?_) rfl (by kernel_rfl) (by kernel_rfl) (by kernel_rfl) (fun _ _ _ h => h) (Or.inl ⟨by rfl, ?_⟩) (by assumption) ?_
   rotate_left
   ·intro w hSw; (try dsimp only at hSw); go_simp; try with_reducible rfl
   try simp only [Act.put, zA, zB, zC, zD, zE, zF]
   refine wpAnyH_take (i := 11) (oi := _) (v := ?_) rfl (by kernel_rfl) (by kernel_rfl) (by kernel_rfl) (fun _ _ _ h => h) (Or.inl ⟨by rfl, ?_⟩) (by assumption) ?_
   rotate_left
   ·intro w hSw; (try dsimp only at hSw); go_simp; try with_reducible rfl
   try simp only [Act.put, zA, zB, zC, zD, zE, zF]
   refine wpAnyH_ready (rs := [12]) (by kernel_rfl) (by simp) ?_
   refine AllReadyH.cons (o := _) rfl (fun K hK => ?_) AllReadyH.nil
   have hP := hHeld
   have hA := hHeld.1.allocd (#[.int .i64 0, .int .i64 0, .int .i64 0]) 73
   try simp only [World.size_drew] at hA
   try simp only [World.size_alloc] at hA
   go_simp
   refine hK.out _ _ ?_ (fun hHeld2 => ?_)
   ·exact ⟨hA.bs.sub _ (by simp), loc_old _ (hHeld.1.ls _ (by simp)).1 hHeld.2.1, (heap_alloc_old _ _ (hHeld.1.ls _ (by simp)).1).trans hHeld.2.2.1, hA.bs.old hc0⟩
   clear hK K hHeld
   have hHeld := hHeld2
   clear hHeld2
   try simp only [Act.put, zA, zB, zC, zD, zE, zF]
   refine wpAnyH_ready (rs := [13]) (by kernel_rfl) (by simp) ?_
   refine AllReadyH.cons (o := _) rfl (fun K hK => ?_) AllReadyH.nil
   go_simp
   have hA2 := (hP.1).allocd (#[.int .i64 a1 , .int .i64 a2 , .int .i64 a3]) 73
   refine hK.out _ _ ?_ (fun hHeld2 => ?_)
   try simp only [World.size_drew] at hA2
   try simp only [World.size_alloc] at hA2
   ·exact ⟨hA2.bs.sub _ (by simp), loc_old _ ((hP.1).ls _ (by simp)).1 hP.2.1, (heap_alloc_old _ _ ((hP.1).ls _ (by simp)).1).trans hP.2.2.1, hA2.bs.old hc0⟩
   clear hA hP
   have hA := hA2
   clear hA2 hHeld
   have hHeld := hHeld2
   clear hHeld2
   clear hK K
   try simp only [Act.put, zA, zB, zC, zD, zE, zF]
   refine wpAnyH_take (i := 14) (oi := _) (v := ?_) rfl (by kernel_rfl) (by kernel_rfl) (by kernel_rfl) (fun _ _ _ h => h) (Or.inl ⟨by rfl, ?_⟩) (by assumption) ?_
   rotate_left
   ·intro w hSw; (try dsimp only at hSw); go_simp; try with_reducible rfl
   try simp only [Act.put, zA, zB, zC, zD, zE, zF]
   refine wpAnyH_done (by kernel_rfl) ?_ _
   refine NoPanic.normal ?_
   refine world_gen ?_
   intro wz hwz
   rw [← hwz] at hHeld hA
   clear hwz
   obtain ⟨⟨q0, q1, q2⟩, f0, f1, f2, z1, z2, bel⟩ := hA.cells3
   obtain ⟨⟨r0, r1, r2⟩, g0, g1, g2⟩ := cells3 hHeld.2.2.1
   have y1 := hA.ne (w.heap.size + 1) (by simp)
   have y2 := (hHeld.1.ls (w.heap.size + 1) (by simp)).1
   clear hHeld hA H1 H2 hS0 hc0
   go_wp2
   refine bodyPost_ret (v := .agg #[.int .i64 a1, .int .i64 a2, .int .i64 a3]) (by simp [results, Tryz.results105, go_sem, *]) rfl ⟨rfl, ?_⟩
   exact (bel.setCell (by simp) _ |>.setCell (by simp) _ |>.setCell (by simp) _)
  ·have hP := hHeld
   have hA := hHeld.1.allocd (#[.int .i64 0, .int .i64 0, .int .i64 0]) 73
   try simp only [World.size_drew] at hA
   try simp only [World.size_alloc] at hA
   go_simp
   refine hK.out _ _ ?_ (fun hHeld2 => ?_)
   ·exact ⟨hA.bs.sub _ (by simp), loc_old _ (hHeld.1.ls _ (by simp)).1 hHeld.2.1, (heap_alloc_old _ _ (hHeld.1.ls _ (by simp)).1).trans hHeld.2.2.1, hA.bs.old hc0⟩
   clear hK K hHeld
   have hHeld := hHeld2
   clear hHeld2
   try simp only [Act.put, zA, zB, zC, zD, zE, zF]
   refine wpAnyH_ready (rs := [8]) (by kernel_rfl) (by simp) ?_
   refine AllReadyH.cons (o := _) rfl (fun K hK => ?_) AllReadyH.nil
   go_simp
   refine (calls_b hA.bs (H2.out _)).mono ?_
   rintro e wr3 ⟨rfl, hV, hVl⟩
   have hAn := hA.step hV hVl
   dsimp only
   refine hK.out _ _ ?_ (fun hHeld2 => ?_)
   ·exact ⟨hV.sub _ (by simp), loc_step hVl (by simp) hHeld.2.1, (hVl _ (by simp)).trans hHeld.2.2.1, hV.old hc0⟩
   clear hK K hV hVl hHeld hA hP
   have hA := hAn
   have hP := trivial
   clear hAn
   have hHeld := hHeld2
   clear hHeld2
   try simp only [Act.put, zA, zB, zC, zD, zE, zF]
   refine wpAnyH_take (i := 9) (oi := _) (v := ?_) rfl (by kernel_rfl) (by kernel_rfl) (by kernel_rfl) (fun _ _ _ h => h) (Or.inl ⟨by rfl, ?_⟩) (by assumption) ?_
   rotate_left
   ·intro w hSw; (try dsimp only at hSw); go_simp; try with_reducible rfl
   try simp only [Act.put, zA, zB, zC, zD, zE, zF]
   refine wpAnyH_take (i := 10) (oi := _) (v := ?_) rfl (by kernel_rfl) (by kernel_rfl) (by kernel_rfl) (fun _ _ _ h => h) (Or.inl ⟨by rfl, ?_⟩) (by assumption) ?_
   rotate_left
   ·intro w hSw; (try dsimp only at hSw); go_simp; try with_reducible rfl
   try simp only [Act.put, zA, zB, zC, zD, zE, zF]
   refine wpAnyH_take (i := 11) (oi := _) (v := ?_) rfl (by kernel_rfl) (by kernel_rfl) (by kernel_rfl) (fun _ _ _ h => h) (Or.inl ⟨by rfl, ?_⟩) (by assumption) ?_
   rotate_left
   ·intro w hSw; (try dsimp only at hSw); go_simp; try with_reducible rfl
   try simp only [Act.put, zA, zB, zC, zD, zE, zF]
   refine wpAnyH_ready (rs := [13]) (by kernel_rfl) (by simp) ?_
   refine AllReadyH.cons (o := _) rfl (fun K hK => ?_) AllReadyH.nil
   have kc0 := (cell?_of_heap (o := 0) hA.box)
   have kc1 := (cell?_of_heap (o := 1) hA.box)
   have kc2 := (cell?_of_heap (o := 2) hA.box)
   simp at kc0 kc1 kc2
   have kf0 := frozen?_of_heap (o := 0) hA.box
   have kf1 := frozen?_of_heap (o := 1) hA.box
   have kf2 := frozen?_of_heap (o := 2) hA.box
   go_simp
   refine hK.out _ _ ?_ (fun hHeld2 => ?_)
   ·exact ⟨(((hA.set 0 _).set 1 _).set 2 _).bs.sub _ (by simp), (((hA.set 0 _).set 1 _).loc (by simp) 2 _ ((hA.set 0 _).loc (by simp) 1 _ (hA.loc (by simp) 0 _ hHeld.2.1))), (((hA.set 0 _).set 1 _).hloc (by simp) 2 _ ((hA.set 0 _).hloc (by simp) 1 _ (hA.hloc (by simp) 0 _ hHeld.2.2.1))), (((hA.set 0 _).set 1 _).set 2 _).bs.old hc0⟩
   have hA2 : BA w [w.heap.size + 1, w.heap.size] _ (#[.int .i64 a1 , .int .i64 a2 , .int .i64 a3]) 73 _ := (((hA.set 0 (.int .i64 a1)).set 1 (.int .i64 a2)).set 2 (.int .i64 a3))
   clear kc0 kf0 kc1 kf1 kc2 kf2 hA hP
   have hA := hA2
   clear hA2 hHeld
   have hHeld := hHeld2
   clear hHeld2
   clear hK K
   try simp only [Act.put, zA, zB, zC, zD, zE, zF]
   refine wpAnyH_take (i := 14) (oi := _) (v := ?_) rfl (by kernel_rfl) (by kernel_rfl) (by kernel_rfl) (fun _ _ _ h => h) (Or.inl ⟨by rfl, ?_⟩) (by assumption) ?_
   rotate_left
   ·intro w hSw; (try dsimp only at hSw); go_simp; try with_reducible rfl
   try simp only [Act.put, zA, zB, zC, zD, zE, zF]
   refine wpAnyH_done (by kernel_rfl) ?_ _
   refine NoPanic.normal ?_
   refine world_gen ?_
   intro wz hwz
   rw [← hwz] at hHeld hA
   clear hwz
   obtain ⟨⟨q0, q1, q2⟩, f0, f1, f2, z1, z2, bel⟩ := hA.cells3
   obtain ⟨⟨r0, r1, r2⟩, g0, g1, g2⟩ := cells3 hHeld.2.2.1
   have y1 := hA.ne (w.heap.size + 1) (by simp)
   have y2 := (hHeld.1.ls (w.heap.size + 1) (by simp)).1
   clear hHeld hA H1 H2 hS0 hc0
   go_wp2
   refine bodyPost_ret (v := .agg #[.int .i64 a1, .int .i64 a2, .int .i64 a3]) (by simp [results, Tryz.results105, go_sem, *]) rfl ⟨rfl, ?_⟩
   exact (bel.setCell (by simp) _ |>.setCell (by simp) _ |>.setCell (by simp) _)
 ·have hP := hHeld
  have hA := hHeld.1.allocd (#[.int .i64 0, .int .i64 0, .int .i64 0]) 73
  try simp only [World.size_drew] at hA
  try simp only [World.size_alloc] at hA
  go_simp
  refine hK.out _ _ ?_ (fun hHeld2 => ?_)
  ·exact ⟨hA.bs.sub _ (by simp), loc_old _ (hHeld.1.ls _ (by simp)).1 hHeld.2.1, (heap_alloc_old _ _ (hHeld.1.ls _ (by simp)).1).trans hHeld.2.2.1, hA.bs.old hc0⟩
  clear hK K hHeld
  have hHeld := hHeld2
  clear hHeld2
  try simp only [Act.put, zA, zB, zC, zD, zE, zF]
  refine wpAnyH_ready (rs := [5]) (by kernel_rfl) (by simp) ?_
  refine AllReadyH.cons (o := _) rfl (fun K hK => ?_) AllReadyH.nil
  go_simp
  refine (calls_b hA.bs (H1.out _)).mono ?_
  rintro e wr4 ⟨rfl, hV, hVl⟩
  have hAn := hA.step hV hVl
  dsimp only
  refine hK.out _ _ ?_ (fun hHeld2 => ?_)
  ·exact ⟨hV.sub _ (by simp), loc_step hVl (by simp) hHeld.2.1, (hVl _ (by simp)).trans hHeld.2.2.1, hV.old hc0⟩
  clear hK K hV hVl hHeld hA hP
  have hA := hAn
  have hP := trivial
  clear hAn
  have hHeld := hHeld2
  clear hHeld2
  try simp only [Act.put, zA, zB, zC, zD, zE, zF]
  refine wpAnyH_take (i := 6) (oi := _) (v := ?_) rfl (by kernel_rfl) (by kernel_rfl) (by kernel_rfl) (fun _ _ _ h => h) (Or.inl ⟨by rfl, ?_⟩) (by assumption) ?_
  rotate_left
  ·intro w hSw; (try dsimp only at hSw); go_simp; try with_reducible rfl
  try simp only [Act.put, zA, zB, zC, zD, zE, zF]
  refine wpAnyH_take (i := 7) (oi := _) (v := ?_) rfl (by kernel_rfl) (by kernel_rfl) (by kernel_rfl) (fun _ _ _ h => h) (Or.inl ⟨by rfl, ?_⟩) (by assumption) ?_
  rotate_left
  ·intro w hSw; (try dsimp only at hSw); go_simp; try with_reducible rfl
  try simp only [Act.put, zA, zB, zC, zD, zE, zF]
  refine wpAnyH_ready (rs := [8]) (by kernel_rfl) (by simp) ?_
  refine AllReadyH.cons (o := _) rfl (fun K hK => ?_) AllReadyH.nil
  go_simp
  refine (calls_b hA.bs (H2.out _)).mono ?_
  rintro e wr5 ⟨rfl, hV, hVl⟩
  have hAn := hA.step hV hVl
  dsimp only
  refine hK.out _ _ ?_ (fun hHeld2 => ?_)
  ·exact ⟨hV.sub _ (by simp), loc_step hVl (by simp) hHeld.2.1, (hVl _ (by simp)).trans hHeld.2.2.1, hV.old hc0⟩
  clear hK K hV hVl hHeld hA hP
  have hA := hAn
  have hP := trivial
  clear hAn
  have hHeld := hHeld2
  clear hHeld2
  try simp only [Act.put, zA, zB, zC, zD, zE, zF]
  refine wpAnyH_take (i := 9) (oi := _) (v := ?_) rfl (by kernel_rfl) (by kernel_rfl) (by kernel_rfl) (fun _ _ _ h => h) (Or.inl ⟨by rfl, ?_⟩) (by assumption) ?_
  rotate_left
  ·intro w hSw; (try dsimp only at hSw); go_simp; try with_reducible rfl
  try simp only [Act.put, zA, zB, zC, zD, zE, zF]
  refine wpAnyH_take (i := 10) (oi := _) (v := ?_) rfl (by kernel_rfl) (by kernel_rfl) (by kernel_rfl) (fun _ _ _ h => h) (Or.inl ⟨by rfl, ?_⟩) (by assumption) ?_
  rotate_left
  ·intro w hSw; (try dsimp only at hSw); go_simp; try with_reducible rfl
  try simp only [Act.put, zA, zB, zC, zD, zE, zF]
  refine wpAnyH_take (i := 11) (oi := _) (v := ?_) rfl (by kernel_rfl) (by kernel_rfl) (by kernel_rfl) (fun _ _ _ h => h) (Or.inl ⟨by rfl, ?_⟩) (by assumption) ?_
  rotate_left
  ·intro w hSw; (try dsimp only at hSw); go_simp; try with_reducible rfl
  try simp only [Act.put, zA, zB, zC, zD, zE, zF]
  refine wpAnyH_ready (rs := [13]) (by kernel_rfl) (by simp) ?_
  refine AllReadyH.cons (o := _) rfl (fun K hK => ?_) AllReadyH.nil
  have kc0 := (cell?_of_heap (o := 0) hA.box)
  have kc1 := (cell?_of_heap (o := 1) hA.box)
  have kc2 := (cell?_of_heap (o := 2) hA.box)
  simp at kc0 kc1 kc2
  have kf0 := frozen?_of_heap (o := 0) hA.box
  have kf1 := frozen?_of_heap (o := 1) hA.box
  have kf2 := frozen?_of_heap (o := 2) hA.box
  go_simp
  refine hK.out _ _ ?_ (fun hHeld2 => ?_)
  ·exact ⟨(((hA.set 0 _).set 1 _).set 2 _).bs.sub _ (by simp), (((hA.set 0 _).set 1 _).loc (by simp) 2 _ ((hA.set 0 _).loc (by simp) 1 _ (hA.loc (by simp) 0 _ hHeld.2.1))), (((hA.set 0 _).set 1 _).hloc (by simp) 2 _ ((hA.set 0 _).hloc (by simp) 1 _ (hA.hloc (by simp) 0 _ hHeld.2.2.1))), (((hA.set 0 _).set 1 _).set 2 _).bs.old hc0⟩
  have hA2 : BA w [w.heap.size + 1, w.heap.size] _ (#[.int .i64 a1 , .int .i64 a2 , .int .i64 a3]) 73 _ := (((hA.set 0 (.int .i64 a1)).set 1 (.int .i64 a2)).set 2 (.int .i64 a3))
  clear kc0 kf0 kc1 kf1 kc2 kf2 hA hP
  have hA := hA2
  clear hA2 hHeld
  have hHeld := hHeld2
  clear hHeld2
  clear hK K
  try simp only [Act.put, zA, zB, zC, zD, zE, zF]
  refine wpAnyH_take (i := 14) (oi := _) (v := ?_) rfl (by kernel_rfl) (by kernel_rfl) (by kernel_rfl) (fun _ _ _ h => h) (Or.inl ⟨by rfl, ?_⟩) (by assumption) ?_
  rotate_left
  ·intro w hSw; (try dsimp only at hSw); go_simp; try with_reducible rfl
  try simp only [Act.put, zA, zB, zC, zD, zE, zF]
  refine wpAnyH_done (by kernel_rfl) ?_ _
  refine NoPanic.normal ?_
  refine world_gen ?_
  intro wz hwz
  rw [← hwz] at hHeld hA
  clear hwz
  obtain ⟨⟨q0, q1, q2⟩, f0, f1, f2, z1, z2, bel⟩ := hA.cells3
  obtain ⟨⟨r0, r1, r2⟩, g0, g1, g2⟩ := cells3 hHeld.2.2.1
  have y1 := hA.ne (w.heap.size + 1) (by simp)
  have y2 := (hHeld.1.ls (w.heap.size + 1) (by simp)).1
  clear hHeld hA H1 H2 hS0 hc0
  go_wp2
  refine bodyPost_ret (v := .agg #[.int .i64 a1, .int .i64 a2, .int .i64 a3]) (by simp [results, Tryz.results105, go_sem, *]) rfl ⟨rfl, ?_⟩
  exact (bel.setCell (by simp) _ |>.setCell (by simp) _ |>.setCell (by simp) _)
end
end Go.Proofs.YtnagdljgeglceaaGreat
/- the document's audit: the bits of pages, the starts of spans. -/
set_option linter.unusedSimpArgs false
set_option linter.unusedVariables false
namespace Go.Proofs.YtnagdljgeglceaaGreat
open Go.RowKit
section
variable {t p s : Int} {ad : Addr} {n : Nat} {vs : List Int}

theorem xslots_any (q : Int) (c : Nat) (w : World) (h : XV w t p s ad n vs) (h0 : 0 ≤ q) (h1 : q < p) :
 Calls Tryz.prog 107 #[.agg #[.int .i64 t, .int .i64 p, .int .i64 s, .slice (some ad) n c], .int .i64 q] w fun e w' => e = .returned (.int .u32 (gv vs t q 4)) ∧ Below w.heap.size w w' := by
 obtain ⟨hx1, hx2⟩ := h.cx h0 h1 (part := 4) (by omega) (by omega)
 have hc0 := h.cells _ hx1
 have hI := fun w => rslots_any t p s q w
 rw [hx2] at hI
 have hd : vs.getD (cix t q 4) 0 = gv vs t q 4 := rfl
 rw [hd] at hc0
 generalize gv vs t q 4 = v at *
 generalize cix t q 4 = k at *
 have H1 := Lib.hid hI
 clear h hd hI hx2
 have hS0 := ((BS.start w).alloc (.cells #[.int .i64 t, .int .i64 p, .int .i64 s, .slice (some ad) n c] 114))
 go_enter Tryz.func107, Tryz.ntmps107
 go_wp2_with fail
 refine wp_region_noPanic ?_
 refine wp_region_held_drew (S := fun w' => BS w [w.heap.size] w' ∧ (∀ o : Nat, w'.cell? ⟨w.heap.size, o, none⟩ = (#[.int .i64 t, .int .i64 p, .int .i64 s, .slice (some ad) n c] : Array Value)[o]?) ∧ w'.cell? (ad.add k) = some (.int .u32 v)) (by kernel_rfl) ?_ (fun hHeld => ?_)
 ·exact ⟨hS0.drew, (loc_alloc w _ _), hS0.drew.old hc0⟩
 refine wpAnyH_take (i := 0) (oi := _) (v := ?_) rfl (by kernel_rfl) (by kernel_rfl) (by kernel_rfl) (fun _ _ _ h => h) (Or.inl ⟨by rfl, ?_⟩) (by assumption) ?_
 rotate_left
 ·intro w hSw; (try dsimp only at hSw); go_simp; try with_reducible rfl
 try simp only [Act.put, zA, zB, zD, zE, zF]
 refine wpAnyH_take (i := 1) (oi := _) (v := ?_) rfl (by kernel_rfl) (by kernel_rfl) (by kernel_rfl) (fun _ _ _ h => h) (Or.inl ⟨by rfl, ?_⟩) (by assumption) ?_
 rotate_left
 ·intro w hSw; (try dsimp only at hSw); go_simp; try with_reducible rfl
 try simp only [Act.put, zA, zB, zC, zD, zE, zF]
 refine wpAnyH_take (i := 2) (oi := _) (v := ?_) rfl (by kernel_rfl) (by kernel_rfl) (by kernel_rfl) (fun _ _ _ h => h) (Or.inl ⟨by rfl, ?_⟩) (by assumption) ?_
 rotate_left
 ·intro w hSw; (try dsimp only at hSw); go_simp; try with_reducible rfl
 try simp only [Act.put, zA, zB, zC, zD, zE, zF]
 refine wpAnyH_take (i := 3) (oi := _) (v := ?_) rfl (by kernel_rfl) (by kernel_rfl) (by kernel_rfl) (fun _ _ _ h => h) (Or.inl ⟨by rfl, ?_⟩) (by assumption) ?_
 rotate_left
 ·intro w hSw; (try dsimp only at hSw); go_simp; try with_reducible rfl
 try simp only [Act.put, zA, zB, zC, zD, zE, zF]
 refine wpAnyH_take (i := 4) (oi := _) (v := ?_) rfl (by kernel_rfl) (by kernel_rfl) (by kernel_rfl) (fun _ _ _ h => h) (Or.inl ⟨by rfl, ?_⟩) (by assumption) ?_
 rotate_left
 ·intro w hSw; (try dsimp only at hSw); go_simp; try with_reducible rfl
 try simp only [Act.put, zA, zB, zC, zD, zE, zF]
 refine wpAnyH_ready (rs := [5]) (by kernel_rfl) (by simp) ?_
 refine AllReadyH.cons (o := _) rfl (fun K hK => ?_) AllReadyH.nil
 go_simp
 refine (calls_b hHeld.1 (H1.out _)).mono ?_
 rintro e wr1 ⟨rfl, hV, hVl⟩
 dsimp only
 refine hK.out _ _ ?_ (fun hHeld2 => ?_)
 ·exact ⟨hV, loc_step hVl (by simp) hHeld.2.1, hV.old hc0⟩
 clear hK K hV hVl hHeld
 have hHeld := hHeld2
 clear hHeld2
 try simp only [Act.put, zA, zB, zC, zD, zE, zF]
 refine wpAnyH_take (i := 6) (oi := _) (v := ?_) rfl (by kernel_rfl) (by kernel_rfl) (by kernel_rfl) (fun _ _ _ h => h) (Or.inl ⟨by rfl, ?_⟩) (by assumption) ?_
 rotate_left
 ·intro w hSw; (try dsimp only at hSw); go_simp; try with_reducible rfl
 try simp only [Act.put, zA, zB, zC, zD, zE, zF]
 refine wpAnyH_take (i := 7) (oi := _) (v := ?_) rfl (by kernel_rfl) (by kernel_rfl) (by kernel_rfl) (fun _ _ _ h => h) (Or.inl ⟨by rfl, ?_⟩) (by assumption) ?_
 rotate_left
 ·intro w hSw; (try dsimp only at hSw); go_simp; try with_reducible rfl
 try simp only [Act.put, zA, zB, zC, zD, zE, zF]
 refine wpAnyH_take (i := 8) (oi := _) (v := ?_) rfl (by kernel_rfl) (by kernel_rfl) (by kernel_rfl) (fun _ _ _ h => h) (Or.inl ⟨by rfl, ?_⟩) (by assumption) ?_
 rotate_left
 ·intro w hSw; (try dsimp only at hSw); go_simp; try with_reducible rfl
 try simp only [Act.put, zA, zB, zC, zD, zE, zF]
 refine wpAnyH_done (by kernel_rfl) ?_ _
 refine NoPanic.normal ?_
 refine world_gen ?_
 intro wz hwz
 rw [← hwz] at hHeld
 clear hwz
 have bel := hHeld.1.bel
 clear hHeld hS0 hc0 H1
 go_wp2
 go_ret
 exact ⟨rfl, bel⟩

theorem xtaken_any (q : Int) (c : Nat) (w : World) (h : XV w t p s ad n vs) (h0 : 0 ≤ q) (h1 : q < p) :
 Calls Tryz.prog 108 #[.agg #[.int .i64 t, .int .i64 p, .int .i64 s, .slice (some ad) n c], .int .i64 q] w fun e w' => e = .returned (.int .u32 (gv vs t q 5)) ∧ Below w.heap.size w w' := by
 obtain ⟨hx1, hx2⟩ := h.cx h0 h1 (part := 5) (by omega) (by omega)
 have hc0 := h.cells _ hx1
 have hI := fun w => rtaken_any t p s q w
 rw [hx2] at hI
 have hd : vs.getD (cix t q 5) 0 = gv vs t q 5 := rfl
 rw [hd] at hc0
 generalize gv vs t q 5 = v at *
 generalize cix t q 5 = k at *
 have H1 := Lib.hid hI
 clear h hd hI hx2
 have hS0 := ((BS.start w).alloc (.cells #[.int .i64 t, .int .i64 p, .int .i64 s, .slice (some ad) n c] 114))
 go_enter Tryz.func108, Tryz.ntmps108
 go_wp2_with fail
 refine wp_region_noPanic ?_
 refine wp_region_held_drew (S := fun w' => BS w [w.heap.size] w' ∧ (∀ o : Nat, w'.cell? ⟨w.heap.size, o, none⟩ = (#[.int .i64 t, .int .i64 p, .int .i64 s, .slice (some ad) n c] : Array Value)[o]?) ∧ w'.cell? (ad.add k) = some (.int .u32 v)) (by kernel_rfl) ?_ (fun hHeld => ?_)
 ·exact ⟨hS0.drew, (loc_alloc w _ _), hS0.drew.old hc0⟩
 refine wpAnyH_take (i := 0) (oi := _) (v := ?_) rfl (by kernel_rfl) (by kernel_rfl) (by kernel_rfl) (fun _ _ _ h => h) (Or.inl ⟨by rfl, ?_⟩) (by assumption) ?_
 rotate_left
 ·intro w hSw; (try dsimp only at hSw); go_simp; try with_reducible rfl
 try simp only [Act.put, zA, zB, zD, zE, zF]
 refine wpAnyH_take (i := 1) (oi := _) (v := ?_) rfl (by kernel_rfl) (by kernel_rfl) (by kernel_rfl) (fun _ _ _ h => h) (Or.inl ⟨by rfl, ?_⟩) (by assumption) ?_
 rotate_left
 ·intro w hSw; (try dsimp only at hSw); go_simp; try with_reducible rfl
 try simp only [Act.put, zA, zB, zC, zD, zE, zF]
 refine wpAnyH_take (i := 2) (oi := _) (v := ?_) rfl (by kernel_rfl) (by kernel_rfl) (by kernel_rfl) (fun _ _ _ h => h) (Or.inl ⟨by rfl, ?_⟩) (by assumption) ?_
 rotate_left
 ·intro w hSw; (try dsimp only at hSw); go_simp; try with_reducible rfl
 try simp only [Act.put, zA, zB, zC, zD, zE, zF]
 refine wpAnyH_take (i := 3) (oi := _) (v := ?_) rfl (by kernel_rfl) (by kernel_rfl) (by kernel_rfl) (fun _ _ _ h => h) (Or.inl ⟨by rfl, ?_⟩) (by assumption) ?_
 rotate_left
 ·intro w hSw; (try dsimp only at hSw); go_simp; try with_reducible rfl
 try simp only [Act.put, zA, zB, zC, zD, zE, zF]
 refine wpAnyH_take (i := 4) (oi := _) (v := ?_) rfl (by kernel_rfl) (by kernel_rfl) (by kernel_rfl) (fun _ _ _ h => h) (Or.inl ⟨by rfl, ?_⟩) (by assumption) ?_
 rotate_left
 ·intro w hSw; (try dsimp only at hSw); go_simp; try with_reducible rfl
 try simp only [Act.put, zA, zB, zC, zD, zE, zF]
 refine wpAnyH_ready (rs := [5]) (by kernel_rfl) (by simp) ?_
 refine AllReadyH.cons (o := _) rfl (fun K hK => ?_) AllReadyH.nil
 go_simp
 refine (calls_b hHeld.1 (H1.out _)).mono ?_
 rintro e wr1 ⟨rfl, hV, hVl⟩
 dsimp only
 refine hK.out _ _ ?_ (fun hHeld2 => ?_)
 ·exact ⟨hV, loc_step hVl (by simp) hHeld.2.1, hV.old hc0⟩
 clear hK K hV hVl hHeld
 have hHeld := hHeld2
 clear hHeld2
 try simp only [Act.put, zA, zB, zC, zD, zE, zF]
 refine wpAnyH_take (i := 6) (oi := _) (v := ?_) rfl (by kernel_rfl) (by kernel_rfl) (by kernel_rfl) (fun _ _ _ h => h) (Or.inl ⟨by rfl, ?_⟩) (by assumption) ?_
 rotate_left
 ·intro w hSw; (try dsimp only at hSw); go_simp; try with_reducible rfl
 try simp only [Act.put, zA, zB, zC, zD, zE, zF]
 refine wpAnyH_take (i := 7) (oi := _) (v := ?_) rfl (by kernel_rfl) (by kernel_rfl) (by kernel_rfl) (fun _ _ _ h => h) (Or.inl ⟨by rfl, ?_⟩) (by assumption) ?_
 rotate_left
 ·intro w hSw; (try dsimp only at hSw); go_simp; try with_reducible rfl
 try simp only [Act.put, zA, zB, zC, zD, zE, zF]
 refine wpAnyH_take (i := 8) (oi := _) (v := ?_) rfl (by kernel_rfl) (by kernel_rfl) (by kernel_rfl) (fun _ _ _ h => h) (Or.inl ⟨by rfl, ?_⟩) (by assumption) ?_
 rotate_left
 ·intro w hSw; (try dsimp only at hSw); go_simp; try with_reducible rfl
 try simp only [Act.put, zA, zB, zC, zD, zE, zF]
 refine wpAnyH_done (by kernel_rfl) ?_ _
 refine NoPanic.normal ?_
 refine world_gen ?_
 intro wz hwz
 rw [← hwz] at hHeld
 clear hwz
 have bel := hHeld.1.bel
 clear hHeld hS0 hc0 H1
 go_wp2
 go_ret
 exact ⟨rfl, bel⟩

/-- a new row of numbers comes back. -/
def RowP (w : World) (l : List Int) (v : Value) (w' : World) : Prop :=
 w'.ownsRow 0 3 1 v l.length (ints l) ∧ (∀ k, v.ownBlock = some k → w.heap.size ≤ k) ∧ Below w.heap.size w w'

def startsL (g : Int → Int) (p : Int) : Nat → Int → List Int → List Int × Bool
 | 0, a, out => (out, a == p)
 | f + 1, a, out => if a < p then (if okI (g a) = false ∨ iK (g a) = 0 then ([], false) else startsL g p f (a + iL (g a)) (out ++ [a])) else (out, a == p)
def startsF (g : Int → Int) (p : Int) : List Int × Bool := startsL g p (p.toNat + 1) 0 []

structure StRel (w : World) (g : Int → Int) (t p s : Int) (sl : Value) (res : List Int × Bool) (v4 v5 : Value) (wr : World) (out : List Int) (a : Int) : Prop where
 ha : v5 = .int .i64 a
 a0 : 0 ≤ a
 a1 : a ≤ p + 1024
 row : wr.ownsRow 0 3 1 v4 out.length (ints out)
 bs : BS w (w.heap.size :: v4.ownBlock.toList) wr
 box : ∀ o : Nat, wr.cell? ⟨w.heap.size, o, none⟩ = (#[.int .i64 t, .int .i64 p, .int .i64 s, sl] : Array Value)[o]?
 le : (out.length : Int) ≤ a ∧ (out.length : Int) ≤ p
 res : startsL g p (p.toNat + 1 - out.length) a out = res
 far : ∀ k, v4.ownBlock = some k → w.heap.size < k
def StRelE (w : World) (g : Int → Int) (t p s : Int) (sl : Value) (res : List Int × Bool) (v4 v5 : Value) (wr : World) : Prop := ∃ out a, StRel w g t p s sl res v4 v5 wr out a

set_option maxHeartbeats 2000000 in
set_option maxRecDepth 100000 in
theorem starts_any (c : Nat) (w : World) (h : XV w t p s ad n vs) :
 Calls Tryz.prog 104 #[.agg #[.int .i64 t, .int .i64 p, .int .i64 s, .slice (some ad) n c]] w fun e w' => ∃ v, e = .returned (.tuple #[v, .bool (startsF (fun q => gv vs t q 0) p).2]) ∧ RowP w (startsF (fun q => gv vs t q 0) p).1 v w' := by
 have r0 := row_empty (w.alloc (.cells #[.int .i64 t, .int .i64 p, .int .i64 s, .slice (some ad) n c] 114)) 3 1
 have hS0 := ((BS.start w).alloc (.cells #[.int .i64 t, .int .i64 p, .int .i64 s, .slice (some ad) n c] 114)).alloc (.cells #[] 3)
 have d0 := loc_old (.cells #[] 3) (by simp) (loc_alloc w #[.int .i64 t, .int .i64 p, .int .i64 s, .slice (some ad) n c] 114)
 simp only [World.size_alloc] at hS0 r0
 have bd : 4 ≤ p ∧ p ≤ 64 := by have := h.bd; omega
 have hres0 : startsL (fun q => gv vs t q 0) p (p.toNat + 1) 0 [] = startsF (fun q => gv vs t q 0) p := rfl
 have HX : ∀ q, 0 ≤ q → q < p → ∃ k : Nat, k < n ∧ (∀ w, Calls Tryz.prog 90 #[.agg #[.int .i64 t, .int .i64 p, .int .i64 s], .int .i64 q] w fun e w' => e = .returned (.int .i64 k) ∧ Below w.heap.size w w') ∧ w.cell? (ad.add k) = some (.int .u32 (gv vs t q 0)) ∧ 0 ≤ gv vs t q 0 ∧ gv vs t q 0 < 4294967296 := by
  intro q h0 h1
  obtain ⟨hx1, hx2⟩ := h.cx h0 h1 (part := 0) (by omega) (by omega)
  refine ⟨cix t q 0, hx1, fun w => ?_, h.cells _ hx1, h.gu q 0⟩
  have := rinfo_any t p s q w
  rwa [hx2] at this
 clear h
 obtain ⟨g, hg⟩ : ∃ g : Int → Int, g = fun q => gv vs t q 0 := ⟨_, rfl⟩
 have HG : ∀ q, gv vs t q 0 = g q := fun q => by rw [hg]
 rw [← hg] at hres0 ⊢
 simp only [HG] at HX
 have HXX := Lib.hid HX
 clear HX HG hg
 generalize hRs : startsF g p = rs at *
 obtain ⟨rl, rb⟩ := rs
 obtain ⟨i0, hi0, hi1, hi2, hi3⟩ := info_parts infoInt
 have HI := Lib.hid (And.intro hi0 (And.intro hi1 (And.intro hi2 hi3)))
 clear hi0 hi1 hi2 hi3 hRs
 have HR0 := Lib.hid hres0
 clear hres0
 go_enter Tryz.func104, Tryz.ntmps104
 go_wp2_with fail
 go_loopw [4, 5, 6, 7] (fun v4 v5 _ _ wr => StRelE w g t p s (.slice (some ad) n c) (rl, rb) v4 v5 wr) (fun v4 _ _ _ _ => p.toNat - lenS v4)
 case atStart => exact ⟨[], 0, rfl, by omega, by omega, r0, hS0.sub _ (by simp [Value.ownBlock]), d0, by simp; omega, by simpa using HR0.out, by simp [Value.ownBlock]⟩
 case round =>
  obtain ⟨out, a, hr⟩ := hrel
  obtain ⟨rfl, a0, a1, hrow, hbs, hbox, hle, hrs, hfar⟩ := hr
  have hlen : ∃ a m c, u4 = .slice a m c ∧ m = out.length := by
   rcases hrow.2 with ⟨h5, h6⟩ | ⟨g', cap', cur, h5, -⟩
   ·exact ⟨_, _, _, h5, h6.symm⟩
   ·exact ⟨_, _, _, h5, rfl⟩
  obtain ⟨pa, pm, pc, rfl, rfl⟩ := hlen
  have hlt0 := (hbs.ls w.heap.size (by simp)).1
  have HB := Lib.hid hbs
  have HF := Lib.hid hfar
  have HS := Lib.hid hrs
  have HRow := Lib.hid hrow
  have HBox := Lib.hid hbox
  have b0 := hbox 0
  have b1 := hbox 1
  have b2 := hbox 2
  have b3 := hbox 3
  simp at b0 b1 b2 b3
  clear hS0 r0 d0 HR0 hbs hfar hrs hrow hbox
  by_cases hlt : a < p
  ·obtain ⟨k, hkn, hI, hc0, hg0, hg1⟩ := HXX.out a a0 hlt
   clear HXX
   have hc1 := HB.out.old hc0
   have bd9 := inf_bd (g a)
   have HG9 := Lib.hid (fun w => rget9_any (g a) w hg0 hg1)
   have HI9 := Lib.hid hI
   have hs2 : (if okI (g a) = false ∨ iK (g a) = 0 then ([], false) else startsL g p (p.toNat + 1 - (out ++ [a]).length) (a + iL (g a)) (out ++ [a])) = (rl, rb) := by
    have e0 := HS.out
    have e1 : p.toNat + 1 - out.length = (p.toNat - out.length) + 1 := by omega
    rw [e1] at e0
    have e2 : p.toNat + 1 - (out ++ [a]).length = p.toNat - out.length := by rw [List.length_append, List.length_singleton]; omega
    rw [e2]
    simpa [startsL, hlt] using e0
   clear HS hc0 hI b2 b3
   generalize okI (g a) = ok at *
   generalize iK (g a) = y1 at *
   generalize iL (g a) = y2 at *
   generalize iC (g a) = y3 at *
   generalize g a = v at *
   obtain ⟨k1, k2, k3, k4, k5, k6, k7, k8⟩ := bd9
   cases ok
   ·have hs3 : ([], false) = (rl, rb) := by simpa using hs2
    obtain ⟨rfl, rfl⟩ := Prod.mk.inj hs3
    clear hs2 hs3 k1 k2 k3 k4 k5 k6 k7 k8
    go_wp2_with fail
    refine wp_region_noPanic ?_
    refine wp_region_held_drew (S := fun w' => BS wr ([] : List Nat) w' ∧ (∀ o : Nat, w'.cell? ⟨w.heap.size, o, none⟩ = (#[.int .i64 t, .int .i64 p, .int .i64 s, .slice (some ad) n c] : Array Value)[o]?) ∧ w'.cell? (ad.add k) = some (.int .u32 v)) (by kernel_rfl) ?_ (fun hHeld => ?_)
    ·exact ⟨(BS.start wr).drew, HBox.out, hc1⟩
    refine wpAnyH_take (i := 0) (oi := _) (v := ?_) rfl (by kernel_rfl) (by kernel_rfl) (by kernel_rfl) (fun _ _ _ h => h) (Or.inl ⟨by rfl, ?_⟩) (by assumption) ?_
    rotate_left
    ·intro w hSw; (try dsimp only at hSw); go_simp; try with_reducible rfl
    try simp only [Act.put, zA, zB, zD, zE, zF]
    refine wpAnyH_take (i := 1) (oi := _) (v := ?_) rfl (by kernel_rfl) (by kernel_rfl) (by kernel_rfl) (fun _ _ _ h => h) (Or.inl ⟨by rfl, ?_⟩) (by assumption) ?_
    rotate_left
    ·intro w hSw; (try dsimp only at hSw); go_simp; try with_reducible rfl
    try simp only [Act.put, zA, zB, zC, zD, zE, zF]
    refine wpAnyH_take (i := 2) (oi := _) (v := ?_) rfl (by kernel_rfl) (by kernel_rfl) (by kernel_rfl) (fun _ _ _ h => h) (Or.inl ⟨by rfl, ?_⟩) (by assumption) ?_
    rotate_left
    ·intro w hSw; (try dsimp only at hSw); go_simp; try with_reducible rfl
    try simp only [Act.put, zA, zB, zC, zD, zE, zF]
    refine wpAnyH_take (i := 3) (oi := _) (v := ?_) rfl (by kernel_rfl) (by kernel_rfl) (by kernel_rfl) (fun _ _ _ h => h) (Or.inl ⟨by rfl, ?_⟩) (by assumption) ?_
    rotate_left
    ·intro w hSw; (try dsimp only at hSw); go_simp; try with_reducible rfl
    try simp only [Act.put, zA, zB, zC, zD, zE, zF]
    refine wpAnyH_take (i := 4) (oi := _) (v := ?_) rfl (by kernel_rfl) (by kernel_rfl) (by kernel_rfl) (fun _ _ _ h => h) (Or.inl ⟨by rfl, ?_⟩) (by assumption) ?_
    rotate_left
    ·intro w hSw; (try dsimp only at hSw); go_simp; try with_reducible rfl
    try simp only [Act.put, zA, zB, zC, zD, zE, zF]
    refine wpAnyH_ready (rs := [5, 12]) (by kernel_rfl) (by simp) ?_
    refine AllReadyH.cons (o := _) rfl (fun K hK => ?_) (AllReadyH.cons (o := _) rfl (fun K hK => ?_) AllReadyH.nil)
    ·go_simp
     refine (calls_b hHeld.1 (HI9.out _)).mono ?_
     rintro e wr1 ⟨rfl, hV, hVl⟩
     dsimp only
     refine hK.out _ _ ?_ (fun hHeld2 => ?_)
     ·exact ⟨hV, hV.oldbox HBox.out hlt0, hV.old hc1⟩
     clear hK K hV hVl hHeld
     have hHeld := hHeld2
     clear hHeld2
     try simp only [Act.put, zA, zB, zC, zD, zE, zF]
     refine wpAnyH_take (i := 6) (oi := _) (v := ?_) rfl (by kernel_rfl) (by kernel_rfl) (by kernel_rfl) (fun _ _ _ h => h) (Or.inl ⟨by rfl, ?_⟩) (by assumption) ?_
     rotate_left
     ·intro w hSw; (try dsimp only at hSw); go_simp; try with_reducible rfl
     try simp only [Act.put, zA, zB, zC, zD, zE, zF]
     refine wpAnyH_take (i := 7) (oi := _) (v := ?_) rfl (by kernel_rfl) (by kernel_rfl) (by kernel_rfl) (fun _ _ _ h => h) (Or.inl ⟨by rfl, ?_⟩) (by assumption) ?_
     rotate_left
     ·intro w hSw; (try dsimp only at hSw); go_simp; try with_reducible rfl
     try simp only [Act.put, zA, zB, zC, zD, zE, zF]
     refine wpAnyH_ready (rs := [8, 12]) (by kernel_rfl) (by simp) ?_
     refine AllReadyH.cons (o := _) rfl (fun K hK => ?_) (AllReadyH.cons (o := _) rfl (fun K hK => ?_) AllReadyH.nil)
     ·go_simp
      refine (calls_b hHeld.1 (HG9.out _)).mono ?_
      rintro e wr2 ⟨rfl, hV, hVl⟩
      dsimp only
      refine hK.out _ _ ?_ (fun hHeld2 => ?_)
      ·exact ⟨hV, hV.oldbox HBox.out hlt0, hV.old hc1⟩
      clear hK K hV hVl hHeld
      have hHeld := hHeld2
      clear hHeld2
      try simp only [Act.put, zA, zB, zC, zD, zE, zF]
      refine wpAnyH_take (i := 9) (oi := _) (v := ?_) rfl (by kernel_rfl) (by kernel_rfl) (by kernel_rfl) (fun _ _ _ h => h) (Or.inl ⟨by rfl, ?_⟩) (by assumption) ?_
      rotate_left
      ·intro w hSw; (try dsimp only at hSw); go_simp; try with_reducible rfl
      try simp only [Act.put, zA, zB, zC, zD, zE, zF]
      refine wpAnyH_take (i := 10) (oi := _) (v := ?_) rfl (by kernel_rfl) (by kernel_rfl) (by kernel_rfl) (fun _ _ _ h => h) (Or.inl ⟨by rfl, ?_⟩) (by assumption) ?_
      rotate_left
      ·intro w hSw; (try dsimp only at hSw); go_simp; try with_reducible rfl
      try simp only [Act.put, zA, zB, zC, zD, zE, zF]
      refine wpAnyH_take (i := 11) (oi := _) (v := ?_) rfl (by kernel_rfl) (by kernel_rfl) (by kernel_rfl) (fun _ _ _ h => h) (Or.inl ⟨by rfl, ?_⟩) (by assumption) ?_
      rotate_left
      ·intro w hSw; (try dsimp only at hSw); go_simp; try with_reducible rfl
      try simp only [Act.put, zA, zB, zC, zD, zE, zF]
      refine wpAnyH_ready (rs := [12]) (by kernel_rfl) (by simp) ?_
      refine AllReadyH.cons (o := _) rfl (fun K hK => ?_) AllReadyH.nil
      have hP := hHeld
      have hA := hHeld.1.allocd (#[.int .i64 0, .int .i64 0, .int .i64 0]) 73
      try simp only [World.size_drew] at hA
      try simp only [World.size_alloc] at hA
      go_simp
      refine hK.out _ _ ?_ (fun hHeld2 => ?_)
      ·exact ⟨hA.bs.sub _ (by simp), hA.bs.oldbox HBox.out hlt0, hA.bs.old hc1⟩
      clear hK K hHeld
      have hHeld := hHeld2
      clear hHeld2
      try simp only [Act.put, zA, zB, zC, zD, zE, zF]
      refine wpAnyH_ready (rs := [13]) (by kernel_rfl) (by simp) ?_
      refine AllReadyH.cons (o := _) rfl (fun K hK => ?_) AllReadyH.nil
      go_simp
      have hA2 := (hP.1).allocd (#[.int .i64 y1 , .int .i64 y2 , .int .i64 y3]) 73
      refine hK.out _ _ ?_ (fun hHeld2 => ?_)
      try simp only [World.size_drew] at hA2
      try simp only [World.size_alloc] at hA2
      ·exact ⟨hA2.bs.sub _ (by simp), hA2.bs.oldbox HBox.out hlt0, hA2.bs.old hc1⟩
      clear hA hP
      have hA := hA2
      clear hA2 hHeld
      have hHeld := hHeld2
      clear hHeld2
      clear hK K
      try simp only [Act.put, zA, zB, zC, zD, zE, zF]
      refine wpAnyH_take (i := 14) (oi := _) (v := ?_) rfl (by kernel_rfl) (by kernel_rfl) (by kernel_rfl) (fun _ _ _ h => h) (Or.inl ⟨by rfl, ?_⟩) (by assumption) ?_
      rotate_left
      ·intro w hSw; (try dsimp only at hSw); go_simp; try with_reducible rfl
      try simp only [Act.put, zA, zB, zC, zD, zE, zF]
      refine wpAnyH_done (by kernel_rfl) ?_ _
      refine NoPanic.normal ?_
      refine world_gen ?_
      intro wz hwz
      rw [← hwz] at hHeld hA
      clear hwz
      have rz := hHeld.1.row HRow.out
      have bz0 := hHeld.2.1 0
      have bz1 := hHeld.2.1 1
      simp at bz0 bz1
      have hne := hA.bs.ls
      have hbz := HB.out.below hA.bs.bel
      obtain ⟨⟨q0, q1, q2⟩, f0, f1, f2, z1, z2, bel⟩ := hA.cells3
      clear hHeld hA hne
      go_wp2
      refine bodyPost_ret (v := .tuple #[.slice none 0 0, .bool false]) (by simp [results, Tryz.results104, go_sem, *]) rfl ⟨_, rfl, World.ownsRow_nil _ _ _ _, by simp [Value.ownBlock], hbz.bel⟩
     ·have hP := hHeld
      have hA := hHeld.1.allocd (#[.int .i64 0, .int .i64 0, .int .i64 0]) 73
      try simp only [World.size_drew] at hA
      try simp only [World.size_alloc] at hA
      go_simp
      refine hK.out _ _ ?_ (fun hHeld2 => ?_)
      ·exact ⟨hA.bs.sub _ (by simp), hA.bs.oldbox HBox.out hlt0, hA.bs.old hc1⟩
      clear hK K hHeld
      have hHeld := hHeld2
      clear hHeld2
      try simp only [Act.put, zA, zB, zC, zD, zE, zF]
      refine wpAnyH_ready (rs := [8]) (by kernel_rfl) (by simp) ?_
      refine AllReadyH.cons (o := _) rfl (fun K hK => ?_) AllReadyH.nil
      go_simp
      refine (calls_b hA.bs (HG9.out _)).mono ?_
      rintro e wr3 ⟨rfl, hV, hVl⟩
      have hAn := hA.step hV hVl
      dsimp only
      refine hK.out _ _ ?_ (fun hHeld2 => ?_)
      ·exact ⟨hV.sub _ (by simp), hV.oldbox HBox.out hlt0, hV.old hc1⟩
      clear hK K hV hVl hHeld hA hP
      have hA := hAn
      have hP := trivial
      clear hAn
      have hHeld := hHeld2
      clear hHeld2
      try simp only [Act.put, zA, zB, zC, zD, zE, zF]
      refine wpAnyH_take (i := 9) (oi := _) (v := ?_) rfl (by kernel_rfl) (by kernel_rfl) (by kernel_rfl) (fun _ _ _ h => h) (Or.inl ⟨by rfl, ?_⟩) (by assumption) ?_
      rotate_left
      ·intro w hSw; (try dsimp only at hSw); go_simp; try with_reducible rfl
      try simp only [Act.put, zA, zB, zC, zD, zE, zF]
      refine wpAnyH_take (i := 10) (oi := _) (v := ?_) rfl (by kernel_rfl) (by kernel_rfl) (by kernel_rfl) (fun _ _ _ h => h) (Or.inl ⟨by rfl, ?_⟩) (by assumption) ?_
      rotate_left
      ·intro w hSw; (try dsimp only at hSw); go_simp; try with_reducible rfl
      try simp only [Act.put, zA, zB, zC, zD, zE, zF]
      refine wpAnyH_take (i := 11) (oi := _) (v := ?_) rfl (by kernel_rfl) (by kernel_rfl) (by kernel_rfl) (fun _ _ _ h => h) (Or.inl ⟨by rfl, ?_⟩) (by assumption) ?_
      rotate_left
      ·intro w hSw; (try dsimp only at hSw); go_simp; try with_reducible rfl
      try simp only [Act.put, zA, zB, zC, zD, zE, zF]
      refine wpAnyH_ready (rs := [13]) (by kernel_rfl) (by simp) ?_
      refine AllReadyH.cons (o := _) rfl (fun K hK => ?_) AllReadyH.nil
      have kc0 := (cell?_of_heap (o := 0) hA.box)
      have kc1 := (cell?_of_heap (o := 1) hA.box)
      have kc2 := (cell?_of_heap (o := 2) hA.box)
      simp at kc0 kc1 kc2
      have kf0 := frozen?_of_heap (o := 0) hA.box
      have kf1 := frozen?_of_heap (o := 1) hA.box
      have kf2 := frozen?_of_heap (o := 2) hA.box
      go_simp
      refine hK.out _ _ ?_ (fun hHeld2 => ?_)
      ·exact ⟨(((hA.set 0 _).set 1 _).set 2 _).bs.sub _ (by simp), (((hA.set 0 _).set 1 _).set 2 _).bs.oldbox HBox.out hlt0, (((hA.set 0 _).set 1 _).set 2 _).bs.old hc1⟩
      have hA2 : BA wr ([] : List Nat) _ (#[.int .i64 y1 , .int .i64 y2 , .int .i64 y3]) 73 _ := (((hA.set 0 (.int .i64 y1)).set 1 (.int .i64 y2)).set 2 (.int .i64 y3))
      clear kc0 kf0 kc1 kf1 kc2 kf2 hA hP
      have hA := hA2
      clear hA2 hHeld
      have hHeld := hHeld2
      clear hHeld2
      clear hK K
      try simp only [Act.put, zA, zB, zC, zD, zE, zF]
      refine wpAnyH_take (i := 14) (oi := _) (v := ?_) rfl (by kernel_rfl) (by kernel_rfl) (by kernel_rfl) (fun _ _ _ h => h) (Or.inl ⟨by rfl, ?_⟩) (by assumption) ?_
      rotate_left
      ·intro w hSw; (try dsimp only at hSw); go_simp; try with_reducible rfl
      try simp only [Act.put, zA, zB, zC, zD, zE, zF]
      refine wpAnyH_done (by kernel_rfl) ?_ _
      refine NoPanic.normal ?_
      refine world_gen ?_
      intro wz hwz
      rw [← hwz] at hHeld hA
      clear hwz
      have rz := hHeld.1.row HRow.out
      have bz0 := hHeld.2.1 0
      have bz1 := hHeld.2.1 1
      simp at bz0 bz1
      have hne := hA.bs.ls
      have hbz := HB.out.below hA.bs.bel
      obtain ⟨⟨q0, q1, q2⟩, f0, f1, f2, z1, z2, bel⟩ := hA.cells3
      clear hHeld hA hne
      go_wp2
      refine bodyPost_ret (v := .tuple #[.slice none 0 0, .bool false]) (by simp [results, Tryz.results104, go_sem, *]) rfl ⟨_, rfl, World.ownsRow_nil _ _ _ _, by simp [Value.ownBlock], hbz.bel⟩
    ·have hP := hHeld
     have hA := hHeld.1.allocd (#[.int .i64 0, .int .i64 0, .int .i64 0]) 73
     try simp only [World.size_drew] at hA
     try simp only [World.size_alloc] at hA
     go_simp
     refine hK.out _ _ ?_ (fun hHeld2 => ?_)
     ·exact ⟨hA.bs.sub _ (by simp), hA.bs.oldbox HBox.out hlt0, hA.bs.old hc1⟩
     clear hK K hHeld
     have hHeld := hHeld2
     clear hHeld2
     try simp only [Act.put, zA, zB, zC, zD, zE, zF]
     refine wpAnyH_ready (rs := [5]) (by kernel_rfl) (by simp) ?_
     refine AllReadyH.cons (o := _) rfl (fun K hK => ?_) AllReadyH.nil
     go_simp
     refine (calls_b hA.bs (HI9.out _)).mono ?_
     rintro e wr4 ⟨rfl, hV, hVl⟩
     have hAn := hA.step hV hVl
     dsimp only
     refine hK.out _ _ ?_ (fun hHeld2 => ?_)
     ·exact ⟨hV.sub _ (by simp), hV.oldbox HBox.out hlt0, hV.old hc1⟩
     clear hK K hV hVl hHeld hA hP
     have hA := hAn
     have hP := trivial
     clear hAn
     have hHeld := hHeld2
     clear hHeld2
     try simp only [Act.put, zA, zB, zC, zD, zE, zF]
     refine wpAnyH_take (i := 6) (oi := _) (v := ?_) rfl (by kernel_rfl) (by kernel_rfl) (by kernel_rfl) (fun _ _ _ h => h) (Or.inl ⟨by rfl, ?_⟩) (by assumption) ?_
     rotate_left
     ·intro w hSw; (try dsimp only at hSw); go_simp; try with_reducible rfl
     try simp only [Act.put, zA, zB, zC, zD, zE, zF]
     refine wpAnyH_take (i := 7) (oi := _) (v := ?_) rfl (by kernel_rfl) (by kernel_rfl) (by kernel_rfl) (fun _ _ _ h => h) (Or.inl ⟨by rfl, ?_⟩) (by assumption) ?_
     rotate_left
     ·intro w hSw; (try dsimp only at hSw); go_simp; try with_reducible rfl
     try simp only [Act.put, zA, zB, zC, zD, zE, zF]
     refine wpAnyH_ready (rs := [8]) (by kernel_rfl) (by simp) ?_
     refine AllReadyH.cons (o := _) rfl (fun K hK => ?_) AllReadyH.nil
     go_simp
     refine (calls_b hA.bs (HG9.out _)).mono ?_
     rintro e wr5 ⟨rfl, hV, hVl⟩
     have hAn := hA.step hV hVl
     dsimp only
     refine hK.out _ _ ?_ (fun hHeld2 => ?_)
     ·exact ⟨hV.sub _ (by simp), hV.oldbox HBox.out hlt0, hV.old hc1⟩
     clear hK K hV hVl hHeld hA hP
     have hA := hAn
     have hP := trivial
     clear hAn
     have hHeld := hHeld2
     clear hHeld2
     try simp only [Act.put, zA, zB, zC, zD, zE, zF]
     refine wpAnyH_take (i := 9) (oi := _) (v := ?_) rfl (by kernel_rfl) (by kernel_rfl) (by kernel_rfl) (fun _ _ _ h => h) (Or.inl ⟨by rfl, ?_⟩) (by assumption) ?_
     rotate_left
     ·intro w hSw; (try dsimp only at hSw); go_simp; try with_reducible rfl
     try simp only [Act.put, zA, zB, zC, zD, zE, zF]
     refine wpAnyH_take (i := 10) (oi := _) (v := ?_) rfl (by kernel_rfl) (by kernel_rfl) (by kernel_rfl) (fun _ _ _ h => h) (Or.inl ⟨by rfl, ?_⟩) (by assumption) ?_
     rotate_left
     ·intro w hSw; (try dsimp only at hSw); go_simp; try with_reducible rfl
     try simp only [Act.put, zA, zB, zC, zD, zE, zF]
     refine wpAnyH_take (i := 11) (oi := _) (v := ?_) rfl (by kernel_rfl) (by kernel_rfl) (by kernel_rfl) (fun _ _ _ h => h) (Or.inl ⟨by rfl, ?_⟩) (by assumption) ?_
     rotate_left
     ·intro w hSw; (try dsimp only at hSw); go_simp; try with_reducible rfl
     try simp only [Act.put, zA, zB, zC, zD, zE, zF]
     refine wpAnyH_ready (rs := [13]) (by kernel_rfl) (by simp) ?_
     refine AllReadyH.cons (o := _) rfl (fun K hK => ?_) AllReadyH.nil
     have kc0 := (cell?_of_heap (o := 0) hA.box)
     have kc1 := (cell?_of_heap (o := 1) hA.box)
     have kc2 := (cell?_of_heap (o := 2) hA.box)
     simp at kc0 kc1 kc2
     have kf0 := frozen?_of_heap (o := 0) hA.box
     have kf1 := frozen?_of_heap (o := 1) hA.box
     have kf2 := frozen?_of_heap (o := 2) hA.box
     go_simp
     refine hK.out _ _ ?_ (fun hHeld2 => ?_)
     ·exact ⟨(((hA.set 0 _).set 1 _).set 2 _).bs.sub _ (by simp), (((hA.set 0 _).set 1 _).set 2 _).bs.oldbox HBox.out hlt0, (((hA.set 0 _).set 1 _).set 2 _).bs.old hc1⟩
     have hA2 : BA wr ([] : List Nat) _ (#[.int .i64 y1 , .int .i64 y2 , .int .i64 y3]) 73 _ := (((hA.set 0 (.int .i64 y1)).set 1 (.int .i64 y2)).set 2 (.int .i64 y3))
     clear kc0 kf0 kc1 kf1 kc2 kf2 hA hP
     have hA := hA2
     clear hA2 hHeld
     have hHeld := hHeld2
     clear hHeld2
     clear hK K
     try simp only [Act.put, zA, zB, zC, zD, zE, zF]
     refine wpAnyH_take (i := 14) (oi := _) (v := ?_) rfl (by kernel_rfl) (by kernel_rfl) (by kernel_rfl) (fun _ _ _ h => h) (Or.inl ⟨by rfl, ?_⟩) (by assumption) ?_
     rotate_left
     ·intro w hSw; (try dsimp only at hSw); go_simp; try with_reducible rfl
     try simp only [Act.put, zA, zB, zC, zD, zE, zF]
     refine wpAnyH_done (by kernel_rfl) ?_ _
     refine NoPanic.normal ?_
     refine world_gen ?_
     intro wz hwz
     rw [← hwz] at hHeld hA
     clear hwz
     have rz := hHeld.1.row HRow.out
     have bz0 := hHeld.2.1 0
     have bz1 := hHeld.2.1 1
     simp at bz0 bz1
     have hne := hA.bs.ls
     have hbz := HB.out.below hA.bs.bel
     obtain ⟨⟨q0, q1, q2⟩, f0, f1, f2, z1, z2, bel⟩ := hA.cells3
     clear hHeld hA hne
     go_wp2
     refine bodyPost_ret (v := .tuple #[.slice none 0 0, .bool false]) (by simp [results, Tryz.results104, go_sem, *]) rfl ⟨_, rfl, World.ownsRow_nil _ _ _ _, by simp [Value.ownBlock], hbz.bel⟩
   ·by_cases hk0 : y1 = 0
    ·have hs3 : ([], false) = (rl, rb) := by simpa [hk0] using hs2
     obtain ⟨rfl, rfl⟩ := Prod.mk.inj hs3
     have hk0b : (y1 == 0) = true := by simp [hk0]
     clear hs2 hs3 k1 k2 k3 k4 k5 k6 k7 k8 hk0
     go_wp2_with fail
     refine wp_region_noPanic ?_
     refine wp_region_held_drew (S := fun w' => BS wr ([] : List Nat) w' ∧ (∀ o : Nat, w'.cell? ⟨w.heap.size, o, none⟩ = (#[.int .i64 t, .int .i64 p, .int .i64 s, .slice (some ad) n c] : Array Value)[o]?) ∧ w'.cell? (ad.add k) = some (.int .u32 v)) (by kernel_rfl) ?_ (fun hHeld => ?_)
     ·exact ⟨(BS.start wr).drew, HBox.out, hc1⟩
     refine wpAnyH_take (i := 0) (oi := _) (v := ?_) rfl (by kernel_rfl) (by kernel_rfl) (by kernel_rfl) (fun _ _ _ h => h) (Or.inl ⟨by rfl, ?_⟩) (by assumption) ?_
     rotate_left
     ·intro w hSw; (try dsimp only at hSw); go_simp; try with_reducible rfl
     try simp only [Act.put, zA, zB, zD, zE, zF]
     refine wpAnyH_take (i := 1) (oi := _) (v := ?_) rfl (by kernel_rfl) (by kernel_rfl) (by kernel_rfl) (fun _ _ _ h => h) (Or.inl ⟨by rfl, ?_⟩) (by assumption) ?_
     rotate_left
     ·intro w hSw; (try dsimp only at hSw); go_simp; try with_reducible rfl
     try simp only [Act.put, zA, zB, zC, zD, zE, zF]
     refine wpAnyH_take (i := 2) (oi := _) (v := ?_) rfl (by kernel_rfl) (by kernel_rfl) (by kernel_rfl) (fun _ _ _ h => h) (Or.inl ⟨by rfl, ?_⟩) (by assumption) ?_
     rotate_left
     ·intro w hSw; (try dsimp only at hSw); go_simp; try with_reducible rfl
     try simp only [Act.put, zA, zB, zC, zD, zE, zF]
     refine wpAnyH_take (i := 3) (oi := _) (v := ?_) rfl (by kernel_rfl) (by kernel_rfl) (by kernel_rfl) (fun _ _ _ h => h) (Or.inl ⟨by rfl, ?_⟩) (by assumption) ?_
     rotate_left
     ·intro w hSw; (try dsimp only at hSw); go_simp; try with_reducible rfl
     try simp only [Act.put, zA, zB, zC, zD, zE, zF]
     refine wpAnyH_take (i := 4) (oi := _) (v := ?_) rfl (by kernel_rfl) (by kernel_rfl) (by kernel_rfl) (fun _ _ _ h => h) (Or.inl ⟨by rfl, ?_⟩) (by assumption) ?_
     rotate_left
     ·intro w hSw; (try dsimp only at hSw); go_simp; try with_reducible rfl
     try simp only [Act.put, zA, zB, zC, zD, zE, zF]
     refine wpAnyH_ready (rs := [5, 12]) (by kernel_rfl) (by simp) ?_
     refine AllReadyH.cons (o := _) rfl (fun K hK => ?_) (AllReadyH.cons (o := _) rfl (fun K hK => ?_) AllReadyH.nil)
     ·go_simp
      refine (calls_b hHeld.1 (HI9.out _)).mono ?_
      rintro e wr1 ⟨rfl, hV, hVl⟩
      dsimp only
      refine hK.out _ _ ?_ (fun hHeld2 => ?_)
      ·exact ⟨hV, hV.oldbox HBox.out hlt0, hV.old hc1⟩
      clear hK K hV hVl hHeld
      have hHeld := hHeld2
      clear hHeld2
      try simp only [Act.put, zA, zB, zC, zD, zE, zF]
      refine wpAnyH_take (i := 6) (oi := _) (v := ?_) rfl (by kernel_rfl) (by kernel_rfl) (by kernel_rfl) (fun _ _ _ h => h) (Or.inl ⟨by rfl, ?_⟩) (by assumption) ?_
      rotate_left
      ·intro w hSw; (try dsimp only at hSw); go_simp; try with_reducible rfl
      try simp only [Act.put, zA, zB, zC, zD, zE, zF]
      refine wpAnyH_take (i := 7) (oi := _) (v := ?_) rfl (by kernel_rfl) (by kernel_rfl) (by kernel_rfl) (fun _ _ _ h => h) (Or.inl ⟨by rfl, ?_⟩) (by assumption) ?_
      rotate_left
      ·intro w hSw; (try dsimp only at hSw); go_simp; try with_reducible rfl
      try simp only [Act.put, zA, zB, zC, zD, zE, zF]
      refine wpAnyH_ready (rs := [8, 12]) (by kernel_rfl) (by simp) ?_
      refine AllReadyH.cons (o := _) rfl (fun K hK => ?_) (AllReadyH.cons (o := _) rfl (fun K hK => ?_) AllReadyH.nil)
      ·go_simp
       refine (calls_b hHeld.1 (HG9.out _)).mono ?_
       rintro e wr2 ⟨rfl, hV, hVl⟩
       dsimp only
       refine hK.out _ _ ?_ (fun hHeld2 => ?_)
       ·exact ⟨hV, hV.oldbox HBox.out hlt0, hV.old hc1⟩
       clear hK K hV hVl hHeld
       have hHeld := hHeld2
       clear hHeld2
       try simp only [Act.put, zA, zB, zC, zD, zE, zF]
       refine wpAnyH_take (i := 9) (oi := _) (v := ?_) rfl (by kernel_rfl) (by kernel_rfl) (by kernel_rfl) (fun _ _ _ h => h) (Or.inl ⟨by rfl, ?_⟩) (by assumption) ?_
       rotate_left
       ·intro w hSw; (try dsimp only at hSw); go_simp; try with_reducible rfl
       try simp only [Act.put, zA, zB, zC, zD, zE, zF]
       refine wpAnyH_take (i := 10) (oi := _) (v := ?_) rfl (by kernel_rfl) (by kernel_rfl) (by kernel_rfl) (fun _ _ _ h => h) (Or.inl ⟨by rfl, ?_⟩) (by assumption) ?_
       rotate_left
       ·intro w hSw; (try dsimp only at hSw); go_simp; try with_reducible rfl
       try simp only [Act.put, zA, zB, zC, zD, zE, zF]
       refine wpAnyH_take (i := 11) (oi := _) (v := ?_) rfl (by kernel_rfl) (by kernel_rfl) (by kernel_rfl) (fun _ _ _ h => h) (Or.inl ⟨by rfl, ?_⟩) (by assumption) ?_
       rotate_left
       ·intro w hSw; (try dsimp only at hSw); go_simp; try with_reducible rfl
       try simp only [Act.put, zA, zB, zC, zD, zE, zF]
       refine wpAnyH_ready (rs := [12]) (by kernel_rfl) (by simp) ?_
       refine AllReadyH.cons (o := _) rfl (fun K hK => ?_) AllReadyH.nil
       have hP := hHeld
       have hA := hHeld.1.allocd (#[.int .i64 0, .int .i64 0, .int .i64 0]) 73
       try simp only [World.size_drew] at hA
       try simp only [World.size_alloc] at hA
       go_simp
       refine hK.out _ _ ?_ (fun hHeld2 => ?_)
       ·exact ⟨hA.bs.sub _ (by simp), hA.bs.oldbox HBox.out hlt0, hA.bs.old hc1⟩
       clear hK K hHeld
       have hHeld := hHeld2
       clear hHeld2
       try simp only [Act.put, zA, zB, zC, zD, zE, zF]
       refine wpAnyH_ready (rs := [13]) (by kernel_rfl) (by simp) ?_
       refine AllReadyH.cons (o := _) rfl (fun K hK => ?_) AllReadyH.nil
       go_simp
       have hA2 := (hP.1).allocd (#[.int .i64 y1 , .int .i64 y2 , .int .i64 y3]) 73
       refine hK.out _ _ ?_ (fun hHeld2 => ?_)
       try simp only [World.size_drew] at hA2
       try simp only [World.size_alloc] at hA2
       ·exact ⟨hA2.bs.sub _ (by simp), hA2.bs.oldbox HBox.out hlt0, hA2.bs.old hc1⟩
       clear hA hP
       have hA := hA2
       clear hA2 hHeld
       have hHeld := hHeld2
       clear hHeld2
       clear hK K
       try simp only [Act.put, zA, zB, zC, zD, zE, zF]
       refine wpAnyH_take (i := 14) (oi := _) (v := ?_) rfl (by kernel_rfl) (by kernel_rfl) (by kernel_rfl) (fun _ _ _ h => h) (Or.inl ⟨by rfl, ?_⟩) (by assumption) ?_
       rotate_left
       ·intro w hSw; (try dsimp only at hSw); go_simp; try with_reducible rfl
       try simp only [Act.put, zA, zB, zC, zD, zE, zF]
       refine wpAnyH_done (by kernel_rfl) ?_ _
       refine NoPanic.normal ?_
       refine world_gen ?_
       intro wz hwz
       rw [← hwz] at hHeld hA
       clear hwz
       have rz := hHeld.1.row HRow.out
       have bz0 := hHeld.2.1 0
       have bz1 := hHeld.2.1 1
       simp at bz0 bz1
       have hne := hA.bs.ls
       have hbz := HB.out.below hA.bs.bel
       obtain ⟨⟨q0, q1, q2⟩, f0, f1, f2, z1, z2, bel⟩ := hA.cells3
       clear hHeld hA hne
       go_wp2
       refine bodyPost_ret (v := .tuple #[.slice none 0 0, .bool false]) (by simp [results, Tryz.results104, go_sem, *]) rfl ⟨_, rfl, World.ownsRow_nil _ _ _ _, by simp [Value.ownBlock], hbz.bel⟩
      ·have hP := hHeld
       have hA := hHeld.1.allocd (#[.int .i64 0, .int .i64 0, .int .i64 0]) 73
       try simp only [World.size_drew] at hA
       try simp only [World.size_alloc] at hA
       go_simp
       refine hK.out _ _ ?_ (fun hHeld2 => ?_)
       ·exact ⟨hA.bs.sub _ (by simp), hA.bs.oldbox HBox.out hlt0, hA.bs.old hc1⟩
       clear hK K hHeld
       have hHeld := hHeld2
       clear hHeld2
       try simp only [Act.put, zA, zB, zC, zD, zE, zF]
       refine wpAnyH_ready (rs := [8]) (by kernel_rfl) (by simp) ?_
       refine AllReadyH.cons (o := _) rfl (fun K hK => ?_) AllReadyH.nil
       go_simp
       refine (calls_b hA.bs (HG9.out _)).mono ?_
       rintro e wr3 ⟨rfl, hV, hVl⟩
       have hAn := hA.step hV hVl
       dsimp only
       refine hK.out _ _ ?_ (fun hHeld2 => ?_)
       ·exact ⟨hV.sub _ (by simp), hV.oldbox HBox.out hlt0, hV.old hc1⟩
       clear hK K hV hVl hHeld hA hP
       have hA := hAn
       have hP := trivial
       clear hAn
       have hHeld := hHeld2
       clear hHeld2
       try simp only [Act.put, zA, zB, zC, zD, zE, zF]
       refine wpAnyH_take (i := 9) (oi := _) (v := ?_) rfl (by kernel_rfl) (by kernel_rfl) (by kernel_rfl) (fun _ _ _ h => h) (Or.inl ⟨by rfl, ?_⟩) (by assumption) ?_
       rotate_left
       ·intro w hSw; (try dsimp only at hSw); go_simp; try with_reducible rfl
       try simp only [Act.put, zA, zB, zC, zD, zE, zF]
       refine wpAnyH_take (i := 10) (oi := _) (v := ?_) rfl (by kernel_rfl) (by kernel_rfl) (by kernel_rfl) (fun _ _ _ h => h) (Or.inl ⟨by rfl, ?_⟩) (by assumption) ?_
       rotate_left
       ·intro w hSw; (try dsimp only at hSw); go_simp; try with_reducible rfl
       try simp only [Act.put, zA, zB, zC, zD, zE, zF]
       refine wpAnyH_take (i := 11) (oi := _) (v := ?_) rfl (by kernel_rfl) (by kernel_rfl) (by kernel_rfl) (fun _ _ _ h => h) (Or.inl ⟨by rfl, ?_⟩) (by assumption) ?_
       rotate_left
       ·intro w hSw; (try dsimp only at hSw); go_simp; try with_reducible rfl
       try simp only [Act.put, zA, zB, zC, zD, zE, zF]
       refine wpAnyH_ready (rs := [13]) (by kernel_rfl) (by simp) ?_
       refine AllReadyH.cons (o := _) rfl (fun K hK => ?_) AllReadyH.nil
       have kc0 := (cell?_of_heap (o := 0) hA.box)
       have kc1 := (cell?_of_heap (o := 1) hA.box)
       have kc2 := (cell?_of_heap (o := 2) hA.box)
       simp at kc0 kc1 kc2
       have kf0 := frozen?_of_heap (o := 0) hA.box
       have kf1 := frozen?_of_heap (o := 1) hA.box
       have kf2 := frozen?_of_heap (o := 2) hA.box
       go_simp
       refine hK.out _ _ ?_ (fun hHeld2 => ?_)
       ·exact ⟨(((hA.set 0 _).set 1 _).set 2 _).bs.sub _ (by simp), (((hA.set 0 _).set 1 _).set 2 _).bs.oldbox HBox.out hlt0, (((hA.set 0 _).set 1 _).set 2 _).bs.old hc1⟩
       have hA2 : BA wr ([] : List Nat) _ (#[.int .i64 y1 , .int .i64 y2 , .int .i64 y3]) 73 _ := (((hA.set 0 (.int .i64 y1)).set 1 (.int .i64 y2)).set 2 (.int .i64 y3))
       clear kc0 kf0 kc1 kf1 kc2 kf2 hA hP
       have hA := hA2
       clear hA2 hHeld
       have hHeld := hHeld2
       clear hHeld2
       clear hK K
       try simp only [Act.put, zA, zB, zC, zD, zE, zF]
       refine wpAnyH_take (i := 14) (oi := _) (v := ?_) rfl (by kernel_rfl) (by kernel_rfl) (by kernel_rfl) (fun _ _ _ h => h) (Or.inl ⟨by rfl, ?_⟩) (by assumption) ?_
       rotate_left
       ·intro w hSw; (try dsimp only at hSw); go_simp; try with_reducible rfl
       try simp only [Act.put, zA, zB, zC, zD, zE, zF]
       refine wpAnyH_done (by kernel_rfl) ?_ _
       refine NoPanic.normal ?_
       refine world_gen ?_
       intro wz hwz
       rw [← hwz] at hHeld hA
       clear hwz
       have rz := hHeld.1.row HRow.out
       have bz0 := hHeld.2.1 0
       have bz1 := hHeld.2.1 1
       simp at bz0 bz1
       have hne := hA.bs.ls
       have hbz := HB.out.below hA.bs.bel
       obtain ⟨⟨q0, q1, q2⟩, f0, f1, f2, z1, z2, bel⟩ := hA.cells3
       clear hHeld hA hne
       go_wp2
       refine bodyPost_ret (v := .tuple #[.slice none 0 0, .bool false]) (by simp [results, Tryz.results104, go_sem, *]) rfl ⟨_, rfl, World.ownsRow_nil _ _ _ _, by simp [Value.ownBlock], hbz.bel⟩
     ·have hP := hHeld
      have hA := hHeld.1.allocd (#[.int .i64 0, .int .i64 0, .int .i64 0]) 73
      try simp only [World.size_drew] at hA
      try simp only [World.size_alloc] at hA
      go_simp
      refine hK.out _ _ ?_ (fun hHeld2 => ?_)
      ·exact ⟨hA.bs.sub _ (by simp), hA.bs.oldbox HBox.out hlt0, hA.bs.old hc1⟩
      clear hK K hHeld
      have hHeld := hHeld2
      clear hHeld2
      try simp only [Act.put, zA, zB, zC, zD, zE, zF]
      refine wpAnyH_ready (rs := [5]) (by kernel_rfl) (by simp) ?_
      refine AllReadyH.cons (o := _) rfl (fun K hK => ?_) AllReadyH.nil
      go_simp
      refine (calls_b hA.bs (HI9.out _)).mono ?_
      rintro e wr4 ⟨rfl, hV, hVl⟩
      have hAn := hA.step hV hVl
      dsimp only
      refine hK.out _ _ ?_ (fun hHeld2 => ?_)
      ·exact ⟨hV.sub _ (by simp), hV.oldbox HBox.out hlt0, hV.old hc1⟩
      clear hK K hV hVl hHeld hA hP
      have hA := hAn
      have hP := trivial
      clear hAn
      have hHeld := hHeld2
      clear hHeld2
      try simp only [Act.put, zA, zB, zC, zD, zE, zF]
      refine wpAnyH_take (i := 6) (oi := _) (v := ?_) rfl (by kernel_rfl) (by kernel_rfl) (by kernel_rfl) (fun _ _ _ h => h) (Or.inl ⟨by rfl, ?_⟩) (by assumption) ?_
      rotate_left
      ·intro w hSw; (try dsimp only at hSw); go_simp; try with_reducible rfl
      try simp only [Act.put, zA, zB, zC, zD, zE, zF]
      refine wpAnyH_take (i := 7) (oi := _) (v := ?_) rfl (by kernel_rfl) (by kernel_rfl) (by kernel_rfl) (fun _ _ _ h => h) (Or.inl ⟨by rfl, ?_⟩) (by assumption) ?_
      rotate_left
      ·intro w hSw; (try dsimp only at hSw); go_simp; try with_reducible rfl
      try simp only [Act.put, zA, zB, zC, zD, zE, zF]
      refine wpAnyH_ready (rs := [8]) (by kernel_rfl) (by simp) ?_
      refine AllReadyH.cons (o := _) rfl (fun K hK => ?_) AllReadyH.nil
      go_simp
      refine (calls_b hA.bs (HG9.out _)).mono ?_
      rintro e wr5 ⟨rfl, hV, hVl⟩
      have hAn := hA.step hV hVl
      dsimp only
      refine hK.out _ _ ?_ (fun hHeld2 => ?_)
      ·exact ⟨hV.sub _ (by simp), hV.oldbox HBox.out hlt0, hV.old hc1⟩
      clear hK K hV hVl hHeld hA hP
      have hA := hAn
      have hP := trivial
      clear hAn
      have hHeld := hHeld2
      clear hHeld2
      try simp only [Act.put, zA, zB, zC, zD, zE, zF]
      refine wpAnyH_take (i := 9) (oi := _) (v := ?_) rfl (by kernel_rfl) (by kernel_rfl) (by kernel_rfl) (fun _ _ _ h => h) (Or.inl ⟨by rfl, ?_⟩) (by assumption) ?_
      rotate_left
      ·intro w hSw; (try dsimp only at hSw); go_simp; try with_reducible rfl
      try simp only [Act.put, zA, zB, zC, zD, zE, zF]
      refine wpAnyH_take (i := 10) (oi := _) (v := ?_) rfl (by kernel_rfl) (by kernel_rfl) (by kernel_rfl) (fun _ _ _ h => h) (Or.inl ⟨by rfl, ?_⟩) (by assumption) ?_
      rotate_left
      ·intro w hSw; (try dsimp only at hSw); go_simp; try with_reducible rfl
      try simp only [Act.put, zA, zB, zC, zD, zE, zF]
      refine wpAnyH_take (i := 11) (oi := _) (v := ?_) rfl (by kernel_rfl) (by kernel_rfl) (by kernel_rfl) (fun _ _ _ h => h) (Or.inl ⟨by rfl, ?_⟩) (by assumption) ?_
      rotate_left
      ·intro w hSw; (try dsimp only at hSw); go_simp; try with_reducible rfl
      try simp only [Act.put, zA, zB, zC, zD, zE, zF]
      refine wpAnyH_ready (rs := [13]) (by kernel_rfl) (by simp) ?_
      refine AllReadyH.cons (o := _) rfl (fun K hK => ?_) AllReadyH.nil
      have kc0 := (cell?_of_heap (o := 0) hA.box)
      have kc1 := (cell?_of_heap (o := 1) hA.box)
      have kc2 := (cell?_of_heap (o := 2) hA.box)
      simp at kc0 kc1 kc2
      have kf0 := frozen?_of_heap (o := 0) hA.box
      have kf1 := frozen?_of_heap (o := 1) hA.box
      have kf2 := frozen?_of_heap (o := 2) hA.box
      go_simp
      refine hK.out _ _ ?_ (fun hHeld2 => ?_)
      ·exact ⟨(((hA.set 0 _).set 1 _).set 2 _).bs.sub _ (by simp), (((hA.set 0 _).set 1 _).set 2 _).bs.oldbox HBox.out hlt0, (((hA.set 0 _).set 1 _).set 2 _).bs.old hc1⟩
      have hA2 : BA wr ([] : List Nat) _ (#[.int .i64 y1 , .int .i64 y2 , .int .i64 y3]) 73 _ := (((hA.set 0 (.int .i64 y1)).set 1 (.int .i64 y2)).set 2 (.int .i64 y3))
      clear kc0 kf0 kc1 kf1 kc2 kf2 hA hP
      have hA := hA2
      clear hA2 hHeld
      have hHeld := hHeld2
      clear hHeld2
      clear hK K
      try simp only [Act.put, zA, zB, zC, zD, zE, zF]
      refine wpAnyH_take (i := 14) (oi := _) (v := ?_) rfl (by kernel_rfl) (by kernel_rfl) (by kernel_rfl) (fun _ _ _ h => h) (Or.inl ⟨by rfl, ?_⟩) (by assumption) ?_
      rotate_left
      ·intro w hSw; (try dsimp only at hSw); go_simp; try with_reducible rfl
      try simp only [Act.put, zA, zB, zC, zD, zE, zF]
      refine wpAnyH_done (by kernel_rfl) ?_ _
      refine NoPanic.normal ?_
      refine world_gen ?_
      intro wz hwz
      rw [← hwz] at hHeld hA
      clear hwz
      have rz := hHeld.1.row HRow.out
      have bz0 := hHeld.2.1 0
      have bz1 := hHeld.2.1 1
      simp at bz0 bz1
      have hne := hA.bs.ls
      have hbz := HB.out.below hA.bs.bel
      obtain ⟨⟨q0, q1, q2⟩, f0, f1, f2, z1, z2, bel⟩ := hA.cells3
      clear hHeld hA hne
      go_wp2
      refine bodyPost_ret (v := .tuple #[.slice none 0 0, .bool false]) (by simp [results, Tryz.results104, go_sem, *]) rfl ⟨_, rfl, World.ownsRow_nil _ _ _ _, by simp [Value.ownBlock], hbz.bel⟩
    ·have hs3 : startsL g p (p.toNat + 1 - (out ++ [a]).length) (a + y2) (out ++ [a]) = (rl, rb) := by simpa [hk0] using hs2
     have hk0b : (y1 == 0) = false := by simp [hk0]
     have hl1 := (k7 hk0).2
     have HN := Lib.hid hs3
     have HFF := Lib.hid hle
     clear hs2 hs3 hle k1 k2 k5 k6 k7 k8 hk0
     go_wp2_with fail
     refine wp_region_noPanic ?_
     refine wp_region_held_drew (S := fun w' => BS wr ([] : List Nat) w' ∧ (∀ o : Nat, w'.cell? ⟨w.heap.size, o, none⟩ = (#[.int .i64 t, .int .i64 p, .int .i64 s, .slice (some ad) n c] : Array Value)[o]?) ∧ w'.cell? (ad.add k) = some (.int .u32 v)) (by kernel_rfl) ?_ (fun hHeld => ?_)
     ·exact ⟨(BS.start wr).drew, HBox.out, hc1⟩
     refine wpAnyH_take (i := 0) (oi := _) (v := ?_) rfl (by kernel_rfl) (by kernel_rfl) (by kernel_rfl) (fun _ _ _ h => h) (Or.inl ⟨by rfl, ?_⟩) (by assumption) ?_
     rotate_left
     ·intro w hSw; (try dsimp only at hSw); go_simp; try with_reducible rfl
     try simp only [Act.put, zA, zB, zD, zE, zF]
     refine wpAnyH_take (i := 1) (oi := _) (v := ?_) rfl (by kernel_rfl) (by kernel_rfl) (by kernel_rfl) (fun _ _ _ h => h) (Or.inl ⟨by rfl, ?_⟩) (by assumption) ?_
     rotate_left
     ·intro w hSw; (try dsimp only at hSw); go_simp; try with_reducible rfl
     try simp only [Act.put, zA, zB, zC, zD, zE, zF]
     refine wpAnyH_take (i := 2) (oi := _) (v := ?_) rfl (by kernel_rfl) (by kernel_rfl) (by kernel_rfl) (fun _ _ _ h => h) (Or.inl ⟨by rfl, ?_⟩) (by assumption) ?_
     rotate_left
     ·intro w hSw; (try dsimp only at hSw); go_simp; try with_reducible rfl
     try simp only [Act.put, zA, zB, zC, zD, zE, zF]
     refine wpAnyH_take (i := 3) (oi := _) (v := ?_) rfl (by kernel_rfl) (by kernel_rfl) (by kernel_rfl) (fun _ _ _ h => h) (Or.inl ⟨by rfl, ?_⟩) (by assumption) ?_
     rotate_left
     ·intro w hSw; (try dsimp only at hSw); go_simp; try with_reducible rfl
     try simp only [Act.put, zA, zB, zC, zD, zE, zF]
     refine wpAnyH_take (i := 4) (oi := _) (v := ?_) rfl (by kernel_rfl) (by kernel_rfl) (by kernel_rfl) (fun _ _ _ h => h) (Or.inl ⟨by rfl, ?_⟩) (by assumption) ?_
     rotate_left
     ·intro w hSw; (try dsimp only at hSw); go_simp; try with_reducible rfl
     try simp only [Act.put, zA, zB, zC, zD, zE, zF]
     refine wpAnyH_ready (rs := [5, 12]) (by kernel_rfl) (by simp) ?_
     refine AllReadyH.cons (o := _) rfl (fun K hK => ?_) (AllReadyH.cons (o := _) rfl (fun K hK => ?_) AllReadyH.nil)
     ·go_simp
      refine (calls_b hHeld.1 (HI9.out _)).mono ?_
      rintro e wr1 ⟨rfl, hV, hVl⟩
      dsimp only
      refine hK.out _ _ ?_ (fun hHeld2 => ?_)
      ·exact ⟨hV, hV.oldbox HBox.out hlt0, hV.old hc1⟩
      clear hK K hV hVl hHeld
      have hHeld := hHeld2
      clear hHeld2
      try simp only [Act.put, zA, zB, zC, zD, zE, zF]
      refine wpAnyH_take (i := 6) (oi := _) (v := ?_) rfl (by kernel_rfl) (by kernel_rfl) (by kernel_rfl) (fun _ _ _ h => h) (Or.inl ⟨by rfl, ?_⟩) (by assumption) ?_
      rotate_left
      ·intro w hSw; (try dsimp only at hSw); go_simp; try with_reducible rfl
      try simp only [Act.put, zA, zB, zC, zD, zE, zF]
      refine wpAnyH_take (i := 7) (oi := _) (v := ?_) rfl (by kernel_rfl) (by kernel_rfl) (by kernel_rfl) (fun _ _ _ h => h) (Or.inl ⟨by rfl, ?_⟩) (by assumption) ?_
      rotate_left
      ·intro w hSw; (try dsimp only at hSw); go_simp; try with_reducible rfl
      try simp only [Act.put, zA, zB, zC, zD, zE, zF]
      refine wpAnyH_ready (rs := [8, 12]) (by kernel_rfl) (by simp) ?_
      refine AllReadyH.cons (o := _) rfl (fun K hK => ?_) (AllReadyH.cons (o := _) rfl (fun K hK => ?_) AllReadyH.nil)
      ·go_simp
       refine (calls_b hHeld.1 (HG9.out _)).mono ?_
       rintro e wr2 ⟨rfl, hV, hVl⟩
       dsimp only
       refine hK.out _ _ ?_ (fun hHeld2 => ?_)
       ·exact ⟨hV, hV.oldbox HBox.out hlt0, hV.old hc1⟩
       clear hK K hV hVl hHeld
       have hHeld := hHeld2
       clear hHeld2
       try simp only [Act.put, zA, zB, zC, zD, zE, zF]
       refine wpAnyH_take (i := 9) (oi := _) (v := ?_) rfl (by kernel_rfl) (by kernel_rfl) (by kernel_rfl) (fun _ _ _ h => h) (Or.inl ⟨by rfl, ?_⟩) (by assumption) ?_
       rotate_left
       ·intro w hSw; (try dsimp only at hSw); go_simp; try with_reducible rfl
       try simp only [Act.put, zA, zB, zC, zD, zE, zF]
       refine wpAnyH_take (i := 10) (oi := _) (v := ?_) rfl (by kernel_rfl) (by kernel_rfl) (by kernel_rfl) (fun _ _ _ h => h) (Or.inl ⟨by rfl, ?_⟩) (by assumption) ?_
       rotate_left
       ·intro w hSw; (try dsimp only at hSw); go_simp; try with_reducible rfl
       try simp only [Act.put, zA, zB, zC, zD, zE, zF]
       refine wpAnyH_take (i := 11) (oi := _) (v := ?_) rfl (by kernel_rfl) (by kernel_rfl) (by kernel_rfl) (fun _ _ _ h => h) (Or.inl ⟨by rfl, ?_⟩) (by assumption) ?_
       rotate_left
       ·intro w hSw; (try dsimp only at hSw); go_simp; try with_reducible rfl
       try simp only [Act.put, zA, zB, zC, zD, zE, zF]
       refine wpAnyH_ready (rs := [12]) (by kernel_rfl) (by simp) ?_
       refine AllReadyH.cons (o := _) rfl (fun K hK => ?_) AllReadyH.nil
       have hP := hHeld
       have hA := hHeld.1.allocd (#[.int .i64 0, .int .i64 0, .int .i64 0]) 73
       try simp only [World.size_drew] at hA
       try simp only [World.size_alloc] at hA
       go_simp
       refine hK.out _ _ ?_ (fun hHeld2 => ?_)
       ·exact ⟨hA.bs.sub _ (by simp), hA.bs.oldbox HBox.out hlt0, hA.bs.old hc1⟩
       clear hK K hHeld
       have hHeld := hHeld2
       clear hHeld2
       try simp only [Act.put, zA, zB, zC, zD, zE, zF]
       refine wpAnyH_ready (rs := [13]) (by kernel_rfl) (by simp) ?_
       refine AllReadyH.cons (o := _) rfl (fun K hK => ?_) AllReadyH.nil
       go_simp
       have hA2 := (hP.1).allocd (#[.int .i64 y1 , .int .i64 y2 , .int .i64 y3]) 73
       refine hK.out _ _ ?_ (fun hHeld2 => ?_)
       try simp only [World.size_drew] at hA2
       try simp only [World.size_alloc] at hA2
       ·exact ⟨hA2.bs.sub _ (by simp), hA2.bs.oldbox HBox.out hlt0, hA2.bs.old hc1⟩
       clear hA hP
       have hA := hA2
       clear hA2 hHeld
       have hHeld := hHeld2
       clear hHeld2
       clear hK K
       try simp only [Act.put, zA, zB, zC, zD, zE, zF]
       refine wpAnyH_take (i := 14) (oi := _) (v := ?_) rfl (by kernel_rfl) (by kernel_rfl) (by kernel_rfl) (fun _ _ _ h => h) (Or.inl ⟨by rfl, ?_⟩) (by assumption) ?_
       rotate_left
       ·intro w hSw; (try dsimp only at hSw); go_simp; try with_reducible rfl
       try simp only [Act.put, zA, zB, zC, zD, zE, zF]
       refine wpAnyH_done (by kernel_rfl) ?_ _
       refine NoPanic.normal ?_
       refine world_gen ?_
       intro wz hwz
       rw [← hwz] at hHeld hA
       clear hwz
       have rz := hHeld.1.row HRow.out
       have bz0 := hHeld.2.1 0
       have bz1 := hHeld.2.1 1
       simp at bz0 bz1
       have hne := hA.bs.ls
       have hbz := HB.out.below hA.bs.bel
       obtain ⟨⟨q0, q1, q2⟩, f0, f1, f2, z1, z2, bel⟩ := hA.cells3
       have hBA := Lib.hid hA
       have hzb := Lib.hid hHeld.2.1
       clear hHeld hA hne
       go_wp2_with (at_builtin; go_must (refine wpL_append rfl _ _ rfl 3 i0 (.int .i64 0) 1 8 Tryz.underlying25 HI.out.1 HI.out.2.1 HI.out.2.2.1 HI.out.2.2.2 rfl (by decide) (.slice pa out.length pc) out.length (ints out) rfl (rz.alloc _) ⟨wz.heap.size, 0, none⟩ 1 1 [.int .i64 a] rfl rfl (cell_one_new _ _ _) ?c1 ?c2 ?c3 ?_); go_must (case c1 => (simp [Value.oneCell'])); go_must (case c2 => (have := HFF.out; unfold maxLen; omega)); go_must (case c3 => (have := HFF.out; omega)); go_must (intro v' w5 hown5 hg5 hnew5 hnil5); clear hnil5; go_must (obtain ⟨g', cap', rfl⟩ := Joins.ownsRow_form hown5 (by omega)); go_must (have qz := hBA.out.grown hg5 (fun k hk => ownsRow_lt HRow.out hk)); go_must (have qz1 := qz 1); go_must (simp at qz1); clear qz)
       go_roundw
       case rel =>
        refine ⟨out ++ [a], a + y2, rfl, by omega, by omega, by simpa [ints] using hown5, hbz.append hg5 hnew5 hown5, ?_, ?_, HN.out, ?_⟩
        ·exact loc_grown hg5 (by have := bel.size; simp; omega) (fun e => by have := HF.out _ e; omega) (loc_old _ (by have := bel.size; omega) hzb.out)
        ·have := HFF.out; simp; omega
        ·exact fun k hk => (hnew5 k hk).elim (HF.out k) (fun h => by have := bel.size; simp at h; omega)
       case measure => simp [lenS]; have := HFF.out; omega
      ·have hP := hHeld
       have hA := hHeld.1.allocd (#[.int .i64 0, .int .i64 0, .int .i64 0]) 73
       try simp only [World.size_drew] at hA
       try simp only [World.size_alloc] at hA
       go_simp
       refine hK.out _ _ ?_ (fun hHeld2 => ?_)
       ·exact ⟨hA.bs.sub _ (by simp), hA.bs.oldbox HBox.out hlt0, hA.bs.old hc1⟩
       clear hK K hHeld
       have hHeld := hHeld2
       clear hHeld2
       try simp only [Act.put, zA, zB, zC, zD, zE, zF]
       refine wpAnyH_ready (rs := [8]) (by kernel_rfl) (by simp) ?_
       refine AllReadyH.cons (o := _) rfl (fun K hK => ?_) AllReadyH.nil
       go_simp
       refine (calls_b hA.bs (HG9.out _)).mono ?_
       rintro e wr3 ⟨rfl, hV, hVl⟩
       have hAn := hA.step hV hVl
       dsimp only
       refine hK.out _ _ ?_ (fun hHeld2 => ?_)
       ·exact ⟨hV.sub _ (by simp), hV.oldbox HBox.out hlt0, hV.old hc1⟩
       clear hK K hV hVl hHeld hA hP
       have hA := hAn
       have hP := trivial
       clear hAn
       have hHeld := hHeld2
       clear hHeld2
       try simp only [Act.put, zA, zB, zC, zD, zE, zF]
       refine wpAnyH_take (i := 9) (oi := _) (v := ?_) rfl (by kernel_rfl) (by kernel_rfl) (by kernel_rfl) (fun _ _ _ h => h) (Or.inl ⟨by rfl, ?_⟩) (by assumption) ?_
       rotate_left
       ·intro w hSw; (try dsimp only at hSw); go_simp; try with_reducible rfl
       try simp only [Act.put, zA, zB, zC, zD, zE, zF]
       refine wpAnyH_take (i := 10) (oi := _) (v := ?_) rfl (by kernel_rfl) (by kernel_rfl) (by kernel_rfl) (fun _ _ _ h => h) (Or.inl ⟨by rfl, ?_⟩) (by assumption) ?_
       rotate_left
       ·intro w hSw; (try dsimp only at hSw); go_simp; try with_reducible rfl
       try simp only [Act.put, zA, zB, zC, zD, zE, zF]
       refine wpAnyH_take (i := 11) (oi := _) (v := ?_) rfl (by kernel_rfl) (by kernel_rfl) (by kernel_rfl) (fun _ _ _ h => h) (Or.inl ⟨by rfl, ?_⟩) (by assumption) ?_
       rotate_left
       ·intro w hSw; (try dsimp only at hSw); go_simp; try with_reducible rfl
       try simp only [Act.put, zA, zB, zC, zD, zE, zF]
       refine wpAnyH_ready (rs := [13]) (by kernel_rfl) (by simp) ?_
       refine AllReadyH.cons (o := _) rfl (fun K hK => ?_) AllReadyH.nil
       have kc0 := (cell?_of_heap (o := 0) hA.box)
       have kc1 := (cell?_of_heap (o := 1) hA.box)
       have kc2 := (cell?_of_heap (o := 2) hA.box)
       simp at kc0 kc1 kc2
       have kf0 := frozen?_of_heap (o := 0) hA.box
       have kf1 := frozen?_of_heap (o := 1) hA.box
       have kf2 := frozen?_of_heap (o := 2) hA.box
       go_simp
       refine hK.out _ _ ?_ (fun hHeld2 => ?_)
       ·exact ⟨(((hA.set 0 _).set 1 _).set 2 _).bs.sub _ (by simp), (((hA.set 0 _).set 1 _).set 2 _).bs.oldbox HBox.out hlt0, (((hA.set 0 _).set 1 _).set 2 _).bs.old hc1⟩
       have hA2 : BA wr ([] : List Nat) _ (#[.int .i64 y1 , .int .i64 y2 , .int .i64 y3]) 73 _ := (((hA.set 0 (.int .i64 y1)).set 1 (.int .i64 y2)).set 2 (.int .i64 y3))
       clear kc0 kf0 kc1 kf1 kc2 kf2 hA hP
       have hA := hA2
       clear hA2 hHeld
       have hHeld := hHeld2
       clear hHeld2
       clear hK K
       try simp only [Act.put, zA, zB, zC, zD, zE, zF]
       refine wpAnyH_take (i := 14) (oi := _) (v := ?_) rfl (by kernel_rfl) (by kernel_rfl) (by kernel_rfl) (fun _ _ _ h => h) (Or.inl ⟨by rfl, ?_⟩) (by assumption) ?_
       rotate_left
       ·intro w hSw; (try dsimp only at hSw); go_simp; try with_reducible rfl
       try simp only [Act.put, zA, zB, zC, zD, zE, zF]
       refine wpAnyH_done (by kernel_rfl) ?_ _
       refine NoPanic.normal ?_
       refine world_gen ?_
       intro wz hwz
       rw [← hwz] at hHeld hA
       clear hwz
       have rz := hHeld.1.row HRow.out
       have bz0 := hHeld.2.1 0
       have bz1 := hHeld.2.1 1
       simp at bz0 bz1
       have hne := hA.bs.ls
       have hbz := HB.out.below hA.bs.bel
       obtain ⟨⟨q0, q1, q2⟩, f0, f1, f2, z1, z2, bel⟩ := hA.cells3
       have hBA := Lib.hid hA
       have hzb := Lib.hid hHeld.2.1
       clear hHeld hA hne
       go_wp2_with (at_builtin; go_must (refine wpL_append rfl _ _ rfl 3 i0 (.int .i64 0) 1 8 Tryz.underlying25 HI.out.1 HI.out.2.1 HI.out.2.2.1 HI.out.2.2.2 rfl (by decide) (.slice pa out.length pc) out.length (ints out) rfl (rz.alloc _) ⟨wz.heap.size, 0, none⟩ 1 1 [.int .i64 a] rfl rfl (cell_one_new _ _ _) ?c1 ?c2 ?c3 ?_); go_must (case c1 => (simp [Value.oneCell'])); go_must (case c2 => (have := HFF.out; unfold maxLen; omega)); go_must (case c3 => (have := HFF.out; omega)); go_must (intro v' w5 hown5 hg5 hnew5 hnil5); clear hnil5; go_must (obtain ⟨g', cap', rfl⟩ := Joins.ownsRow_form hown5 (by omega)); go_must (have qz := hBA.out.grown hg5 (fun k hk => ownsRow_lt HRow.out hk)); go_must (have qz1 := qz 1); go_must (simp at qz1); clear qz)
       go_roundw
       case rel =>
        refine ⟨out ++ [a], a + y2, rfl, by omega, by omega, by simpa [ints] using hown5, hbz.append hg5 hnew5 hown5, ?_, ?_, HN.out, ?_⟩
        ·exact loc_grown hg5 (by have := bel.size; simp; omega) (fun e => by have := HF.out _ e; omega) (loc_old _ (by have := bel.size; omega) hzb.out)
        ·have := HFF.out; simp; omega
        ·exact fun k hk => (hnew5 k hk).elim (HF.out k) (fun h => by have := bel.size; simp at h; omega)
       case measure => simp [lenS]; have := HFF.out; omega
     ·have hP := hHeld
      have hA := hHeld.1.allocd (#[.int .i64 0, .int .i64 0, .int .i64 0]) 73
      try simp only [World.size_drew] at hA
      try simp only [World.size_alloc] at hA
      go_simp
      refine hK.out _ _ ?_ (fun hHeld2 => ?_)
      ·exact ⟨hA.bs.sub _ (by simp), hA.bs.oldbox HBox.out hlt0, hA.bs.old hc1⟩
      clear hK K hHeld
      have hHeld := hHeld2
      clear hHeld2
      try simp only [Act.put, zA, zB, zC, zD, zE, zF]
      refine wpAnyH_ready (rs := [5]) (by kernel_rfl) (by simp) ?_
      refine AllReadyH.cons (o := _) rfl (fun K hK => ?_) AllReadyH.nil
      go_simp
      refine (calls_b hA.bs (HI9.out _)).mono ?_
      rintro e wr4 ⟨rfl, hV, hVl⟩
      have hAn := hA.step hV hVl
      dsimp only
      refine hK.out _ _ ?_ (fun hHeld2 => ?_)
      ·exact ⟨hV.sub _ (by simp), hV.oldbox HBox.out hlt0, hV.old hc1⟩
      clear hK K hV hVl hHeld hA hP
      have hA := hAn
      have hP := trivial
      clear hAn
      have hHeld := hHeld2
      clear hHeld2
      try simp only [Act.put, zA, zB, zC, zD, zE, zF]
      refine wpAnyH_take (i := 6) (oi := _) (v := ?_) rfl (by kernel_rfl) (by kernel_rfl) (by kernel_rfl) (fun _ _ _ h => h) (Or.inl ⟨by rfl, ?_⟩) (by assumption) ?_
      rotate_left
      ·intro w hSw; (try dsimp only at hSw); go_simp; try with_reducible rfl
      try simp only [Act.put, zA, zB, zC, zD, zE, zF]
      refine wpAnyH_take (i := 7) (oi := _) (v := ?_) rfl (by kernel_rfl) (by kernel_rfl) (by kernel_rfl) (fun _ _ _ h => h) (Or.inl ⟨by rfl, ?_⟩) (by assumption) ?_
      rotate_left
      ·intro w hSw; (try dsimp only at hSw); go_simp; try with_reducible rfl
      try simp only [Act.put, zA, zB, zC, zD, zE, zF]
      refine wpAnyH_ready (rs := [8]) (by kernel_rfl) (by simp) ?_
      refine AllReadyH.cons (o := _) rfl (fun K hK => ?_) AllReadyH.nil
      go_simp
      refine (calls_b hA.bs (HG9.out _)).mono ?_
      rintro e wr5 ⟨rfl, hV, hVl⟩
      have hAn := hA.step hV hVl
      dsimp only
      refine hK.out _ _ ?_ (fun hHeld2 => ?_)
      ·exact ⟨hV.sub _ (by simp), hV.oldbox HBox.out hlt0, hV.old hc1⟩
      clear hK K hV hVl hHeld hA hP
      have hA := hAn
      have hP := trivial
      clear hAn
      have hHeld := hHeld2
      clear hHeld2
      try simp only [Act.put, zA, zB, zC, zD, zE, zF]
      refine wpAnyH_take (i := 9) (oi := _) (v := ?_) rfl (by kernel_rfl) (by kernel_rfl) (by kernel_rfl) (fun _ _ _ h => h) (Or.inl ⟨by rfl, ?_⟩) (by assumption) ?_
      rotate_left
      ·intro w hSw; (try dsimp only at hSw); go_simp; try with_reducible rfl
      try simp only [Act.put, zA, zB, zC, zD, zE, zF]
      refine wpAnyH_take (i := 10) (oi := _) (v := ?_) rfl (by kernel_rfl) (by kernel_rfl) (by kernel_rfl) (fun _ _ _ h => h) (Or.inl ⟨by rfl, ?_⟩) (by assumption) ?_
      rotate_left
      ·intro w hSw; (try dsimp only at hSw); go_simp; try with_reducible rfl
      try simp only [Act.put, zA, zB, zC, zD, zE, zF]
      refine wpAnyH_take (i := 11) (oi := _) (v := ?_) rfl (by kernel_rfl) (by kernel_rfl) (by kernel_rfl) (fun _ _ _ h => h) (Or.inl ⟨by rfl, ?_⟩) (by assumption) ?_
      rotate_left
      ·intro w hSw; (try dsimp only at hSw); go_simp; try with_reducible rfl
      try simp only [Act.put, zA, zB, zC, zD, zE, zF]
      refine wpAnyH_ready (rs := [13]) (by kernel_rfl) (by simp) ?_
      refine AllReadyH.cons (o := _) rfl (fun K hK => ?_) AllReadyH.nil
      have kc0 := (cell?_of_heap (o := 0) hA.box)
      have kc1 := (cell?_of_heap (o := 1) hA.box)
      have kc2 := (cell?_of_heap (o := 2) hA.box)
      simp at kc0 kc1 kc2
      have kf0 := frozen?_of_heap (o := 0) hA.box
      have kf1 := frozen?_of_heap (o := 1) hA.box
      have kf2 := frozen?_of_heap (o := 2) hA.box
      go_simp
      refine hK.out _ _ ?_ (fun hHeld2 => ?_)
      ·exact ⟨(((hA.set 0 _).set 1 _).set 2 _).bs.sub _ (by simp), (((hA.set 0 _).set 1 _).set 2 _).bs.oldbox HBox.out hlt0, (((hA.set 0 _).set 1 _).set 2 _).bs.old hc1⟩
      have hA2 : BA wr ([] : List Nat) _ (#[.int .i64 y1 , .int .i64 y2 , .int .i64 y3]) 73 _ := (((hA.set 0 (.int .i64 y1)).set 1 (.int .i64 y2)).set 2 (.int .i64 y3))
      clear kc0 kf0 kc1 kf1 kc2 kf2 hA hP
      have hA := hA2
      clear hA2 hHeld
      have hHeld := hHeld2
      clear hHeld2
      clear hK K
      try simp only [Act.put, zA, zB, zC, zD, zE, zF]
      refine wpAnyH_take (i := 14) (oi := _) (v := ?_) rfl (by kernel_rfl) (by kernel_rfl) (by kernel_rfl) (fun _ _ _ h => h) (Or.inl ⟨by rfl, ?_⟩) (by assumption) ?_
      rotate_left
      ·intro w hSw; (try dsimp only at hSw); go_simp; try with_reducible rfl
      try simp only [Act.put, zA, zB, zC, zD, zE, zF]
      refine wpAnyH_done (by kernel_rfl) ?_ _
      refine NoPanic.normal ?_
      refine world_gen ?_
      intro wz hwz
      rw [← hwz] at hHeld hA
      clear hwz
      have rz := hHeld.1.row HRow.out
      have bz0 := hHeld.2.1 0
      have bz1 := hHeld.2.1 1
      simp at bz0 bz1
      have hne := hA.bs.ls
      have hbz := HB.out.below hA.bs.bel
      obtain ⟨⟨q0, q1, q2⟩, f0, f1, f2, z1, z2, bel⟩ := hA.cells3
      have hBA := Lib.hid hA
      have hzb := Lib.hid hHeld.2.1
      clear hHeld hA hne
      go_wp2_with (at_builtin; go_must (refine wpL_append rfl _ _ rfl 3 i0 (.int .i64 0) 1 8 Tryz.underlying25 HI.out.1 HI.out.2.1 HI.out.2.2.1 HI.out.2.2.2 rfl (by decide) (.slice pa out.length pc) out.length (ints out) rfl (rz.alloc _) ⟨wz.heap.size, 0, none⟩ 1 1 [.int .i64 a] rfl rfl (cell_one_new _ _ _) ?c1 ?c2 ?c3 ?_); go_must (case c1 => (simp [Value.oneCell'])); go_must (case c2 => (have := HFF.out; unfold maxLen; omega)); go_must (case c3 => (have := HFF.out; omega)); go_must (intro v' w5 hown5 hg5 hnew5 hnil5); clear hnil5; go_must (obtain ⟨g', cap', rfl⟩ := Joins.ownsRow_form hown5 (by omega)); go_must (have qz := hBA.out.grown hg5 (fun k hk => ownsRow_lt HRow.out hk)); go_must (have qz1 := qz 1); go_must (simp at qz1); clear qz)
      go_roundw
      case rel =>
       refine ⟨out ++ [a], a + y2, rfl, by omega, by omega, by simpa [ints] using hown5, hbz.append hg5 hnew5 hown5, ?_, ?_, HN.out, ?_⟩
       ·exact loc_grown hg5 (by have := bel.size; simp; omega) (fun e => by have := HF.out _ e; omega) (loc_old _ (by have := bel.size; omega) hzb.out)
       ·have := HFF.out; simp; omega
       ·exact fun k hk => (hnew5 k hk).elim (HF.out k) (fun h => by have := bel.size; simp at h; omega)
      case measure => simp [lenS]; have := HFF.out; omega
  ·have hs2 : (out, a == p) = (rl, rb) := by
    have e0 := HS.out
    have e1 : p.toNat + 1 - out.length = (p.toNat - out.length) + 1 := by omega
    rw [e1] at e0
    simpa [startsL, hlt] using e0
   obtain ⟨rfl, rfl⟩ := Prod.mk.inj hs2
   clear HXX HS hs2
   go_wp2
   go_region
   all_goals
    go_wp2
    refine bodyPost_ret (v := .tuple #[.slice pa out.length pc, .bool (a == p)]) (by simp [results, Tryz.results104, go_sem, *]) rfl ⟨_, rfl, ?_⟩
    exact ⟨ownsRow_block HRow.out (fun _ _ => rfl), fun k hk => Nat.le_of_lt (HF.out k hk), HB.out.bel.drew⟩
end
end Go.Proofs.YtnagdljgeglceaaGreat
/- the document's audit: in, binned, racked; the state of a walk that only reads. -/
set_option linter.unusedSimpArgs false
set_option linter.unusedVariables false
namespace Go.Proofs.YtnagdljgeglceaaGreat
open Go.RowKit

theorem calls_row {P : Program} {f : FuncId} {args : Array Value} {F : Value → Value} {w0 w : World} {Ls : List Nat} {l : List Int} (h : BS w0 Ls w)
 (hc : Calls P f args w fun e w' => ∃ v, e = .returned (F v) ∧ RowP w l v w') :
 Calls P f args w fun e w' => ∃ v, e = .returned (F v) ∧ (BS w0 Ls w' ∧ ∀ L ∈ Ls, w'.heap[L]? = w.heap[L]?) ∧ RowP w l v w' :=
 hc.mono fun _ _ ⟨v, he, hr⟩ => ⟨v, he, ⟨h.below hr.2.2, fun L hL => hr.2.2.block L (h.ls L hL).1⟩, hr⟩

/-- X in its box, since w. -/
structure XB (w : World) (t p s : Int) (ad : Addr) (n c : Nat) (vs : List Int) (W : World) : Prop where
 bel : Below w.heap.size w W
 box : ∀ o : Nat, W.cell? ⟨w.heap.size, o, none⟩ = (#[.int .i64 t, .int .i64 p, .int .i64 s, .slice (some ad) n c] : Array Value)[o]?
 lt : w.heap.size < W.heap.size
 xv : XV W t p s ad n vs
section
variable {t p s : Int} {ad : Addr} {n c : Nat} {vs : List Int} {w W W' : World}
theorem XV.boxed (h : XV w t p s ad n vs) (c : Nat) : XB w t p s ad n c vs (w.alloc (.cells #[.int .i64 t, .int .i64 p, .int .i64 s, .slice (some ad) n c] 114)) :=
 ⟨(Below.refl _ _).alloc (Nat.le_refl _) _, loc_alloc w _ _, by simp, h.keep ((Below.refl _ _).alloc (Nat.le_refl _) _)⟩
theorem XB.keep (h : XB w t p s ad n c vs W) (hb : Below W.heap.size W W') : XB w t p s ad n c vs W' :=
 ⟨h.bel.trans (hb.mono h.bel.size), fun o => (hb.cell (p := ⟨w.heap.size, o, none⟩) h.lt).trans (h.box o), Nat.lt_of_lt_of_le h.lt hb.size, h.xv.keep hb⟩
theorem XB.alloc (h : XB w t p s ad n c vs W) (o : Obj) : XB w t p s ad n c vs (W.alloc o) := h.keep ((Below.refl _ _).alloc (Nat.le_refl _) _)
theorem XB.drew (h : XB w t p s ad n c vs W) : XB w t p s ad n c vs W.drew := h.keep ((Below.refl _ _).drew)
theorem XB.cells (h : XB w t p s ad n c vs W) : W.cell? ⟨w.heap.size, 0, none⟩ = some (.int .i64 t) ∧ W.cell? ⟨w.heap.size, 1, none⟩ = some (.int .i64 p) ∧ W.cell? ⟨w.heap.size, 2, none⟩ = some (.int .i64 s) ∧ W.cell? ⟨w.heap.size, 3, none⟩ = some (.slice (some ad) n c) :=
 ⟨h.box 0, h.box 1, h.box 2, h.box 3⟩

/-- what a box of three offers behind a call. -/
theorem box3 {x y z : Value} {T : TypeId} (hb : Below (W.alloc (.cells #[x, y, z] T)).heap.size (W.alloc (.cells #[x, y, z] T)) W') : W'.cell? ⟨W.heap.size, 0, none⟩ = some x ∧ W'.cell? ⟨W.heap.size, 1, none⟩ = some y ∧ W'.cell? ⟨W.heap.size, 2, none⟩ = some z := by
 have hc := fun o => (hb.cell (p := ⟨W.heap.size, o, none⟩) (by simp)).trans (loc_alloc W #[x, y, z] T o)
 exact ⟨hc 0, hc 1, hc 2⟩

def CntRel (l : List Int) (x : Int) (w : World) (a i : Value) (wr : World) : Prop := ∃ k : Nat, k ≤ l.length ∧ i = .int .i64 k ∧ a = .int .i64 ((l.take k).count x) ∧ w = wr
theorem xin_any (l : List Int) (x : Int) (v : Value) (w : World) (h : w.ownsRow 0 3 1 v l.length (ints l)) (hn : l.length ≤ 4294967296) :
 Calls Tryz.prog 112 #[v, .int .i64 x] w fun e w' => e = .returned (.int .i64 (l.count x)) ∧ Below w.heap.size w w' := by
 have hc : ∀ k, k < l.length → ∃ a m c, v = .slice (some ⟨a, 0, none⟩) m c ∧ w.cell? ⟨a, k, none⟩ = some (.int .i64 (l.getD k 0)) := by
  intro k hk
  obtain ⟨g, cap, rfl⟩ := Joins.ownsRow_form h (by omega)
  refine ⟨g, _, cap, rfl, ?_⟩
  rw [h.cellAt k (by omega)]
  simp [ints, hk]
 obtain ⟨a, c, rfl⟩ := row_shape h
 clear h
 go_enter Tryz.func112, Tryz.ntmps112
 go_wp2
 go_loopw [5, 6] (fun a i wr => CntRel l x w a i wr) (fun _ i _ => l.length - (intOf i).toNat)
 case atStart => exact ⟨0, by omega, rfl, by simp, rfl⟩
 case round =>
  obtain ⟨k, hk, rfl, rfl, rfl⟩ := hrel
  by_cases hlt : k < l.length
  ·obtain ⟨g, m, c', hv, c0⟩ := hc k hlt
   simp only [Value.slice.injEq] at hv
   obtain ⟨rfl, rfl, rfl⟩ := hv
   clear hc
   have hx : l[k]? = some (l.getD k 0) := by simp [hlt]
   have hle := List.count_le_length (a := x) (l := l.take k)
   have hle2 : (l.take k).length ≤ l.length := by simp; omega
   have hs : (l.take (k + 1)).count x = (l.take k).count x + if l.getD k 0 == x then 1 else 0 := by
    rw [List.take_add_one, hx]
    simp [List.count_append, List.count_cons]
   have HS := Lib.hid hs
   clear hx hs
   generalize l.getD k 0 = y at *
   generalize (l.take k).count x = z at *
   have hz : (z : Int) ≤ 4294967296 := by omega
   clear hle hle2
   by_cases hy : y = x
   ·have hb : (y == x) = true := by simp [hy]
    have HY := Lib.hid hb
    have hb2 : (y == x) = true := hb
    clear hy hb
    go_wp2
    go_roundw
    case rel => exact ⟨k + 1, by omega, by go_num, by rw [HS.out, HY.out]; simp, rfl⟩
    case measure => simp [intOf]; omega
   ·have hb : (y == x) = false := by simp [hy]
    have HY := Lib.hid hb
    have hb2 : (y == x) = false := hb
    clear hy hb
    go_wp2
    go_roundw
    case rel => exact ⟨k + 1, by omega, by go_num, by rw [HS.out, HY.out]; simp, rfl⟩
    case measure => simp [intOf]; omega
  ·obtain rfl : k = l.length := by omega
   clear hc
   go_wp2
   go_ret
   exact ⟨by simp, Below.refl _ _⟩

def binnedB (v k : Int) : Bool := iK v == 1 && logF (iL v) == k
def rackedB (v u k : Int) : Bool := iK v == 3 && iC v == k && !fullB u k

theorem binned_any (q : Int) (k : Nat) (c : Nat) (w : World) (h : XV w t p s ad n vs) (h0 : 0 ≤ q) (h1 : q < p) :
 Calls Tryz.prog 111 #[.agg #[.int .i64 t, .int .i64 p, .int .i64 s, .slice (some ad) n c], .int .i64 q, .int .i64 k] w fun e w' => e = .returned (.bool (binnedB (gv vs t q 0) k)) ∧ Below w.heap.size w w' := by
 have bd := inf_bd (gv vs t q 0)
 have hl := fun w => rlog_any (iL (gv vs t q 0)) w (by omega) (by omega)
 have HL := Lib.hid hl
 have X0 := h.boxed c
 have HI := Lib.hid (fun (w : World) (h : XV w t p s ad n vs) => xinfo_any q c w h h0 h1)
 generalize hr : binnedB (gv vs t q 0) k = r
 have hr2 : (iK (gv vs t q 0) == 1 && logF (iL (gv vs t q 0)) == k) = r := hr
 have HR := Lib.hid hr2
 clear hr hr2 hl h bd
 generalize iK (gv vs t q 0) = y1 at *
 generalize logF (iL (gv vs t q 0)) = y4 at *
 generalize iL (gv vs t q 0) = y2 at *
 generalize iC (gv vs t q 0) = y3 at *
 by_cases hk1 : y1 = 1
 ·have hb : (y1 == 1) = true := by simp [hk1]
  have HR2 := HR.out
  rw [hb] at HR2
  have HR3 := Lib.hid HR2
  clear hk1 HR HR2
  go_enter Tryz.func111, Tryz.ntmps111
  go_wp2_with fail
  refine (HI.out _ X0.xv).mono ?_
  rintro e w1 ⟨rfl, hb1⟩
  have X1 := X0.keep hb1
  obtain ⟨X10, X11, X12, X13⟩ := X1.cells
  have X1z := X1.lt
  go_wp2_with fail
  refine (HL.out _).mono ?_
  rintro e w2 ⟨rfl, hb2⟩
  go_wp2
  go_ret
  refine ⟨ret_bool (by rw [← HR3.out]; simp), ?_⟩
  exact X1.bel.trans ((((Below.refl _ _).alloc (Nat.le_refl _) _).trans (hb2.mono (by simp))).mono X1.bel.size)
 ·have hb : (y1 == 1) = false := by simp [hk1]
  have HR2 := HR.out
  rw [hb] at HR2
  have HR3 := Lib.hid HR2
  clear hk1 HR HR2
  go_enter Tryz.func111, Tryz.ntmps111
  go_wp2_with fail
  refine (HI.out _ X0.xv).mono ?_
  rintro e w1 ⟨rfl, hb1⟩
  have X1 := X0.keep hb1
  obtain ⟨X10, X11, X12, X13⟩ := X1.cells
  have X1z := X1.lt
  go_wp2
  go_ret
  refine ⟨ret_bool (by rw [← HR3.out]; simp), ?_⟩
  exact X1.bel.alloc X1.bel.size _

theorem racked_any (q : Int) (k : Nat) (c : Nat) (w : World) (h : XV w t p s ad n vs) (h0 : 0 ≤ q) (h1 : q < p) :
 Calls Tryz.prog 113 #[.agg #[.int .i64 t, .int .i64 p, .int .i64 s, .slice (some ad) n c], .int .i64 q, .int .i64 k] w fun e w' => e = .returned (.bool (rackedB (gv vs t q 0) (gv vs t q 5) k)) ∧ Below w.heap.size w w' := by
 have hg := h.gu q 5
 have HL := Lib.hid (fun w => rfull_any (gv vs t q 5) k w hg.1)
 have X0 := h.boxed c
 have HI := Lib.hid (fun (w : World) (h : XV w t p s ad n vs) => xinfo_any q c w h h0 h1)
 have HT := Lib.hid (fun (w : World) (h : XV w t p s ad n vs) => xtaken_any q c w h h0 h1)
 generalize hr : rackedB (gv vs t q 0) (gv vs t q 5) k = r
 have hr2 : (iK (gv vs t q 0) == 3 && iC (gv vs t q 0) == k && !fullB (gv vs t q 5) k) = r := hr
 have HR := Lib.hid hr2
 clear hr hr2 h hg
 generalize iK (gv vs t q 0) = y1 at *
 generalize fullB (gv vs t q 5) k = y4 at *
 generalize iL (gv vs t q 0) = y2 at *
 generalize iC (gv vs t q 0) = y3 at *
 generalize gv vs t q 5 = y5 at *
 by_cases hk1 : y1 = 3
 ·have hb : (y1 == 3) = true := by simp [hk1]
  by_cases hk2 : y3 = k
  ·have hbb : (y3 == k) = true := by simp [hk2]
   have HR2 := HR.out
   rw [hb, hbb] at HR2
   have HR3 := Lib.hid HR2
   clear hk1 HR HR2 hk2
   go_enter Tryz.func113, Tryz.ntmps113
   go_wp2_with fail
   refine (HI.out _ X0.xv).mono ?_
   rintro e w1 ⟨rfl, hb1⟩
   have X1 := X0.keep hb1
   obtain ⟨X10, X11, X12, X13⟩ := X1.cells
   have X1z := X1.lt
   have X1a := X1.alloc (.cells #[.int .i64 y1, .int .i64 y2, .int .i64 y3] 73)
   go_wp2_with fail
   refine (HT.out _ X1a.xv).mono ?_
   rintro e w2 ⟨rfl, hb2⟩
   have X2 := X1a.keep hb2
   obtain ⟨X20, X21, X22, X23⟩ := X2.cells
   have X2z := X2.lt
   obtain ⟨z0, z1, z2⟩ := box3 hb2
   go_wp2_with fail
   refine (HL.out _).mono ?_
   rintro e w3 ⟨rfl, hb3⟩
   go_wp2
   go_ret
   refine ⟨ret_bool (by rw [← HR3.out]; simp), ?_⟩
   exact X2.bel.trans (hb3.mono X2.bel.size)
  ·have hbb : (y3 == k) = false := by simp [hk2]
   have HR2 := HR.out
   rw [hb, hbb] at HR2
   have HR3 := Lib.hid HR2
   clear hk1 HR HR2 hk2
   go_enter Tryz.func113, Tryz.ntmps113
   go_wp2_with fail
   refine (HI.out _ X0.xv).mono ?_
   rintro e w1 ⟨rfl, hb1⟩
   have X1 := X0.keep hb1
   obtain ⟨X10, X11, X12, X13⟩ := X1.cells
   have X1z := X1.lt
   go_wp2
   go_ret
   refine ⟨ret_bool (by rw [← HR3.out]; simp), ?_⟩
   exact X1.bel.alloc X1.bel.size _
 ·have hb : (y1 == 3) = false := by simp [hk1]
  have HR2 := HR.out
  rw [hb] at HR2
  have HR3 := Lib.hid HR2
  clear hk1 HR HR2
  go_enter Tryz.func113, Tryz.ntmps113
  go_wp2_with fail
  refine (HI.out _ X0.xv).mono ?_
  rintro e w1 ⟨rfl, hb1⟩
  have X1 := X0.keep hb1
  obtain ⟨X10, X11, X12, X13⟩ := X1.cells
  have X1z := X1.lt
  go_wp2
  go_ret
  refine ⟨ret_bool (by rw [← HR3.out]; simp), ?_⟩
  exact X1.bel.alloc X1.bel.size _
end
end Go.Proofs.YtnagdljgeglceaaGreat
/- the document's audit: the lists of a heap. -/
set_option linter.unusedSimpArgs false
set_option linter.unusedVariables false
namespace Go.Proofs.YtnagdljgeglceaaGreat
open Go.RowKit
section
variable {t p s : Int} {ad : Addr} {n c : Nat} {vs : List Int}

def listL (vs : List Int) (t p : Int) : Nat → Int → Int → List Int → List Int × Bool
 | 0, _, _, out => (out, false)
 | f + 1, q, ah, out => if q = 0 then (out, true) else if p < q ∨ p ≤ out.length then (out, false) else if gv vs t (q - 1) 3 ≠ ah then (out, false) else listL vs t p f (gv vs t (q - 1) 2) q (out ++ [q - 1])
def listF (vs : List Int) (t p : Int) (head : Nat) : List Int × Bool := listL vs t p (p.toNat + 1) (vs.getD head 0) 0 []

structure LsRel (w : World) (vs : List Int) (t p s : Int) (sl : Value) (res : List Int × Bool) (v6 v7 v8 : Value) (wr : World) (out : List Int) (q ah : Int) : Prop where
 hq : v7 = .int .u32 q
 ha : v8 = .int .u32 ah
 q0 : 0 ≤ q ∧ q < 4294967296
 row : wr.ownsRow 0 3 1 v6 out.length (ints out)
 bs : BS w (w.heap.size :: v6.ownBlock.toList) wr
 box : ∀ o : Nat, wr.cell? ⟨w.heap.size, o, none⟩ = (#[.int .i64 t, .int .i64 p, .int .i64 s, sl] : Array Value)[o]?
 le : (out.length : Int) ≤ p
 res : listL vs t p (p.toNat + 1 - out.length) q ah out = res
 far : ∀ k, v6.ownBlock = some k → w.heap.size < k
def LsRelE (w : World) (vs : List Int) (t p s : Int) (sl : Value) (res : List Int × Bool) (v6 v7 v8 : Value) (wr : World) : Prop := ∃ out q ah, LsRel w vs t p s sl res v6 v7 v8 wr out q ah

set_option maxHeartbeats 2000000 in
set_option maxRecDepth 100000 in
theorem list_any (head : Nat) (c : Nat) (w : World) (h : XV w t p s ad n vs) (hh : head < n) :
 Calls Tryz.prog 109 #[.agg #[.int .i64 t, .int .i64 p, .int .i64 s, .slice (some ad) n c], .int .i64 head] w fun e w' => ∃ v, e = .returned (.tuple #[v, .bool (listF vs t p head).2]) ∧ RowP w (listF vs t p head).1 v w' := by
 have r0 := row_empty (w.alloc (.cells #[.int .i64 t, .int .i64 p, .int .i64 s, .slice (some ad) n c] 114)) 3 1
 have hS0 := ((BS.start w).alloc (.cells #[.int .i64 t, .int .i64 p, .int .i64 s, .slice (some ad) n c] 114)).alloc (.cells #[] 3)
 have d0 := loc_old (.cells #[] 3) (by simp) (loc_alloc w #[.int .i64 t, .int .i64 p, .int .i64 s, .slice (some ad) n c] 114)
 simp only [World.size_alloc] at hS0 r0
 have bd : 4 ≤ p ∧ p ≤ 64 := by have := h.bd; omega
 have hres0 : listL vs t p (p.toNat + 1) (vs.getD head 0) 0 [] = listF vs t p head := rfl
 have HX : ∀ q, 0 ≤ q → q < p → ∃ k k2 : Nat, k < n ∧ k2 < n ∧ (∀ w, Calls Tryz.prog 95 #[.agg #[.int .i64 t, .int .i64 p, .int .i64 s], .int .i64 q] w fun e w' => e = .returned (.int .i64 k) ∧ Below w.heap.size w w') ∧ w.cell? (ad.add k) = some (.int .u32 (gv vs t q 3)) ∧ (∀ w, Calls Tryz.prog 94 #[.agg #[.int .i64 t, .int .i64 p, .int .i64 s], .int .i64 q] w fun e w' => e = .returned (.int .i64 k2) ∧ Below w.heap.size w w') ∧ w.cell? (ad.add k2) = some (.int .u32 (gv vs t q 2)) ∧ 0 ≤ gv vs t q 2 ∧ gv vs t q 2 < 4294967296 := by
  intro q h0 h1
  obtain ⟨hx1, hx2⟩ := h.cx h0 h1 (part := 3) (by omega) (by omega)
  obtain ⟨hy1, hy2⟩ := h.cx h0 h1 (part := 2) (by omega) (by omega)
  refine ⟨cix t q 3, cix t q 2, hx1, hy1, fun w => ?_, h.cells _ hx1, fun w => ?_, h.cells _ hy1, h.gu q 2⟩
  ·have := rprev_any t p s q w
   rwa [hx2] at this
  ·have := rnext_any t p s q w
   rwa [hy2] at this
 have hc00 := h.cells head hh
 have hcx := (XV.boxed h c).xv.cells head hh
 have hcy := ((XV.boxed h c).alloc (.cells #[] 3)).xv.cells head hh
 have hu := getD_u32 h.u32 head
 have HXX := Lib.hid HX
 clear HX h
 generalize hRs : listF vs t p head = rs at *
 obtain ⟨rl, rb⟩ := rs
 generalize vs.getD head 0 = q0 at *
 obtain ⟨i0, hi0, hi1, hi2, hi3⟩ := info_parts infoInt
 have HI := Lib.hid (And.intro hi0 (And.intro hi1 (And.intro hi2 hi3)))
 clear hi0 hi1 hi2 hi3 hRs
 have HR0 := Lib.hid hres0
 have HU := Lib.hid hu
 clear hres0 hu
 go_enter Tryz.func109, Tryz.ntmps109
 go_wp2_with fail
 go_loopw [6, 7, 8, 9] (fun v6 v7 v8 _ wr => LsRelE w vs t p s (.slice (some ad) n c) (rl, rb) v6 v7 v8 wr) (fun v6 _ _ _ _ => p.toNat - lenS v6)
 case atStart => exact ⟨[], q0, 0, rfl, rfl, HU.out, r0, hS0.sub _ (by simp [Value.ownBlock]), d0, by simp; omega, by simpa using HR0.out, by simp [Value.ownBlock]⟩
 case round =>
  obtain ⟨out, q, ah, hr⟩ := hrel
  obtain ⟨rfl, rfl, hq0, hrow, hbs, hbox, hle, hrs, hfar⟩ := hr
  obtain ⟨hq1, hq2⟩ := hq0
  have hlen : ∃ a m c, u6 = .slice a m c ∧ m = out.length := by
   rcases hrow.2 with ⟨h5, h6⟩ | ⟨g', cap', cur, h5, -⟩
   ·exact ⟨_, _, _, h5, h6.symm⟩
   ·exact ⟨_, _, _, h5, rfl⟩
  obtain ⟨pa, pm, pc, rfl, rfl⟩ := hlen
  have hlt0 := (hbs.ls w.heap.size (by simp)).1
  have HB := Lib.hid hbs
  have HF := Lib.hid hfar
  have HRow := Lib.hid hrow
  have HBox := Lib.hid hbox
  have b0 := hbox 0
  have b1 := hbox 1
  simp at b0 b1
  have hs0 : (if q = 0 then (out, true) else if p < q ∨ p ≤ out.length then (out, false) else if gv vs t (q - 1) 3 ≠ ah then (out, false) else listL vs t p (p.toNat - out.length) (gv vs t (q - 1) 2) q (out ++ [q - 1])) = (rl, rb) := by
   have e0 := hrs
   have e1 : p.toNat + 1 - out.length = (p.toNat - out.length) + 1 := by omega
   rw [e1] at e0
   exact e0
  have HS := Lib.hid hs0
  have HLe := Lib.hid hle
  clear hS0 r0 d0 HR0 hbs hfar hrs hrow hbox hcx hcy hc00 hs0
  by_cases hz : q = 0
  ·have hzb : (q != 0) = false := by simp [hz]
   have e0 := HS.out
   rw [if_pos hz] at e0
   obtain ⟨rfl, rfl⟩ := Prod.mk.inj e0
   clear HXX HS e0 hz
   go_wp2
   refine bodyPost_ret (v := .tuple #[.slice pa out.length pc, .bool true]) (by simp [results, Tryz.results109, go_sem, *]) rfl ⟨_, rfl, ?_⟩
   exact ⟨HRow.out, fun k hk => Nat.le_of_lt (HF.out k hk), HB.out.bel⟩
  ·have hzb : (q != 0) = true := by simp [hz]
   have hw : IntKind.i64.wrap q = q := wrap_in _ (by omega)
   have hw2 : IntKind.i64.wrap (q - 1) = q - 1 := wrap_in _ (by omega)
   by_cases hp : p < q
   ·have e0 := HS.out
    rw [if_neg hz, if_pos (Or.inl hp)] at e0
    obtain ⟨rfl, rfl⟩ := Prod.mk.inj e0
    clear HXX HS e0 hz
    go_wp2
    refine bodyPost_ret (v := .tuple #[.slice pa out.length pc, .bool false]) (by simp [results, Tryz.results109, go_sem, *]) rfl ⟨_, rfl, ?_⟩
    exact ⟨HRow.out, fun k hk => Nat.le_of_lt (HF.out k hk), HB.out.bel⟩
   ·by_cases hl : p ≤ out.length
    ·have e0 := HS.out
     rw [if_neg hz, if_pos (Or.inr hl)] at e0
     obtain ⟨rfl, rfl⟩ := Prod.mk.inj e0
     clear HXX HS e0 hz
     go_wp2
     refine bodyPost_ret (v := .tuple #[.slice pa out.length pc, .bool false]) (by simp [results, Tryz.results109, go_sem, *]) rfl ⟨_, rfl, ?_⟩
     exact ⟨HRow.out, fun k hk => Nat.le_of_lt (HF.out k hk), HB.out.bel⟩
    ·obtain ⟨k, k2, hk, hk2, hI, hc0, hI2, hd0, hg0, hg1⟩ := HXX.out (q - 1) (by omega) (by omega)
     have e0 := HS.out
     rw [if_neg hz, if_neg (by omega)] at e0
     have hc1 := HB.out.old hc0
     have H1 := Lib.hid hI
     have H2 := Lib.hid hI2
     have HD := Lib.hid hd0
     have HGU := Lib.hid (And.intro hg0 hg1)
     clear HXX HS hz hI hI2 hc0 hd0 hg0 hg1 hle
     generalize gv vs t (q - 1) 3 = u at *
     generalize gv vs t (q - 1) 2 = x at *
     by_cases hu : u = ah
     ·have hub : (u != ah) = false := by simp [hu]
      rw [if_neg (by simpa using hu)] at e0
      have HN := Lib.hid e0
      clear e0 hu
      go_wp2_with fail
      refine wp_region_noPanic ?_
      refine wp_region_held_drew (S := fun w' => BS wr ([] : List Nat) w' ∧ (∀ o : Nat, w'.cell? ⟨w.heap.size, o, none⟩ = (#[.int .i64 t, .int .i64 p, .int .i64 s, .slice (some ad) n c] : Array Value)[o]?) ∧ w'.cell? (ad.add k) = some (.int .u32 u)) (by kernel_rfl) ?_ (fun hHeld => ?_)
      ·exact ⟨(BS.start wr).drew, HBox.out, hc1⟩
      refine wpAnyH_take (i := 0) (oi := _) (v := ?_) rfl (by kernel_rfl) (by kernel_rfl) (by kernel_rfl) (fun _ _ _ h => h) (Or.inl ⟨by rfl, ?_⟩) (by assumption) ?_
      rotate_left
      ·intro w hSw; (try dsimp only at hSw); go_simp; try with_reducible rfl
      try simp only [Act.put, zA, zB, zD, zE, zF]
      refine wpAnyH_take (i := 1) (oi := _) (v := ?_) rfl (by kernel_rfl) (by kernel_rfl) (by kernel_rfl) (fun _ _ _ h => h) (Or.inl ⟨by rfl, ?_⟩) (by assumption) ?_
      rotate_left
      ·intro w hSw; (try dsimp only at hSw); go_simp; try with_reducible rfl
      try simp only [Act.put, zA, zB, zC, zD, zE, zF]
      refine wpAnyH_take (i := 2) (oi := _) (v := ?_) rfl (by kernel_rfl) (by kernel_rfl) (by kernel_rfl) (fun _ _ _ h => h) (Or.inl ⟨by rfl, ?_⟩) (by assumption) ?_
      rotate_left
      ·intro w hSw; (try dsimp only at hSw); go_simp; try with_reducible rfl
      try simp only [Act.put, zA, zB, zC, zD, zE, zF]
      refine wpAnyH_take (i := 3) (oi := _) (v := ?_) rfl (by kernel_rfl) (by kernel_rfl) (by kernel_rfl) (fun _ _ _ h => h) (Or.inl ⟨by rfl, ?_⟩) (by assumption) ?_
      rotate_left
      ·intro w hSw; (try dsimp only at hSw); go_simp; try with_reducible rfl
      try simp only [Act.put, zA, zB, zC, zD, zE, zF]
      refine wpAnyH_take (i := 4) (oi := _) (v := ?_) rfl (by kernel_rfl) (by kernel_rfl) (by kernel_rfl) (fun _ _ _ h => h) (Or.inl ⟨by rfl, ?_⟩) (by assumption) ?_
      rotate_left
      ·intro w hSw; (try dsimp only at hSw); go_simp; try with_reducible rfl
      try simp only [Act.put, zA, zB, zC, zD, zE, zF]
      refine wpAnyH_take (i := 8) (oi := _) (v := ?_) rfl (by kernel_rfl) (by kernel_rfl) (by kernel_rfl) (fun _ _ _ h => h) (Or.inl ⟨by rfl, ?_⟩) (by assumption) ?_
      rotate_left
      ·intro w hSw; (try dsimp only at hSw); go_simp; try with_reducible rfl
      try simp only [Act.put, zA, zB, zC, zD, zE, zF]
      refine wpAnyH_ready (rs := [5]) (by kernel_rfl) (by simp) ?_
      refine AllReadyH.cons (o := _) rfl (fun K hK => ?_) AllReadyH.nil
      go_simp
      refine (calls_b hHeld.1 (H1.out _)).mono ?_
      rintro e wr1 ⟨rfl, hV, hVl⟩
      dsimp only
      refine hK.out _ _ ?_ (fun hHeld2 => ?_)
      ·exact ⟨hV, hV.oldbox HBox.out hlt0, hV.old hc1⟩
      clear hK K hV hVl hHeld
      have hHeld := hHeld2
      clear hHeld2
      try simp only [Act.put, zA, zB, zC, zD, zE, zF]
      refine wpAnyH_take (i := 6) (oi := _) (v := ?_) rfl (by kernel_rfl) (by kernel_rfl) (by kernel_rfl) (fun _ _ _ h => h) (Or.inl ⟨by rfl, ?_⟩) (by assumption) ?_
      rotate_left
      ·intro w hSw; (try dsimp only at hSw); go_simp; try with_reducible rfl
      try simp only [Act.put, zA, zB, zC, zD, zE, zF]
      refine wpAnyH_take (i := 7) (oi := _) (v := ?_) rfl (by kernel_rfl) (by kernel_rfl) (by kernel_rfl) (fun _ _ _ h => h) (Or.inl ⟨by rfl, ?_⟩) (by assumption) ?_
      rotate_left
      ·intro w hSw; (try dsimp only at hSw); go_simp; try with_reducible rfl
      try simp only [Act.put, zA, zB, zC, zD, zE, zF]
      refine wpAnyH_take (i := 9) (oi := _) (v := ?_) rfl (by kernel_rfl) (by kernel_rfl) (by kernel_rfl) (fun _ _ _ h => h) (Or.inl ⟨by rfl, ?_⟩) (by assumption) ?_
      rotate_left
      ·intro w hSw; (try dsimp only at hSw); go_simp; try with_reducible rfl
      try simp only [Act.put, zA, zB, zC, zD, zE, zF]
      refine wpAnyH_done (by kernel_rfl) ?_ _
      refine NoPanic.normal ?_
      refine world_gen ?_
      intro wz hwz
      rw [← hwz] at hHeld
      clear hwz
      have rz := hHeld.1.row HRow.out
      have hzb2 := Lib.hid hHeld.2.1
      have hbz := HB.out.below hHeld.1.bel
      have bel := hHeld.1.bel
      clear hHeld
      go_wp2_with (at_builtin; go_must (refine wpL_append rfl _ _ rfl 3 i0 (.int .i64 0) 1 8 Tryz.underlying25 HI.out.1 HI.out.2.1 HI.out.2.2.1 HI.out.2.2.2 rfl (by decide) (.slice pa out.length pc) out.length (ints out) rfl (rz.alloc _) ⟨wz.heap.size, 0, none⟩ 1 1 [.int .i64 (q - 1)] rfl rfl (cell_one_new _ _ _) ?c1 ?c2 ?c3 ?_); go_must (case c1 => (simp [Value.oneCell'])); go_must (case c2 => (have := HLe.out; unfold maxLen; omega)); go_must (case c3 => (have := HLe.out; omega)); go_must (intro v' w5 hown5 hg5 hnew5 hnil5); clear hnil5; go_must (obtain ⟨g', cap', rfl⟩ := Joins.ownsRow_form hown5 (by omega)))
      have hb5 := hbz.append hg5 hnew5 hown5
      have hx5 : ∀ o : Nat, w5.cell? ⟨w.heap.size, o, none⟩ = (#[.int .i64 t, .int .i64 p, .int .i64 s, .slice (some ad) n c] : Array Value)[o]? := loc_grown hg5 (by have := bel.size; simp; omega) (fun e => by have := HF.out _ e; omega) (loc_old _ (by have := bel.size; omega) hzb2.out)
      have hd5 := hb5.old HD.out
      have hl5 := (hb5.ls w.heap.size (by simp)).1
      have HB5 := Lib.hid hb5
      have HX5 := Lib.hid hx5
      have far5 : ∀ k, (Value.slice (some ⟨g', 0, none⟩) (out.length + 1) cap').ownBlock = some k → w.heap.size < k := fun k hk => (hnew5 k hk).elim (HF.out k) (fun h => by have := bel.size; simp at h; omega)
      clear hb5 hx5 hg5 hnew5 rz hbz hzb2
      refine wp_region_noPanic ?_
      refine wp_region_held_drew (S := fun w' => BS w5 ([] : List Nat) w' ∧ (∀ o : Nat, w'.cell? ⟨w.heap.size, o, none⟩ = (#[.int .i64 t, .int .i64 p, .int .i64 s, .slice (some ad) n c] : Array Value)[o]?) ∧ w'.cell? (ad.add k2) = some (.int .u32 x)) (by kernel_rfl) ?_ (fun hHeld => ?_)
      ·exact ⟨(BS.start w5).drew, HX5.out, hd5⟩
      refine wpAnyH_take (i := 0) (oi := _) (v := ?_) rfl (by kernel_rfl) (by kernel_rfl) (by kernel_rfl) (fun _ _ _ h => h) (Or.inl ⟨by rfl, ?_⟩) (by assumption) ?_
      rotate_left
      ·intro w hSw; (try dsimp only at hSw); go_simp; try with_reducible rfl
      try simp only [Act.put, zA, zB, zD, zE, zF]
      refine wpAnyH_take (i := 1) (oi := _) (v := ?_) rfl (by kernel_rfl) (by kernel_rfl) (by kernel_rfl) (fun _ _ _ h => h) (Or.inl ⟨by rfl, ?_⟩) (by assumption) ?_
      rotate_left
      ·intro w hSw; (try dsimp only at hSw); go_simp; try with_reducible rfl
      try simp only [Act.put, zA, zB, zC, zD, zE, zF]
      refine wpAnyH_take (i := 2) (oi := _) (v := ?_) rfl (by kernel_rfl) (by kernel_rfl) (by kernel_rfl) (fun _ _ _ h => h) (Or.inl ⟨by rfl, ?_⟩) (by assumption) ?_
      rotate_left
      ·intro w hSw; (try dsimp only at hSw); go_simp; try with_reducible rfl
      try simp only [Act.put, zA, zB, zC, zD, zE, zF]
      refine wpAnyH_take (i := 3) (oi := _) (v := ?_) rfl (by kernel_rfl) (by kernel_rfl) (by kernel_rfl) (fun _ _ _ h => h) (Or.inl ⟨by rfl, ?_⟩) (by assumption) ?_
      rotate_left
      ·intro w hSw; (try dsimp only at hSw); go_simp; try with_reducible rfl
      try simp only [Act.put, zA, zB, zC, zD, zE, zF]
      refine wpAnyH_take (i := 4) (oi := _) (v := ?_) rfl (by kernel_rfl) (by kernel_rfl) (by kernel_rfl) (fun _ _ _ h => h) (Or.inl ⟨by rfl, ?_⟩) (by assumption) ?_
      rotate_left
      ·intro w hSw; (try dsimp only at hSw); go_simp; try with_reducible rfl
      try simp only [Act.put, zA, zB, zC, zD, zE, zF]
      refine wpAnyH_ready (rs := [5]) (by kernel_rfl) (by simp) ?_
      refine AllReadyH.cons (o := _) rfl (fun K hK => ?_) AllReadyH.nil
      go_simp
      refine (calls_b hHeld.1 (H2.out _)).mono ?_
      rintro e wr1 ⟨rfl, hV, hVl⟩
      dsimp only
      refine hK.out _ _ ?_ (fun hHeld2 => ?_)
      ·exact ⟨hV, hV.oldbox HX5.out hl5, hV.old hd5⟩
      clear hK K hV hVl hHeld
      have hHeld := hHeld2
      clear hHeld2
      try simp only [Act.put, zA, zB, zC, zD, zE, zF]
      refine wpAnyH_take (i := 6) (oi := _) (v := ?_) rfl (by kernel_rfl) (by kernel_rfl) (by kernel_rfl) (fun _ _ _ h => h) (Or.inl ⟨by rfl, ?_⟩) (by assumption) ?_
      rotate_left
      ·intro w hSw; (try dsimp only at hSw); go_simp; try with_reducible rfl
      try simp only [Act.put, zA, zB, zC, zD, zE, zF]
      refine wpAnyH_take (i := 7) (oi := _) (v := ?_) rfl (by kernel_rfl) (by kernel_rfl) (by kernel_rfl) (fun _ _ _ h => h) (Or.inl ⟨by rfl, ?_⟩) (by assumption) ?_
      rotate_left
      ·intro w hSw; (try dsimp only at hSw); go_simp; try with_reducible rfl
      try simp only [Act.put, zA, zB, zC, zD, zE, zF]
      refine wpAnyH_take (i := 8) (oi := _) (v := ?_) rfl (by kernel_rfl) (by kernel_rfl) (by kernel_rfl) (fun _ _ _ h => h) (Or.inl ⟨by rfl, ?_⟩) (by assumption) ?_
      rotate_left
      ·intro w hSw; (try dsimp only at hSw); go_simp; try with_reducible rfl
      try simp only [Act.put, zA, zB, zC, zD, zE, zF]
      refine wpAnyH_done (by kernel_rfl) ?_ _
      refine NoPanic.normal ?_
      refine world_gen ?_
      intro wz hwz
      rw [← hwz] at hHeld
      clear hwz
      have rz := hHeld.1.row hown5
      have hzb2 := hHeld.2.1
      have hbz := HB5.out.below hHeld.1.bel
      clear hHeld
      go_wp2_with fail
      go_roundw
      case rel =>
       refine ⟨out ++ [q - 1], x, q, rfl, rfl, HGU.out, by simpa [ints] using rz, hbz, hzb2, by simp; omega, ?_, far5⟩
       have e2 : p.toNat + 1 - (out ++ [q - 1]).length = p.toNat - out.length := by rw [List.length_append, List.length_singleton]; omega
       rw [e2]
       exact HN.out
      case measure => simp [lenS]; omega
     ·have hub : (u != ah) = true := by simp [hu]
      rw [if_pos hu] at e0
      obtain ⟨rfl, rfl⟩ := Prod.mk.inj e0
      clear e0 hu
      go_wp2_with fail
      refine wp_region_noPanic ?_
      refine wp_region_held_drew (S := fun w' => BS wr ([] : List Nat) w' ∧ (∀ o : Nat, w'.cell? ⟨w.heap.size, o, none⟩ = (#[.int .i64 t, .int .i64 p, .int .i64 s, .slice (some ad) n c] : Array Value)[o]?) ∧ w'.cell? (ad.add k) = some (.int .u32 u)) (by kernel_rfl) ?_ (fun hHeld => ?_)
      ·exact ⟨(BS.start wr).drew, HBox.out, hc1⟩
      refine wpAnyH_take (i := 0) (oi := _) (v := ?_) rfl (by kernel_rfl) (by kernel_rfl) (by kernel_rfl) (fun _ _ _ h => h) (Or.inl ⟨by rfl, ?_⟩) (by assumption) ?_
      rotate_left
      ·intro w hSw; (try dsimp only at hSw); go_simp; try with_reducible rfl
      try simp only [Act.put, zA, zB, zD, zE, zF]
      refine wpAnyH_take (i := 1) (oi := _) (v := ?_) rfl (by kernel_rfl) (by kernel_rfl) (by kernel_rfl) (fun _ _ _ h => h) (Or.inl ⟨by rfl, ?_⟩) (by assumption) ?_
      rotate_left
      ·intro w hSw; (try dsimp only at hSw); go_simp; try with_reducible rfl
      try simp only [Act.put, zA, zB, zC, zD, zE, zF]
      refine wpAnyH_take (i := 2) (oi := _) (v := ?_) rfl (by kernel_rfl) (by kernel_rfl) (by kernel_rfl) (fun _ _ _ h => h) (Or.inl ⟨by rfl, ?_⟩) (by assumption) ?_
      rotate_left
      ·intro w hSw; (try dsimp only at hSw); go_simp; try with_reducible rfl
      try simp only [Act.put, zA, zB, zC, zD, zE, zF]
      refine wpAnyH_take (i := 3) (oi := _) (v := ?_) rfl (by kernel_rfl) (by kernel_rfl) (by kernel_rfl) (fun _ _ _ h => h) (Or.inl ⟨by rfl, ?_⟩) (by assumption) ?_
      rotate_left
      ·intro w hSw; (try dsimp only at hSw); go_simp; try with_reducible rfl
      try simp only [Act.put, zA, zB, zC, zD, zE, zF]
      refine wpAnyH_take (i := 4) (oi := _) (v := ?_) rfl (by kernel_rfl) (by kernel_rfl) (by kernel_rfl) (fun _ _ _ h => h) (Or.inl ⟨by rfl, ?_⟩) (by assumption) ?_
      rotate_left
      ·intro w hSw; (try dsimp only at hSw); go_simp; try with_reducible rfl
      try simp only [Act.put, zA, zB, zC, zD, zE, zF]
      refine wpAnyH_take (i := 8) (oi := _) (v := ?_) rfl (by kernel_rfl) (by kernel_rfl) (by kernel_rfl) (fun _ _ _ h => h) (Or.inl ⟨by rfl, ?_⟩) (by assumption) ?_
      rotate_left
      ·intro w hSw; (try dsimp only at hSw); go_simp; try with_reducible rfl
      try simp only [Act.put, zA, zB, zC, zD, zE, zF]
      refine wpAnyH_ready (rs := [5]) (by kernel_rfl) (by simp) ?_
      refine AllReadyH.cons (o := _) rfl (fun K hK => ?_) AllReadyH.nil
      go_simp
      refine (calls_b hHeld.1 (H1.out _)).mono ?_
      rintro e wr1 ⟨rfl, hV, hVl⟩
      dsimp only
      refine hK.out _ _ ?_ (fun hHeld2 => ?_)
      ·exact ⟨hV, hV.oldbox HBox.out hlt0, hV.old hc1⟩
      clear hK K hV hVl hHeld
      have hHeld := hHeld2
      clear hHeld2
      try simp only [Act.put, zA, zB, zC, zD, zE, zF]
      refine wpAnyH_take (i := 6) (oi := _) (v := ?_) rfl (by kernel_rfl) (by kernel_rfl) (by kernel_rfl) (fun _ _ _ h => h) (Or.inl ⟨by rfl, ?_⟩) (by assumption) ?_
      rotate_left
      ·intro w hSw; (try dsimp only at hSw); go_simp; try with_reducible rfl
      try simp only [Act.put, zA, zB, zC, zD, zE, zF]
      refine wpAnyH_take (i := 7) (oi := _) (v := ?_) rfl (by kernel_rfl) (by kernel_rfl) (by kernel_rfl) (fun _ _ _ h => h) (Or.inl ⟨by rfl, ?_⟩) (by assumption) ?_
      rotate_left
      ·intro w hSw; (try dsimp only at hSw); go_simp; try with_reducible rfl
      try simp only [Act.put, zA, zB, zC, zD, zE, zF]
      refine wpAnyH_take (i := 9) (oi := _) (v := ?_) rfl (by kernel_rfl) (by kernel_rfl) (by kernel_rfl) (fun _ _ _ h => h) (Or.inl ⟨by rfl, ?_⟩) (by assumption) ?_
      rotate_left
      ·intro w hSw; (try dsimp only at hSw); go_simp; try with_reducible rfl
      try simp only [Act.put, zA, zB, zC, zD, zE, zF]
      refine wpAnyH_done (by kernel_rfl) ?_ _
      refine NoPanic.normal ?_
      refine world_gen ?_
      intro wz hwz
      rw [← hwz] at hHeld
      clear hwz
      have rz := hHeld.1.row HRow.out
      have hbz := HB.out.below hHeld.1.bel
      clear hHeld
      go_wp2
      refine bodyPost_ret (v := .tuple #[.slice pa out.length pc, .bool false]) (by simp [results, Tryz.results109, go_sem, *]) rfl ⟨_, rfl, ?_⟩
      exact ⟨rz, fun k hk => Nat.le_of_lt (HF.out k hk), hbz.bel⟩
end
end Go.Proofs.YtnagdljgeglceaaGreat
/- the document's audit: bins and racks. -/
set_option linter.unusedSimpArgs false
set_option linter.unusedVariables false
namespace Go.Proofs.YtnagdljgeglceaaGreat
open Go.RowKit

def allN (f : Nat → Bool) : Nat → Bool
 | 0 => true
 | k + 1 => allN f k && f k
theorem allN_no {f : Nat → Bool} {k N : Nat} (hk : k < N) (h : f k = false) : allN f N = false := by
 induction N with
 | zero => omega
 | succ N ih =>
  by_cases e : k = N
  ·subst e; simp [allN, h]
  ·simp [allN, ih (by omega)]
theorem RowP.row {w w' : World} {l : List Int} {v : Value} (h : RowP w l v w') : ∃ a c, v = .slice a l.length c := row_shape h.1
theorem listL_len {vs : List Int} {t p : Int} : ∀ (f : Nat) (q ah : Int) (out : List Int), (out.length : Int) ≤ p → ((listL vs t p f q ah out).1.length : Int) ≤ p := by
 intro f
 induction f with
 | zero => intro q ah out h; exact h
 | succ f ih =>
  intro q ah out h
  unfold listL
  split
  ·exact h
  ·split
   ·exact h
   ·split
    ·exact h
    ·exact ih _ _ _ (by simp; omega)
theorem listF_len {vs : List Int} {t p : Int} (h : 0 ≤ p) (k : Nat) : ((listF vs t p k).1.length : Int) ≤ p := listL_len _ _ _ _ (by simpa using h)
def wantI (b : Bool) : Int := if b then 1 else 0
section
variable {t p s : Int} {ad : Addr} {n c : Nat} {vs : List Int}
def AllRel (f : Nat → Bool) (N : Nat) (W0 : World) (v : Value) (wr : World) : Prop := ∃ k : Nat, k ≤ N ∧ v = .int .i64 k ∧ allN f k = true ∧ Below W0.heap.size W0 wr
def binsInB (vs : List Int) (t : Int) (l : List Int) (k : Nat) (q : Nat) : Bool := ((l.count (q : Int) : Nat) : Int) == wantI (binnedB (gv vs t (q : Int) 0) k)
def binsB (vs : List Int) (t p : Int) (k : Nat) : Bool := (listF vs t p (2 + k)).2 && allN (binsInB vs t (listF vs t p (2 + k)).1 k) p.toNat
def binsF (vs : List Int) (t p : Int) : Bool := allN (binsB vs t p) 11

set_option maxHeartbeats 1000000 in
set_option maxRecDepth 100000 in
theorem bins_any (c : Nat) (w : World) (h : XV w t p s ad n vs) :
 Calls Tryz.prog 71 #[.agg #[.int .i64 t, .int .i64 p, .int .i64 s, .slice (some ad) n c]] w fun e w' => e = .returned (.bool (binsF vs t p)) ∧ Below w.heap.size w w' := by
 have X0 := h.boxed c
 have bd : 4 ≤ p ∧ p ≤ 64 := by have := h.bd; omega
 have hnn : (n : Int) = 30 + 4 * t + 6 * p ∧ 1 ≤ t := by have := h.bd; omega
 have HN := Lib.hid hnn
 generalize hr : binsF vs t p = r
 have hr2 : allN (binsB vs t p) 11 = r := hr
 have HR := Lib.hid hr2
 clear h hr hr2 hnn
 go_enter Tryz.func71, Tryz.ntmps71
 go_wp2_with fail
 go_loopw [3, 4, 5, 6, 7] (fun v3 _ _ _ _ wr => AllRel (binsB vs t p) 11 (w.alloc (.cells #[.int .i64 t, .int .i64 p, .int .i64 s, .slice (some ad) n c] 114)) v3 wr) (fun v3 _ _ _ _ _ => 11 - (intOf v3).toNat)
 case atStart => exact ⟨0, by omega, rfl, rfl, Below.refl _ _⟩
 case round =>
  obtain ⟨k, hk, rfl, hall, hbel⟩ := hrel
  have X1 := X0.keep hbel
  have HA := Lib.hid hall
  have HBel := Lib.hid hbel
  clear hall hbel X0
  by_cases hlt : k < 11
  ·have hBin := Lib.hid (fun w => rbin_any k w hlt)
   have hLi := Lib.hid (fun (w : World) (h : XV w t p s ad n vs) => list_any (2 + k) c w h (by have := HN.out; omega))
   have hfk : binsB vs t p k = ((listF vs t p (2 + k)).2 && allN (binsInB vs t (listF vs t p (2 + k)).1 k) p.toNat) := rfl
   have HFK := Lib.hid hfk
   have hlen : (listF vs t p (2 + k)).1.length ≤ 4294967296 := by have := listF_len (vs := vs) (t := t) (p := p) (by omega) (2 + k); omega
   have HLen := Lib.hid hlen
   clear hfk hlen
   have Xr := X1.box
   have Xl := X1.lt
   generalize listF vs t p (2 + k) = lr at *
   obtain ⟨l, lb⟩ := lr
   go_wp2_with fail
   refine wp_region_noPanic ?_
   refine wp_region_held_drew (S := fun w' => BS wr ([] : List Nat) w' ∧ (∀ o : Nat, w'.cell? ⟨w.heap.size, o, none⟩ = (#[.int .i64 t, .int .i64 p, .int .i64 s, .slice (some ad) n c] : Array Value)[o]?)) (by kernel_rfl) ?_ (fun hHeld => ?_)
   ·exact ⟨(BS.start wr).drew, Xr⟩
   refine wpAnyH_take (i := 0) (oi := _) (v := ?_) rfl (by kernel_rfl) (by kernel_rfl) (by kernel_rfl) (fun _ _ _ h => h) (Or.inl ⟨by rfl, ?_⟩) (by assumption) ?_
   rotate_left
   ·intro w hSw; (try dsimp only at hSw); go_simp; try with_reducible rfl
   try simp only [Act.put, zA, zB, zD, zE, zF]
   refine wpAnyH_take (i := 1) (oi := _) (v := ?_) rfl (by kernel_rfl) (by kernel_rfl) (by kernel_rfl) (fun _ _ _ h => h) (Or.inl ⟨by rfl, ?_⟩) (by assumption) ?_
   rotate_left
   ·intro w hSw; (try dsimp only at hSw); go_simp; try with_reducible rfl
   try simp only [Act.put, zA, zB, zC, zD, zE, zF]
   refine wpAnyH_ready (rs := [2]) (by kernel_rfl) (by simp) ?_
   refine AllReadyH.cons (o := _) rfl (fun K hK => ?_) AllReadyH.nil
   go_simp
   refine (calls_b hHeld.1 (hBin.out _)).mono ?_
   rintro e wr1 ⟨rfl, hV, hVl⟩
   dsimp only
   refine hK.out _ _ ?_ (fun hHeld2 => ?_)
   ·exact ⟨hV, hV.oldbox Xr Xl⟩
   clear hK K hV hVl hHeld
   have hHeld := hHeld2
   clear hHeld2
   try simp only [Act.put, zA, zB, zC, zD, zE, zF]
   refine wpAnyH_ready (rs := [3]) (by kernel_rfl) (by simp) ?_
   refine AllReadyH.cons (o := _) rfl (fun K hK => ?_) AllReadyH.nil
   go_simp
   refine (calls_row hHeld.1 (hLi.out _ (X1.xv.keep hHeld.1.bel))).mono ?_
   rintro e wr2 ⟨lv, rfl, ⟨hV, hVl⟩, hlv⟩
   dsimp only
   refine hK.out _ _ ?_ (fun hHeld2 => ?_)
   ·exact ⟨hV, hV.oldbox Xr Xl⟩
   clear hK K hV hVl hHeld
   have hHeld := hHeld2
   clear hHeld2
   try simp only [Act.put, zA, zB, zC, zD, zE, zF]
   refine wpAnyH_take (i := 4) (oi := _) (v := ?_) rfl (by kernel_rfl) (by kernel_rfl) (by kernel_rfl) (fun _ _ _ h => h) (Or.inl ⟨by rfl, ?_⟩) (by assumption) ?_
   rotate_left
   ·intro w hSw; (try dsimp only at hSw); go_simp; try with_reducible rfl
   try simp only [Act.put, zA, zB, zC, zD, zE, zF]
   refine wpAnyH_take (i := 5) (oi := _) (v := ?_) rfl (by kernel_rfl) (by kernel_rfl) (by kernel_rfl) (fun _ _ _ h => h) (Or.inl ⟨by rfl, ?_⟩) (by assumption) ?_
   rotate_left
   ·intro w hSw; (try dsimp only at hSw); go_simp; try with_reducible rfl
   try simp only [Act.put, zA, zB, zC, zD, zE, zF]
   refine wpAnyH_take (i := 6) (oi := _) (v := ?_) rfl (by kernel_rfl) (by kernel_rfl) (by kernel_rfl) (fun _ _ _ h => h) (Or.inl ⟨by rfl, ?_⟩) (by assumption) ?_
   rotate_left
   ·intro w hSw; (try dsimp only at hSw); go_simp; try with_reducible rfl
   try simp only [Act.put, zA, zB, zC, zD, zE, zF]
   refine wpAnyH_take (i := 7) (oi := _) (v := ?_) rfl (by kernel_rfl) (by kernel_rfl) (by kernel_rfl) (fun _ _ _ h => h) (Or.inl ⟨by rfl, ?_⟩) (by assumption) ?_
   rotate_left
   ·intro w hSw; (try dsimp only at hSw); go_simp; try with_reducible rfl
   try simp only [Act.put, zA, zB, zC, zD, zE, zF]
   refine wpAnyH_take (i := 8) (oi := _) (v := ?_) rfl (by kernel_rfl) (by kernel_rfl) (by kernel_rfl) (fun _ _ _ h => h) (Or.inl ⟨by rfl, ?_⟩) (by assumption) ?_
   rotate_left
   ·intro w hSw; (try dsimp only at hSw); go_simp; try with_reducible rfl
   try simp only [Act.put, zA, zB, zC, zD, zE, zF]
   refine wpAnyH_done (by kernel_rfl) ?_ _
   refine NoPanic.normal ?_
   refine world_gen ?_
   intro wz hwz
   rw [← hwz] at hHeld hlv
   clear hwz
   have X2 := X1.keep hHeld.1.bel
   obtain ⟨x0, x1, x2, x3⟩ := X2.cells
   have xl := X2.lt
   have bel2 := hHeld.1.bel
   clear hHeld Xr Xl
   obtain ⟨la, lc, rfl⟩ := hlv.row
   have HL := Lib.hid hlv
   have HB2 := Lib.hid bel2
   clear hlv bel2
   cases lb
   ·have hno : binsB vs t p k = false := by rw [HFK.out]; rfl
    have hres : r = false := by rw [← HR.out]; exact allN_no hlt hno
    subst hres
    clear hno
    go_wp2
    go_ret
    exact ⟨rfl, X2.bel⟩
   ·have hfk2 : binsB vs t p k = allN (binsInB vs t l k) p.toNat := by rw [HFK.out]; rfl
    have HFK2 := Lib.hid hfk2
    clear hfk2 HFK
    go_wp2_with fail
    go_loopw [6, 7] (fun v6 _ wq => AllRel (binsInB vs t l k) p.toNat wz v6 wq) (fun v6 _ _ => p.toNat - (intOf v6).toNat)
    case atStart => exact ⟨0, by omega, rfl, rfl, Below.refl _ _⟩
    case round =>
     obtain ⟨q, hq, rfl, hallq, hbq⟩ := hrel
     have X3 := X2.keep hbq
     have HQ := Lib.hid hallq
     have HBq := Lib.hid hbq
     clear hallq hbq x0 x1 x2 x3 X2
     obtain ⟨x0, x1, x2, x3⟩ := X3.cells
     by_cases hqp : (q : Int) < p
     ·have hC := Lib.hid (fun (w : World) (h : XV w t p s ad n vs) => binned_any q k c w h (by omega) hqp)
      have hin : binsInB vs t l k q = (((l.count (q : Int) : Nat) : Int) == wantI (binnedB (gv vs t (q : Int) 0) k)) := rfl
      have hIn := Lib.hid (fun (w' : World) (hb : Below wz.heap.size wz w') => xin_any l q (.slice la l.length lc) w' (ownsRow_block HL.out.1 fun k hk => hb.block k (ownsRow_lt HL.out.1 hk)) HLen.out)
      have hcb : l.count (q : Int) ≤ 4294967296 := Nat.le_trans List.count_le_length HLen.out
      generalize binnedB (gv vs t (q : Int) 0) k = cd at *
      generalize l.count (q : Int) = cn at *
      have HIN := Lib.hid hin
      clear hin
      by_cases hw : (cn : Int) = wantI cd
      ·have hyes : binsInB vs t l k q = true := by rw [HIN.out]; simpa using hw
       have HY := Lib.hid hyes
       have HW := Lib.hid hw
       clear hyes hw HIN
       cases cd
       ·have e1 := HW.out
        have hb1 : ((cn : Int) != 0) = false := by rw [e1]; rfl
        clear e1
        go_wp2_with fail
        refine (hC.out _ X3.xv).mono ?_
        rintro e w5 ⟨rfl, hb5⟩
        have X5 := X3.keep hb5
        obtain ⟨X50, X51, X52, X53⟩ := X5.cells
        have X5z := X5.lt
        go_wp2_with fail
        refine (hIn.out _ (HBq.out.trans (hb5.mono HBq.out.size))).mono ?_
        rintro e w6 ⟨rfl, hb6⟩
        have bel6 := (HBq.out.trans (hb5.mono HBq.out.size)).trans (hb6.mono (Nat.le_trans HBq.out.size hb5.size))
        go_wp2_with fail
        go_roundw
        case rel => exact ⟨q + 1, by omega, by go_num, by simp [allN, HQ.out, HY.out], bel6⟩
        case measure => simp [intOf]; omega
       ·have e1 := HW.out
        have hb1 : ((cn : Int) != 1) = false := by rw [e1]; rfl
        clear e1
        go_wp2_with fail
        refine (hC.out _ X3.xv).mono ?_
        rintro e w5 ⟨rfl, hb5⟩
        have X5 := X3.keep hb5
        obtain ⟨X50, X51, X52, X53⟩ := X5.cells
        have X5z := X5.lt
        go_wp2_with fail
        refine (hIn.out _ (HBq.out.trans (hb5.mono HBq.out.size))).mono ?_
        rintro e w6 ⟨rfl, hb6⟩
        have bel6 := (HBq.out.trans (hb5.mono HBq.out.size)).trans (hb6.mono (Nat.le_trans HBq.out.size hb5.size))
        go_wp2_with fail
        go_roundw
        case rel => exact ⟨q + 1, by omega, by go_num, by simp [allN, HQ.out, HY.out], bel6⟩
        case measure => simp [intOf]; omega
      ·have hno : binsInB vs t l k q = false := by rw [HIN.out]; simpa using hw
       have hno2 : binsB vs t p k = false := by rw [HFK2.out]; exact allN_no (by omega) hno
       have hres : r = false := by rw [← HR.out]; exact allN_no hlt hno2
       subst hres
       have HW := Lib.hid hw
       clear hno hno2 hw HIN HR
       cases cd
       ·have hb1 : ((cn : Int) != 0) = true := by have := HW.out; simpa [wantI] using this
        go_wp2_with fail
        refine (hC.out _ X3.xv).mono ?_
        rintro e w5 ⟨rfl, hb5⟩
        have X5 := X3.keep hb5
        obtain ⟨X50, X51, X52, X53⟩ := X5.cells
        have X5z := X5.lt
        go_wp2_with fail
        refine (hIn.out _ (HBq.out.trans (hb5.mono HBq.out.size))).mono ?_
        rintro e w6 ⟨rfl, hb6⟩
        go_wp2_with fail
        go_ret
        exact ⟨rfl, (X5.keep hb6).bel⟩
       ·have hb1 : ((cn : Int) != 1) = true := by have := HW.out; simpa [wantI] using this
        go_wp2_with fail
        refine (hC.out _ X3.xv).mono ?_
        rintro e w5 ⟨rfl, hb5⟩
        have X5 := X3.keep hb5
        obtain ⟨X50, X51, X52, X53⟩ := X5.cells
        have X5z := X5.lt
        go_wp2_with fail
        refine (hIn.out _ (HBq.out.trans (hb5.mono HBq.out.size))).mono ?_
        rintro e w6 ⟨rfl, hb6⟩
        go_wp2_with fail
        go_ret
        exact ⟨rfl, (X5.keep hb6).bel⟩
     ·obtain rfl : q = p.toNat := by omega
      have bel6 := HBel.out.trans ((HB2.out.trans (HBq.out.mono HB2.out.size)).mono HBel.out.size)
      have hyes : binsB vs t p k = true := by rw [HFK2.out]; exact HQ.out
      have HY := Lib.hid hyes
      clear hyes
      go_wp2_with fail
      go_roundw
      case rel => exact ⟨k + 1, by omega, by go_num, by simp [allN, HA.out, HY.out], bel6⟩
      case measure => simp [intOf]; omega
  ·obtain rfl : k = 11 := by omega
   have hres : r = true := by rw [← HR.out]; exact HA.out
   subst hres
   go_wp2
   go_ret
   exact ⟨rfl, X1.bel⟩

def racksInB (vs : List Int) (t : Int) (l : List Int) (k : Nat) (q : Nat) : Bool := ((l.count (q : Int) : Nat) : Int) == wantI (rackedB (gv vs t (q : Int) 0) (gv vs t (q : Int) 5) k)
def racksB (vs : List Int) (t p : Int) (k : Nat) : Bool := (listF vs t p (13 + k)).2 && allN (racksInB vs t (listF vs t p (13 + k)).1 k) p.toNat
def racksF (vs : List Int) (t p : Int) : Bool := allN (racksB vs t p) 9

set_option maxHeartbeats 1000000 in
set_option maxRecDepth 100000 in
theorem racks_any (c : Nat) (w : World) (h : XV w t p s ad n vs) :
 Calls Tryz.prog 72 #[.agg #[.int .i64 t, .int .i64 p, .int .i64 s, .slice (some ad) n c]] w fun e w' => e = .returned (.bool (racksF vs t p)) ∧ Below w.heap.size w w' := by
 have X0 := h.boxed c
 have bd : 4 ≤ p ∧ p ≤ 64 := by have := h.bd; omega
 have hnn : (n : Int) = 30 + 4 * t + 6 * p ∧ 1 ≤ t := by have := h.bd; omega
 have HN := Lib.hid hnn
 generalize hr : racksF vs t p = r
 have hr2 : allN (racksB vs t p) 9 = r := hr
 have HR := Lib.hid hr2
 clear h hr hr2 hnn
 go_enter Tryz.func72, Tryz.ntmps72
 go_wp2_with fail
 go_loopw [3, 4, 5, 6, 7] (fun v3 _ _ _ _ wr => AllRel (racksB vs t p) 9 (w.alloc (.cells #[.int .i64 t, .int .i64 p, .int .i64 s, .slice (some ad) n c] 114)) v3 wr) (fun v3 _ _ _ _ _ => 9 - (intOf v3).toNat)
 case atStart => exact ⟨0, by omega, rfl, rfl, Below.refl _ _⟩
 case round =>
  obtain ⟨k, hk, rfl, hall, hbel⟩ := hrel
  have X1 := X0.keep hbel
  have HA := Lib.hid hall
  have HBel := Lib.hid hbel
  clear hall hbel X0
  by_cases hlt : k < 9
  ·have hBin := Lib.hid (fun w => rrack_any k w hlt)
   have hLi := Lib.hid (fun (w : World) (h : XV w t p s ad n vs) => list_any (13 + k) c w h (by have := HN.out; omega))
   have hfk : racksB vs t p k = ((listF vs t p (13 + k)).2 && allN (racksInB vs t (listF vs t p (13 + k)).1 k) p.toNat) := rfl
   have HFK := Lib.hid hfk
   have hlen : (listF vs t p (13 + k)).1.length ≤ 4294967296 := by have := listF_len (vs := vs) (t := t) (p := p) (by omega) (13 + k); omega
   have HLen := Lib.hid hlen
   clear hfk hlen
   have Xr := X1.box
   have Xl := X1.lt
   generalize listF vs t p (13 + k) = lr at *
   obtain ⟨l, lb⟩ := lr
   go_wp2_with fail
   refine wp_region_noPanic ?_
   refine wp_region_held_drew (S := fun w' => BS wr ([] : List Nat) w' ∧ (∀ o : Nat, w'.cell? ⟨w.heap.size, o, none⟩ = (#[.int .i64 t, .int .i64 p, .int .i64 s, .slice (some ad) n c] : Array Value)[o]?)) (by kernel_rfl) ?_ (fun hHeld => ?_)
   ·exact ⟨(BS.start wr).drew, Xr⟩
   refine wpAnyH_take (i := 0) (oi := _) (v := ?_) rfl (by kernel_rfl) (by kernel_rfl) (by kernel_rfl) (fun _ _ _ h => h) (Or.inl ⟨by rfl, ?_⟩) (by assumption) ?_
   rotate_left
   ·intro w hSw; (try dsimp only at hSw); go_simp; try with_reducible rfl
   try simp only [Act.put, zA, zB, zD, zE, zF]
   refine wpAnyH_take (i := 1) (oi := _) (v := ?_) rfl (by kernel_rfl) (by kernel_rfl) (by kernel_rfl) (fun _ _ _ h => h) (Or.inl ⟨by rfl, ?_⟩) (by assumption) ?_
   rotate_left
   ·intro w hSw; (try dsimp only at hSw); go_simp; try with_reducible rfl
   try simp only [Act.put, zA, zB, zC, zD, zE, zF]
   refine wpAnyH_ready (rs := [2]) (by kernel_rfl) (by simp) ?_
   refine AllReadyH.cons (o := _) rfl (fun K hK => ?_) AllReadyH.nil
   go_simp
   refine (calls_b hHeld.1 (hBin.out _)).mono ?_
   rintro e wr1 ⟨rfl, hV, hVl⟩
   dsimp only
   refine hK.out _ _ ?_ (fun hHeld2 => ?_)
   ·exact ⟨hV, hV.oldbox Xr Xl⟩
   clear hK K hV hVl hHeld
   have hHeld := hHeld2
   clear hHeld2
   try simp only [Act.put, zA, zB, zC, zD, zE, zF]
   refine wpAnyH_ready (rs := [3]) (by kernel_rfl) (by simp) ?_
   refine AllReadyH.cons (o := _) rfl (fun K hK => ?_) AllReadyH.nil
   go_simp
   refine (calls_row hHeld.1 (hLi.out _ (X1.xv.keep hHeld.1.bel))).mono ?_
   rintro e wr2 ⟨lv, rfl, ⟨hV, hVl⟩, hlv⟩
   dsimp only
   refine hK.out _ _ ?_ (fun hHeld2 => ?_)
   ·exact ⟨hV, hV.oldbox Xr Xl⟩
   clear hK K hV hVl hHeld
   have hHeld := hHeld2
   clear hHeld2
   try simp only [Act.put, zA, zB, zC, zD, zE, zF]
   refine wpAnyH_take (i := 4) (oi := _) (v := ?_) rfl (by kernel_rfl) (by kernel_rfl) (by kernel_rfl) (fun _ _ _ h => h) (Or.inl ⟨by rfl, ?_⟩) (by assumption) ?_
   rotate_left
   ·intro w hSw; (try dsimp only at hSw); go_simp; try with_reducible rfl
   try simp only [Act.put, zA, zB, zC, zD, zE, zF]
   refine wpAnyH_take (i := 5) (oi := _) (v := ?_) rfl (by kernel_rfl) (by kernel_rfl) (by kernel_rfl) (fun _ _ _ h => h) (Or.inl ⟨by rfl, ?_⟩) (by assumption) ?_
   rotate_left
   ·intro w hSw; (try dsimp only at hSw); go_simp; try with_reducible rfl
   try simp only [Act.put, zA, zB, zC, zD, zE, zF]
   refine wpAnyH_take (i := 6) (oi := _) (v := ?_) rfl (by kernel_rfl) (by kernel_rfl) (by kernel_rfl) (fun _ _ _ h => h) (Or.inl ⟨by rfl, ?_⟩) (by assumption) ?_
   rotate_left
   ·intro w hSw; (try dsimp only at hSw); go_simp; try with_reducible rfl
   try simp only [Act.put, zA, zB, zC, zD, zE, zF]
   refine wpAnyH_take (i := 7) (oi := _) (v := ?_) rfl (by kernel_rfl) (by kernel_rfl) (by kernel_rfl) (fun _ _ _ h => h) (Or.inl ⟨by rfl, ?_⟩) (by assumption) ?_
   rotate_left
   ·intro w hSw; (try dsimp only at hSw); go_simp; try with_reducible rfl
   try simp only [Act.put, zA, zB, zC, zD, zE, zF]
   refine wpAnyH_take (i := 8) (oi := _) (v := ?_) rfl (by kernel_rfl) (by kernel_rfl) (by kernel_rfl) (fun _ _ _ h => h) (Or.inl ⟨by rfl, ?_⟩) (by assumption) ?_
   rotate_left
   ·intro w hSw; (try dsimp only at hSw); go_simp; try with_reducible rfl
   try simp only [Act.put, zA, zB, zC, zD, zE, zF]
   refine wpAnyH_done (by kernel_rfl) ?_ _
   refine NoPanic.normal ?_
   refine world_gen ?_
   intro wz hwz
   rw [← hwz] at hHeld hlv
   clear hwz
   have X2 := X1.keep hHeld.1.bel
   obtain ⟨x0, x1, x2, x3⟩ := X2.cells
   have xl := X2.lt
   have bel2 := hHeld.1.bel
   clear hHeld Xr Xl
   obtain ⟨la, lc, rfl⟩ := hlv.row
   have HL := Lib.hid hlv
   have HB2 := Lib.hid bel2
   clear hlv bel2
   cases lb
   ·have hno : racksB vs t p k = false := by rw [HFK.out]; rfl
    have hres : r = false := by rw [← HR.out]; exact allN_no hlt hno
    subst hres
    clear hno
    go_wp2
    go_ret
    exact ⟨rfl, X2.bel⟩
   ·have hfk2 : racksB vs t p k = allN (racksInB vs t l k) p.toNat := by rw [HFK.out]; rfl
    have HFK2 := Lib.hid hfk2
    clear hfk2 HFK
    go_wp2_with fail
    go_loopw [6, 7] (fun v6 _ wq => AllRel (racksInB vs t l k) p.toNat wz v6 wq) (fun v6 _ _ => p.toNat - (intOf v6).toNat)
    case atStart => exact ⟨0, by omega, rfl, rfl, Below.refl _ _⟩
    case round =>
     obtain ⟨q, hq, rfl, hallq, hbq⟩ := hrel
     have X3 := X2.keep hbq
     have HQ := Lib.hid hallq
     have HBq := Lib.hid hbq
     clear hallq hbq x0 x1 x2 x3 X2
     obtain ⟨x0, x1, x2, x3⟩ := X3.cells
     by_cases hqp : (q : Int) < p
     ·have hC := Lib.hid (fun (w : World) (h : XV w t p s ad n vs) => racked_any q k c w h (by omega) hqp)
      have hin : racksInB vs t l k q = (((l.count (q : Int) : Nat) : Int) == wantI (rackedB (gv vs t (q : Int) 0) (gv vs t (q : Int) 5) k)) := rfl
      have hIn := Lib.hid (fun (w' : World) (hb : Below wz.heap.size wz w') => xin_any l q (.slice la l.length lc) w' (ownsRow_block HL.out.1 fun k hk => hb.block k (ownsRow_lt HL.out.1 hk)) HLen.out)
      have hcb : l.count (q : Int) ≤ 4294967296 := Nat.le_trans List.count_le_length HLen.out
      generalize rackedB (gv vs t (q : Int) 0) (gv vs t (q : Int) 5) k = cd at *
      generalize l.count (q : Int) = cn at *
      have HIN := Lib.hid hin
      clear hin
      by_cases hw : (cn : Int) = wantI cd
      ·have hyes : racksInB vs t l k q = true := by rw [HIN.out]; simpa using hw
       have HY := Lib.hid hyes
       have HW := Lib.hid hw
       clear hyes hw HIN
       cases cd
       ·have e1 := HW.out
        have hb1 : ((cn : Int) != 0) = false := by rw [e1]; rfl
        clear e1
        go_wp2_with fail
        refine (hC.out _ X3.xv).mono ?_
        rintro e w5 ⟨rfl, hb5⟩
        have X5 := X3.keep hb5
        obtain ⟨X50, X51, X52, X53⟩ := X5.cells
        have X5z := X5.lt
        go_wp2_with fail
        refine (hIn.out _ (HBq.out.trans (hb5.mono HBq.out.size))).mono ?_
        rintro e w6 ⟨rfl, hb6⟩
        have bel6 := (HBq.out.trans (hb5.mono HBq.out.size)).trans (hb6.mono (Nat.le_trans HBq.out.size hb5.size))
        go_wp2_with fail
        go_roundw
        case rel => exact ⟨q + 1, by omega, by go_num, by simp [allN, HQ.out, HY.out], bel6⟩
        case measure => simp [intOf]; omega
       ·have e1 := HW.out
        have hb1 : ((cn : Int) != 1) = false := by rw [e1]; rfl
        clear e1
        go_wp2_with fail
        refine (hC.out _ X3.xv).mono ?_
        rintro e w5 ⟨rfl, hb5⟩
        have X5 := X3.keep hb5
        obtain ⟨X50, X51, X52, X53⟩ := X5.cells
        have X5z := X5.lt
        go_wp2_with fail
        refine (hIn.out _ (HBq.out.trans (hb5.mono HBq.out.size))).mono ?_
        rintro e w6 ⟨rfl, hb6⟩
        have bel6 := (HBq.out.trans (hb5.mono HBq.out.size)).trans (hb6.mono (Nat.le_trans HBq.out.size hb5.size))
        go_wp2_with fail
        go_roundw
        case rel => exact ⟨q + 1, by omega, by go_num, by simp [allN, HQ.out, HY.out], bel6⟩
        case measure => simp [intOf]; omega
      ·have hno : racksInB vs t l k q = false := by rw [HIN.out]; simpa using hw
       have hno2 : racksB vs t p k = false := by rw [HFK2.out]; exact allN_no (by omega) hno
       have hres : r = false := by rw [← HR.out]; exact allN_no hlt hno2
       subst hres
       have HW := Lib.hid hw
       clear hno hno2 hw HIN HR
       cases cd
       ·have hb1 : ((cn : Int) != 0) = true := by have := HW.out; simpa [wantI] using this
        go_wp2_with fail
        refine (hC.out _ X3.xv).mono ?_
        rintro e w5 ⟨rfl, hb5⟩
        have X5 := X3.keep hb5
        obtain ⟨X50, X51, X52, X53⟩ := X5.cells
        have X5z := X5.lt
        go_wp2_with fail
        refine (hIn.out _ (HBq.out.trans (hb5.mono HBq.out.size))).mono ?_
        rintro e w6 ⟨rfl, hb6⟩
        go_wp2_with fail
        go_ret
        exact ⟨rfl, (X5.keep hb6).bel⟩
       ·have hb1 : ((cn : Int) != 1) = true := by have := HW.out; simpa [wantI] using this
        go_wp2_with fail
        refine (hC.out _ X3.xv).mono ?_
        rintro e w5 ⟨rfl, hb5⟩
        have X5 := X3.keep hb5
        obtain ⟨X50, X51, X52, X53⟩ := X5.cells
        have X5z := X5.lt
        go_wp2_with fail
        refine (hIn.out _ (HBq.out.trans (hb5.mono HBq.out.size))).mono ?_
        rintro e w6 ⟨rfl, hb6⟩
        go_wp2_with fail
        go_ret
        exact ⟨rfl, (X5.keep hb6).bel⟩
     ·obtain rfl : q = p.toNat := by omega
      have bel6 := HBel.out.trans ((HB2.out.trans (HBq.out.mono HB2.out.size)).mono HBel.out.size)
      have hyes : racksB vs t p k = true := by rw [HFK2.out]; exact HQ.out
      have HY := Lib.hid hyes
      clear hyes
      go_wp2_with fail
      go_roundw
      case rel => exact ⟨k + 1, by omega, by go_num, by simp [allN, HA.out, HY.out], bel6⟩
      case measure => simp [intOf]; omega
  ·obtain rfl : k = 9 := by omega
   have hres : r = true := by rw [← HR.out]; exact HA.out
   subst hres
   go_wp2
   go_ret
   exact ⟨rfl, X1.bel⟩
end
end Go.Proofs.YtnagdljgeglceaaGreat
/- the document's audit: tiles, apart, feet. -/
set_option linter.unusedSimpArgs false
set_option linter.unusedVariables false
namespace Go.Proofs.YtnagdljgeglceaaGreat
open Go.RowKit

def tilesN (vs : List Int) (t : Int) (l : List Int) : Nat → Option Nat
 | 0 => some 0
 | q + 1 => match tilesN vs t l q with
  | none => none
  | some n => if l[n]? = some (q : Int) then some (n + 1) else if gv vs t (q : Int) 0 = 0 then some n else none
def tilesF (vs : List Int) (t p : Int) : Bool := (startsF (fun q => gv vs t q 0) p).2 && (tilesN vs t (startsF (fun q => gv vs t q 0) p).1 p.toNat).isSome
theorem tilesN_no {vs : List Int} {t : Int} {l : List Int} {k N : Nat} (hk : k ≤ N) (h : tilesN vs t l k = none) : tilesN vs t l N = none := by
 induction N with
 | zero => obtain rfl : k = 0 := by omega
           exact h
 | succ N ih =>
  by_cases e : k = N + 1
  ·subst e; exact h
  ·unfold tilesN; rw [ih (by omega)]

theorem startsL_mem {g : Int → Int} {p : Int} : ∀ (f : Nat) (a : Int) (out : List Int), 0 ≤ a → (∀ x ∈ out, 0 ≤ x ∧ x < p) → (∀ x ∈ (startsL g p f a out).1, 0 ≤ x ∧ x < p) ∧ (out ≠ [] → (startsL g p f a out).2 = true → (startsL g p f a out).1 ≠ []) ∧ ((out.length : Int) ≤ a → (out.length : Int) ≤ p → ((startsL g p f a out).1.length : Int) ≤ p) := by
 intro f
 induction f with
 | zero => intro a out _ h; exact ⟨h, fun h _ => h, fun _ h => h⟩
 | succ f ih =>
  intro a out ha h
  unfold startsL
  by_cases h1 : a < p
  ·rw [if_pos h1]
   by_cases h2 : okI (g a) = false ∨ iK (g a) = 0
   ·rw [if_pos h2]
    exact ⟨by simp, by simp, by simp; omega⟩
   ·rw [if_neg h2]
    have b := inf_bd (g a)
    have h3 : 1 ≤ iL (g a) := (b.2.2.2.2.2.2.1 (fun e => h2 (Or.inr e))).2
    obtain ⟨i1, i2, i3⟩ := ih (a + iL (g a)) (out ++ [a]) (by omega) (by
     intro x hx
     simp at hx
     rcases hx with hx | rfl
     ·exact h x hx
     ·exact ⟨ha, h1⟩)
    exact ⟨i1, fun _ => i2 (by simp), fun h4 h5 => i3 (by simp; omega) (by simp; omega)⟩
  ·rw [if_neg h1]
   exact ⟨h, fun h _ => h, fun _ h => h⟩
theorem startsF_mem {g : Int → Int} {p : Int} (hp : 0 < p) : (∀ x ∈ (startsF g p).1, 0 ≤ x ∧ x < p) ∧ ((startsF g p).2 = true → (startsF g p).1 ≠ []) ∧ ((startsF g p).1.length : Int) ≤ p := by
 obtain ⟨h1, h2, h3⟩ := startsL_mem (g := g) (p := p) (p.toNat + 1) 0 [] (by omega) (by simp)
 refine ⟨h1, fun h => ?_, h3 (by simp) (by simp; omega)⟩
 unfold startsF at h ⊢
 unfold startsL at h ⊢
 rw [if_pos hp] at h ⊢
 by_cases h4 : okI (g 0) = false ∨ iK (g 0) = 0
 ·rw [if_pos h4] at h; simp at h
 ·rw [if_neg h4] at h ⊢
  have b := inf_bd (g 0)
  exact (startsL_mem _ _ _ (by omega) (by simp; omega)).2.1 (by simp) h

theorem RowP.cell {w w' : World} {l : List Int} {a : Option Addr} {m c : Nat} (h : RowP w l (.slice a m c) w') {k : Nat} (hk : k < l.length) :
 ∃ g, a = some ⟨g, 0, none⟩ ∧ w'.cell? ⟨g, k, none⟩ = some (.int .i64 (l.getD k 0)) := by
 obtain ⟨g, cap, e⟩ := Joins.ownsRow_form h.1 (by omega)
 simp only [Value.slice.injEq] at e
 obtain ⟨rfl, rfl, rfl⟩ := e
 refine ⟨g, rfl, ?_⟩
 rw [h.1.cellAt k (by omega)]
 simp [ints, hk]

theorem fieldInfo0 (x y z : Value) (w : World) : (Instr.field 73 (.agg #[x, y, z]) 0).run Tryz.prog w = .ok x w := by
 simp [Instr.field, asAgg, go_sem]
theorem fieldInfo1 (x y z : Value) (w : World) : (Instr.field 73 (.agg #[x, y, z]) 1).run Tryz.prog w = .ok y w := by
 simp [Instr.field, asAgg, go_sem]

section
variable {t p s : Int} {ad : Addr} {n c : Nat} {vs : List Int}

def TileRel (vs : List Int) (t p : Int) (l : List Int) (W0 : World) (v5 v6 : Value) (wr : World) : Prop := ∃ q m : Nat, (q : Int) ≤ p ∧ v6 = .int .i64 q ∧ v5 = .int .i64 m ∧ m ≤ q ∧ tilesN vs t l q = some m ∧ Below W0.heap.size W0 wr

set_option maxHeartbeats 1000000 in
set_option maxRecDepth 100000 in
theorem tiles_any (c : Nat) (w : World) (h : XV w t p s ad n vs) :
 Calls Tryz.prog 67 #[.agg #[.int .i64 t, .int .i64 p, .int .i64 s, .slice (some ad) n c]] w fun e w' => e = .returned (.bool (tilesF vs t p)) ∧ Below w.heap.size w w' := by
 have X0 := h.boxed c
 have bd : 4 ≤ p ∧ p ≤ 64 := by have := h.bd; omega
 have HS := Lib.hid (fun (w : World) (h : XV w t p s ad n vs) => starts_any c w h)
 have HX : ∀ q, 0 ≤ q → q < p → ∃ k : Nat, k < n ∧ (∀ w, Calls Tryz.prog 90 #[.agg #[.int .i64 t, .int .i64 p, .int .i64 s], .int .i64 q] w fun e w' => e = .returned (.int .i64 k) ∧ Below w.heap.size w w') ∧ w.cell? (ad.add k) = some (.int .u32 (gv vs t q 0)) := by
  intro q h0 h1
  obtain ⟨hx1, hx2⟩ := h.cx h0 h1 (part := 0) (by omega) (by omega)
  refine ⟨cix t q 0, hx1, fun w => ?_, h.cells _ hx1⟩
  have := rinfo_any t p s q w
  rwa [hx2] at this
 have HXX := Lib.hid HX
 have hlen := (startsF_mem (g := fun q => gv vs t q 0) (p := p) (by omega)).2.2
 have HLen := Lib.hid hlen
 generalize hr : tilesF vs t p = r
 have hr2 : ((startsF (fun q => gv vs t q 0) p).2 && (tilesN vs t (startsF (fun q => gv vs t q 0) p).1 p.toNat).isSome) = r := hr
 have HR := Lib.hid hr2
 clear h hr hr2 HX hlen
 generalize startsF (fun q => gv vs t q 0) p = st at *
 obtain ⟨l, lb⟩ := st
 go_enter Tryz.func67, Tryz.ntmps67
 go_wp2_with fail
 refine (HS.out _ X0.xv).mono ?_
 rintro e w1 ⟨lv, rfl, hlv⟩
 have X1 := X0.keep hlv.2.2
 obtain ⟨la, lc, rfl⟩ := hlv.row
 have HL := Lib.hid hlv
 clear hlv X0
 cases lb
 ·have hres : r = false := by rw [← HR.out]; rfl
  subst hres
  go_wp2
  go_ret
  exact ⟨rfl, X1.bel⟩
 ·have hr3 : (tilesN vs t l p.toNat).isSome = r := by rw [← HR.out]; rfl
  have HR3 := Lib.hid hr3
  obtain ⟨x0, x1, x2, x3⟩ := X1.cells
  clear HR hr3
  go_wp2_with fail
  go_loopw [5, 6] (fun v5 v6 wr => TileRel vs t p l w1 v5 v6 wr) (fun _ v6 _ => p.toNat - (intOf v6).toNat)
  case atStart => exact ⟨0, 0, by omega, rfl, rfl, by omega, rfl, Below.refl _ _⟩
  case round =>
   obtain ⟨q, m, hq, rfl, rfl, hmq, htn, hbq⟩ := hrel
   have X3 := X1.keep hbq
   have HT := Lib.hid htn
   have HB := Lib.hid hbq
   clear htn hbq x0 x1 x2 x3
   obtain ⟨x0, x1, x2, x3⟩ := X3.cells
   have HLen2 := HLen.out
   by_cases hqp : (q : Int) < p
   ·have hstep : tilesN vs t l (q + 1) = if l[m]? = some (q : Int) then some (m + 1) else if gv vs t (q : Int) 0 = 0 then some m else none := by
     show (match tilesN vs t l q with
      | none => none
      | some n => if l[n]? = some (q : Int) then some (n + 1) else if gv vs t (q : Int) 0 = 0 then some n else none) = _
     rw [HT.out]
    by_cases hl : m < l.length
    ·obtain ⟨g, rfl, hc0⟩ := HL.out.cell hl
     have hc1 := (HB.out.cell (World.block_lt_of_cell? _ _ hc0)).trans hc0
     have hget : l[m]? = some (l.getD m 0) := by simp [hl]
     rw [hget] at hstep
     generalize l.getD m 0 = y at *
     by_cases hy : y = (q : Int)
     ·have hb : (y == (q : Int)) = true := by simp [hy]
      rw [if_pos (by rw [hy])] at hstep
      have HS2 := Lib.hid hstep
      clear hstep hget hy hc0
      go_wp2_with fail
      go_roundw
      case rel => exact ⟨q + 1, m + 1, by omega, by go_num, by go_num, by omega, HS2.out, HB.out⟩
      case measure => simp [intOf]; omega
     ·have hb : (y == (q : Int)) = false := by simp [hy]
      rw [if_neg (by simpa using hy)] at hstep
      obtain ⟨k, hkn, hI, hd0⟩ := HXX.out q (by omega) hqp
      have hd1 := X3.xv.cells
      have hd2 := (BS.mk X3.bel (by simp) : BS w [] wr).old hd0
      have HI := Lib.hid hI
      have HBox := Lib.hid X3.box
      have hxl := X3.lt
      clear hget hy hc0 hI hd0 hd1
      generalize gv vs t (q : Int) 0 = u at *
      by_cases hu : u = 0
      ·have hub : (u != 0) = false := by simp [hu]
       rw [if_pos hu] at hstep
       have HS2 := Lib.hid hstep
       clear hstep hu
       go_wp2_with fail
       refine wp_region_noPanic ?_
       refine wp_region_held_drew (S := fun w' => BS wr ([] : List Nat) w' ∧ (∀ o : Nat, w'.cell? ⟨w.heap.size, o, none⟩ = (#[.int .i64 t, .int .i64 p, .int .i64 s, .slice (some ad) n c] : Array Value)[o]?) ∧ w'.cell? (ad.add k) = some (.int .u32 u)) (by kernel_rfl) ?_ (fun hHeld => ?_)
       ·exact ⟨(BS.start wr).drew, HBox.out, hd2⟩
       refine wpAnyH_take (i := 0) (oi := _) (v := ?_) rfl (by kernel_rfl) (by kernel_rfl) (by kernel_rfl) (fun _ _ _ h => h) (Or.inl ⟨by rfl, ?_⟩) (by assumption) ?_
       rotate_left
       ·intro w hSw; (try dsimp only at hSw); go_simp; try with_reducible rfl
       try simp only [Act.put, zA, zB, zD, zE, zF]
       refine wpAnyH_take (i := 1) (oi := _) (v := ?_) rfl (by kernel_rfl) (by kernel_rfl) (by kernel_rfl) (fun _ _ _ h => h) (Or.inl ⟨by rfl, ?_⟩) (by assumption) ?_
       rotate_left
       ·intro w hSw; (try dsimp only at hSw); go_simp; try with_reducible rfl
       try simp only [Act.put, zA, zB, zC, zD, zE, zF]
       refine wpAnyH_take (i := 2) (oi := _) (v := ?_) rfl (by kernel_rfl) (by kernel_rfl) (by kernel_rfl) (fun _ _ _ h => h) (Or.inl ⟨by rfl, ?_⟩) (by assumption) ?_
       rotate_left
       ·intro w hSw; (try dsimp only at hSw); go_simp; try with_reducible rfl
       try simp only [Act.put, zA, zB, zC, zD, zE, zF]
       refine wpAnyH_take (i := 3) (oi := _) (v := ?_) rfl (by kernel_rfl) (by kernel_rfl) (by kernel_rfl) (fun _ _ _ h => h) (Or.inl ⟨by rfl, ?_⟩) (by assumption) ?_
       rotate_left
       ·intro w hSw; (try dsimp only at hSw); go_simp; try with_reducible rfl
       try simp only [Act.put, zA, zB, zC, zD, zE, zF]
       refine wpAnyH_take (i := 4) (oi := _) (v := ?_) rfl (by kernel_rfl) (by kernel_rfl) (by kernel_rfl) (fun _ _ _ h => h) (Or.inl ⟨by rfl, ?_⟩) (by assumption) ?_
       rotate_left
       ·intro w hSw; (try dsimp only at hSw); go_simp; try with_reducible rfl
       try simp only [Act.put, zA, zB, zC, zD, zE, zF]
       refine wpAnyH_ready (rs := [5]) (by kernel_rfl) (by simp) ?_
       refine AllReadyH.cons (o := _) rfl (fun K hK => ?_) AllReadyH.nil
       go_simp
       refine (calls_b hHeld.1 (HI.out _)).mono ?_
       rintro e wr1 ⟨rfl, hV, hVl⟩
       dsimp only
       refine hK.out _ _ ?_ (fun hHeld2 => ?_)
       ·exact ⟨hV, hV.oldbox HBox.out hxl, hV.old hd2⟩
       clear hK K hV hVl hHeld
       have hHeld := hHeld2
       clear hHeld2
       try simp only [Act.put, zA, zB, zC, zD, zE, zF]
       refine wpAnyH_take (i := 6) (oi := _) (v := ?_) rfl (by kernel_rfl) (by kernel_rfl) (by kernel_rfl) (fun _ _ _ h => h) (Or.inl ⟨by rfl, ?_⟩) (by assumption) ?_
       rotate_left
       ·intro w hSw; (try dsimp only at hSw); go_simp; try with_reducible rfl
       try simp only [Act.put, zA, zB, zC, zD, zE, zF]
       refine wpAnyH_take (i := 7) (oi := _) (v := ?_) rfl (by kernel_rfl) (by kernel_rfl) (by kernel_rfl) (fun _ _ _ h => h) (Or.inl ⟨by rfl, ?_⟩) (by assumption) ?_
       rotate_left
       ·intro w hSw; (try dsimp only at hSw); go_simp; try with_reducible rfl
       try simp only [Act.put, zA, zB, zC, zD, zE, zF]
       refine wpAnyH_take (i := 8) (oi := _) (v := ?_) rfl (by kernel_rfl) (by kernel_rfl) (by kernel_rfl) (fun _ _ _ h => h) (Or.inl ⟨by rfl, ?_⟩) (by assumption) ?_
       rotate_left
       ·intro w hSw; (try dsimp only at hSw); go_simp; try with_reducible rfl
       try simp only [Act.put, zA, zB, zC, zD, zE, zF]
       refine wpAnyH_done (by kernel_rfl) ?_ _
       refine NoPanic.normal ?_
       refine world_gen ?_
       intro wz hwz
       rw [← hwz] at hHeld
       clear hwz
       have hbz := HB.out.trans (hHeld.1.bel.mono HB.out.size)
       clear hHeld
       go_wp2_with fail
       go_roundw
       case rel => exact ⟨q + 1, m, by omega, by go_num, rfl, by omega, HS2.out, hbz⟩
       case measure => simp [intOf]; omega
      ·have hub : (u != 0) = true := by simp [hu]
       rw [if_neg hu] at hstep
       have hres : r = false := by rw [← HR3.out, tilesN_no (k := q + 1) (by omega) hstep]; rfl
       subst hres
       clear hstep hu
       go_wp2_with fail
       refine wp_region_noPanic ?_
       refine wp_region_held_drew (S := fun w' => BS wr ([] : List Nat) w' ∧ (∀ o : Nat, w'.cell? ⟨w.heap.size, o, none⟩ = (#[.int .i64 t, .int .i64 p, .int .i64 s, .slice (some ad) n c] : Array Value)[o]?) ∧ w'.cell? (ad.add k) = some (.int .u32 u)) (by kernel_rfl) ?_ (fun hHeld => ?_)
       ·exact ⟨(BS.start wr).drew, HBox.out, hd2⟩
       refine wpAnyH_take (i := 0) (oi := _) (v := ?_) rfl (by kernel_rfl) (by kernel_rfl) (by kernel_rfl) (fun _ _ _ h => h) (Or.inl ⟨by rfl, ?_⟩) (by assumption) ?_
       rotate_left
       ·intro w hSw; (try dsimp only at hSw); go_simp; try with_reducible rfl
       try simp only [Act.put, zA, zB, zD, zE, zF]
       refine wpAnyH_take (i := 1) (oi := _) (v := ?_) rfl (by kernel_rfl) (by kernel_rfl) (by kernel_rfl) (fun _ _ _ h => h) (Or.inl ⟨by rfl, ?_⟩) (by assumption) ?_
       rotate_left
       ·intro w hSw; (try dsimp only at hSw); go_simp; try with_reducible rfl
       try simp only [Act.put, zA, zB, zC, zD, zE, zF]
       refine wpAnyH_take (i := 2) (oi := _) (v := ?_) rfl (by kernel_rfl) (by kernel_rfl) (by kernel_rfl) (fun _ _ _ h => h) (Or.inl ⟨by rfl, ?_⟩) (by assumption) ?_
       rotate_left
       ·intro w hSw; (try dsimp only at hSw); go_simp; try with_reducible rfl
       try simp only [Act.put, zA, zB, zC, zD, zE, zF]
       refine wpAnyH_take (i := 3) (oi := _) (v := ?_) rfl (by kernel_rfl) (by kernel_rfl) (by kernel_rfl) (fun _ _ _ h => h) (Or.inl ⟨by rfl, ?_⟩) (by assumption) ?_
       rotate_left
       ·intro w hSw; (try dsimp only at hSw); go_simp; try with_reducible rfl
       try simp only [Act.put, zA, zB, zC, zD, zE, zF]
       refine wpAnyH_take (i := 4) (oi := _) (v := ?_) rfl (by kernel_rfl) (by kernel_rfl) (by kernel_rfl) (fun _ _ _ h => h) (Or.inl ⟨by rfl, ?_⟩) (by assumption) ?_
       rotate_left
       ·intro w hSw; (try dsimp only at hSw); go_simp; try with_reducible rfl
       try simp only [Act.put, zA, zB, zC, zD, zE, zF]
       refine wpAnyH_ready (rs := [5]) (by kernel_rfl) (by simp) ?_
       refine AllReadyH.cons (o := _) rfl (fun K hK => ?_) AllReadyH.nil
       go_simp
       refine (calls_b hHeld.1 (HI.out _)).mono ?_
       rintro e wr1 ⟨rfl, hV, hVl⟩
       dsimp only
       refine hK.out _ _ ?_ (fun hHeld2 => ?_)
       ·exact ⟨hV, hV.oldbox HBox.out hxl, hV.old hd2⟩
       clear hK K hV hVl hHeld
       have hHeld := hHeld2
       clear hHeld2
       try simp only [Act.put, zA, zB, zC, zD, zE, zF]
       refine wpAnyH_take (i := 6) (oi := _) (v := ?_) rfl (by kernel_rfl) (by kernel_rfl) (by kernel_rfl) (fun _ _ _ h => h) (Or.inl ⟨by rfl, ?_⟩) (by assumption) ?_
       rotate_left
       ·intro w hSw; (try dsimp only at hSw); go_simp; try with_reducible rfl
       try simp only [Act.put, zA, zB, zC, zD, zE, zF]
       refine wpAnyH_take (i := 7) (oi := _) (v := ?_) rfl (by kernel_rfl) (by kernel_rfl) (by kernel_rfl) (fun _ _ _ h => h) (Or.inl ⟨by rfl, ?_⟩) (by assumption) ?_
       rotate_left
       ·intro w hSw; (try dsimp only at hSw); go_simp; try with_reducible rfl
       try simp only [Act.put, zA, zB, zC, zD, zE, zF]
       refine wpAnyH_take (i := 8) (oi := _) (v := ?_) rfl (by kernel_rfl) (by kernel_rfl) (by kernel_rfl) (fun _ _ _ h => h) (Or.inl ⟨by rfl, ?_⟩) (by assumption) ?_
       rotate_left
       ·intro w hSw; (try dsimp only at hSw); go_simp; try with_reducible rfl
       try simp only [Act.put, zA, zB, zC, zD, zE, zF]
       refine wpAnyH_done (by kernel_rfl) ?_ _
       refine NoPanic.normal ?_
       refine world_gen ?_
       intro wz hwz
       rw [← hwz] at hHeld
       clear hwz
       have hbz := X3.keep hHeld.1.bel
       clear hHeld
       go_wp2
       go_ret
       exact ⟨rfl, hbz.bel⟩
    ·have hgn : l[m]? = none := List.getElem?_eq_none (by omega)
     rw [hgn, if_neg (by simp)] at hstep
     obtain ⟨k, hkn, hI, hd0⟩ := HXX.out q (by omega) hqp
     have hd2 := (BS.mk X3.bel (by simp) : BS w [] wr).old hd0
     have HI := Lib.hid hI
     have HBox := Lib.hid X3.box
     have hxl := X3.lt
     clear hI hd0
     generalize gv vs t (q : Int) 0 = u at *
     by_cases hu : u = 0
     ·have hub : (u != 0) = false := by simp [hu]
      rw [if_pos hu] at hstep
      have HS2 := Lib.hid hstep
      clear hstep hu
      go_wp2_with fail
      refine wp_region_noPanic ?_
      refine wp_region_held_drew (S := fun w' => BS wr ([] : List Nat) w' ∧ (∀ o : Nat, w'.cell? ⟨w.heap.size, o, none⟩ = (#[.int .i64 t, .int .i64 p, .int .i64 s, .slice (some ad) n c] : Array Value)[o]?) ∧ w'.cell? (ad.add k) = some (.int .u32 u)) (by kernel_rfl) ?_ (fun hHeld => ?_)
      ·exact ⟨(BS.start wr).drew, HBox.out, hd2⟩
      refine wpAnyH_take (i := 0) (oi := _) (v := ?_) rfl (by kernel_rfl) (by kernel_rfl) (by kernel_rfl) (fun _ _ _ h => h) (Or.inl ⟨by rfl, ?_⟩) (by assumption) ?_
      rotate_left
      ·intro w hSw; (try dsimp only at hSw); go_simp; try with_reducible rfl
      try simp only [Act.put, zA, zB, zD, zE, zF]
      refine wpAnyH_take (i := 1) (oi := _) (v := ?_) rfl (by kernel_rfl) (by kernel_rfl) (by kernel_rfl) (fun _ _ _ h => h) (Or.inl ⟨by rfl, ?_⟩) (by assumption) ?_
      rotate_left
      ·intro w hSw; (try dsimp only at hSw); go_simp; try with_reducible rfl
      try simp only [Act.put, zA, zB, zC, zD, zE, zF]
      refine wpAnyH_take (i := 2) (oi := _) (v := ?_) rfl (by kernel_rfl) (by kernel_rfl) (by kernel_rfl) (fun _ _ _ h => h) (Or.inl ⟨by rfl, ?_⟩) (by assumption) ?_
      rotate_left
      ·intro w hSw; (try dsimp only at hSw); go_simp; try with_reducible rfl
      try simp only [Act.put, zA, zB, zC, zD, zE, zF]
      refine wpAnyH_take (i := 3) (oi := _) (v := ?_) rfl (by kernel_rfl) (by kernel_rfl) (by kernel_rfl) (fun _ _ _ h => h) (Or.inl ⟨by rfl, ?_⟩) (by assumption) ?_
      rotate_left
      ·intro w hSw; (try dsimp only at hSw); go_simp; try with_reducible rfl
      try simp only [Act.put, zA, zB, zC, zD, zE, zF]
      refine wpAnyH_take (i := 4) (oi := _) (v := ?_) rfl (by kernel_rfl) (by kernel_rfl) (by kernel_rfl) (fun _ _ _ h => h) (Or.inl ⟨by rfl, ?_⟩) (by assumption) ?_
      rotate_left
      ·intro w hSw; (try dsimp only at hSw); go_simp; try with_reducible rfl
      try simp only [Act.put, zA, zB, zC, zD, zE, zF]
      refine wpAnyH_ready (rs := [5]) (by kernel_rfl) (by simp) ?_
      refine AllReadyH.cons (o := _) rfl (fun K hK => ?_) AllReadyH.nil
      go_simp
      refine (calls_b hHeld.1 (HI.out _)).mono ?_
      rintro e wr1 ⟨rfl, hV, hVl⟩
      dsimp only
      refine hK.out _ _ ?_ (fun hHeld2 => ?_)
      ·exact ⟨hV, hV.oldbox HBox.out hxl, hV.old hd2⟩
      clear hK K hV hVl hHeld
      have hHeld := hHeld2
      clear hHeld2
      try simp only [Act.put, zA, zB, zC, zD, zE, zF]
      refine wpAnyH_take (i := 6) (oi := _) (v := ?_) rfl (by kernel_rfl) (by kernel_rfl) (by kernel_rfl) (fun _ _ _ h => h) (Or.inl ⟨by rfl, ?_⟩) (by assumption) ?_
      rotate_left
      ·intro w hSw; (try dsimp only at hSw); go_simp; try with_reducible rfl
      try simp only [Act.put, zA, zB, zC, zD, zE, zF]
      refine wpAnyH_take (i := 7) (oi := _) (v := ?_) rfl (by kernel_rfl) (by kernel_rfl) (by kernel_rfl) (fun _ _ _ h => h) (Or.inl ⟨by rfl, ?_⟩) (by assumption) ?_
      rotate_left
      ·intro w hSw; (try dsimp only at hSw); go_simp; try with_reducible rfl
      try simp only [Act.put, zA, zB, zC, zD, zE, zF]
      refine wpAnyH_take (i := 8) (oi := _) (v := ?_) rfl (by kernel_rfl) (by kernel_rfl) (by kernel_rfl) (fun _ _ _ h => h) (Or.inl ⟨by rfl, ?_⟩) (by assumption) ?_
      rotate_left
      ·intro w hSw; (try dsimp only at hSw); go_simp; try with_reducible rfl
      try simp only [Act.put, zA, zB, zC, zD, zE, zF]
      refine wpAnyH_done (by kernel_rfl) ?_ _
      refine NoPanic.normal ?_
      refine world_gen ?_
      intro wz hwz
      rw [← hwz] at hHeld
      clear hwz
      have hbz := HB.out.trans (hHeld.1.bel.mono HB.out.size)
      clear hHeld
      go_wp2_with fail
      go_roundw
      case rel => exact ⟨q + 1, m, by omega, by go_num, rfl, by omega, HS2.out, hbz⟩
      case measure => simp [intOf]; omega
     ·have hub : (u != 0) = true := by simp [hu]
      rw [if_neg hu] at hstep
      have hres : r = false := by rw [← HR3.out, tilesN_no (k := q + 1) (by omega) hstep]; rfl
      subst hres
      clear hstep hu
      go_wp2_with fail
      refine wp_region_noPanic ?_
      refine wp_region_held_drew (S := fun w' => BS wr ([] : List Nat) w' ∧ (∀ o : Nat, w'.cell? ⟨w.heap.size, o, none⟩ = (#[.int .i64 t, .int .i64 p, .int .i64 s, .slice (some ad) n c] : Array Value)[o]?) ∧ w'.cell? (ad.add k) = some (.int .u32 u)) (by kernel_rfl) ?_ (fun hHeld => ?_)
      ·exact ⟨(BS.start wr).drew, HBox.out, hd2⟩
      refine wpAnyH_take (i := 0) (oi := _) (v := ?_) rfl (by kernel_rfl) (by kernel_rfl) (by kernel_rfl) (fun _ _ _ h => h) (Or.inl ⟨by rfl, ?_⟩) (by assumption) ?_
      rotate_left
      ·intro w hSw; (try dsimp only at hSw); go_simp; try with_reducible rfl
      try simp only [Act.put, zA, zB, zD, zE, zF]
      refine wpAnyH_take (i := 1) (oi := _) (v := ?_) rfl (by kernel_rfl) (by kernel_rfl) (by kernel_rfl) (fun _ _ _ h => h) (Or.inl ⟨by rfl, ?_⟩) (by assumption) ?_
      rotate_left
      ·intro w hSw; (try dsimp only at hSw); go_simp; try with_reducible rfl
      try simp only [Act.put, zA, zB, zC, zD, zE, zF]
      refine wpAnyH_take (i := 2) (oi := _) (v := ?_) rfl (by kernel_rfl) (by kernel_rfl) (by kernel_rfl) (fun _ _ _ h => h) (Or.inl ⟨by rfl, ?_⟩) (by assumption) ?_
      rotate_left
      ·intro w hSw; (try dsimp only at hSw); go_simp; try with_reducible rfl
      try simp only [Act.put, zA, zB, zC, zD, zE, zF]
      refine wpAnyH_take (i := 3) (oi := _) (v := ?_) rfl (by kernel_rfl) (by kernel_rfl) (by kernel_rfl) (fun _ _ _ h => h) (Or.inl ⟨by rfl, ?_⟩) (by assumption) ?_
      rotate_left
      ·intro w hSw; (try dsimp only at hSw); go_simp; try with_reducible rfl
      try simp only [Act.put, zA, zB, zC, zD, zE, zF]
      refine wpAnyH_take (i := 4) (oi := _) (v := ?_) rfl (by kernel_rfl) (by kernel_rfl) (by kernel_rfl) (fun _ _ _ h => h) (Or.inl ⟨by rfl, ?_⟩) (by assumption) ?_
      rotate_left
      ·intro w hSw; (try dsimp only at hSw); go_simp; try with_reducible rfl
      try simp only [Act.put, zA, zB, zC, zD, zE, zF]
      refine wpAnyH_ready (rs := [5]) (by kernel_rfl) (by simp) ?_
      refine AllReadyH.cons (o := _) rfl (fun K hK => ?_) AllReadyH.nil
      go_simp
      refine (calls_b hHeld.1 (HI.out _)).mono ?_
      rintro e wr1 ⟨rfl, hV, hVl⟩
      dsimp only
      refine hK.out _ _ ?_ (fun hHeld2 => ?_)
      ·exact ⟨hV, hV.oldbox HBox.out hxl, hV.old hd2⟩
      clear hK K hV hVl hHeld
      have hHeld := hHeld2
      clear hHeld2
      try simp only [Act.put, zA, zB, zC, zD, zE, zF]
      refine wpAnyH_take (i := 6) (oi := _) (v := ?_) rfl (by kernel_rfl) (by kernel_rfl) (by kernel_rfl) (fun _ _ _ h => h) (Or.inl ⟨by rfl, ?_⟩) (by assumption) ?_
      rotate_left
      ·intro w hSw; (try dsimp only at hSw); go_simp; try with_reducible rfl
      try simp only [Act.put, zA, zB, zC, zD, zE, zF]
      refine wpAnyH_take (i := 7) (oi := _) (v := ?_) rfl (by kernel_rfl) (by kernel_rfl) (by kernel_rfl) (fun _ _ _ h => h) (Or.inl ⟨by rfl, ?_⟩) (by assumption) ?_
      rotate_left
      ·intro w hSw; (try dsimp only at hSw); go_simp; try with_reducible rfl
      try simp only [Act.put, zA, zB, zC, zD, zE, zF]
      refine wpAnyH_take (i := 8) (oi := _) (v := ?_) rfl (by kernel_rfl) (by kernel_rfl) (by kernel_rfl) (fun _ _ _ h => h) (Or.inl ⟨by rfl, ?_⟩) (by assumption) ?_
      rotate_left
      ·intro w hSw; (try dsimp only at hSw); go_simp; try with_reducible rfl
      try simp only [Act.put, zA, zB, zC, zD, zE, zF]
      refine wpAnyH_done (by kernel_rfl) ?_ _
      refine NoPanic.normal ?_
      refine world_gen ?_
      intro wz hwz
      rw [← hwz] at hHeld
      clear hwz
      have hbz := X3.keep hHeld.1.bel
      clear hHeld
      go_wp2
      go_ret
      exact ⟨rfl, hbz.bel⟩
   ·obtain rfl : q = p.toNat := by omega
    have hres : r = true := by rw [← HR3.out, HT.out]; rfl
    subst hres
    go_wp2
    go_ret
    exact ⟨rfl, X3.bel⟩

end
end Go.Proofs.YtnagdljgeglceaaGreat
