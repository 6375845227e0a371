/- parts of the proof, merged by a program. -/
import Derived.Deep.RegionHeld3
import Derived.ProofKit
import Derived.WalkKit
import Derived.WalkSpells
import Derived.WalkLawsBesides
import Derived.Lib.Hide
import Derived.Test.YtcbikgafdclhaaaGreatRows
import Derived.Laws.BitsLemmas
import Derived.Laws.Bits64b
import Derived.Maps.OwnOps
import Derived.Lib.SmallJoins
import Derived.Deep.AppendLies
import Derived.Deep.RegionLaw
import Derived.OpenShut
import Derived.Deep.Slices
set_option linter.unusedSimpArgs false
set_option linter.unusedVariables false
namespace Go.Proofs.YtcbikgafdclhaaaGreat
open Go
theorem zA {α : Type _} {xs : List α} {i : Nat} (h : i < xs.toArray.size) : xs.toArray[i] = xs[i]'(by simpa using h) := rfl
theorem zB {α : Type _} (a : α) (bs : List α) (h : 0 < (a :: bs).length) : (a :: bs)[0] = a := rfl
theorem zC {α : Type _} (a : α) (bs : List α) (i : Nat) (h : i + 1 < (a :: bs).length) : (a :: bs)[i + 1] = bs[i]'(Nat.lt_of_succ_lt_succ h) := rfl
theorem zD {α : Type _} (l : List α) (i : Nat) (a : α) : l.toArray.setIfInBounds i a = (l.set i a).toArray := List.setIfInBounds_toArray l i a
theorem zE {α : Type _} {x : α} {xs : List α} {a : α} : (x :: xs).set 0 a = a :: xs := rfl
theorem zF {α : Type _} {x : α} {xs : List α} {i : Nat} {a : α} : (x :: xs).set (i + 1) a = x :: xs.set i a := rfl
section
variable {P : Program} {md : Region.Mode} {ops : Array Oper} {Q : Exit → Act → World → Prop} {S : World → Prop}
theorem wT (i : Nat) {oi : Oper} {v : Value} {fuel : Nat} {listed : Array Bool} {a a2 : Act} {w : World} (h : wpAnyH P md ops Q S fuel (listed.setIfInBounds i true) a2 w)
 (hi : ops[i]? = some oi := by exact rfl)
 (hs : Region.noSelect ops = true := by kernel_rfl) (hf : Region.free md ops listed i = true := by kernel_rfl) (hr : (Region.ready md ops listed).contains i = true := by kernel_rfl)
 (hQ : ∀ c a w, Q (.panic c) (a.put oi.dst v) w → Q (.panic c) a w := by exact fun _ _ _ h => h) (hg : Region.wanted oi (yielded ops a.tmps) = true := by rfl)
 (hy : ∀ w, S w → (execOp a.eval oi).run P w = .ok (.value v) w := by intro w hSw; (try dsimp only at hSw); go_simp; try with_reducible rfl) (hS : S w := by assumption)
 (hp : a.put oi.dst v = a2 := by first | (simp only [Act.put, zA, zB, zC, zD, zE, zF]; with_reducible rfl) | with_reducible rfl) : wpAnyH P md ops Q S (fuel + 1) listed a w :=
 wpAnyH_take hi hs hf hr hQ (Or.inl ⟨hg, hy⟩) hS (hp ▸ h)
theorem wU (i : Nat) {oi : Oper} {fuel : Nat} {listed : Array Bool} {a a2 : Act} {w : World} (h : wpAnyH P md ops Q S fuel (listed.setIfInBounds i true) a2 w)
 (hi : ops[i]? = some oi := by exact rfl)
 (hs : Region.noSelect ops = true := by kernel_rfl) (hf : Region.free md ops listed i = true := by kernel_rfl) (hr : (Region.ready md ops listed).contains i = true := by kernel_rfl)
 (hQ : ∀ c a w, Q (.panic c) (a.put oi.dst undef) w → Q (.panic c) a w := by exact fun _ _ _ h => h) (hg : Region.wanted oi (yielded ops a.tmps) = false := by rfl) (hS : S w := by assumption)
 (hp : a.put oi.dst undef = a2 := by first | (simp only [Act.put, zA, zB, zC, zD, zE, zF]; with_reducible rfl) | with_reducible rfl) : wpAnyH P md ops Q S (fuel + 1) listed a w :=
 wpAnyH_take hi hs hf hr hQ (Or.inr ⟨hg, rfl⟩) hS (hp ▸ h)
theorem wR (i : Nat) {o : Oper} {fuel : Nat} {listed : Array Bool} {a : Act} {w : World}
 (h : ∀ K' : Act → World → Prop, Shut (∀ a w, S w → (S w → wpAnyH P md ops Q S fuel (listed.setIfInBounds i true) a w) → K' a w) → if Region.wanted o (yielded ops a.tmps) = true then Oper.wp P o a w K' Q else K' (a.put o.dst undef) w)
 (ho : ops[i]? = some o := by exact rfl) (hr : Region.ready md ops listed = [i] := by kernel_rfl) : wpAnyH P md ops Q S (fuel + 1) listed a w :=
 wpAnyH_ready hr (by simp) (AllReadyH.cons ho h AllReadyH.nil)
end
end Go.Proofs.YtcbikgafdclhaaaGreat
/- small laws on worlds, for all texts of this seat. -/
set_option linter.unusedSimpArgs false
set_option linter.unusedVariables false
namespace Go.Proofs.YtcbikgafdclhaaaGreat
open Go.RowKit

theorem bcell {W w1 : World} (hb : Below W.heap.size W w1) : (∀ b o, b < W.heap.size → w1.cell? ⟨b, o, none⟩ = W.cell? ⟨b, o, none⟩) ∧ (∀ b o, b < W.heap.size → w1.frozen? ⟨b, o, none⟩ = W.frozen? ⟨b, o, none⟩) :=
 ⟨fun b o h => hb.cell (p := ⟨b, o, none⟩) h, fun b o h => hb.frozen (p := ⟨b, o, none⟩) h⟩

theorem hb_alloc (w : World) (o : Obj) (k : Nat) (h : k = w.heap.size) : (w.alloc o).heap[k]? = some o := by subst h; exact heap_alloc_new w o
theorem cell?_of_heap {w : World} {b o : Nat} {cs : Array Value} {T : TypeId} {fr : Nat × Nat} (h : w.heap[b]? = some (.cells cs T fr)) : w.cell? ⟨b, o, none⟩ = cs[o]? := by simp [World.cell?, h]

/-- what a drawn region keeps: the cells of the box b, and all below. -/
theorem keepB {W w' w0 : World} {b : Nat} {cs : Array Value} (hb : Below W.heap.size W w') (h : (∀ o : Nat, W.cell? ⟨b, o, none⟩ = cs[o]?) ∧ b < W.heap.size ∧ Below w0.heap.size w0 W) :
 (∀ o : Nat, w'.cell? ⟨b, o, none⟩ = cs[o]?) ∧ b < w'.heap.size ∧ Below w0.heap.size w0 w' :=
 ⟨fun o => (hb.cell (p := ⟨b, o, none⟩) h.2.1).trans (h.1 o), Nat.lt_of_lt_of_le h.2.1 hb.size, h.2.2.trans (hb.mono h.2.2.size)⟩
theorem wrap_in (n : Int) (h : -9223372036854775808 ≤ n ∧ n ≤ 9223372036854775807) : IntKind.i64.wrap n = n := IntWalk.i64_in _ h
theorem ret_bool {a b : Bool} (h : a = b) : Ending.returned (.bool a) = Ending.returned (.bool b) := by rw [h]
theorem ret_int {k : IntKind} {a b : Int} (h : a = b) : Ending.returned (.int k a) = Ending.returned (.int k b) := by rw [h]

end Go.Proofs.YtcbikgafdclhaaaGreat
/- conf: what Check answers of every configuration. -/
set_option linter.unusedSimpArgs false
set_option linter.unusedVariables false
namespace Go.Proofs.YtcbikgafdclhaaaGreat
open Go.RowKit

def outB (n lo hi : Int) : Bool := decide (n < lo) || decide (hi < n)

/-- conf.Check$1 on a triple. -/
theorem check1_any (n lo hi : Int) (w : World) :
 Calls Tryz.prog 129 #[.agg #[.int .i64 n, .int .i64 lo, .int .i64 hi]] w fun e w' => e = .returned (.bool (outB n lo hi)) ∧ Below w.heap.size w w' := by
 go_enter Tryz.func129, Tryz.ntmps129
 go_wp2
 all_goals
  go_ret
  have h : w.heap.size ≤ w.heap.size := Nat.le_refl _
  refine ⟨by simp [outB, *], (Below.refl _ _).alloc h _⟩

def bndCells (t p s : Int) : Array Value := #[.int .i64 t, .int .i64 1, .int .i64 16, .int .i64 p, .int .i64 4, .int .i64 1024, .int .i64 s, .int .i64 10, .int .i64 20]

theorem bounds_any (t p s : Int) (w : World) :
 Calls Tryz.prog 128 #[.agg #[.int .i64 t, .int .i64 p, .int .i64 s]] w fun e w' => e = .returned (.slice (some ⟨w.heap.size + 1, 0, none⟩) 3 3) ∧ Below w.heap.size w w' ∧ w'.heap[w.heap.size + 1]? = some (.cells (bndCells t p s) 181) ∧ w'.heap.size = w.heap.size + 2 := by
 go_enter Tryz.func128, Tryz.ntmps128
 go_wp2
 exact bodyPost_ret (v := .slice (some ⟨w.heap.size + 1, 0, none⟩) 3 3) (by simp [results, Tryz.results128, go_sem]) rfl ⟨rfl, ((Below.refl _ _).alloc (Nat.le_refl _) _).alloc (by simp) _, by rw [← World.size_alloc w (.cells #[.int .i64 t, .int .i64 p, .int .i64 s] 44)]; exact heap_alloc_new (w.alloc _) _, by simp⟩

def rightB (t p s : Int) : Bool := !(outB t 1 16 || outB p 4 1024 || outB s 10 20)

def idxOf (t p s : Int) : Int := if outB t 1 16 then 0 else if outB p 4 1024 then 1 else if outB s 10 20 then 2 else -1

def IdxRel (t p s : Int) (w : World) (i : Value) (wr : World) : Prop := ∃ k : Nat, k ≤ 3 ∧ i = .int .i64 k ∧ (0 < k → outB t 1 16 = false) ∧ (1 < k → outB p 4 1024 = false) ∧ (2 < k → outB s 10 20 = false) ∧ Below w.heap.size w wr

theorem idx_any (t p s : Int) (g : Nat) (w : World) (h : w.heap[g]? = some (.cells (bndCells t p s) 181)) :
 Calls Tryz.prog 179 #[.slice (some ⟨g, 0, none⟩) 3 3, .func (.func 129) #[] #[]] w fun e w' => e = .returned (.int .i64 (idxOf t p s)) ∧ Below w.heap.size w w' := by
 have hlt : g < w.heap.size := (Array.getElem?_eq_some_iff.1 h).1
 have hcell : ∀ wr : World, Below w.heap.size w wr → ∀ o, wr.cell? ⟨g, o, none⟩ = (bndCells t p s)[o]? := by
  intro wr hb o
  rw [hb.cell (p := ⟨g, o, none⟩) hlt]
  simp [World.cell?, h]
 go_enter Tryz.func179, Tryz.ntmps179
 go_wp2
 go_loopw [5, 8] (fun _ i wr => IdxRel t p s w i wr) (fun _ i _ => 3 - (intOf i).toNat)
 case atStart => exact ⟨0, by omega, rfl, by omega, by omega, by omega, Below.refl _ _⟩
 case round =>
  obtain ⟨k, hk, rfl, h0, h1, h2, hb⟩ := hrel
  have hc := hcell _ hb
  clear hcell
  rcases (by omega : k = 0 ∨ k = 1 ∨ k = 2 ∨ k = 3) with rfl | rfl | rfl | rfl
  ·have c0 := hc 0
   have c1 := hc 1
   have c2 := hc 2
   clear hc h0 h1 h2
   simp [bndCells] at c0 c1 c2
   cases hx : outB t 1 16
   ·go_wp2_with (go_at_call 129; refine (check1_any _ _ _ _).mono ?_; rintro e w' ⟨rfl, hb'⟩)
    go_roundw
    case rel => exact ⟨1, by omega, rfl, fun _ => hx, by omega, by omega, hb.trans (hb'.mono hb.size)⟩
    case measure => simp [intOf]
   ·go_wp2_with (go_at_call 129; refine (check1_any _ _ _ _).mono ?_; rintro e w' ⟨rfl, hb'⟩)
    go_ret
    exact ⟨by simp [idxOf, hx], hb.trans (hb'.mono hb.size)⟩
  ·have c0 := hc 3
   have c1 := hc 4
   have c2 := hc 5
   have g0 := h0 (by omega)
   clear hc h0 h1 h2
   simp [bndCells] at c0 c1 c2
   cases hx : outB p 4 1024
   ·go_wp2_with (go_at_call 129; refine (check1_any _ _ _ _).mono ?_; rintro e w' ⟨rfl, hb'⟩)
    go_roundw
    case rel => exact ⟨2, by omega, rfl, fun _ => g0, fun _ => hx, by omega, hb.trans (hb'.mono hb.size)⟩
    case measure => simp [intOf]
   ·go_wp2_with (go_at_call 129; refine (check1_any _ _ _ _).mono ?_; rintro e w' ⟨rfl, hb'⟩)
    go_ret
    exact ⟨by simp [idxOf, hx, g0], hb.trans (hb'.mono hb.size)⟩
  ·have c0 := hc 6
   have c1 := hc 7
   have c2 := hc 8
   have g0 := h0 (by omega)
   have g1 := h1 (by omega)
   clear hc h0 h1 h2
   simp [bndCells] at c0 c1 c2
   cases hx : outB s 10 20
   ·go_wp2_with (go_at_call 129; refine (check1_any _ _ _ _).mono ?_; rintro e w' ⟨rfl, hb'⟩)
    go_roundw
    case rel => exact ⟨3, by omega, rfl, fun _ => g0, fun _ => g1, fun _ => hx, hb.trans (hb'.mono hb.size)⟩
    case measure => simp [intOf]
   ·go_wp2_with (go_at_call 129; refine (check1_any _ _ _ _).mono ?_; rintro e w' ⟨rfl, hb'⟩)
    go_ret
    exact ⟨by simp [idxOf, hx, g0, g1], hb.trans (hb'.mono hb.size)⟩
  ·have g0 := h0 (by omega)
   have g1 := h1 (by omega)
   have g2 := h2 (by omega)
   clear hc h0 h1 h2
   go_wp2
   go_ret
   exact ⟨by simp [idxOf, g0, g1, g2], hb⟩

theorem contains_any (t p s : Int) (g : Nat) (w : World) (h : w.heap[g]? = some (.cells (bndCells t p s) 181)) :
 Calls Tryz.prog 127 #[.slice (some ⟨g, 0, none⟩) 3 3, .func (.func 129) #[] #[]] w fun e w' => e = .returned (.bool (!rightB t p s)) ∧ Below w.heap.size w w' := by
 have hx : decide (0 ≤ idxOf t p s) = (!rightB t p s) := by
  unfold rightB idxOf
  cases outB t 1 16 <;> cases outB p 4 1024 <;> cases outB s 10 20 <;> rfl
 have H := idx_any t p s g w h
 generalize idxOf t p s = i at hx H
 rw [← hx]
 clear hx
 have HH := Lib.hid H; clear H
 go_enter Tryz.func127, Tryz.ntmps127
 go_wp2_with (go_at_call 179; refine (HH.out).mono ?_; rintro e w' ⟨rfl, hb⟩)
 go_ret
 exact ⟨rfl, hb⟩

theorem check_right (t p s : Int) (w : World) (hr : rightB t p s = true) :
 Calls Tryz.prog 78 #[.agg #[.int .i64 t, .int .i64 p, .int .i64 s]] w fun e w' => e = .returned (.int .i64 0) ∧ Below w.heap.size w w' := by
 go_enter Tryz.func78, Tryz.ntmps78
 go_wp2_with fail
 refine (bounds_any _ _ _ _).mono ?_
 rintro e w1 ⟨rfl, hb, hg, hs⟩
 go_wp2_with fail
 refine (contains_any t p s _ _ (by rw [World.size_alloc] at hg; exact hg)).mono ?_
 rintro e w2 ⟨rfl, hb2⟩
 go_wp2
 go_ret
 exact ⟨rfl, (((Below.refl _ _).alloc (Nat.le_refl _) _).trans (hb.mono (by simp))).trans (hb2.mono (by rw [hs]; simp; omega))⟩

theorem check_wrong (t p s : Int) (w : World) (hr : rightB t p s = false) :
 Calls Tryz.prog 78 #[.agg #[.int .i64 t, .int .i64 p, .int .i64 s]] w fun e w' => e = .returned (.int .i64 1) ∧ Below w.heap.size w w' := by
 go_enter Tryz.func78, Tryz.ntmps78
 go_wp2_with fail
 refine (bounds_any _ _ _ _).mono ?_
 rintro e w1 ⟨rfl, hb, hg, hs⟩
 go_wp2_with fail
 refine (contains_any t p s _ _ (by rw [World.size_alloc] at hg; exact hg)).mono ?_
 rintro e w2 ⟨rfl, hb2⟩
 go_wp2
 go_ret
 exact ⟨rfl, (((Below.refl _ _).alloc (Nat.le_refl _) _).trans (hb.mono (by simp))).trans (hb2.mono (by rw [hs]; simp; omega))⟩

end Go.Proofs.YtcbikgafdclhaaaGreat
/- place: where cells and words lie. -/
set_option linter.unusedSimpArgs false
set_option linter.unusedVariables false
namespace Go.Proofs.YtcbikgafdclhaaaGreat
open Go.RowKit

theorem right_bd {t p s : Int} (h : rightB t p s = true) : 1 ≤ t ∧ t ≤ 16 ∧ 4 ≤ p ∧ p ≤ 1024 ∧ 10 ≤ s ∧ s ≤ 20 := by
 simp [rightB, outB] at h; omega
theorem right_mk {t p s : Int} (h : 1 ≤ t ∧ t ≤ 16 ∧ 4 ≤ p ∧ p ≤ 1024 ∧ 10 ≤ s ∧ s ≤ 20) : rightB t p s = true := by
 simp [rightB, outB]; omega

def cellsN (t p : Int) : Int := 30 + 4 * t + 6 * p
def makersN (t p : Int) : Int := (16 + cellsN t p + 7) / 8 * 8
def wordsN (t p : Int) : Int := makersN t p + 120 * (t + 1)

theorem lcells_any (t p s m : Int) (w : World) (hr : rightB t p s = true) :
 Calls Tryz.prog 99 #[.agg #[.int .i64 t, .int .i64 p, .int .i64 s, .int .i64 m]] w fun e w' => e = .returned (.int .i64 (cellsN t p)) ∧ Below w.heap.size w w' := by
 obtain ⟨b1, b2, b3, b4, b5, b6⟩ := right_bd hr
 clear hr
 go_enter Tryz.func99, Tryz.ntmps99
 go_wp2
 go_ret
 exact ⟨rfl, (Below.refl _ _).alloc (Nat.le_refl _) _⟩

theorem lwords_any (t p s m : Int) (w : World) (hr : rightB t p s = true) (hm : m = makersN t p) :
 Calls Tryz.prog 132 #[.agg #[.int .i64 t, .int .i64 p, .int .i64 s, .int .i64 m]] w fun e w' => e = .returned (.int .i64 (wordsN t p)) ∧ Below w.heap.size w w' := by
 obtain ⟨b1, b2, b3, b4, b5, b6⟩ := right_bd hr
 have hm1 : 0 ≤ m := by unfold makersN cellsN at hm; omega
 have hm2 : m ≤ 10000 := by unfold makersN cellsN at hm; omega
 have hw : wordsN t p = m + 120 * (t + 1) := by rw [hm]; rfl
 rw [hw]
 clear hr hm hw
 go_enter Tryz.func132, Tryz.ntmps132
 go_wp2
 go_ret
 exact ⟨rfl, (Below.refl _ _).alloc (Nat.le_refl _) _⟩

theorem lay_right (t p s : Int) (w : World) (hr : rightB t p s = true) :
 Calls Tryz.prog 98 #[.agg #[.int .i64 t, .int .i64 p, .int .i64 s]] w fun e w' => e = .returned (.tuple #[.agg #[.int .i64 t, .int .i64 p, .int .i64 s, .int .i64 (makersN t p)], .bool true]) ∧ Below w.heap.size w w' := by
 have hb1 : 0 ≤ cellsN t p := by have := right_bd hr; unfold cellsN; omega
 have hb2 : cellsN t p ≤ 10000 := by have := right_bd hr; unfold cellsN; omega
 have hmk : (16 + cellsN t p + 8 - 1) / 8 * 8 = makersN t p := by unfold makersN; omega
 have Hmk := Lib.hid hmk
 clear hmk
 go_enter Tryz.func98, Tryz.ntmps98
 go_wp2_with fail
 refine (check_right _ _ _ _ hr).mono ?_
 rintro e w1 ⟨rfl, ha⟩
 obtain ⟨hac, haf⟩ := bcell ha
 have haz0 : w.heap.size < w1.heap.size := by have := ha.size; first | omega | (simp at this; omega)
 have haz1 : w.heap.size + 1 < w1.heap.size := by have := ha.size; first | omega | (simp at this; omega)
 go_wp2_with fail
 refine (lcells_any _ _ _ _ _ hr).mono ?_
 rintro e w2 ⟨rfl, hb⟩
 obtain ⟨hbc, hbf⟩ := bcell hb
 have hbz0 : w1.heap.size < w2.heap.size := by have := hb.size; first | omega | (simp at this; omega)
 go_wp2
 refine bodyPost_ret (v := .tuple #[.agg #[.int .i64 t, .int .i64 p, .int .i64 s, .int .i64 ((16 + cellsN t p + 8 - 1) / 8 * 8)], .bool true]) (by simp [results, Tryz.results98, go_sem, *]) rfl ⟨by rw [Hmk.out], ?_⟩
 (repeat (first | exact Below.refl _ _ | assumption | refine Below.setCell ?_ (by first | omega | (simp; done) | (simp; omega)) _ | refine Below.alloc ?_ (by first | omega | (simp; done) | (simp; omega)) _ | refine Below.drew ?_ | refine Below.trans ?_ (Below.mono ‹Below _ _ _› (by first | omega | (simp; done) | (simp; omega)))))

theorem lay_wrong (t p s : Int) (w : World) (hr : rightB t p s = false) :
 Calls Tryz.prog 98 #[.agg #[.int .i64 t, .int .i64 p, .int .i64 s]] w fun e w' => e = .returned (.tuple #[.agg #[.int .i64 0, .int .i64 0, .int .i64 0, .int .i64 0], .bool false]) ∧ Below w.heap.size w w' := by
 go_enter Tryz.func98, Tryz.ntmps98
 go_wp2_with fail
 refine (check_wrong _ _ _ _ hr).mono ?_
 rintro e w1 ⟨rfl, ha⟩
 obtain ⟨hac, haf⟩ := bcell ha
 have haz0 : w.heap.size < w1.heap.size := by have := ha.size; first | omega | (simp at this; omega)
 have haz1 : w.heap.size + 1 < w1.heap.size := by have := ha.size; first | omega | (simp at this; omega)
 go_wp2
 refine bodyPost_ret (v := .tuple #[.agg #[.int .i64 0, .int .i64 0, .int .i64 0, .int .i64 0], .bool false]) (by simp [results, Tryz.results98, go_sem, *]) rfl ⟨rfl, ?_⟩
 (repeat (first | exact Below.refl _ _ | assumption | refine Below.setCell ?_ (by first | omega | (simp; done) | (simp; omega)) _ | refine Below.alloc ?_ (by first | omega | (simp; done) | (simp; omega)) _ | refine Below.drew ?_ | refine Below.trans ?_ (Below.mono ‹Below _ _ _› (by first | omega | (simp; done) | (simp; omega)))))

def cellsF (t p s : Int) : Int := if rightB t p s then cellsN t p else 0
def wordsF (t p s : Int) : Int := if rightB t p s then wordsN t p else 0

theorem cells_any (t p s : Int) (w : World) :
 Calls Tryz.prog 51 #[.agg #[.int .i64 t, .int .i64 p, .int .i64 s]] w fun e w' => e = .returned (.int .i64 (cellsF t p s)) ∧ Below w.heap.size w w' := by
 cases hr : rightB t p s
 ·have hF : cellsF t p s = 0 := by simp [cellsF, hr]
  rw [hF]
  go_enter Tryz.func51, Tryz.ntmps51
  go_wp2_with fail
  refine (lay_wrong _ _ _ _ hr).mono ?_
  rintro e w1 ⟨rfl, ha⟩
  obtain ⟨hac, haf⟩ := bcell ha
  have haz0 : w.heap.size < w1.heap.size := by have := ha.size; first | omega | (simp at this; omega)
  go_wp2
  go_ret
  refine ⟨rfl, ?_⟩
  (repeat (first | exact Below.refl _ _ | assumption | refine Below.setCell ?_ (by first | omega | (simp; done) | (simp; omega)) _ | refine Below.alloc ?_ (by first | omega | (simp; done) | (simp; omega)) _ | refine Below.drew ?_ | refine Below.trans ?_ (Below.mono ‹Below _ _ _› (by first | omega | (simp; done) | (simp; omega)))))
 ·have hF : cellsF t p s = cellsN t p := by simp [cellsF, hr]
  rw [hF]
  go_enter Tryz.func51, Tryz.ntmps51
  go_wp2_with fail
  refine (lay_right _ _ _ _ hr).mono ?_
  rintro e w1 ⟨rfl, ha⟩
  obtain ⟨hac, haf⟩ := bcell ha
  have haz0 : w.heap.size < w1.heap.size := by have := ha.size; first | omega | (simp at this; omega)
  go_wp2_with fail
  refine (lcells_any _ _ _ _ _ hr).mono ?_
  rintro e w2 ⟨rfl, hb⟩
  obtain ⟨hbc, hbf⟩ := bcell hb
  go_wp2
  go_ret
  refine ⟨rfl, ?_⟩
  (repeat (first | exact Below.refl _ _ | assumption | refine Below.setCell ?_ (by first | omega | (simp; done) | (simp; omega)) _ | refine Below.alloc ?_ (by first | omega | (simp; done) | (simp; omega)) _ | refine Below.drew ?_ | refine Below.trans ?_ (Below.mono ‹Below _ _ _› (by first | omega | (simp; done) | (simp; omega)))))

theorem words_any (t p s : Int) (w : World) :
 Calls Tryz.prog 80 #[.agg #[.int .i64 t, .int .i64 p, .int .i64 s]] w fun e w' => e = .returned (.int .i64 (wordsF t p s)) ∧ Below w.heap.size w w' := by
 cases hr : rightB t p s
 ·have hF : wordsF t p s = 0 := by simp [wordsF, hr]
  rw [hF]
  go_enter Tryz.func80, Tryz.ntmps80
  go_wp2_with fail
  refine (lay_wrong _ _ _ _ hr).mono ?_
  rintro e w1 ⟨rfl, ha⟩
  obtain ⟨hac, haf⟩ := bcell ha
  have haz0 : w.heap.size < w1.heap.size := by have := ha.size; first | omega | (simp at this; omega)
  go_wp2
  go_ret
  refine ⟨rfl, ?_⟩
  (repeat (first | exact Below.refl _ _ | assumption | refine Below.setCell ?_ (by first | omega | (simp; done) | (simp; omega)) _ | refine Below.alloc ?_ (by first | omega | (simp; done) | (simp; omega)) _ | refine Below.drew ?_ | refine Below.trans ?_ (Below.mono ‹Below _ _ _› (by first | omega | (simp; done) | (simp; omega)))))
 ·have hF : wordsF t p s = wordsN t p := by simp [wordsF, hr]
  rw [hF]
  go_enter Tryz.func80, Tryz.ntmps80
  go_wp2_with fail
  refine (lay_right _ _ _ _ hr).mono ?_
  rintro e w1 ⟨rfl, ha⟩
  obtain ⟨hac, haf⟩ := bcell ha
  have haz0 : w.heap.size < w1.heap.size := by have := ha.size; first | omega | (simp at this; omega)
  go_wp2_with fail
  refine (lwords_any _ _ _ _ _ hr rfl).mono ?_
  rintro e w2 ⟨rfl, hb⟩
  obtain ⟨hbc, hbf⟩ := bcell hb
  go_wp2
  go_ret
  refine ⟨rfl, ?_⟩
  (repeat (first | exact Below.refl _ _ | assumption | refine Below.setCell ?_ (by first | omega | (simp; done) | (simp; omega)) _ | refine Below.alloc ?_ (by first | omega | (simp; done) | (simp; omega)) _ | refine Below.drew ?_ | refine Below.trans ?_ (Below.mono ‹Below _ _ _› (by first | omega | (simp; done) | (simp; omega)))))

def withinF (f i m : Int) : Int := if i < 0 ∨ m ≤ i then -1 else f + i

theorem within_any (f i m : Int) (w : World) (h1 : 0 ≤ f) (h2 : f ≤ 1000000) (h3 : m ≤ 1000000) :
 Calls Tryz.prog 101 #[.int .i64 f, .int .i64 i, .int .i64 m] w fun e w' => e = .returned (.int .i64 (withinF f i m)) ∧ w = w' := by
 by_cases h4 : i < 0
 ·have hF : withinF f i m = -1 := by simp [withinF, h4]
  rw [hF]
  go_enter Tryz.func101, Tryz.ntmps101
  go_wp2
  go_ret
  exact ⟨rfl, rfl⟩
 ·by_cases h5 : m ≤ i
  ·have hF : withinF f i m = -1 := by simp [withinF, h5]
   rw [hF]
   go_enter Tryz.func101, Tryz.ntmps101
   go_wp2
   go_ret
   exact ⟨rfl, rfl⟩
  ·have hF : withinF f i m = f + i := by simp [withinF, h5, h4]
   rw [hF]
   go_enter Tryz.func101, Tryz.ntmps101
   go_wp2
   go_ret
   exact ⟨rfl, rfl⟩

def ofF (t p s q part : Int) : Int := if rightB t p s = true ∧ 0 ≤ q ∧ q < p then 30 + 4 * t + 6 * q + part else -1

theorem of_any (t p s q part : Int) (w : World) (h1 : 0 ≤ part) (h2 : part ≤ 5) :
 Calls Tryz.prog 189 #[.agg #[.int .i64 t, .int .i64 p, .int .i64 s], .int .i64 q, .int .i64 part] w fun e w' => e = .returned (.int .i64 (ofF t p s q part)) ∧ Below w.heap.size w w' := by
 cases hr : rightB t p s
 ·have hF : ofF t p s q part = -1 := by simp [ofF, hr]
  rw [hF]
  go_enter Tryz.func189, Tryz.ntmps189
  go_wp2_with fail
  refine (lay_wrong _ _ _ _ hr).mono ?_
  rintro e w1 ⟨rfl, ha⟩
  obtain ⟨hac, haf⟩ := bcell ha
  have haz0 : w.heap.size < w1.heap.size := by have := ha.size; first | omega | (simp at this; omega)
  go_wp2
  go_ret
  refine ⟨rfl, ?_⟩
  (repeat (first | exact Below.refl _ _ | assumption | refine Below.setCell ?_ (by first | omega | (simp; done) | (simp; omega)) _ | refine Below.alloc ?_ (by first | omega | (simp; done) | (simp; omega)) _ | refine Below.drew ?_ | refine Below.trans ?_ (Below.mono ‹Below _ _ _› (by first | omega | (simp; done) | (simp; omega)))))
 ·obtain ⟨b1, b2, b3, b4, b5, b6⟩ := right_bd hr
  by_cases h4 : q < 0
  ·have hF : ofF t p s q part = -1 := by simp [ofF, hr]; omega
   rw [hF]
   go_enter Tryz.func189, Tryz.ntmps189
   go_wp2_with fail
   refine (lay_right _ _ _ _ hr).mono ?_
   rintro e w1 ⟨rfl, ha⟩
   obtain ⟨hac, haf⟩ := bcell ha
   have haz0 : w.heap.size < w1.heap.size := by have := ha.size; first | omega | (simp at this; omega)
   go_wp2
   go_ret
   refine ⟨rfl, ?_⟩
   (repeat (first | exact Below.refl _ _ | assumption | refine Below.setCell ?_ (by first | omega | (simp; done) | (simp; omega)) _ | refine Below.alloc ?_ (by first | omega | (simp; done) | (simp; omega)) _ | refine Below.drew ?_ | refine Below.trans ?_ (Below.mono ‹Below _ _ _› (by first | omega | (simp; done) | (simp; omega)))))
  ·by_cases h5 : p ≤ q
   ·have hF : ofF t p s q part = -1 := by simp [ofF, hr]; omega
    rw [hF]
    go_enter Tryz.func189, Tryz.ntmps189
    go_wp2_with fail
    refine (lay_right _ _ _ _ hr).mono ?_
    rintro e w1 ⟨rfl, ha⟩
    obtain ⟨hac, haf⟩ := bcell ha
    have haz0 : w.heap.size < w1.heap.size := by have := ha.size; first | omega | (simp at this; omega)
    go_wp2
    go_ret
    refine ⟨rfl, ?_⟩
    (repeat (first | exact Below.refl _ _ | assumption | refine Below.setCell ?_ (by first | omega | (simp; done) | (simp; omega)) _ | refine Below.alloc ?_ (by first | omega | (simp; done) | (simp; omega)) _ | refine Below.drew ?_ | refine Below.trans ?_ (Below.mono ‹Below _ _ _› (by first | omega | (simp; done) | (simp; omega)))))
   ·have hF : ofF t p s q part = 30 + 4 * t + 6 * q + part := by simp [ofF, hr]; omega
    rw [hF]
    go_enter Tryz.func189, Tryz.ntmps189
    go_wp2_with fail
    refine (lay_right _ _ _ _ hr).mono ?_
    rintro e w1 ⟨rfl, ha⟩
    obtain ⟨hac, haf⟩ := bcell ha
    have haz0 : w.heap.size < w1.heap.size := by have := ha.size; first | omega | (simp at this; omega)
    go_wp2
    go_ret
    refine ⟨rfl, ?_⟩
    (repeat (first | exact Below.refl _ _ | assumption | refine Below.setCell ?_ (by first | omega | (simp; done) | (simp; omega)) _ | refine Below.alloc ?_ (by first | omega | (simp; done) | (simp; omega)) _ | refine Below.drew ?_ | refine Below.trans ?_ (Below.mono ‹Below _ _ _› (by first | omega | (simp; done) | (simp; omega)))))

end Go.Proofs.YtcbikgafdclhaaaGreat
/- words as bytes, and back: plain. -/
set_option linter.unusedSimpArgs false
set_option linter.unusedVariables false
namespace Go.Proofs.YtcbikgafdclhaaaGreat

def U64 (w : Int) : Prop := 0 ≤ w ∧ w < 18446744073709551616
def U8 (x : Int) : Prop := 0 ≤ x ∧ x < 256
def byteN (x : Int) : Nat → Int
 | 0 => x % 256
 | k + 1 => byteN (x / 256) k
/-- the first k bytes of a word. -/
def bytesK (x : Int) : Nat → List Int
 | 0 => []
 | k + 1 => x % 256 :: bytesK (x / 256) k
def bytesF (ws : List Int) : List Int := ws.flatMap fun x => bytesK x 8
def wordOf : List Int → Int
 | [] => 0
 | x :: b => wordOf b * 256 + x
def chunks : Nat → List Int → List Int
 | 0, _ => []
 | n + 1, b => wordOf (b.take 8) :: chunks n (b.drop 8)
def wordsB (b : List Int) : Option (List Int) := if b.length % 8 = 0 ∧ b.length / 8 ≤ 65536 then some (chunks (b.length / 8) b) else none

theorem bytesK_len (x : Int) (k : Nat) : (bytesK x k).length = k := by
 induction k generalizing x with
 | zero => rfl
 | succ k ih => simp [bytesK, ih]
theorem bytesK_u8 (x : Int) (k : Nat) : ∀ b ∈ bytesK x k, U8 b := by
 induction k generalizing x with
 | zero => intro b hb; cases hb
 | succ k ih =>
  intro b hb
  rcases List.mem_cons.1 hb with rfl | hb
  ·exact ⟨Int.emod_nonneg _ (by decide), Int.emod_lt_of_pos _ (by decide)⟩
  ·exact ih _ b hb
theorem bytesK_get (x : Int) (k j : Nat) (h : j < k) : (bytesK x k)[j]? = some (byteN x j) := by
 induction k generalizing x j with
 | zero => omega
 | succ k ih =>
  cases j with
  | zero => rfl
  | succ j => simpa [bytesK, byteN] using ih (x / 256) j (by omega)
theorem wordOf_bytesK (x : Int) (k : Nat) (h0 : 0 ≤ x) (h : x < 256 ^ k) : wordOf (bytesK x k) = x := by
 induction k generalizing x with
 | zero => simp at h; simp [bytesK, wordOf]; omega
 | succ k ih =>
  have : x / 256 < 256 ^ k := by
   rw [Int.pow_succ] at h
   omega
  simp only [bytesK, wordOf]
  rw [ih (x / 256) (by omega) this]
  omega
theorem wordOf_bd (b : List Int) (h : ∀ x ∈ b, U8 x) : 0 ≤ wordOf b ∧ wordOf b < 256 ^ b.length := by
 induction b with
 | nil => simp [wordOf]
 | cons x b ih =>
  have hx := h x (by simp)
  unfold U8 at hx
  have := ih (fun y hy => h y (by simp [hy]))
  simp only [wordOf, List.length_cons, Int.pow_succ]
  omega
theorem bytesF_len (ws : List Int) : (bytesF ws).length = 8 * ws.length := by
 induction ws with
 | nil => rfl
 | cons x ws ih =>
  show (bytesK x 8 ++ bytesF ws).length = _
  rw [List.length_append, bytesK_len, ih, List.length_cons]; omega
theorem bytesF_u8 (ws : List Int) : ∀ b ∈ bytesF ws, U8 b := by
 intro b hb
 obtain ⟨x, -, hx⟩ := List.mem_flatMap.1 hb
 exact bytesK_u8 x 8 b hx
theorem bytesF_get (ws : List Int) (i j : Nat) (hi : i < ws.length) (hj : j < 8) : (bytesF ws)[8 * i + j]? = some (byteN (ws.getD i 0) j) := by
 induction ws generalizing i with
 | nil => simp at hi
 | cons x ws ih =>
  show (bytesK x 8 ++ bytesF ws)[8 * i + j]? = _
  cases i with
  | zero => rw [List.getElem?_append_left (by rw [bytesK_len]; omega)]; simpa using bytesK_get x 8 j hj
  | succ i =>
   rw [List.getElem?_append_right (by rw [bytesK_len]; omega), bytesK_len, show 8 * (i + 1) + j - 8 = 8 * i + j by omega, ih i (by simpa using hi)]
   simp
theorem chunks_len (n : Nat) (b : List Int) : (chunks n b).length = n := by
 induction n generalizing b with
 | zero => rfl
 | succ n ih => simp [chunks, ih]
theorem chunks_bytes (ws : List Int) (h : ∀ x ∈ ws, U64 x) : chunks ws.length (bytesF ws) = ws := by
 induction ws with
 | nil => rfl
 | cons x ws ih =>
  have hx := h x (by simp)
  show wordOf ((bytesK x 8 ++ bytesF ws).take 8) :: chunks ws.length ((bytesK x 8 ++ bytesF ws).drop 8) = _
  have e1 : (bytesK x 8 ++ bytesF ws).take 8 = bytesK x 8 := by rw [List.take_append_of_le_length (by rw [bytesK_len]; omega), List.take_of_length_le (by rw [bytesK_len]; omega)]
  have e2 : (bytesK x 8 ++ bytesF ws).drop 8 = bytesF ws := by rw [List.drop_append_of_le_length (by rw [bytesK_len]; omega), List.drop_of_length_le (by rw [bytesK_len]; omega), List.nil_append]
  rw [e1, e2, wordOf_bytesK x 8 hx.1 (by have := hx.2; simpa using this), ih (fun y hy => h y (by simp [hy]))]
theorem chunks_u64 (n : Nat) (b : List Int) (h : ∀ x ∈ b, U8 x) : ∀ w ∈ chunks n b, U64 w := by
 induction n generalizing b with
 | zero => intro w hw; cases hw
 | succ n ih =>
  intro w hw
  rcases List.mem_cons.1 hw with rfl | hw
  ·have h1 := wordOf_bd (b.take 8) (fun x hx => h x (List.mem_of_mem_take hx))
   refine ⟨h1.1, Int.lt_of_lt_of_le h1.2 ?_⟩
   have : (b.take 8).length ≤ 8 := by simp; omega
   rcases (by omega : (b.take 8).length = 0 ∨ (b.take 8).length = 1 ∨ (b.take 8).length = 2 ∨ (b.take 8).length = 3 ∨ (b.take 8).length = 4 ∨ (b.take 8).length = 5 ∨ (b.take 8).length = 6 ∨ (b.take 8).length = 7 ∨ (b.take 8).length = 8) with e | e | e | e | e | e | e | e | e <;> rw [e] <;> decide
  ·exact ih (b.drop 8) (fun x hx => h x (List.mem_of_mem_drop hx)) w hw
theorem chunks_get (n : Nat) (b : List Int) (i : Nat) (hi : i < n) : (chunks n b)[i]? = some (wordOf ((b.drop (8 * i)).take 8)) := by
 induction n generalizing b i with
 | zero => omega
 | succ n ih =>
  cases i with
  | zero => rfl
  | succ i =>
   show (chunks n (b.drop 8))[i]? = _
   rw [ih (b.drop 8) i (by omega), List.drop_drop]
   congr 4
   omega
end Go.Proofs.YtcbikgafdclhaaaGreat
/- sum: what a register is behind words; the document's sum is the same. -/
set_option linter.unusedSimpArgs false
set_option linter.unusedVariables false
namespace Go.Proofs.YtcbikgafdclhaaaGreat
open Go.RowKit

def crcS (r : Int) (b : Bool) : Int := if (decide (r % 2 = 1) != b) = true then bits .xor .u32 (r / 2) 2197175160 else r / 2
theorem bits_xor32 (a b : Int) : 0 ≤ bits .xor .u32 a b ∧ bits .xor .u32 a b < 4294967296 := by
 show 0 ≤ IntKind.u32.wrap _ ∧ IntKind.u32.wrap _ < 4294967296
 rw [IntKind.wrap_u32]
 omega
theorem crcS_bd {r : Int} (b : Bool) (h0 : 0 ≤ r) (h1 : r < 4294967296) : 0 ≤ crcS r b ∧ crcS r b < 4294967296 := by
 unfold crcS
 split
 ·exact bits_xor32 _ _
 ·omega
def crcN (r w : Int) : Nat → Int
 | 0 => r
 | k + 1 => crcS (crcN r w k) (decide (w / 2 ^ k % 2 = 1))
theorem crcN_bd {r : Int} (w : Int) (h0 : 0 ≤ r) (h1 : r < 4294967296) : ∀ k, 0 ≤ crcN r w k ∧ crcN r w k < 4294967296
 | 0 => ⟨h0, h1⟩
 | k + 1 => crcS_bd _ (crcN_bd w h0 h1 k).1 (crcN_bd w h0 h1 k).2
theorem wraps_u32 (n : Int) (h₀ : 0 ≤ n) (h₁ : n < 2 ^ 32) : IntKind.u32.wrap n = n := by rw [IntKind.wrap_u32]; omega
theorem wraps_u64 (n : Int) (h₀ : 0 ≤ n) (h₁ : n < 2 ^ 64) : IntKind.u64.wrap n = n := by rw [IntKind.wrap_u64]; omega
theorem and1_u32 {r : Int} (h0 : 0 ≤ r) (h1 : r < 4294967296) : bits .and .u32 r 1 = r % 2 := bits_mask .u32 32 (by decide) wraps_u32 1 (by decide) r h0 (by omega)
theorem and1_u64 {r : Int} (h0 : 0 ≤ r) (h1 : r < 18446744073709551616) : bits .and .u64 r 1 = r % 2 := bits_mask .u64 64 (by decide) wraps_u64 1 (by decide) r h0 (by omega)
def NextRel (r x : Int) (w : World) (a b i : Value) (wr : World) : Prop := ∃ k : Nat, k ≤ 64 ∧ i = .int .i64 k ∧ a = .int .u32 (crcN r x k) ∧ b = .int .u64 (x / 2 ^ k) ∧ Below w.heap.size w wr

theorem crcS_00 (r : Int) (h : r % 2 = 0) : crcS r (decide ((0 : Int) = 1)) = r / 2 := by simp [crcS, h]
theorem crcS_01 (r : Int) (h : r % 2 = 0) : crcS r (decide ((1 : Int) = 1)) = bits .xor .u32 (r / 2) 2197175160 := by simp [crcS, h]
theorem crcS_10 (r : Int) (h : r % 2 = 1) : crcS r (decide ((0 : Int) = 1)) = bits .xor .u32 (r / 2) 2197175160 := by simp [crcS, h]
theorem crcS_11 (r : Int) (h : r % 2 = 1) : crcS r (decide ((1 : Int) = 1)) = r / 2 := by simp [crcS, h]
theorem x00 : bits .xor .u32 0 0 = 0 := by decide
theorem x01 : bits .xor .u32 0 1 = 1 := by decide
theorem x10 : bits .xor .u32 1 0 = 1 := by decide
theorem x11 : bits .xor .u32 1 1 = 0 := by decide

def NextRelA (r x : Int) (w : World) (a i : Value) (wr : World) : Prop := ∃ k : Nat, k ≤ 32 ∧ i = .int .i64 k ∧ a = .int .u32 (crcN r x k) ∧ Below w.heap.size w wr
def NextRelB (r x : Int) (w : World) (a i : Value) (wr : World) : Prop := ∃ k : Nat, k ≤ 32 ∧ i = .int .i64 k ∧ a = .int .u32 (crcN r x (32 + k)) ∧ Below w.heap.size w wr
theorem hi_bit (x : Int) (k : Nat) : x / 4294967296 / 2 ^ k = x / 2 ^ (32 + k) := by
 rw [Int.ediv_ediv_of_nonneg (by omega), Int.pow_add]
 rfl
theorem lo_bit (x : Int) (k : Nat) (h : k < 32) : x % 4294967296 / 2 ^ k % 2 = x / 2 ^ k % 2 := by
 have e : (4294967296 : Int) = 2 ^ k * (2 * 2 ^ (31 - k)) := by
  rw [← Int.pow_succ', ← Int.pow_add, show k + (31 - k + 1) = 32 by omega]
  rfl
 have hp : (0 : Int) < 2 ^ k := Int.pow_pos (by omega)
 have hx := Int.emod_def x 4294967296
 generalize x / 4294967296 = q at hx
 rw [hx, e, show x - 2 ^ k * (2 * 2 ^ (31 - k)) * q = x + (-(2 * 2 ^ (31 - k) * q)) * 2 ^ k by rw [Int.neg_mul, Int.mul_comm (2 * 2 ^ (31 - k) * q), Int.mul_assoc (2 ^ k)]; rfl, Int.add_mul_ediv_right _ _ (by omega), Int.mul_assoc]
 generalize 2 ^ (31 - k) * q = z
 omega

theorem snext_any (r x : Int) (w : World) (h0 : 0 ≤ r) (h1 : r < 4294967296) (h2 : 0 ≤ x) (h3 : x < 18446744073709551616) :
 Calls Tryz.prog 182 #[.int .u32 r, .int .u64 x] w fun e w' => e = .returned (.int .u32 (crcN r x 64)) ∧ Below w.heap.size w w' := by
 go_enter Tryz.func182, Tryz.ntmps182
 go_wp2
 go_loopw [0, 1, 6] (fun a b i wr => NextRel r x w a b i wr) (fun _ _ i _ => 64 - (intOf i).toNat)
 case atStart => exact ⟨0, by omega, rfl, rfl, by simp, Below.refl _ _⟩
 case round =>
  obtain ⟨k, hk, rfl, rfl, rfl, hb⟩ := hrel
  by_cases hlt : k < 64
  ·obtain ⟨q0, q1⟩ := crcN_bd (r := r) x h0 h1 k
   have y0 : 0 ≤ x / 2 ^ k := Int.ediv_nonneg h2 (Int.pow_nonneg (by omega))
   have y1 : x / 2 ^ k < 18446744073709551616 := Int.lt_of_le_of_lt (Int.ediv_le_self _ h2) h3
   have hn : crcN r x (k + 1) = crcS (crcN r x k) (decide (x / 2 ^ k % 2 = 1)) := rfl
   have hd : x / 2 ^ (k + 1) = x / 2 ^ k / 2 := by rw [Int.pow_succ, Int.ediv_ediv_of_nonneg (Int.pow_nonneg (by omega))]
   generalize crcN r x k = a at *
   generalize x / 2 ^ k = y at *
   have hA := and1_u32 q0 q1
   have hB := and1_u64 y0 y1
   have HD := Lib.hid hd
   have HX := Lib.hid hb
   clear hd hb
   have p00 := x00
   have p01 := x01
   have p10 := x10
   have p11 := x11
   rcases (by omega : a % 2 = 0 ∨ a % 2 = 1) with e1 | e1 <;> rcases (by omega : y % 2 = 0 ∨ y % 2 = 1) with e2 | e2 <;> rw [e1] at hA <;> rw [e2] at hB hn
   ·have HN := Lib.hid (hn.trans (crcS_00 a e1))
    clear e1 e2 hn
    go_wp2
    go_roundw
    case rel => exact ⟨k + 1, by omega, by go_num, by rw [HN.out], by rw [HD.out], HX.out⟩
    case measure => simp [intOf]; omega
   ·have HN := Lib.hid (hn.trans (crcS_01 a e1))
    clear e1 e2 hn
    go_wp2
    go_roundw
    case rel => exact ⟨k + 1, by omega, by go_num, by rw [HN.out], by rw [HD.out], HX.out⟩
    case measure => simp [intOf]; omega
   ·have HN := Lib.hid (hn.trans (crcS_10 a e1))
    clear e1 e2 hn
    go_wp2
    go_roundw
    case rel => exact ⟨k + 1, by omega, by go_num, by rw [HN.out], by rw [HD.out], HX.out⟩
    case measure => simp [intOf]; omega
   ·have HN := Lib.hid (hn.trans (crcS_11 a e1))
    clear e1 e2 hn
    go_wp2
    go_roundw
    case rel => exact ⟨k + 1, by omega, by go_num, by rw [HN.out], by rw [HD.out], HX.out⟩
    case measure => simp [intOf]; omega
  ·obtain rfl : k = 64 := by omega
   go_wp2
   go_ret
   exact ⟨rfl, hb⟩
theorem sfirst_any (w : World) : Calls Tryz.prog 181 #[] w fun e w' => e = .returned (.int .u32 4294967295) ∧ Below w.heap.size w w' := by
 go_enter Tryz.func181, Tryz.ntmps181
 go_wp2
 go_ret
 exact ⟨rfl, Below.refl _ _⟩
theorem xor_max {r : Int} (h0 : 0 ≤ r) (h1 : r < 4294967296) : bits .xor .u32 IntKind.u32.max r = 4294967295 - r := by
 obtain ⟨a, rfl⟩ := Int.eq_ofNat_of_zero_le h0
 have ha : a < 4294967296 := by omega
 have h2 : (BitVec.ofInt 32 (a : Int)).toNat = a := by
  rw [BitVec.ofInt_natCast, BitVec.toNat_ofNat]; exact Nat.mod_eq_of_lt (by omega)
 have h3 : BitVec.ofInt 32 IntKind.u32.max = BitVec.allOnes 32 := by decide
 show IntKind.u32.wrap ((BitVec.ofInt 32 IntKind.u32.max ^^^ BitVec.ofInt 32 (a : Int)).toNat : Int) = _
 rw [h3, BitVec.allOnes_xor, BitVec.toNat_not, h2, IntKind.wrap_u32]
 omega
theorem slast_any (r : Int) (w : World) (h0 : 0 ≤ r) (h1 : r < 4294967296) : Calls Tryz.prog 183 #[.int .u32 r] w fun e w' => e = .returned (.int .u32 (4294967295 - r)) ∧ Below w.heap.size w w' := by
 have hx := xor_max h0 h1
 go_enter Tryz.func183, Tryz.ntmps183
 go_wp2
 go_ret
 exact ⟨rfl, Below.refl _ _⟩
theorem rlo_any (x : Int) (w : World) (h2 : 0 ≤ x) (h3 : x < 18446744073709551616) : Calls Tryz.prog 118 #[.int .u64 x] w fun e w' => e = .returned (.int .u32 (x % 4294967296)) ∧ Below w.heap.size w w' := by
 have hw : IntKind.u32.wrap (x % 4294967296) = x % 4294967296 := IntWalk.u32_in _ (by omega)
 go_enter Tryz.func118, Tryz.ntmps118
 go_wp2
 go_ret
 exact ⟨rfl, Below.refl _ _⟩
theorem rhi_any (x : Int) (w : World) (h2 : 0 ≤ x) (h3 : x < 18446744073709551616) : Calls Tryz.prog 114 #[.int .u64 x] w fun e w' => e = .returned (.int .u32 (x / 4294967296)) ∧ Below w.heap.size w w' := by
 have hw : IntKind.u32.wrap (x / 4294967296) = x / 4294967296 := IntWalk.u32_in _ (by omega)
 go_enter Tryz.func114, Tryz.ntmps114
 go_wp2
 go_ret
 exact ⟨rfl, Below.refl _ _⟩
theorem rbitw_any (v : Int) (i : Nat) (b : Bool) (w : World) (h : i < 32) (h1 : 0 ≤ v) (hb : decide (v / 2 ^ i % 2 = 1) = b) :
 Calls Tryz.prog 177 #[.int .u32 v, .int .i64 i] w fun e w' => e = .returned (.bool b) ∧ Below w.heap.size w w' := by
 have hd : 0 ≤ v / 2 ^ i := Int.ediv_nonneg h1 (Int.pow_nonneg (by omega))
 go_enter Tryz.func177, Tryz.ntmps177
 go_wp2
 go_ret
 exact ⟨ret_bool (by rw [← hb]; rfl), Below.refl _ _⟩
theorem rbit2_any (r : Int) (b : Bool) (w : World) (h0 : 0 ≤ r) (h1 : r < 4294967296) :
 Calls Tryz.prog 176 #[.int .u32 r, .bool b] w fun e w' => e = .returned (.int .u32 (crcS r b)) ∧ Below w.heap.size w w' := by
 cases b <;> rcases (by omega : r % 2 = 0 ∨ r % 2 = 1) with e1 | e1
 ·have HE := Lib.hid (crcS_00 r e1)
  go_enter Tryz.func176, Tryz.ntmps176
  go_wp2
  go_ret
  exact ⟨ret_int HE.out.symm, Below.refl _ _⟩
 ·have HE := Lib.hid (crcS_10 r e1)
  go_enter Tryz.func176, Tryz.ntmps176
  go_wp2
  go_ret
  exact ⟨ret_int HE.out.symm, Below.refl _ _⟩
 ·have HE := Lib.hid (crcS_01 r e1)
  go_enter Tryz.func176, Tryz.ntmps176
  go_wp2
  go_ret
  exact ⟨ret_int HE.out.symm, Below.refl _ _⟩
 ·have HE := Lib.hid (crcS_11 r e1)
  go_enter Tryz.func176, Tryz.ntmps176
  go_wp2
  go_ret
  exact ⟨ret_int HE.out.symm, Below.refl _ _⟩
theorem rnext2_any (r x : Int) (w : World) (h0 : 0 ≤ r) (h1 : r < 4294967296) (h2 : 0 ≤ x) (h3 : x < 18446744073709551616) :
 Calls Tryz.prog 121 #[.int .u32 r, .int .u64 x] w fun e w' => e = .returned (.int .u32 (crcN r x 64)) ∧ Below w.heap.size w w' := by
 have HL := Lib.hid (fun w => rlo_any x w h2 h3)
 have HH := Lib.hid (fun w => rhi_any x w h2 h3)
 have HB := Lib.hid (fun k w => rbit2_any (crcN r x k) (decide (x / 2 ^ k % 2 = 1)) w (crcN_bd x h0 h1 k).1 (crcN_bd x h0 h1 k).2)
 have HI := Lib.hid (fun (k : Nat) w (hk : k < 32) => rbitw_any (x % 4294967296) k (decide (x / 2 ^ k % 2 = 1)) w hk (by omega) (by rw [lo_bit x k hk]))
 have HJ := Lib.hid (fun (k : Nat) w (hk : k < 32) => rbitw_any (x / 4294967296) k (decide (x / 2 ^ (32 + k) % 2 = 1)) w hk (by omega) (by rw [hi_bit x k]))
 go_enter Tryz.func121, Tryz.ntmps121
 go_wp2
 go_loopw [0, 5] (fun a i wr => NextRelA r x w a i wr) (fun _ i _ => 32 - (intOf i).toNat)
 case atStart => exact ⟨0, by omega, rfl, rfl, Below.refl _ _⟩
 case round =>
  obtain ⟨k, hk, rfl, rfl, hb⟩ := hrel
  have HX := Lib.hid hb
  clear hb
  by_cases hlt : k < 32
  ·go_wp2_with fail
   refine (HL.out _).mono ?_
   rintro e w1 ⟨rfl, b1⟩
   go_wp2_with fail
   refine (HI.out k _ hlt).mono ?_
   rintro e w2 ⟨rfl, b2⟩
   go_wp2_with fail
   refine (HB.out k _).mono ?_
   rintro e w3 ⟨rfl, b3⟩
   go_wp2
   go_roundw
   case rel =>
    refine ⟨k + 1, by omega, by go_num, rfl, ?_⟩
    exact HX.out.trans ((b1.trans ((b2.trans (b3.mono b2.size)).mono b1.size)).mono HX.out.size)
   case measure => simp [intOf]; omega
  ·have h32 := Lib.hid (show k = 32 by omega)
   go_wp2
   go_loopw [0, 6] (fun a i wr => NextRelB r x w a i wr) (fun _ i _ => 32 - (intOf i).toNat)
   case atStart => exact ⟨0, by omega, rfl, by rw [h32.out], HX.out⟩
   case round =>
    obtain ⟨k2, hk, rfl, rfl, hb⟩ := hrel
    have HX := Lib.hid hb
    clear hb
    by_cases hlt2 : k2 < 32
    ·go_wp2_with fail
     refine (HH.out _).mono ?_
     rintro e w1 ⟨rfl, b1⟩
     go_wp2_with fail
     refine (HJ.out k2 _ hlt2).mono ?_
     rintro e w2 ⟨rfl, b2⟩
     go_wp2_with fail
     refine (HB.out (32 + k2) _).mono ?_
     rintro e w3 ⟨rfl, b3⟩
     go_wp2
     go_roundw
     case rel =>
      refine ⟨k2 + 1, by omega, by go_num, rfl, ?_⟩
      exact HX.out.trans ((b1.trans ((b2.trans (b3.mono b2.size)).mono b1.size)).mono HX.out.size)
     case measure => simp [intOf]; omega
    ·obtain rfl : k2 = 32 := by omega
     go_wp2
     go_ret
     exact ⟨rfl, HX.out⟩

def sumR (l : List Int) : Nat → Int
 | 0 => 4294967295
 | k + 1 => crcN (sumR l k) (l.getD k 0) 64
theorem sumR_bd (l : List Int) : ∀ k, 0 ≤ sumR l k ∧ sumR l k < 4294967296
 | 0 => ⟨by unfold sumR; omega, by unfold sumR; omega⟩
 | k + 1 => crcN_bd _ (sumR_bd l k).1 (sumR_bd l k).2 64
def sumF (l : List Int) : Int := 4294967295 - sumR l l.length
theorem sumF_bd (l : List Int) : 0 ≤ sumF l ∧ sumF l < 4294967296 := by have := sumR_bd l l.length; unfold sumF; omega
def SumWRel (l : List Int) (w : World) (a i : Value) (wr : World) : Prop := ∃ k : Nat, k ≤ l.length ∧ i = .int .i64 k ∧ a = .int .u32 (sumR l k) ∧ Below w.heap.size w wr
theorem ulongs_bd {l : List Int} (h : ∀ x ∈ l, 0 ≤ x ∧ x < 18446744073709551616) (k : Nat) : 0 ≤ l.getD k 0 ∧ l.getD k 0 < 18446744073709551616 := by
 rw [List.getD_eq_getElem?_getD]
 cases h2 : l[k]? with
 | none => simp
 | some x => exact h x (List.mem_of_getElem? h2)
theorem rsum_any (l : List Int) (g : Nat) (w : World) (hl : l.length ≤ 1000) (hu : ∀ x ∈ l, 0 ≤ x ∧ x < 18446744073709551616) (hg : g < w.heap.size) (hc : ∀ j, j < l.length → w.cell? ⟨g, j, none⟩ = some (.int .u64 (l.getD j 0))) :
 Calls Tryz.prog 68 #[.slice (some ⟨g, 0, none⟩) l.length l.length] w fun e w' => e = .returned (.int .u32 (sumF l)) ∧ Below w.heap.size w w' := by
 have HN := Lib.hid (fun k w => rnext2_any (sumR l k) (l.getD k 0) w (sumR_bd l k).1 (sumR_bd l k).2 (ulongs_bd hu k).1 (ulongs_bd hu k).2)
 go_enter Tryz.func68, Tryz.ntmps68
 go_wp2
 go_loopw [3, 4] (fun a i wr => SumWRel l w a i wr) (fun _ i _ => l.length - (intOf i).toNat)
 case atStart => exact ⟨0, by omega, rfl, rfl, Below.refl _ _⟩
 case round =>
  obtain ⟨k, hk, rfl, rfl, hb⟩ := hrel
  have HX := Lib.hid hb
  by_cases hlt : k < l.length
  ·have c0 := (hb.cell (p := ⟨g, k, none⟩) hg).trans (hc k hlt)
   have hs : sumR l (k + 1) = crcN (sumR l k) (l.getD k 0) 64 := rfl
   have HS := Lib.hid hs
   have HK := Lib.hid (HN.out k)
   clear hs hb hc HN hu
   generalize l.getD k 0 = x at *
   generalize sumR l k = r at *
   generalize crcN r x 64 = y at *
   go_wp2_with fail
   refine (HK.out _).mono ?_
   rintro e w1 ⟨rfl, b1⟩
   go_wp2
   go_roundw
   case rel => exact ⟨k + 1, by omega, by go_num, by rw [HS.out], HX.out.trans (b1.mono HX.out.size)⟩
   case measure => simp [intOf]; omega
  ·have h32 := Lib.hid (show k = l.length by omega)
   obtain ⟨r0, r1⟩ := sumR_bd l k
   have hw : IntKind.u32.wrap (4294967295 - sumR l k) = 4294967295 - sumR l k := IntWalk.u32_in _ (by omega)
   clear hb hc HN hu
   have HF := Lib.hid (show sumF l = 4294967295 - sumR l k by rw [h32.out]; rfl)
   generalize sumR l k = r at *
   go_wp2
   go_ret
   exact ⟨ret_int HF.out.symm, HX.out⟩
theorem ssum_any (l : List Int) (g : Nat) (w : World) (hl : l.length ≤ 1000) (hu : ∀ x ∈ l, 0 ≤ x ∧ x < 18446744073709551616) (hg : g < w.heap.size) (hc : ∀ j, j < l.length → w.cell? ⟨g, j, none⟩ = some (.int .u64 (l.getD j 0))) :
 Calls Tryz.prog 131 #[.slice (some ⟨g, 0, none⟩) l.length l.length] w fun e w' => e = .returned (.int .u32 (sumF l)) ∧ Below w.heap.size w w' := by
 have HN := Lib.hid (fun k w => snext_any (sumR l k) (l.getD k 0) w (sumR_bd l k).1 (sumR_bd l k).2 (ulongs_bd hu k).1 (ulongs_bd hu k).2)
 go_enter Tryz.func131, Tryz.ntmps131
 go_wp2_with fail
 refine (sfirst_any _).mono ?_
 rintro e w1 ⟨rfl, b1⟩
 go_wp2_with fail
 go_loopw [3, 9] (fun a i wr => SumWRel l w a i wr) (fun _ i _ => l.length - (intOf i).toNat)
 case atStart => exact ⟨0, by omega, rfl, rfl, b1⟩
 case round =>
  clear b1
  obtain ⟨k, hk, rfl, rfl, hb⟩ := hrel
  have HX := Lib.hid hb
  by_cases hlt : k < l.length
  ·have c0 := (hb.cell (p := ⟨g, k, none⟩) hg).trans (hc k hlt)
   have hs : sumR l (k + 1) = crcN (sumR l k) (l.getD k 0) 64 := rfl
   have HS := Lib.hid hs
   have HK := Lib.hid (HN.out k)
   clear hs hb hc HN hu
   generalize l.getD k 0 = x at *
   generalize sumR l k = r at *
   generalize crcN r x 64 = y at *
   go_wp2_with fail
   refine (HK.out _).mono ?_
   rintro e w1 ⟨rfl, b1⟩
   go_wp2
   go_roundw
   case rel => exact ⟨k + 1, by omega, by go_num, by rw [HS.out], HX.out.trans (b1.mono HX.out.size)⟩
   case measure => simp [intOf]; omega
  ·have h32 := Lib.hid (show k = l.length by omega)
   obtain ⟨r0, r1⟩ := sumR_bd l k
   have HL := Lib.hid (fun w => slast_any (sumR l k) w r0 r1)
   clear hb hc HN hu
   have HF := Lib.hid (show sumF l = 4294967295 - sumR l k by rw [h32.out]; rfl)
   generalize sumR l k = r at *
   go_wp2_with fail
   refine (HL.out _).mono ?_
   rintro e w1 ⟨rfl, b1⟩
   go_wp2
   go_ret
   exact ⟨ret_int HF.out.symm, HX.out.trans (b1.mono HX.out.size)⟩
end Go.Proofs.YtcbikgafdclhaaaGreat
/- frames of worlds; maps from numbers to numbers; slices that grow: for all texts of this seat. -/
set_option linter.unusedSimpArgs false
set_option linter.unusedVariables false
namespace Go.Proofs.YtcbikgafdclhaaaGreat
open Go.RowKit

/-! ### Frames -/

/-- But for the blocks of S, what was there is as it was. -/
structure Fr (S : Nat → Prop) (w w' : World) : Prop where
 os : w'.os = w.os
 tape : w'.tape = w.tape
 output : w'.output = w.output
 size : w.heap.size ≤ w'.heap.size
 block : ∀ k, k < w.heap.size → ¬ S k → w'.heap[k]? = w.heap[k]?

/-- S, and what has come since w. -/
def upd (S : Nat → Prop) (w w' : World) : Nat → Prop := fun k => S k ∨ (w.heap.size ≤ k ∧ k < w'.heap.size)

theorem Fr.refl (S : Nat → Prop) (w : World) : Fr S w w := ⟨rfl, rfl, rfl, Nat.le_refl _, fun _ _ _ => rfl⟩
theorem Fr.trans {S S1 : Nat → Prop} {a b c : World} (h : Fr S a b) (k : Fr S1 b c) (hs : ∀ i, S1 i → S i ∨ a.heap.size ≤ i) : Fr S a c :=
 ⟨k.os.trans h.os, k.tape.trans h.tape, k.output.trans h.output, Nat.le_trans h.size k.size, fun i hi hn => (k.block i (Nat.lt_of_lt_of_le hi h.size) (fun x => by rcases hs i x with y | y; exact hn y; omega)).trans (h.block i hi hn)⟩
theorem Fr.mono {S S1 : Nat → Prop} {a b : World} (h : Fr S a b) (hs : ∀ i, S i → S1 i) : Fr S1 a b := ⟨h.os, h.tape, h.output, h.size, fun i hi hn => h.block i hi (fun x => hn (hs i x))⟩
theorem Fr.of_below {S : Nat → Prop} {a b : World} (h : Below a.heap.size a b) : Fr S a b := ⟨h.os, h.tape, h.output, h.size, fun i hi _ => h.block i hi⟩
theorem Fr.below {S : Nat → Prop} {a b : World} {B : Nat} (h : Fr S a b) (hB : B ≤ a.heap.size) (hs : ∀ i, S i → B ≤ i) : Below B a b := ⟨h.os, h.tape, h.output, h.size, fun i hi => h.block i (by omega) (fun x => by have := hs i x; omega)⟩
theorem Fr.drew {S : Nat → Prop} {a b : World} (h : Fr S a b) : Fr S a b.drew := ⟨h.os, h.tape, h.output, h.size, h.block⟩
theorem Fr.alloc {S : Nat → Prop} {a b : World} (h : Fr S a b) (o : Obj) : Fr S a (b.alloc o) :=
 h.trans (S1 := S) (Fr.of_below ((Below.refl _ _).alloc (Nat.le_refl _) o)) (fun _ x => Or.inl x)
theorem Fr.setCell {S : Nat → Prop} {a b : World} (h : Fr S a b) (p : Addr) (u : Value) (hp : S p.block ∨ a.heap.size ≤ p.block) : Fr S a (b.setCell p u) :=
 h.trans (S1 := fun k => k = p.block) ⟨rfl, rfl, rfl, by simp, fun k _ hn => Below.heap_setCell _ _ _ _ hn⟩ (fun i hi => by rw [hi]; exact hp)
theorem Fr.grown {S : Nat → Prop} {a b c : World} {row : Option Nat} (h : Fr S a b) (g : b.grownBy c row) (hr : ∀ k, row = some k → S k ∨ a.heap.size ≤ k) : Fr S a c :=
 h.trans (S1 := fun k => row = some k) ⟨g.os, g.tape, g.output, g.size, fun k hk hn => g.block k hk (fun e => hn e.symm)⟩ hr
theorem Fr.cell {S : Nat → Prop} {a b : World} (h : Fr S a b) {k : Nat} (hk : k < a.heap.size) (hn : ¬ S k) (o : Nat) : b.cell? ⟨k, o, none⟩ = a.cell? ⟨k, o, none⟩ := World.cell?_of_block (h.block k hk hn)
theorem Fr.frozen {S : Nat → Prop} {a b : World} (h : Fr S a b) {k : Nat} (hk : k < a.heap.size) (hn : ¬ S k) (o : Nat) : b.frozen? ⟨k, o, none⟩ = a.frozen? ⟨k, o, none⟩ := World.frozen?_of_block (h.block k hk hn)

/-! ### Maps from int to int, as lists in the order in which keys came -/

def look : List (Int × Int) → Int → Nat → Option (Nat × Int)
 | [], _, _ => none
 | p :: r, k, i => if p.1 = k then some (i, p.2) else look r k (i + 1)
def assoc (l : List (Int × Int)) (k : Int) : Option Int := (look l k 0).map (·.2)
def upsert (l : List (Int × Int)) (k v : Int) : List (Int × Int) := match look l k 0 with
 | some (i, _) => l.set i (k, v)
 | none => l ++ [(k, v)]

def rowsOf (l : List (Int × Int)) : List (Value × Value) := l.map fun p => (.int .i64 p.1, .int .i64 p.2)
def MapIs (w : World) (b : Nat) (l : List (Int × Int)) : Prop := ∃ es clk, w.heap[b]? = some (.map es clk) ∧ es.toList.map (fun e => (e.key, e.val)) = rowsOf l

theorem findNow_look (k : Int) : ∀ (es : List MapEntry) (l : List (Int × Int)) (i : Nat), es.map (fun e => (e.key, e.val)) = rowsOf l →
 Instr.findNow (.int .i64) (.int .i64 k) es i = some ((look l k i).map fun x => (x.1, .int .i64 x.2))
 | [], [], _, _ => rfl
 | [], _ :: _, _, h => by simp [rowsOf] at h
 | _ :: _, [], _, h => by simp [rowsOf] at h
 | e :: es, p :: l, i, h => by
  simp only [rowsOf, List.map_cons, List.cons.injEq, Prod.mk.injEq] at h
  obtain ⟨⟨h1, h2⟩, h3⟩ := h
  simp only [Instr.findNow, h1, Instr.sameNow, if_true, look, h2]
  by_cases hk : p.1 = k
  ·simp [hk]
  ·have : (k == p.1) = false := by simp; exact fun x => hk x.symm
   simp only [this, if_neg hk]
   exact findNow_look k es l (i + 1) h3

theorem look_lt {k : Int} : ∀ {l : List (Int × Int)} {i j : Nat} {v : Int}, look l k i = some (j, v) → i ≤ j ∧ j < i + l.length ∧ l[j - i]? = some (k, v)
 | [], _, _, _, h => by simp [look] at h
 | p :: r, i, j, v, h => by
  simp only [look] at h
  split at h
  ·rename_i hp
   simp only [Option.some.injEq, Prod.mk.injEq] at h
   obtain ⟨rfl, rfl⟩ := h
   subst hp
   exact ⟨Nat.le_refl _, by simp, by simp⟩
  ·obtain ⟨h1, h2, h3⟩ := look_lt h
   refine ⟨by omega, by simp; omega, ?_⟩
   have : j - i = (j - (i + 1)) + 1 := by omega
   rw [this, List.getElem?_cons_succ]
   exact h3

section
variable {P : Program} {w : World} {t K E : TypeId}

theorem isKey_int (k : Int) : MapKept.IsKey (.int .i64) (.int .i64 k) := by simp [MapKept.IsKey]

theorem run_lookup_ok {b : Nat} {l : List (Int × Int)} (h : MapIs w b l) (ht : P.underlying t = some (.map K E)) (hK : P.underlying K = some (.int .i64)) (hz : (zeroValue E).run P w = .ok (.int .i64 0) w) (k : Int) (ok : Bool) :
 (Instr.lookup t (.map (some b)) (.int .i64 k) ok).run P w = .ok (if ok then .tuple #[.int .i64 ((assoc l k).getD 0), .bool (assoc l k).isSome] else .int .i64 ((assoc l k).getD 0)) w := by
 obtain ⟨es, clk, hb, hes⟩ := h
 have hf := findNow_look k es.toList l 0 hes
 have hck : ∀ e, (Instr.checkKey e 10000 K (.int .i64 k)).run P w = .ok () w := fun e => MapKept.run_checkKey hK (isKey_int k) e 9999
 have hfk : (Instr.findKey K (.int .i64 k) es.toList).run P w = .ok ((look l k 0).map fun x => (x.1, .int .i64 x.2)) w := by
  simp [Instr.findKey, run_underlying hK, hf]
 cases hl : look l k 0 with
 | none =>
  simp [hl] at hfk
  cases ok <;> simp [Instr.lookup, run_underlying ht, hck, hfk, MapKept.run_getObj_map hb, hz, assoc, hl, Result.andThen]
 | some x =>
  simp [hl] at hfk
  cases ok <;> simp [Instr.lookup, run_underlying ht, hck, hfk, MapKept.run_getObj_map hb, assoc, hl, Result.andThen]

theorem run_update {b : Nat} {l : List (Int × Int)} (h : MapIs w b l) (ht : P.underlying t = some (.map K E)) (hK : P.underlying K = some (.int .i64)) (k v : Int) :
 ∃ w', (Instr.mapUpdate t (.map (some b)) (.int .i64 k) (.int .i64 v)).run P w = .ok () w' ∧ MapIs w' b (upsert l k v) ∧ w.grownBy w' (some b) := by
 obtain ⟨es, clk, hb, hes⟩ := h
 have hf := findNow_look k es.toList l 0 hes
 have hck : ∀ e, (Instr.checkKey e 10000 K (.int .i64 k)).run P w = .ok () w := fun e => MapKept.run_checkKey hK (isKey_int k) e 9999
 have hfk : (Instr.findKey K (.int .i64 k) es.toList).run P w = .ok ((look l k 0).map fun x => (x.1, .int .i64 x.2)) w := by
  simp [Instr.findKey, run_underlying hK, hf]
 have hlt : b < w.heap.size := (Array.getElem?_eq_some_iff.1 hb).1
 have gr : ∀ o, w.grownBy { w with heap := w.heap.setIfInBounds b o } (some b) := fun o =>
  ⟨rfl, rfl, rfl, by simp, fun i _ hi => by simp only [Array.getElem?_setIfInBounds]; rw [if_neg (fun e => hi (by rw [e]))]⟩
 have at_ : ∀ o : Obj, ({ w with heap := w.heap.setIfInBounds b o } : World).heap[b]? = some o := fun o => by simp [hlt]
 cases hl : look l k 0 with
 | none =>
  simp [hl] at hfk
  refine ⟨{ w with heap := w.heap.setIfInBounds b (.map (es.push { key := .int .i64 k, val := .int .i64 v, born := clk }) (clk + 1)) }, ?_, ⟨_, _, at_ _, ?_⟩, gr _⟩
  ·simp [Instr.mapUpdate, run_underlying ht, hck, hfk, MapKept.run_getObj_map hb, MapKept.run_setObj_map _ hb, Result.andThen]
  ·simp [upsert, hl, hes, rowsOf]
 | some x =>
  obtain ⟨j, u⟩ := x
  simp [hl] at hfk
  obtain ⟨_, hj, hg⟩ := look_lt hl
  simp only [Nat.sub_zero, Nat.zero_add] at hg hj
  have hkey : (es[j]?).map (·.key) = some (.int .i64 k) := by
   have h1 : (es.toList.map (fun e => (e.key, e.val)))[j]? = some (.int .i64 k, .int .i64 u) := by rw [hes]; simp [rowsOf, hg]
   rw [List.getElem?_map] at h1
   simp at h1
   obtain ⟨e, he, h2, _⟩ := h1
   simp [he, h2]
  have hkey' : (Option.map (fun x => x.key) es[j]?) = some (.int .i64 k) := hkey
  have hst : (Instr.keyThatStays (((es[j]?).map (·.key)).getD (.int .i64 k)) (.int .i64 k)).run P w = .ok (.int .i64 k) w := by
   rw [hkey]; simp [Instr.keyThatStays, Instr.sameBits]
  refine ⟨{ w with heap := w.heap.setIfInBounds b (.map (es.modify j fun e => { e with key := .int .i64 k, val := .int .i64 v }) clk) }, ?_, ⟨_, _, at_ _, ?_⟩, gr _⟩
  ·rw [hkey, Option.getD_some] at hst
   simp only [Instr.mapUpdate]
   simp [run_underlying ht, hck, hfk, MapKept.run_getObj_map hb, MapKept.run_setObj_map _ hb, hkey', hst, Result.andThen]
  ·simp only [upsert, hl]
   apply List.ext_getElem?
   intro i
   have hi : (es.toList.map (fun e => (e.key, e.val)))[i]? = (rowsOf l)[i]? := by rw [hes]
   simp only [rowsOf, List.getElem?_map, Array.toList_modify, List.getElem?_modify, List.getElem?_set] at hi ⊢
   by_cases hij : j = i
   ·subst hij
    rw [hg] at hi
    cases he : es.toList[j]? with
    | none => rw [he] at hi; simp at hi
    | some e => simp [hj]
   ·simp only [if_neg hij]
    cases he : es.toList[i]? with
    | none => rw [he] at hi; simpa using hi
    | some e => rw [he] at hi; simpa using hi

/-- append to a slice of the call's own: where the new one lies. -/
theorem run_append_new (t ty e : TypeId) (i : TypeInfo) (z : Value) (size bytes : Nat) (ht : P.underlying t = some (.slice e)) (hi : P.info? e = some i) (hz : i.zero = some z)
 (hsize : i.size = size) (hby : i.bytes = bytes) (hzs : z.cells.size = size) (hsz : 0 < size)
 (v : Value) (n : Nat) (xs : List Value) (hown : w.ownsRow 0 e size v n xs)
 (a : Addr) (m c : Nat) (news : List Value) (hl : news.length = m * size) (hnews : ∀ j u, news[j]? = some u → w.cell? (a.add j) = some u) (h1 : ∀ u ∈ news, u.oneCell' = true)
 (h63 : n + m ≤ maxLen) (hbytes : (n + m) * bytes ≤ 140737488355328) :
 ∃ v' w', (Builtin.append_ #[t, t] ty #[v, .slice (some a) m c]).run P w = .ok v' w' ∧ w'.ownsRow 0 e size v' (n + m) (xs ++ news) ∧ w.grownBy w' v.ownBlock ∧
  (∀ k, v'.ownBlock = some k → v.ownBlock = some k ∨ w.heap.size ≤ k) ∧ (v' = .slice none 0 0 ↔ v = .slice none 0 0 ∧ m = 0) := by
 rcases hown.2 with ⟨rfl, rfl⟩ | ⟨g, cap, cur, rfl, hbg, hg, hnc, hcm, hcs, htake⟩
 ·obtain ⟨v', w', hr, h2, h3, h4⟩ := run_append_own (P := P) w w.heap.size t ty e i z size bytes ht hi hz hsize hby hzs hsz (.slice none 0 0) 0 xs ⟨hown.1, .inl ⟨rfl, rfl⟩⟩ a m c news hl hnews h1 h63 hbytes (Nat.le_refl _)
  exact ⟨v', w', hr, Joins.ownsRow_le h2 (Nat.zero_le _), h3, fun k hk => Or.inr (h2.lt k hk).1, h4⟩
 ·by_cases hroom : n + m ≤ cap
  ·obtain ⟨v', w', hr, h2, h3, h4⟩ := run_append_own (P := P) w 0 t ty e i z size bytes ht hi hz hsize hby hzs hsz _ n xs hown a m c news hl hnews h1 h63 hbytes (Nat.zero_le _)
   subst hsize
   have hfit : n * i.size + news.length ≤ cur.size := by rw [hl, hcs, ← Nat.add_mul]; exact Nat.mul_le_mul_right _ hroom
   have hr2 := run_append_room (P := P) w t ty e i ht hi g n cap cur hg a m c news hl hnews h1 hroom hfit
   rw [hr] at hr2
   simp only [Result.ok.injEq] at hr2
   obtain ⟨rfl, _⟩ := hr2
   exact ⟨_, w', hr, h2, h3, fun k hk => Or.inl (by simpa [Value.ownBlock] using hk), h4⟩
  ·obtain ⟨v', w', hr, h2, h3, h4⟩ := run_append_own (P := P) w 0 t ty e i z size bytes ht hi hz hsize hby hzs hsz _ n xs hown a m c news hl hnews h1 h63 hbytes (Nat.zero_le _)
   subst hsize
   have holds : ∀ j u, xs[j]? = some u → w.cell? ((⟨g, 0, none⟩ : Addr).add j) = some u := hown.cells (g := g) rfl
   have hsmall : n + m ≤ 9223372036854775807 := by simp only [maxLen] at h63; omega
   have hr2 := run_append_grow (P := P) w t ty e i z ht hi hz ⟨g, 0, none⟩ n cap xs hown.1 holds a m c news hl hnews (by omega) (by omega) (growslice_fits (by omega) (by rw [hby]; exact hbytes))
   rw [hr] at hr2
   simp only [Result.ok.injEq] at hr2
   obtain ⟨rfl, _⟩ := hr2
   exact ⟨_, w', hr, h2, h3, fun k hk => Or.inr (by simp [Value.ownBlock] at hk; omega), h4⟩

theorem wpL_append {ops : Array Oper} {rest : List Oper} {o : Oper} {a : Act} {Q : Exit → Act → World → Prop} (hgd : o.guard = none) (s x : Operand)
 (ho : o.op = .call { callee := .builtin .append, args := #[s, x], argTypes := #[t, t] })
 (e : TypeId) (i : TypeInfo) (z : Value) (size bytes : Nat) (ht : P.underlying t = some (.slice e)) (hi : P.info? e = some i) (hz : i.zero = some z)
 (hsize : i.size = size) (hby : i.bytes = bytes) (hzs : z.cells.size = size) (hsz : 0 < size)
 (v : Value) (n : Nat) (xs : List Value) (hs : a.eval s = v) (hown : w.ownsRow 0 e size v n xs)
 (ad : Addr) (m c : Nat) (news : List Value) (hx : a.eval x = .slice (some ad) m c) (hl : news.length = m * size) (hnews : ∀ j u, news[j]? = some u → w.cell? (ad.add j) = some u) (h1 : ∀ u ∈ news, u.oneCell' = true)
 (h63 : n + m ≤ maxLen) (hbytes : (n + m) * bytes ≤ 140737488355328)
 (h : ∀ v' w', w'.ownsRow 0 e size v' (n + m) (xs ++ news) → w.grownBy w' v.ownBlock → (∀ k, v'.ownBlock = some k → v.ownBlock = some k ∨ w.heap.size ≤ k) → (v' = .slice none 0 0 ↔ v = .slice none 0 0 ∧ m = 0) → wpList P ops Q rest (a.put o.dst v') w') : wpList P ops Q (o :: rest) a w := by
 refine wpList_plain hgd fun K2 hK2 => ?_
 obtain ⟨v', w', hr, h2, h3, h4, h5⟩ := run_append_new (P := P) (w := w) t o.type e i z size bytes ht hi hz hsize hby hzs hsz v n xs hown ad m c news hl hnews h1 h63 hbytes
 unfold Oper.wp execOp
 simp only [ho, resolve, invoke, builtin, Sem.run_bind, Sem.run_pure, Result.andThen_ok, List.map_toArray, List.map_cons, List.map_nil, hs, hx, hr]
 exact hK2 _ _ (h v' w' h2 h3 h4 h5)

end
end Go.Proofs.YtcbikgafdclhaaaGreat
/- a view of cells, as plain data: what Get and Put do. -/
set_option linter.unusedSimpArgs false
set_option linter.unusedVariables false
namespace Go.Proofs.YtcbikgafdclhaaaGreat
open Go.RowKit

def wix : List (Nat × Int) → Nat → Option Nat
 | [], _ => none
 | p :: r, i => if p.1 = i then some 0 else (wix r i).map (· + 1)

theorem wix_some {i : Nat} : ∀ {l : List (Nat × Int)} {j : Nat}, wix l i = some j → j < l.length ∧ ∃ v, l[j]? = some (i, v)
 | [], _, h => by simp [wix] at h
 | p :: r, j, h => by
  simp only [wix] at h
  split at h
  ·rename_i hp
   cases h
   exact ⟨by simp, p.2, by simp [← hp]⟩
  ·cases hr : wix r i with
   | none => simp [hr] at h
   | some k =>
    simp [hr] at h
    subst h
    obtain ⟨h1, v, h2⟩ := wix_some hr
    exact ⟨by simp; omega, v, by simpa using h2⟩
theorem wix_none {i : Nat} : ∀ {l : List (Nat × Int)}, wix l i = none ↔ i ∉ l.map (·.1)
 | [] => by simp [wix]
 | p :: r => by
  have ih := wix_none (i := i) (l := r)
  simp only [wix]
  split
  ·rename_i h; simp [h]
  ·rename_i h
   simp only [Option.map_eq_none_iff, List.map_cons, List.mem_cons, not_or, ih]
   exact ⟨fun x => ⟨fun y => h y.symm, x⟩, fun x => x.2⟩

structure VS where
 n : Nat
 known : Nat → Option Int
 reads : List Nat
 writes : List (Nat × Int)
 miss : Option Nat

namespace VS

def there (s : VS) (i : Int) : Bool := decide (0 ≤ i) && decide (i < s.n) && s.miss.isNone
def wr (s : VS) (i : Nat) : Option Int := (wix s.writes i).bind fun j => s.writes[j]?.map (·.2)
def read1 (s : VS) (i : Nat) : VS := if s.reads.contains i then s else { s with reads := s.reads ++ [i] }
def get (s : VS) (i : Int) : Int × VS :=
 if s.there i = true then
  match s.wr i.toNat with
  | some v => (v, s)
  | none => match s.known i.toNat with
   | some v => (v, s.read1 i.toNat)
   | none => (0, { s with miss := some i.toNat })
 else (0, s)
def setW (l : List (Nat × Int)) (i : Nat) (v : Int) : List (Nat × Int) := match wix l i with
 | some j => l.set j (i, v)
 | none => l ++ [(i, v)]
def put (s : VS) (i : Int) (v : Int) : VS := if s.there i = true then { s with writes := setW s.writes i.toNat v } else s

def U32 (v : Int) : Prop := 0 ≤ v ∧ v < 4294967296

theorem u32_zero : U32 0 := ⟨by decide, by decide⟩

structure Inv (s : VS) : Prop where
 small : s.n ≤ 2147483648
 rnd : s.reads.Nodup
 rlt : ∀ r ∈ s.reads, r < s.n
 wnd : (s.writes.map (·.1)).Nodup
 wlt : ∀ p ∈ s.writes, p.1 < s.n
 ku : ∀ i v, s.known i = some v → U32 v
 wu : ∀ p ∈ s.writes, U32 p.2

theorem there_iff {s : VS} {i : Int} : s.there i = true ↔ 0 ≤ i ∧ i < s.n ∧ s.miss = none := by
 simp [there, and_assoc]

theorem setW_keys_some {l : List (Nat × Int)} {i : Nat} {v : Int} {j : Nat} (h : wix l i = some j) : (l.set j (i, v)).map (·.1) = l.map (·.1) := by
 obtain ⟨h1, u, h2⟩ := wix_some h
 apply List.ext_getElem?
 intro k
 simp only [List.getElem?_map, List.getElem?_set]
 by_cases hk : j = k
 ·subst hk
  have h3 : l[j] = (i, u) := by rw [List.getElem?_eq_getElem h1] at h2; exact Option.some.inj h2
  simp [h1, h3]
 ·simp [hk]

theorem length_le_of_nodup : ∀ (n : Nat) (l : List Nat), l.Nodup → (∀ x ∈ l, x < n) → l.length ≤ n
 | 0, l, _, h => by
  cases l with
  | nil => simp
  | cons x r => have := h x (by simp); omega
 | n + 1, l, hn, h => by
  have h1 := length_le_of_nodup n (l.erase n) (hn.erase n) (fun x hx => by
   have h2 := h x (List.mem_of_mem_erase hx)
   have h3 : x ≠ n := fun e => by
    subst e
    exact (List.Nodup.not_mem_erase hn) hx
   omega)
  have h4 := List.length_erase (a := n) (l := l)
  split at h4 <;> omega

theorem Inv.get {s : VS} (h : s.Inv) (i : Int) : (s.get i).2.Inv := by
 unfold VS.get
 split
 ·rename_i ht
  obtain ⟨h0, h1, _⟩ := there_iff.1 ht
  split
  ·exact h
  ·split
   ·unfold read1
    split
    ·exact h
    ·rename_i hc
     have hc' : i.toNat ∉ s.reads := by simpa using hc
     refine ⟨h.small, ?_, ?_, h.wnd, h.wlt, h.ku, h.wu⟩
     ·simp only [List.nodup_append]
      exact ⟨h.rnd, by simp, fun a ha b hb => by simp at hb; subst hb; exact fun e => hc' (e ▸ ha)⟩
     ·intro r hr
      simp at hr
      rcases hr with hr | rfl
      ·exact h.rlt r hr
      ·show i.toNat < s.n; omega
   ·exact ⟨h.small, h.rnd, h.rlt, h.wnd, h.wlt, h.ku, h.wu⟩
 ·exact h

theorem Inv.put {s : VS} (h : s.Inv) (i v : Int) (hv : U32 v) : (s.put i v).Inv := by
 unfold VS.put
 split
 ·rename_i ht
  obtain ⟨h0, h1, _⟩ := there_iff.1 ht
  unfold setW
  cases hw : wix s.writes i.toNat with
  | some j =>
   refine ⟨h.small, h.rnd, h.rlt, ?_, ?_, h.ku, ?_⟩
   ·show ((s.writes.set j (i.toNat, v)).map (·.1)).Nodup
    rw [setW_keys_some hw]; exact h.wnd
   ·intro p hp
    rcases List.mem_or_eq_of_mem_set hp with hp | rfl
    ·exact h.wlt p hp
    ·show i.toNat < s.n; omega
   ·intro p hp
    rcases List.mem_or_eq_of_mem_set hp with hp | rfl
    ·exact h.wu p hp
    ·exact hv
  | none =>
   have hn := wix_none.1 hw
   refine ⟨h.small, h.rnd, h.rlt, ?_, ?_, h.ku, ?_⟩
   ·show ((s.writes ++ [(i.toNat, v)]).map (·.1)).Nodup
    simp only [List.map_append, List.nodup_append]
    exact ⟨h.wnd, by simp, fun a ha b hb => by simp at hb; subst hb; exact fun e => hn (e ▸ ha)⟩
   ·intro p hp
    simp only [List.mem_append, List.mem_singleton] at hp
    rcases hp with hp | rfl
    ·exact h.wlt p hp
    ·show i.toNat < s.n; omega
   ·intro p hp
    simp only [List.mem_append, List.mem_singleton] at hp
    rcases hp with hp | rfl
    ·exact h.wu p hp
    ·exact hv
 ·exact h

end VS

/-! ### how the program keeps it -/
def putRows (l : List (Nat × Int)) : List (Int × Int) := l.zipIdx.map fun x => ((x.1.1 : Int), (x.2 : Int))
def readRows (l : List Nat) : List (Int × Int) := l.map fun (r : Nat) => ((r : Int), (1 : Int))
def pairCells (l : List (Nat × Int)) : List Value := l.flatMap fun p => [.int .i64 p.1, .int .u32 p.2]
def intCells (l : List Nat) : List Value := l.map fun (r : Nat) => .int .i64 (r : Int)

end Go.Proofs.YtcbikgafdclhaaaGreat
/- view: the program's view, as memory; Get and Put. -/
set_option linter.unusedSimpArgs false
set_option linter.unusedVariables false
namespace Go.Proofs.YtcbikgafdclhaaaGreat
open Go.RowKit

def missI (s : VS) : Int := match s.miss with | none => -1 | some i => (i : Int)

def Src (w : World) (fv wv : Value) (S : Nat → Prop) (s : VS) : Prop :=
 ∃ (sv : Value) (vals : List Int), fv = .iface 272 sv ∧ w.ownsRow 0 90 1 sv s.n (vals.map (Value.int .u32)) ∧ (∀ i, i < s.n → s.known i = vals[i]?) ∧ (∀ k, sv.ownBlock = some k → S k) ∧ wv = sv

structure PVs (w : World) (b : Nat) (S : Nat → Prop) (s : VS) (fv wv rv pv : Value) (rd pt : Nat) : Prop where
 cells : w.heap[b]? = some (.cells #[.int .i64 s.n, fv, wv, .map (some rd), rv, .map (some pt), pv, .int .i64 (missI s), .bool s.miss.isSome] 274)
 mr : MapIs w rd (readRows s.reads)
 mp : MapIs w pt (putRows s.writes)
 rr : w.ownsRow 0 3 1 rv s.reads.length (intCells s.reads)
 pr : w.ownsRow 0 147 2 pv s.writes.length (pairCells s.writes)
 src : Src w fv wv S s
 ne : rd ≠ pt
 inb : S b
 inr : S rd
 inp : S pt
 inrv : ∀ k, rv.ownBlock = some k → S k
 inpv : ∀ k, pv.ownBlock = some k → S k
 lt : ∀ k, S k → k < w.heap.size
 inv : s.Inv

/-- the view at block b, over the blocks of S, is s. -/
def PV (w : World) (b : Nat) (S : Nat → Prop) (s : VS) : Prop := ∃ fv wv rv pv rd pt, PVs w b S s fv wv rv pv rd pt

theorem PVs.cell {w : World} {b : Nat} {S : Nat → Prop} {s : VS} {fv wv rv pv : Value} {rd pt : Nat} (h : PVs w b S s fv wv rv pv rd pt) (o : Nat) :
 w.cell? ⟨b, o, none⟩ = (#[.int .i64 s.n, fv, wv, .map (some rd), rv, .map (some pt), pv, .int .i64 (missI s), .bool s.miss.isSome] : Array Value)[o]? := cell?_of_heap h.cells

theorem uMap : Tryz.prog.underlying 154 = some (.map 3 3) := by kernel_rfl
theorem zInt (w : World) : (zeroValue 3).run Tryz.prog w = .ok (.int .i64 0) w := by kernel_rfl

theorem infoInt : (Tryz.prog.info? 3).map (fun i => (i.zero, i.size, i.bytes)) = some (some (.int .i64 0), 1, 8) := by kernel_rfl

/-- nothing but S turned, and the view is t now. -/
def Now (w : World) (b : Nat) (S : Nat → Prop) (t : VS) (w' : World) : Prop := PV w' b (upd S w w') t ∧ Fr S w w'

theorem ownsRow_elem {w : World} {e e2 size g : Nat} {v : Value} {n : Nat} {xs : List Value} {cur : Array Value} {fr : Nat × Nat} (h : w.ownsRow 0 e size v n xs) (hg : w.heap[g]? = some (.cells cur e2 fr)) (hne : e ≠ e2) : v.ownBlock ≠ some g := by
 intro hv
 rcases h.2 with ⟨rfl, -⟩ | ⟨g', cap, cur', rfl, -, hg', -⟩
 ·simp [Value.ownBlock] at hv
 ·simp [Value.ownBlock] at hv
  subst hv
  rw [hg] at hg'
  simp only [Option.some.injEq, Obj.cells.injEq] at hg'
  exact hne hg'.2.1.symm
theorem MapIs.block {w w' : World} {b : Nat} {l : List (Int × Int)} (h : MapIs w b l) (hb : w'.heap[b]? = w.heap[b]?) : MapIs w' b l := by
 obtain ⟨es, clk, h1, h2⟩ := h
 exact ⟨es, clk, hb.trans h1, h2⟩
theorem MapIs.lt {w : World} {b : Nat} {l : List (Int × Int)} (h : MapIs w b l) : b < w.heap.size := by
 obtain ⟨es, clk, h1, h2⟩ := h
 exact (Array.getElem?_eq_some_iff.1 h1).1

theorem ownsRow_lt {w : World} {e size : Nat} {v : Value} {n : Nat} {xs : List Value} (h : w.ownsRow 0 e size v n xs) {k : Nat} (hk : v.ownBlock = some k) : k < w.heap.size := (h.lt k hk).2
/-- an owned row in a world in which its block is as it was. -/
theorem ownsRow_block {w w' : World} {e size : Nat} {v : Value} {n : Nat} {xs : List Value} (h : w.ownsRow 0 e size v n xs) (hb : ∀ k, v.ownBlock = some k → w'.heap[k]? = w.heap[k]?) : w'.ownsRow 0 e size v n xs := by
 refine ⟨h.1, ?_⟩
 rcases h.2 with hn | ⟨g, cap, cur, rfl, hb', hgg, rest⟩
 ·exact .inl hn
 ·exact .inr ⟨g, cap, cur, rfl, hb', (hb g rfl).trans hgg, rest⟩
theorem Src.block {w w' : World} {fv wv : Value} {S S' : Nat → Prop} {s s' : VS} (h : Src w fv wv S s) (hn : s'.n = s.n) (hk : s'.known = s.known) (hS : ∀ k, S k → S' k) (hb : ∀ k, S k → w.heap[k]? ≠ none → w'.heap[k]? = w.heap[k]?) : Src w' fv wv S' s' := by
 obtain ⟨sv, vals, h1, h2, h3, h4, h5⟩ := h
 refine ⟨sv, vals, h1, ?_, ?_, fun k hk => hS k (h4 k hk), h5⟩
 ·rw [hn]; exact ownsRow_block h2 fun k hk => hb k (h4 k hk) (by rw [Array.getElem?_eq_getElem (ownsRow_lt h2 hk)]; simp)
 ·rw [hn, hk]; exact h3
theorem Src.elem {w : World} {fv wv : Value} {S : Nat → Prop} {s : VS} (h : Src w fv wv S s) : ∃ (F : Nat → Prop), (∀ k, F k → S k ∧ k < w.heap.size ∧ ∃ cur, w.heap[k]? = some (.cells cur 90 (0, 0))) ∧
 ∀ (w' : World) (S' : Nat → Prop) (s' : VS), s'.n = s.n → s'.known = s.known → (∀ k, F k → S' k) → (∀ k, F k → w'.heap[k]? = w.heap[k]?) → Src w' fv wv S' s' := by
 obtain ⟨sv, vals, h1, h2, h3, h4, h5⟩ := h
 refine ⟨fun k => sv.ownBlock = some k, ?_, ?_⟩
 ·intro k hk
  refine ⟨h4 k hk, ownsRow_lt h2 hk, ?_⟩
  rcases h2.2 with ⟨rfl, -⟩ | ⟨g, cap, cur, rfl, -, hg, -⟩
  ·simp [Value.ownBlock] at hk
  ·simp [Value.ownBlock] at hk; subst hk; exact ⟨cur, hg⟩
 ·intro w' S' s' hn hk hS hb
  exact ⟨sv, vals, h1, by rw [hn]; exact ownsRow_block h2 hb, by rw [hn, hk]; exact h3, hS, h5⟩

theorem PV.mono {w : World} {b : Nat} {S S' : Nat → Prop} {s : VS} (h : PV w b S s) (hS : ∀ k, S k → S' k) (hlt : ∀ k, S' k → k < w.heap.size) : PV w b S' s := by
 obtain ⟨fv, wv, rv, pv, rd, pt, hv⟩ := h
 refine ⟨fv, wv, rv, pv, rd, pt, hv.cells, hv.mr, hv.mp, hv.rr, hv.pr, ?_, hv.ne, hS _ hv.inb, hS _ hv.inr, hS _ hv.inp, fun k hk => hS _ (hv.inrv k hk), fun k hk => hS _ (hv.inpv k hk), hlt, hv.inv⟩
 exact hv.src.block rfl rfl hS (fun _ _ _ => rfl)
theorem PV.lt {w : World} {b : Nat} {S : Nat → Prop} {s : VS} (h : PV w b S s) : ∀ k, S k → k < w.heap.size := by
 obtain ⟨fv, wv, rv, pv, rd, pt, hv⟩ := h
 exact hv.lt
theorem PV.inv {w : World} {b : Nat} {S : Nat → Prop} {s : VS} (h : PV w b S s) : s.Inv := by
 obtain ⟨fv, wv, rv, pv, rd, pt, hv⟩ := h
 exact hv.inv
theorem Now.refl {w : World} {b : Nat} {S : Nat → Prop} {s : VS} (h : PV w b S s) : Now w b S s w :=
 ⟨h.mono (fun k hk => Or.inl hk) (fun k hk => by rcases hk with hk | hk; exact h.lt k hk; exact hk.2), Fr.refl _ _⟩
/-- a view whose blocks did not turn. -/
theorem PV.keep {w w' : World} {b : Nat} {S T : Nat → Prop} {s : VS} (h : PV w b S s) (F : Fr T w w') (hd : ∀ k, S k → ¬ T k) : PV w' b S s := by
 obtain ⟨fv, wv, rv, pv, rd, pt, hv⟩ := h
 have blk : ∀ k, S k → w'.heap[k]? = w.heap[k]? := fun k hk => F.block k (hv.lt k hk) (hd k hk)
 refine ⟨fv, wv, rv, pv, rd, pt, (blk b hv.inb).trans hv.cells, hv.mr.block (blk _ hv.inr), hv.mp.block (blk _ hv.inp), ownsRow_block hv.rr fun k hk => blk k (hv.inrv k hk), ownsRow_block hv.pr fun k hk => blk k (hv.inpv k hk), ?_, hv.ne, hv.inb, hv.inr, hv.inp, hv.inrv, hv.inpv, fun k hk => Nat.lt_of_lt_of_le (hv.lt k hk) F.size, hv.inv⟩
 exact hv.src.block rfl rfl (fun k hk => hk) (fun k hk _ => blk k hk)

end Go.Proofs.YtcbikgafdclhaaaGreat
/- views under way: a view, beside boxes of the call's own. -/
set_option linter.unusedSimpArgs false
set_option linter.unusedVariables false
namespace Go.Proofs.YtcbikgafdclhaaaGreat
open Go.RowKit

/-- what a predicate of views must bear: it speaks of the blocks of S alone. -/
structure Keeps (R : World → Nat → (Nat → Prop) → VS → Prop) : Prop where
 keep : ∀ {w w' : World} {b : Nat} {S T : Nat → Prop} {s : VS}, R w b S s → Fr T w w' → (∀ k, S k → ¬ T k) → R w' b S s
 lt : ∀ {w : World} {b : Nat} {S : Nat → Prop} {s : VS}, R w b S s → ∀ k, S k → k < w.heap.size
 inv : ∀ {w : World} {b : Nat} {S : Nat → Prop} {s : VS}, R w b S s → s.Inv
 mono : ∀ {w : World} {b : Nat} {S S' : Nat → Prop} {s : VS}, R w b S s → (∀ k, S k → S' k) → (∀ k, S' k → k < w.heap.size) → R w b S' s

/-- since w0 nothing but S has turned; the view at b is s; the boxes Ls are none of its. -/
structure VSt (R : World → Nat → (Nat → Prop) → VS → Prop) (w0 : World) (b : Nat) (S : Nat → Prop) (Ls : List Nat) (s : VS) (w : World) : Prop where
 ex : ∃ S1, R w b S1 s ∧ (∀ k, S1 k → S k ∨ w0.heap.size ≤ k) ∧ (∀ L ∈ Ls, ¬ S1 L)
 fr : Fr S w0 w
 ls : ∀ L ∈ Ls, L < w.heap.size ∧ w0.heap.size ≤ L
 s0 : ∀ k, S k → k < w0.heap.size

section
variable {R : World → Nat → (Nat → Prop) → VS → Prop} {w0 w w' : World} {b : Nat} {S : Nat → Prop} {Ls : List Nat} {s s' : VS}

theorem VSt.start (K : Keeps R) (h : R w b S s) : VSt R w b S [] s w := ⟨⟨S, h, fun _ hk => Or.inl hk, by simp⟩, Fr.refl _ _, by simp, K.lt h⟩

theorem VSt.below (K : Keeps R) (h : VSt R w0 b S Ls s w) (hb : Below w.heap.size w w') : VSt R w0 b S Ls s w' := by
 obtain ⟨S1, h1, h2, h4⟩ := h.ex
 exact ⟨⟨S1, K.keep (T := fun _ => False) h1 (Fr.of_below hb) (fun _ _ x => x), h2, h4⟩, h.fr.trans (S1 := fun _ => False) (Fr.of_below hb) (fun _ x => x.elim), fun L hL => ⟨Nat.lt_of_lt_of_le (h.ls L hL).1 hb.size, (h.ls L hL).2⟩, h.s0⟩

theorem VSt.alloc (K : Keeps R) (h : VSt R w0 b S Ls s w) (o : Obj) : VSt R w0 b S (w.heap.size :: Ls) s (w.alloc o) := by
 have hb : Below w.heap.size w (w.alloc o) := (Below.refl _ _).alloc (Nat.le_refl _) o
 obtain ⟨S1, h1, h2, h4⟩ := h.ex
 refine ⟨⟨S1, K.keep (T := fun _ => False) h1 (Fr.of_below hb) (fun _ _ x => x), h2, ?_⟩, h.fr.trans (S1 := fun _ => False) (Fr.of_below hb) (fun _ x => x.elim), ?_, h.s0⟩
 ·intro L hL
  simp at hL
  rcases hL with rfl | hL
  ·exact fun x => Nat.lt_irrefl _ (K.lt h1 _ x)
  ·exact h4 L hL
 ·intro L hL
  simp at hL
  rcases hL with rfl | hL
  ·exact ⟨by simp, h.fr.size⟩
  ·exact ⟨Nat.lt_of_lt_of_le (h.ls L hL).1 hb.size, (h.ls L hL).2⟩

theorem VSt.drew (K : Keeps R) (h : VSt R w0 b S Ls s w) : VSt R w0 b S Ls s w.drew := h.below K ((Below.refl _ _).drew)

theorem VSt.setCell (K : Keeps R) (h : VSt R w0 b S Ls s w) {L : Nat} (hL : L ∈ Ls) (o : Nat) (v : Value) : VSt R w0 b S Ls s (w.setCell ⟨L, o, none⟩ v) := by
 obtain ⟨S1, h1, h2, h4⟩ := h.ex
 have F : Fr (fun k => k = L) w (w.setCell ⟨L, o, none⟩ v) := (Fr.refl _ _).setCell _ _ (Or.inl rfl)
 exact ⟨⟨S1, K.keep h1 F (fun k hk e => h4 L hL (e ▸ hk)), h2, h4⟩, h.fr.setCell _ _ (Or.inr (h.ls L hL).2), fun M hM => ⟨by simpa using (h.ls M hM).1, (h.ls M hM).2⟩, h.s0⟩

theorem VSt.inv (K : Keeps R) (h : VSt R w0 b S Ls s w) : s.Inv := by
 obtain ⟨S1, h1, -⟩ := h.ex
 exact K.inv h1

/-- at the end: the boxes are let go. -/
theorem VSt.done (K : Keeps R) (h : VSt R w0 b S Ls s w) : R w b (upd S w0 w) s ∧ Fr S w0 w := by
 obtain ⟨S1, h1, h2, -⟩ := h.ex
 refine ⟨K.mono h1 (fun k hk => ?_) (fun k hk => ?_), h.fr⟩
 ·rcases h2 k hk with h | h
  ·exact Or.inl h
  ·exact Or.inr ⟨h, K.lt h1 k hk⟩
 ·rcases hk with hk | hk
  ·exact Nat.lt_of_lt_of_le (h.s0 k hk) h.fr.size
  ·exact hk.2

theorem loc_step {L : Nat} {cs : Array Value} (hl : ∀ L ∈ Ls, w'.heap[L]? = w.heap[L]?) (hm : L ∈ Ls) (hc : ∀ o : Nat, w.cell? ⟨L, o, none⟩ = cs[o]?) : ∀ o : Nat, w'.cell? ⟨L, o, none⟩ = cs[o]? :=
 fun o => (World.cell?_of_block (a := ⟨L, o, none⟩) (hl L hm)).trans (hc o)
theorem loc_alloc (w : World) (cs : Array Value) (T : TypeId) : ∀ o : Nat, (w.alloc (.cells cs T)).cell? ⟨w.heap.size, o, none⟩ = cs[o]? := fun _ => cell?_of_heap (heap_alloc_new w _)
theorem loc_old {L : Nat} {cs : Array Value} (ob : Obj) (hL : L < w.heap.size) (hc : ∀ o : Nat, w.cell? ⟨L, o, none⟩ = cs[o]?) : ∀ i : Nat, (w.alloc ob).cell? ⟨L, i, none⟩ = cs[i]? :=
 fun i => (World.cell?_alloc_lt (a := ⟨L, i, none⟩) _ _ hL).trans (hc i)
theorem row_step {e size : Nat} {v : Value} {n : Nat} {xs : List Value} (hl : ∀ L ∈ Ls, w'.heap[L]? = w.heap[L]?) (hm : ∀ k, v.ownBlock = some k → k ∈ Ls) (h : w.ownsRow 0 e size v n xs) : w'.ownsRow 0 e size v n xs :=
 ownsRow_block h fun k hk => hl k (hm k hk)

/-- behind an append to a row of the call's own. -/
theorem VSt.grown (K : Keeps R) (h : VSt R w0 b S Ls s w) {row : Option Nat} (hg : w.grownBy w' row) (hr : ∀ k, row = some k → k ∈ Ls) (Ls' : List Nat) (hL : ∀ L ∈ Ls', L ∈ Ls ∨ (w.heap.size ≤ L ∧ L < w'.heap.size)) : VSt R w0 b S Ls' s w' := by
 obtain ⟨S1, h1, h2, h4⟩ := h.ex
 have F : Fr (fun k => row = some k) w w' := (Fr.refl _ _).grown hg (fun k hk => Or.inl hk)
 have hle := h.fr.size
 refine ⟨⟨S1, K.keep h1 F (fun k hk e => h4 k (hr k e) hk), h2, ?_⟩, h.fr.trans F (fun k hk => Or.inr (h.ls k (hr k hk)).2), ?_, h.s0⟩
 ·intro L hm x
  rcases hL L hm with y | y
  ·exact h4 L y x
  ·exact absurd (K.lt h1 L x) (by omega)
 ·intro L hm
  rcases hL L hm with y | y
  ·exact ⟨Nat.lt_of_lt_of_le (h.ls L y).1 hg.size, (h.ls L y).2⟩
  ·exact ⟨y.2, by omega⟩

theorem VSt.sub (h : VSt R w0 b S Ls s w) (Ls' : List Nat) (hL : ∀ L ∈ Ls', L ∈ Ls) : VSt R w0 b S Ls' s w := by
 obtain ⟨S1, h1, h2, h4⟩ := h.ex
 exact ⟨⟨S1, h1, h2, fun L hm => h4 L (hL L hm)⟩, h.fr, fun L hm => h.ls L (hL L hm), h.s0⟩

end
end Go.Proofs.YtcbikgafdclhaaaGreat
/- link: Push, Pull and Walk of the program. -/
set_option linter.unusedSimpArgs false
set_option linter.unusedVariables false
namespace Go.Proofs.YtcbikgafdclhaaaGreat
open Go.RowKit

def pageB (p q : Int) : Bool := decide (0 ≤ q) && decide (q < p)
/-- what Push does. -/
def pushF (t p s : Int) (head q : Int) (st : VS) : VS :=
 if pageB p q = true then
  let g := st.get head
  let s1 := g.2.put (ofF t p s q 2) g.1
  let s2 := s1.put (ofF t p s q 3) 0
  let s3 := if g.1 = 0 then s2 else s2.put (ofF t p s (g.1 - 1) 3) (q + 1)
  s3.put head (q + 1)
 else st

end Go.Proofs.YtcbikgafdclhaaaGreat
/- link: what Walk comes to, as plain data. -/
set_option linter.unusedSimpArgs false
set_option linter.unusedVariables false
namespace Go.Proofs.YtcbikgafdclhaaaGreat
open Go.RowKit

def ints (l : List Int) : List Value := l.map (.int .i64)
def lenS : Value → Nat | .slice _ n _ => n | _ => 0

theorem loc_grown {w w' : World} {row : Option Nat} {L : Nat} {cs : Array Value} (hg : w.grownBy w' row) (hL : L < w.heap.size) (hne : row ≠ some L) (hc : ∀ o : Nat, w.cell? ⟨L, o, none⟩ = cs[o]?) : ∀ o : Nat, w'.cell? ⟨L, o, none⟩ = cs[o]? :=
 fun o => (World.cell?_of_block (a := ⟨L, o, none⟩) (hg.block L hL (fun e => hne e.symm))).trans (hc o)

end Go.Proofs.YtcbikgafdclhaaaGreat
/- slices.Clone at four types; the program's Whole, Reads, Writes, Missing. -/
set_option linter.unusedSimpArgs false
set_option linter.unusedVariables false
namespace Go.Proofs.YtcbikgafdclhaaaGreat
open Go.RowKit

/-- the slice v of n elements reads as xs. -/
def Rd (w : World) (v : Value) (sz n : Nat) (xs : List Value) : Prop :=
 xs.length = n * sz ∧ ((v = .slice none 0 0 ∧ n = 0) ∨ ∃ ad c, v = .slice (some ad) n c ∧ ∀ j u, xs[j]? = some u → w.cell? (ad.add j) = some u)

theorem Rd.of_row {w : World} {e sz n : Nat} {v : Value} {xs : List Value} (h : w.ownsRow 0 e sz v n xs) : Rd w v sz n xs := by
 refine ⟨h.1, ?_⟩
 rcases h.2 with ⟨h1, h2⟩ | ⟨g, cap, cur, rfl, -⟩
 ·exact Or.inl ⟨h1, h2⟩
 ·exact Or.inr ⟨_, _, rfl, h.cells (g := g) rfl⟩

theorem infoU32 : (Tryz.prog.info? 90).map (fun i => (i.zero, i.size, i.bytes)) = some (some (.int .u32 0), 1, 4) := by kernel_rfl

def uints (l : List Int) : List Value := l.map (.int .u32)

theorem row_shape {w : World} {e sz n : Nat} {v : Value} {xs : List Value} (h : w.ownsRow 0 e sz v n xs) : ∃ a c, v = .slice a n c := by
 rcases h.2 with ⟨rfl, rfl⟩ | ⟨g, cap, cur, rfl, -⟩
 ·exact ⟨_, _, rfl⟩
 ·exact ⟨_, _, rfl⟩

end Go.Proofs.YtcbikgafdclhaaaGreat
/- places by the document; appends in a drawn region. -/
set_option linter.unusedSimpArgs false
set_option linter.unusedVariables false
namespace Go.Proofs.YtcbikgafdclhaaaGreat
open Go.RowKit

theorem rright_any (t p s : Int) (w : World) :
 Calls Tryz.prog 63 #[.agg #[.int .i64 t, .int .i64 p, .int .i64 s]] w fun e w' => e = .returned (.bool (rightB t p s)) ∧ Below w.heap.size w w' := by
 generalize hr : rightB t p s = r
 have HR := Lib.hid hr
 clear hr
 go_enter Tryz.func63, Tryz.ntmps63
 go_wp2
 all_goals
  go_ret
  refine ⟨ret_bool ?_, by (repeat (first | exact Below.refl _ _ | assumption | refine Below.setCell ?_ (by first | omega | (simp; done) | (simp; omega)) _ | refine Below.alloc ?_ (by first | omega | (simp; done) | (simp; omega)) _ | refine Below.drew ?_ | refine Below.trans ?_ (Below.mono ‹Below _ _ _› (by first | omega | (simp; done) | (simp; omega)))))⟩
  have hr := HR.out
  simp only [rightB, outB] at hr
  subst hr
  rw [Bool.eq_iff_iff]
  simp
  omega

theorem rcells_any (t p s : Int) (w : World) :
 Calls Tryz.prog 69 #[.agg #[.int .i64 t, .int .i64 p, .int .i64 s]] w fun e w' => e = .returned (.int .i64 (cellsF t p s)) ∧ Below w.heap.size w w' := by
 have H := rright_any t p s
 cases hr : rightB t p s
 ·have hF : cellsF t p s = 0 := by simp [cellsF, hr]
  rw [hF]
  rw [hr] at H
  have HH := Lib.hid H
  clear H hF hr
  go_enter Tryz.func69, Tryz.ntmps69
  go_wp2_with fail
  refine (HH.out _).mono ?_
  rintro e w1 ⟨rfl, ha⟩
  obtain ⟨hac, haf⟩ := bcell ha
  have haz0 : w.heap.size < w1.heap.size := by have := ha.size; first | omega | (simp at this; omega)
  go_wp2
  go_ret
  refine ⟨rfl, ?_⟩
  (repeat (first | exact Below.refl _ _ | assumption | refine Below.setCell ?_ (by first | omega | (simp; done) | (simp; omega)) _ | refine Below.alloc ?_ (by first | omega | (simp; done) | (simp; omega)) _ | refine Below.drew ?_ | refine Below.trans ?_ (Below.mono ‹Below _ _ _› (by first | omega | (simp; done) | (simp; omega)))))
 ·have hF : cellsF t p s = cellsN t p := by simp [cellsF, hr]
  rw [hF]
  rw [hr] at H
  have HH := Lib.hid H
  obtain ⟨b1, b2, b3, b4, b5, b6⟩ := right_bd hr
  clear H hF hr
  go_enter Tryz.func69, Tryz.ntmps69
  go_wp2_with fail
  refine (HH.out _).mono ?_
  rintro e w1 ⟨rfl, ha⟩
  obtain ⟨hac, haf⟩ := bcell ha
  have haz0 : w.heap.size < w1.heap.size := by have := ha.size; first | omega | (simp at this; omega)
  go_wp2
  go_ret
  refine ⟨rfl, ?_⟩
  (repeat (first | exact Below.refl _ _ | assumption | refine Below.setCell ?_ (by first | omega | (simp; done) | (simp; omega)) _ | refine Below.alloc ?_ (by first | omega | (simp; done) | (simp; omega)) _ | refine Below.drew ?_ | refine Below.trans ?_ (Below.mono ‹Below _ _ _› (by first | omega | (simp; done) | (simp; omega)))))

theorem rpage_any (t p s q part : Int) (w : World) (h0 : 0 ≤ part) (h1 : part ≤ 5) :
 Calls Tryz.prog 124 #[.agg #[.int .i64 t, .int .i64 p, .int .i64 s], .int .i64 q, .int .i64 part] w fun e w' => e = .returned (.int .i64 (ofF t p s q part)) ∧ Below w.heap.size w w' := by
 have H := rright_any t p s
 cases hr : rightB t p s
 ·have hF : ofF t p s q part = -1 := by simp [ofF, hr]
  rw [hF]
  rw [hr] at H
  have HH := Lib.hid H
  clear H hF hr
  go_enter Tryz.func124, Tryz.ntmps124
  go_wp2_with fail
  refine (HH.out _).mono ?_
  rintro e w1 ⟨rfl, ha⟩
  obtain ⟨hac, haf⟩ := bcell ha
  have haz0 : w.heap.size < w1.heap.size := by have := ha.size; first | omega | (simp at this; omega)
  go_wp2
  go_ret
  refine ⟨rfl, ?_⟩
  (repeat (first | exact Below.refl _ _ | assumption | refine Below.setCell ?_ (by first | omega | (simp; done) | (simp; omega)) _ | refine Below.alloc ?_ (by first | omega | (simp; done) | (simp; omega)) _ | refine Below.drew ?_ | refine Below.trans ?_ (Below.mono ‹Below _ _ _› (by first | omega | (simp; done) | (simp; omega)))))
 ·obtain ⟨b1, b2, b3, b4, b5, b6⟩ := right_bd hr
  rw [hr] at H
  have HH := Lib.hid H
  clear H
  by_cases hq : q < 0
  ·have hF : ofF t p s q part = -1 := by simp [ofF, hr]; omega
   rw [hF]
   clear hF hr
   go_enter Tryz.func124, Tryz.ntmps124
   go_wp2_with fail
   refine (HH.out _).mono ?_
   rintro e w1 ⟨rfl, ha⟩
   obtain ⟨hac, haf⟩ := bcell ha
   have haz0 : w.heap.size < w1.heap.size := by have := ha.size; first | omega | (simp at this; omega)
   go_wp2
   go_ret
   refine ⟨rfl, ?_⟩
   (repeat (first | exact Below.refl _ _ | assumption | refine Below.setCell ?_ (by first | omega | (simp; done) | (simp; omega)) _ | refine Below.alloc ?_ (by first | omega | (simp; done) | (simp; omega)) _ | refine Below.drew ?_ | refine Below.trans ?_ (Below.mono ‹Below _ _ _› (by first | omega | (simp; done) | (simp; omega)))))
  ·by_cases hq2 : q < p
   ·have hF : ofF t p s q part = 30 + 4 * t + 6 * q + part := by simp [ofF, hr]; omega
    rw [hF]
    clear hF hr
    go_enter Tryz.func124, Tryz.ntmps124
    go_wp2_with fail
    refine (HH.out _).mono ?_
    rintro e w1 ⟨rfl, ha⟩
    obtain ⟨hac, haf⟩ := bcell ha
    have haz0 : w.heap.size < w1.heap.size := by have := ha.size; first | omega | (simp at this; omega)
    go_wp2
    go_ret
    refine ⟨ret_int (by omega), ?_⟩
    (repeat (first | exact Below.refl _ _ | assumption | refine Below.setCell ?_ (by first | omega | (simp; done) | (simp; omega)) _ | refine Below.alloc ?_ (by first | omega | (simp; done) | (simp; omega)) _ | refine Below.drew ?_ | refine Below.trans ?_ (Below.mono ‹Below _ _ _› (by first | omega | (simp; done) | (simp; omega)))))
   ·have hF : ofF t p s q part = -1 := by simp [ofF, hr]; omega
    rw [hF]
    clear hF hr
    go_enter Tryz.func124, Tryz.ntmps124
    go_wp2_with fail
    refine (HH.out _).mono ?_
    rintro e w1 ⟨rfl, ha⟩
    obtain ⟨hac, haf⟩ := bcell ha
    have haz0 : w.heap.size < w1.heap.size := by have := ha.size; first | omega | (simp at this; omega)
    go_wp2
    go_ret
    refine ⟨rfl, ?_⟩
    (repeat (first | exact Below.refl _ _ | assumption | refine Below.setCell ?_ (by first | omega | (simp; done) | (simp; omega)) _ | refine Below.alloc ?_ (by first | omega | (simp; done) | (simp; omega)) _ | refine Below.drew ?_ | refine Below.trans ?_ (Below.mono ‹Below _ _ _› (by first | omega | (simp; done) | (simp; omega)))))

theorem rnext_any (t p s q : Int) (w : World) :
 Calls Tryz.prog 218 #[.agg #[.int .i64 t, .int .i64 p, .int .i64 s], .int .i64 q] w fun e w' => e = .returned (.int .i64 (ofF t p s q 2)) ∧ Below w.heap.size w w' := by
 go_enter Tryz.func218, Tryz.ntmps218
 go_wp2_with fail
 refine (rpage_any _ _ _ _ _ _ (by omega) (by omega)).mono ?_
 rintro e w1 ⟨rfl, ha⟩
 obtain ⟨hac, haf⟩ := bcell ha
 go_wp2
 go_ret
 refine ⟨rfl, ?_⟩
 (repeat (first | exact Below.refl _ _ | assumption | refine Below.setCell ?_ (by first | omega | (simp; done) | (simp; omega)) _ | refine Below.alloc ?_ (by first | omega | (simp; done) | (simp; omega)) _ | refine Below.drew ?_ | refine Below.trans ?_ (Below.mono ‹Below _ _ _› (by first | omega | (simp; done) | (simp; omega)))))
theorem rprev_any (t p s q : Int) (w : World) :
 Calls Tryz.prog 219 #[.agg #[.int .i64 t, .int .i64 p, .int .i64 s], .int .i64 q] w fun e w' => e = .returned (.int .i64 (ofF t p s q 3)) ∧ Below w.heap.size w w' := by
 go_enter Tryz.func219, Tryz.ntmps219
 go_wp2_with fail
 refine (rpage_any _ _ _ _ _ _ (by omega) (by omega)).mono ?_
 rintro e w1 ⟨rfl, ha⟩
 obtain ⟨hac, haf⟩ := bcell ha
 go_wp2
 go_ret
 refine ⟨rfl, ?_⟩
 (repeat (first | exact Below.refl _ _ | assumption | refine Below.setCell ?_ (by first | omega | (simp; done) | (simp; omega)) _ | refine Below.alloc ?_ (by first | omega | (simp; done) | (simp; omega)) _ | refine Below.drew ?_ | refine Below.trans ?_ (Below.mono ‹Below _ _ _› (by first | omega | (simp; done) | (simp; omega)))))

/-- an empty row, newly made. -/
theorem row_empty (w : World) (e sz : Nat) : (w.alloc (.cells #[] e)).ownsRow 0 e sz (.slice (some ⟨w.heap.size, 0, none⟩) 0 0) 0 [] :=
 ⟨by simp, Or.inr ⟨w.heap.size, 0, #[], rfl, Nat.zero_le _, heap_alloc_new w _, Nat.le_refl _, by unfold maxLen; omega, by simp, by simp⟩⟩

theorem step_append_new {P : Program} {ops : Array Oper} {o : Oper} {a : Act} {w : World} {K : Act → World → Prop} {Q : Exit → Act → World → Prop} {E : Prop} {t : TypeId}
 (hg : o.guard = none) (s x : Operand) (ho : o.op = .call { callee := .builtin .append, args := #[s, x], argTypes := #[t, t] })
 (e : TypeId) (i : TypeInfo) (z : Value) (size bytes : Nat) (ht : P.underlying t = some (.slice e)) (hi : P.info? e = some i) (hz : i.zero = some z)
 (hsize : i.size = size) (hby : i.bytes = bytes) (hzs : z.cells.size = size) (hsz : 0 < size)
 (v : Value) (n : Nat) (xs : List Value) (hs : a.eval s = v) (hown : w.ownsRow 0 e size v n xs)
 (ad : Addr) (m c : Nat) (news : List Value) (hx : a.eval x = .slice (some ad) m c) (hl : news.length = m * size) (hnews : ∀ j u, news[j]? = some u → w.cell? (ad.add j) = some u) (h1 : ∀ u ∈ news, u.oneCell' = true)
 (h63 : n + m ≤ maxLen) (hbytes : (n + m) * bytes ≤ 140737488355328)
 (h : ∀ v' w', w'.ownsRow 0 e size v' (n + m) (xs ++ news) → w.grownBy w' v.ownBlock → (∀ k, v'.ownBlock = some k → v.ownBlock = some k ∨ w.heap.size ≤ k) → (v' = .slice none 0 0 ↔ v = .slice none 0 0 ∧ m = 0) → K (a.put o.dst v') w') :
 if Region.wanted o (yielded ops a.tmps) = true then Oper.wp P o a w K Q else E := by
 have hw : Region.wanted o (yielded ops a.tmps) = true := by simp [Region.wanted, hg]
 rw [if_pos hw]
 obtain ⟨v', w', hr, h2, h3, h4, h5⟩ := run_append_new (P := P) (w := w) t o.type e i z size bytes ht hi hz hsize hby hzs hsz v n xs hown ad m c news hl hnews h1 h63 hbytes
 unfold Oper.wp execOp
 simp only [ho, resolve, invoke, builtin, Sem.run_bind, Sem.run_pure, Result.andThen_ok, List.map_toArray, List.map_cons, List.map_nil, hs, hx, hr]
 exact h v' w' h2 h3 h4 h5

theorem cell_two_at (w : World) (u1 u2 : Value) (T : TypeId) (k : Nat) (hk : k = w.heap.size) : ∀ (j : Nat) (x : Value), [u1, u2][j]? = some x → (w.alloc (.cells #[u1, u2] T)).cell? ((⟨k, 0, none⟩ : Addr).add j) = some x := by
 subst hk
 intro j x hj
 rcases j with _ | _ | j
 ·simp at hj; subst hj; exact cell?_of_heap (o := 0) (heap_alloc_new w (.cells #[u1, u2] T))
 ·simp at hj; subst hj; exact cell?_of_heap (o := 1) (heap_alloc_new w (.cells #[u1, u2] T))
 ·simp at hj

end Go.Proofs.YtcbikgafdclhaaaGreat
/- a call under way that makes new blocks alone: its own boxes, and what lies below. -/
set_option linter.unusedSimpArgs false
set_option linter.unusedVariables false
namespace Go.Proofs.YtcbikgafdclhaaaGreat
open Go.RowKit

/-- since w0 nothing below has turned; the boxes Ls are the call's own. -/
structure BS (w0 : World) (Ls : List Nat) (w : World) : Prop where
 bel : Below w0.heap.size w0 w
 ls : ∀ L ∈ Ls, L < w.heap.size ∧ w0.heap.size ≤ L

section
variable {w0 w w' : World} {Ls : List Nat}

theorem BS.start (w0 : World) : BS w0 [] w0 := ⟨Below.refl _ _, by simp⟩

theorem BS.below (h : BS w0 Ls w) (hb : Below w.heap.size w w') : BS w0 Ls w' :=
 ⟨h.bel.trans (hb.mono h.bel.size), fun L hL => ⟨Nat.lt_of_lt_of_le (h.ls L hL).1 hb.size, (h.ls L hL).2⟩⟩

theorem BS.alloc (h : BS w0 Ls w) (o : Obj) : BS w0 (w.heap.size :: Ls) (w.alloc o) := by
 refine ⟨h.bel.alloc h.bel.size o, fun L hL => ?_⟩
 simp at hL
 rcases hL with rfl | hL
 ·exact ⟨by simp, h.bel.size⟩
 ·have := h.ls L hL; exact ⟨by simp; omega, this.2⟩

theorem BS.drew (h : BS w0 Ls w) : BS w0 Ls w.drew := ⟨h.bel.drew, h.ls⟩

theorem BS.setCell (h : BS w0 Ls w) {L : Nat} (hL : L ∈ Ls) (o : Nat) (v : Value) : BS w0 Ls (w.setCell ⟨L, o, none⟩ v) :=
 ⟨h.bel.setCell (h.ls L hL).2 v, fun M hM => ⟨by simpa using (h.ls M hM).1, (h.ls M hM).2⟩⟩

theorem BS.sub (h : BS w0 Ls w) (Ls' : List Nat) (hL : ∀ L ∈ Ls', L ∈ Ls) : BS w0 Ls' w := ⟨h.bel, fun L hm => h.ls L (hL L hm)⟩

theorem BS.grown (h : BS w0 Ls w) {row : Option Nat} (hg : w.grownBy w' row) (hr : ∀ k, row = some k → k ∈ Ls) (Ls' : List Nat) (hL : ∀ L ∈ Ls', L ∈ Ls ∨ (w.heap.size ≤ L ∧ L < w'.heap.size)) : BS w0 Ls' w' := by
 refine ⟨h.bel.grown hg h.bel.size (fun k hk => (h.ls k (hr k hk)).2), fun L hm => ?_⟩
 have := h.bel.size
 rcases hL L hm with y | y
 ·exact ⟨Nat.lt_of_lt_of_le (h.ls L y).1 hg.size, (h.ls L y).2⟩
 ·exact ⟨y.2, by omega⟩

/-- a call that makes new blocks alone. -/
theorem calls_b {P : Program} {f : FuncId} {args : Array Value} {val : Value} (h : BS w0 Ls w)
 (hc : Calls P f args w fun e w' => e = .returned val ∧ Below w.heap.size w w') :
 Calls P f args w fun e w' => e = .returned val ∧ BS w0 Ls w' ∧ ∀ L ∈ Ls, w'.heap[L]? = w.heap[L]? :=
 hc.mono fun _ _ ⟨he, hb⟩ => ⟨he, h.below hb, fun L hL => hb.block L (h.ls L hL).1⟩

/-- a cell of what lay there before. -/
theorem BS.old (h : BS w0 Ls w) {a : Addr} {u : Value} (hc : w0.cell? a = some u) : w.cell? a = some u :=
 (h.bel.cell (World.block_lt_of_cell? w0 a hc)).trans hc
end

theorem BS.oldbox {w0 w : World} {Ls : List Nat} {b : Nat} {cs : Array Value} (h : BS w0 Ls w) (hc : ∀ o : Nat, w0.cell? ⟨b, o, none⟩ = cs[o]?) (hb : b < w0.heap.size) : ∀ o : Nat, w.cell? ⟨b, o, none⟩ = cs[o]? :=
 fun o => (h.bel.cell (p := ⟨b, o, none⟩) hb).trans (hc o)

theorem BS.row {w0 w : World} {Ls : List Nat} {e sz n : Nat} {v : Value} {xs : List Value} (h : BS w0 Ls w) (hr : w0.ownsRow 0 e sz v n xs) : w.ownsRow 0 e sz v n xs :=
 ownsRow_block hr fun k hk => h.bel.block k (ownsRow_lt hr hk)

theorem world_gen {F : World → Prop} {W : World} (h : ∀ W', W' = W → F W') : F W := h W rfl

/-- behind an append to the row v, which a box went ahead of. -/
theorem BS.append {w0 w w' : World} {L : Nat} {v v' : Value} {ob : Obj} {e sz n : Nat} {xs : List Value} (h : BS w0 (L :: v.ownBlock.toList) w) (hg : (w.alloc ob).grownBy w' v.ownBlock)
 (hnew : ∀ k, v'.ownBlock = some k → v.ownBlock = some k ∨ (w.alloc ob).heap.size ≤ k) (hown : w'.ownsRow 0 e sz v' n xs) : BS w0 (L :: v'.ownBlock.toList) w' := by
 refine (h.alloc ob).grown hg (fun k hk => by simp [hk]) _ fun M hM => ?_
 simp at hM
 rcases hM with rfl | hM
 ·exact Or.inl (by simp)
 ·rcases hnew M hM with h1 | h1
  ·exact Or.inl (by simp [h1])
  ·exact Or.inr ⟨h1, ownsRow_lt hown hM⟩

/-- a box of the call's own, beside the others. -/
structure BA (w0 : World) (Ls : List Nat) (LA : Nat) (cs : Array Value) (T : TypeId) (w : World) : Prop where
 bs : BS w0 (LA :: Ls) w
 box : w.heap[LA]? = some (.cells cs T)
 ne : ∀ L ∈ Ls, L ≠ LA
section
variable {w0 w w' : World} {Ls : List Nat} {LA : Nat} {cs : Array Value} {T : TypeId}
theorem BS.allocd (h : BS w0 Ls w) (cs : Array Value) (T : TypeId) : BA w0 Ls w.heap.size cs T (w.alloc (.cells cs T)) :=
 ⟨h.alloc _, heap_alloc_new w _, fun L hL e => by have := (h.ls L hL).1; omega⟩
theorem BA.step (h : BA w0 Ls LA cs T w) (hV : BS w0 (LA :: Ls) w') (hl : ∀ L ∈ LA :: Ls, w'.heap[L]? = w.heap[L]?) : BA w0 Ls LA cs T w' :=
 ⟨hV, (hl _ (by simp)).trans h.box, h.ne⟩
theorem frozen?_of_heap {o : Nat} (h : w.heap[LA]? = some (.cells cs T)) : w.frozen? ⟨LA, o, none⟩ = false := by
 simp [World.frozen?, h]
theorem heap_setCell_same {L o : Nat} {v : Value} (h : w.heap[L]? = some (.cells cs T)) : (w.setCell ⟨L, o, none⟩ v).heap[L]? = some (.cells (cs.setIfInBounds o v) T) := by
 simp only [World.setCell]
 rw [Array.getElem?_modify, if_pos rfl, h]
 rfl
theorem heap_setCell_other {L M o : Nat} {v : Value} (h : M ≠ L) : (w.setCell ⟨L, o, none⟩ v).heap[M]? = w.heap[M]? := by
 simp only [World.setCell]
 rw [Array.getElem?_modify, if_neg (Ne.symm h)]
theorem BA.set (h : BA w0 Ls LA cs T w) (o : Nat) (v : Value) : BA w0 Ls LA (cs.setIfInBounds o v) T (w.setCell ⟨LA, o, none⟩ v) :=
 ⟨h.bs.setCell (by simp) _ _, heap_setCell_same h.box, h.ne⟩
theorem BA.loc (h : BA w0 Ls LA cs T w) {L : Nat} {ds : Array Value} (hm : L ∈ Ls) (o : Nat) (v : Value) (hc : ∀ i : Nat, w.cell? ⟨L, i, none⟩ = ds[i]?) : ∀ i : Nat, (w.setCell ⟨LA, o, none⟩ v).cell? ⟨L, i, none⟩ = ds[i]? :=
 fun i => (World.cell?_of_block (a := ⟨L, i, none⟩) (heap_setCell_other (h.ne L hm))).trans (hc i)
theorem BA.hloc (h : BA w0 Ls LA cs T w) {L : Nat} {x : Option Obj} (hm : L ∈ Ls) (o : Nat) (v : Value) (hc : w.heap[L]? = x) : (w.setCell ⟨LA, o, none⟩ v).heap[L]? = x :=
 (heap_setCell_other (h.ne L hm)).trans hc
theorem BA.grown (h : BA w0 Ls LA cs T w) {ob : Obj} {row : Option Nat} (hg : (w.alloc ob).grownBy w' row) (hr : ∀ k, row = some k → k < w0.heap.size) : ∀ o : Nat, w'.cell? ⟨LA, o, none⟩ = cs[o]? := by
 have hl := h.bs.ls LA (by simp)
 exact loc_grown hg (by simp; omega) (fun e => by have := hr _ e; omega) (loc_old ob hl.1 fun o => cell?_of_heap h.box)
/-- what a box of three cells offers the walk. -/
theorem BA.cells3 {x y z : Value} (h : BA w0 Ls LA #[x, y, z] T w) : (w.cell? ⟨LA, 0, none⟩ = some x ∧ w.cell? ⟨LA, 1, none⟩ = some y ∧ w.cell? ⟨LA, 2, none⟩ = some z) ∧ w.frozen? ⟨LA, 0, none⟩ = false ∧ w.frozen? ⟨LA, 1, none⟩ = false ∧ w.frozen? ⟨LA, 2, none⟩ = false ∧ LA < w.heap.size ∧ w0.heap.size ≤ LA ∧ Below w0.heap.size w0 w :=
 ⟨⟨cell?_of_heap h.box, cell?_of_heap h.box, cell?_of_heap h.box⟩, frozen?_of_heap h.box, frozen?_of_heap h.box, frozen?_of_heap h.box, (h.bs.ls LA (by simp)).1, (h.bs.ls LA (by simp)).2, h.bs.bel⟩
theorem cells3 {L : Nat} {x y z : Value} (h : w.heap[L]? = some (.cells #[x, y, z] T)) : (w.cell? ⟨L, 0, none⟩ = some x ∧ w.cell? ⟨L, 1, none⟩ = some y ∧ w.cell? ⟨L, 2, none⟩ = some z) ∧ w.frozen? ⟨L, 0, none⟩ = false ∧ w.frozen? ⟨L, 1, none⟩ = false ∧ w.frozen? ⟨L, 2, none⟩ = false :=
 ⟨⟨cell?_of_heap h, cell?_of_heap h, cell?_of_heap h⟩, frozen?_of_heap h, frozen?_of_heap h, frozen?_of_heap h⟩
end

/-- a configuration's values: the slice (ad, n, c) holds a heap's cells. -/
structure XV (w : World) (t p s : Int) (ad : Addr) (n : Nat) (vs : List Int) : Prop where
 right : rightB t p s = true
 few : p ≤ 1024
 len : vs.length = n
 num : (n : Int) = 30 + 4 * t + 6 * p
 u32 : ∀ v ∈ vs, VS.U32 v
 cells : ∀ k, k < n → w.cell? (ad.add k) = some (.int .u32 (vs.getD k 0))

theorem XV.keep {w w' : World} {t p s : Int} {ad : Addr} {n : Nat} {vs : List Int} (h : XV w t p s ad n vs) (hb : Below w.heap.size w w') : XV w' t p s ad n vs :=
 ⟨h.right, h.few, h.len, h.num, h.u32, fun k hk => (hb.cell (World.block_lt_of_cell? w _ (h.cells k hk))).trans (h.cells k hk)⟩

/-- the place of a page's cell. -/
def cix (t q part : Int) : Nat := (30 + 4 * t + 6 * q + part).toNat
def gv (vs : List Int) (t q part : Int) : Int := vs.getD (cix t q part) 0

theorem add_block (a : Addr) (k : Nat) : (a.add k).block = a.block := by unfold Addr.add; split <;> rfl

theorem getD_u32 {vs : List Int} (h : ∀ v ∈ vs, VS.U32 v) (k : Nat) : VS.U32 (vs.getD k 0) := by
 by_cases hk : k < vs.length
 ·have e : vs.getD k 0 = vs[k] := by simp [hk]
  rw [e]; exact h _ (List.getElem_mem hk)
 ·have e : vs.getD k 0 = 0 := by simp [show ¬ k < vs.length from hk]
  rw [e]; exact VS.u32_zero

section
variable {w : World} {t p s : Int} {ad : Addr} {n : Nat} {vs : List Int}
theorem XV.bd (h : XV w t p s ad n vs) : 1 ≤ t ∧ t ≤ 16 ∧ 4 ≤ p ∧ p ≤ 1024 ∧ 10 ≤ s ∧ s ≤ 20 ∧ (n : Int) = 30 + 4 * t + 6 * p := by
 have := right_bd h.right
 have := h.few
 have := h.num
 omega
theorem XV.of (h : XV w t p s ad n vs) {q part : Int} (h1 : 0 ≤ q) (h2 : q < p) : ofF t p s q part = 30 + 4 * t + 6 * q + part := by
 simp [ofF, h.right, h1, h2]
theorem XV.cx (h : XV w t p s ad n vs) {q part : Int} (h1 : 0 ≤ q) (h2 : q < p) (h3 : 0 ≤ part) (h4 : part ≤ 5) : cix t q part < n ∧ ofF t p s q part = ((cix t q part : Nat) : Int) := by
 have b := h.bd
 rw [h.of h1 h2]
 unfold cix
 omega
theorem XV.gu (h : XV w t p s ad n vs) (q part : Int) : 0 ≤ gv vs t q part ∧ gv vs t q part < 4294967296 := getD_u32 h.u32 _
end

end Go.Proofs.YtcbikgafdclhaaaGreat
/- head: a configuration's word, and the words of a head. -/
set_option linter.unusedSimpArgs false
set_option linter.unusedVariables false
namespace Go.Proofs.YtcbikgafdclhaaaGreat
open Go.RowKit

/-- a field is put where nothing is yet. -/
theorem putw_new (a v c : Nat) (at' : Nat) (ha : a < 2 ^ at') (hv : v < 65536) (h : at' ≤ 48) (hc : c = 65535 * 2 ^ at') :
 bits BinOp.or IntKind.u64 (bits BinOp.andNot IntKind.u64 (a : Int) (IntKind.u64.wrap (c : Int))) (IntKind.u64.wrap ((v : Int) * 2 ^ at')) = (a : Int) + v * 2 ^ at' := by
 have hp : 2 ^ at' ≤ 2 ^ 48 := Nat.pow_le_pow_right (by omega) h
 have hp0 : 0 < 2 ^ at' := Nat.two_pow_pos _
 have hp48 : (2 : Nat) ^ 48 = 281474976710656 := by decide
 have hm1 : v * 2 ^ at' < 2 ^ 64 := by
  have := Nat.mul_le_mul (show v ≤ 65535 by omega) hp
  omega
 have hm2 : c < 2 ^ 64 := by
  have := Nat.mul_le_mul (show 65535 ≤ 65535 by omega) hp
  omega
 have hwc : IntKind.u64.wrap (c : Int) = (c : Int) := wraps_u64 _ (by omega) (by exact_mod_cast hm2)
 have hwv : IntKind.u64.wrap ((v : Int) * 2 ^ at') = ((v * 2 ^ at' : Nat) : Int) := by
  have : ((v : Int) * 2 ^ at') = ((v * 2 ^ at' : Nat) : Int) := by simp
  rw [this]
  exact wraps_u64 _ (by omega) (by exact_mod_cast hm1)
 have hand : a &&& c = 0 := by
  rw [hc]
  apply Nat.eq_of_testBit_eq
  intro i
  rw [Nat.testBit_and, Nat.zero_testBit]
  by_cases hi : i < at'
  ·rw [Nat.mul_comm, Nat.testBit_two_pow_mul]
   simp; intro _; omega
  ·rw [Nat.testBit_lt_two_pow (Nat.lt_of_lt_of_le ha (Nat.pow_le_pow_right (by omega) (by omega)))]
   simp
 have ha64 : a < 2 ^ 64 := Nat.lt_of_lt_of_le ha (Nat.pow_le_pow_right (by omega) (by omega))
 have hnot : bits BinOp.andNot IntKind.u64 (a : Int) (c : Int) = a := by
  have h1 : BitVec.ofInt 64 (a : Int) = BitVec.ofNat 64 a := BitVec.ofInt_natCast ..
  have h2 : BitVec.ofInt 64 (c : Int) = BitVec.ofNat 64 c := BitVec.ofInt_natCast ..
  have h3 : BitVec.ofNat 64 a &&& ~~~ BitVec.ofNat 64 c = BitVec.ofNat 64 a := by
   apply BitVec.eq_of_getLsbD_eq
   intro i hi
   have := congrArg (fun z => Nat.testBit z i) hand
   simp only [Nat.testBit_and, Nat.zero_testBit] at this
   simp only [BitVec.getLsbD_and, BitVec.getLsbD_not, BitVec.getLsbD_ofNat]
   cases h5 : a.testBit i <;> cases h6 : c.testBit i <;> simp_all
  show IntKind.u64.wrap ((BitVec.ofInt 64 (a : Int) &&& ~~~ BitVec.ofInt 64 (c : Int)).toNat : Int) = _
  rw [h1, h2, h3, BitVec.toNat_ofNat, Nat.mod_eq_of_lt ha64]
  exact wraps_u64 _ (by omega) (by exact_mod_cast ha64)
 rw [hwc, hwv, hnot, (bits_nat .u64 64 (by decide) wraps_u64 a _ ha64 hm1).2, Nat.or_comm, Nat.mul_comm, ← Nat.two_pow_add_eq_or_of_lt ha]
 simp [Int.mul_comm, Int.add_comm]

theorem hfield16_any (a : Int) (w : World) (h0 : 0 ≤ a) (h3 : a ≤ 48) :
 Calls Tryz.prog 125 #[.int .i64 a, .int .i64 16] w fun e w' => e = .returned (.bool true) ∧ Below w.heap.size w w' := by
 go_enter Tryz.func125, Tryz.ntmps125
 go_wp2
 go_ret
 exact ⟨rfl, Below.refl _ _⟩
theorem hmask16 (w : World) : Calls Tryz.prog 126 #[.int .i64 16] w fun e w' => e = .returned (.int .u64 65535) ∧ Below w.heap.size w w' := by
 go_enter Tryz.func126, Tryz.ntmps126
 go_wp2
 go_ret
 exact ⟨rfl, Below.refl _ _⟩
theorem hput16_0 (a v : Nat) (w : World) (ha : a < 1) (hv : v < 65536) : Calls Tryz.prog 180 #[.int .u64 a, .int .i64 0, .int .i64 16, .int .u64 v] w fun e w' => e = .returned (.tuple #[.int .u64 (a + v * 1), .bool true]) ∧ Below w.heap.size w w' := by
 have hp := putw_new a v 65535 0 (by omega) hv (by omega) (by decide)
 have HP := Lib.hid hp
 clear hp
 go_enter Tryz.func180, Tryz.ntmps180
 go_wp2_with fail
 refine (hfield16_any _ _ (by omega) (by omega)).mono ?_
 rintro e w1 ⟨rfl, b1⟩
 go_wp2_with fail
 refine (hmask16 _).mono ?_
 rintro e w2 ⟨rfl, b2⟩
 go_wp2_with fail
 refine wp_region_noPanic ?_
 refine wp_region_held_drew (S := fun w' => BS w2 ([] : List Nat) w') (by kernel_rfl) ?_ (fun hHeld => ?_)
 ·exact (BS.start w2).drew
 refine wT 0 ?_
 refine wT 1 ?_
 refine wT 3 ?_
 refine wT 6 ?_
 refine wT 7 ?_
 refine wT 8 ?_
 refine wR 2 fun K hK => ?_
 go_simp
 refine (calls_b hHeld (hmask16 _)).mono ?_
 rintro e wr1 ⟨rfl, hV, hVl⟩
 dsimp only
 refine hK.out _ _ ?_ (fun hHeld2 => ?_)
 ·exact hV
 clear hK K hV hVl hHeld
 have hHeld := hHeld2
 clear hHeld2
 try simp only [Act.put, zA, zB, zC, zD, zE, zF]
 refine wT 4 ?_
 refine wT 5 ?_
 refine wT 9 ?_
 refine wT 10 ?_
 refine wT 11 ?_
 refine wpAnyH_done (by kernel_rfl) (NoPanic.normal ?_) _
 refine world_gen ?_
 intro wz hwz
 rw [← hwz] at hHeld
 clear hwz
 have bel := hHeld.bel
 clear hHeld
 go_wp2
 refine bodyPost_ret (v := .tuple #[.int .u64 (a + v * 1), .bool true]) ?_ rfl ⟨rfl, b1.trans ((b2.trans (bel.mono b2.size)).mono b1.size)⟩
 simp [results, Tryz.results180, go_sem]
 have := HP.out
 simp at this
 exact this
theorem hput16_1 (a v : Nat) (w : World) (ha : a < 65536) (hv : v < 65536) : Calls Tryz.prog 180 #[.int .u64 a, .int .i64 16, .int .i64 16, .int .u64 v] w fun e w' => e = .returned (.tuple #[.int .u64 (a + v * 65536), .bool true]) ∧ Below w.heap.size w w' := by
 have hp := putw_new a v 4294901760 16 (by omega) hv (by omega) (by decide)
 have HP := Lib.hid hp
 clear hp
 go_enter Tryz.func180, Tryz.ntmps180
 go_wp2_with fail
 refine (hfield16_any _ _ (by omega) (by omega)).mono ?_
 rintro e w1 ⟨rfl, b1⟩
 go_wp2_with fail
 refine (hmask16 _).mono ?_
 rintro e w2 ⟨rfl, b2⟩
 go_wp2_with fail
 refine wp_region_noPanic ?_
 refine wp_region_held_drew (S := fun w' => BS w2 ([] : List Nat) w') (by kernel_rfl) ?_ (fun hHeld => ?_)
 ·exact (BS.start w2).drew
 refine wT 0 ?_
 refine wT 1 ?_
 refine wT 3 ?_
 refine wT 6 ?_
 refine wT 7 ?_
 refine wT 8 ?_
 refine wR 2 fun K hK => ?_
 go_simp
 refine (calls_b hHeld (hmask16 _)).mono ?_
 rintro e wr1 ⟨rfl, hV, hVl⟩
 dsimp only
 refine hK.out _ _ ?_ (fun hHeld2 => ?_)
 ·exact hV
 clear hK K hV hVl hHeld
 have hHeld := hHeld2
 clear hHeld2
 try simp only [Act.put, zA, zB, zC, zD, zE, zF]
 refine wT 4 ?_
 refine wT 5 ?_
 refine wT 9 ?_
 refine wT 10 ?_
 refine wT 11 ?_
 refine wpAnyH_done (by kernel_rfl) (NoPanic.normal ?_) _
 refine world_gen ?_
 intro wz hwz
 rw [← hwz] at hHeld
 clear hwz
 have bel := hHeld.bel
 clear hHeld
 go_wp2
 refine bodyPost_ret (v := .tuple #[.int .u64 (a + v * 65536), .bool true]) ?_ rfl ⟨rfl, b1.trans ((b2.trans (bel.mono b2.size)).mono b1.size)⟩
 simp [results, Tryz.results180, go_sem]
 have := HP.out
 simp at this
 exact this
theorem hput16_2 (a v : Nat) (w : World) (ha : a < 4294967296) (hv : v < 65536) : Calls Tryz.prog 180 #[.int .u64 a, .int .i64 32, .int .i64 16, .int .u64 v] w fun e w' => e = .returned (.tuple #[.int .u64 (a + v * 4294967296), .bool true]) ∧ Below w.heap.size w w' := by
 have hp := putw_new a v 281470681743360 32 (by omega) hv (by omega) (by decide)
 have HP := Lib.hid hp
 clear hp
 go_enter Tryz.func180, Tryz.ntmps180
 go_wp2_with fail
 refine (hfield16_any _ _ (by omega) (by omega)).mono ?_
 rintro e w1 ⟨rfl, b1⟩
 go_wp2_with fail
 refine (hmask16 _).mono ?_
 rintro e w2 ⟨rfl, b2⟩
 go_wp2_with fail
 refine wp_region_noPanic ?_
 refine wp_region_held_drew (S := fun w' => BS w2 ([] : List Nat) w') (by kernel_rfl) ?_ (fun hHeld => ?_)
 ·exact (BS.start w2).drew
 refine wT 0 ?_
 refine wT 1 ?_
 refine wT 3 ?_
 refine wT 6 ?_
 refine wT 7 ?_
 refine wT 8 ?_
 refine wR 2 fun K hK => ?_
 go_simp
 refine (calls_b hHeld (hmask16 _)).mono ?_
 rintro e wr1 ⟨rfl, hV, hVl⟩
 dsimp only
 refine hK.out _ _ ?_ (fun hHeld2 => ?_)
 ·exact hV
 clear hK K hV hVl hHeld
 have hHeld := hHeld2
 clear hHeld2
 try simp only [Act.put, zA, zB, zC, zD, zE, zF]
 refine wT 4 ?_
 refine wT 5 ?_
 refine wT 9 ?_
 refine wT 10 ?_
 refine wT 11 ?_
 refine wpAnyH_done (by kernel_rfl) (NoPanic.normal ?_) _
 refine world_gen ?_
 intro wz hwz
 rw [← hwz] at hHeld
 clear hwz
 have bel := hHeld.bel
 clear hHeld
 go_wp2
 refine bodyPost_ret (v := .tuple #[.int .u64 (a + v * 4294967296), .bool true]) ?_ rfl ⟨rfl, b1.trans ((b2.trans (bel.mono b2.size)).mono b1.size)⟩
 simp [results, Tryz.results180, go_sem]
 have := HP.out
 simp at this
 exact this

def wordP (t p s : Nat) : Nat → Nat
 | 0 => 0
 | 1 => t
 | 2 => t + p * 65536
 | _ => t + p * 65536 + s * 4294967296
def WordRel (t p s : Nat) (w : World) (a i : Value) (wr : World) : Prop := ∃ k : Nat, k ≤ 3 ∧ i = .int .i64 k ∧ a = .int .u64 (wordP t p s k) ∧ Below w.heap.size w wr
theorem cword_right (t p s : Nat) (w : World) (hr : rightB t p s = true) :
 Calls Tryz.prog 130 #[.agg #[.int .i64 t, .int .i64 p, .int .i64 s]] w fun e w' => e = .returned (.tuple #[.int .u64 (t + p * 65536 + s * 4294967296 : Nat), .bool true]) ∧ Below w.heap.size w w' := by
 obtain ⟨b1, b2, b3, b4, b5, b6⟩ := right_bd hr
 have HC := Lib.hid (fun w => check_right t p s w hr)
 have HB := Lib.hid (fun w => bounds_any t p s w)
 have HP0 := Lib.hid (fun w => hput16_0 0 t w (by omega) (by omega))
 have HP1 := Lib.hid (fun w => hput16_1 t p w (by omega) (by omega))
 have HP2 := Lib.hid (fun w => hput16_2 (t + p * 65536) s w (by omega) (by omega))
 clear hr
 go_enter Tryz.func130, Tryz.ntmps130
 go_wp2_with fail
 refine (HC.out _).mono ?_
 rintro e w1 ⟨rfl, h1⟩
 obtain ⟨h1c, h1f⟩ := bcell h1
 have z1 : w.heap.size < w1.heap.size := by have := h1.size; simp at this; omega
 go_wp2_with fail
 refine (HB.out _).mono ?_
 rintro e w2 ⟨rfl, h2, hg, hs⟩
 have hcell : ∀ wr : World, Below w2.heap.size w2 wr → ∀ o, wr.cell? ⟨w1.heap.size + 1, o, none⟩ = (bndCells t p s)[o]? := by
  intro wr hb o
  rw [hb.cell (p := ⟨w1.heap.size + 1, o, none⟩) (by rw [hs]; simp)]
  simp [World.cell?, hg]
 have bel2 : Below w.heap.size w w2 := (((Below.refl _ _).alloc (Nat.le_refl _) _).trans (h1.mono (by simp))).trans (h2.mono (by omega))
 have HBel := Lib.hid bel2
 clear bel2 h1 h2 h1c h1f hg hs
 go_wp2
 go_loopw [4, 13] (fun a i wr => WordRel t p s w2 a i wr) (fun _ i _ => 3 - (intOf i).toNat)
 case atStart => exact ⟨0, by omega, rfl, rfl, Below.refl _ _⟩
 case round =>
  obtain ⟨k, hk, rfl, rfl, hb⟩ := hrel
  have hc := hcell _ hb
  have HX := Lib.hid hb
  clear hcell hb
  rcases (by omega : k = 0 ∨ k = 1 ∨ k = 2 ∨ k = 3) with rfl | rfl | rfl | rfl
  ·have c0 := hc 0
   have c1 := hc 1
   have c2 := hc 2
   clear hc
   simp [bndCells] at c0 c1 c2
   have hw : IntKind.u64.wrap (t : Int) = t := wraps_u64 _ (by omega) (by omega)
   go_wp2_with fail
   refine (HP0.out _).mono ?_
   rintro e w3 ⟨rfl, b3⟩
   go_wp2
   go_roundw
   case rel => exact ⟨1, by omega, rfl, by simp [wordP], HX.out.trans (by refine Below.mono ?_ HX.out.size; (repeat (first | exact Below.refl _ _ | assumption | refine Below.setCell ?_ (by first | omega | (simp; done) | (simp; omega)) _ | refine Below.alloc ?_ (by first | omega | (simp; done) | (simp; omega)) _ | refine Below.drew ?_ | refine Below.trans ?_ (Below.mono ‹Below _ _ _› (by first | omega | (simp; done) | (simp; omega))))))⟩
   case measure => simp [intOf]
  ·have c0 := hc 3
   have c1 := hc 4
   have c2 := hc 5
   clear hc
   simp [bndCells] at c0 c1 c2
   have hw : IntKind.u64.wrap (p : Int) = p := wraps_u64 _ (by omega) (by omega)
   go_wp2_with fail
   refine (HP1.out _).mono ?_
   rintro e w3 ⟨rfl, b3⟩
   go_wp2
   go_roundw
   case rel => exact ⟨2, by omega, rfl, by simp [wordP], HX.out.trans (by refine Below.mono ?_ HX.out.size; (repeat (first | exact Below.refl _ _ | assumption | refine Below.setCell ?_ (by first | omega | (simp; done) | (simp; omega)) _ | refine Below.alloc ?_ (by first | omega | (simp; done) | (simp; omega)) _ | refine Below.drew ?_ | refine Below.trans ?_ (Below.mono ‹Below _ _ _› (by first | omega | (simp; done) | (simp; omega))))))⟩
   case measure => simp [intOf]
  ·have c0 := hc 6
   have c1 := hc 7
   have c2 := hc 8
   clear hc
   simp [bndCells] at c0 c1 c2
   have hw : IntKind.u64.wrap (s : Int) = s := wraps_u64 _ (by omega) (by omega)
   go_wp2_with fail
   refine (HP2.out _).mono ?_
   rintro e w3 ⟨rfl, b3⟩
   go_wp2
   go_roundw
   case rel => exact ⟨3, by omega, rfl, by simp [wordP], HX.out.trans (by refine Below.mono ?_ HX.out.size; (repeat (first | exact Below.refl _ _ | assumption | refine Below.setCell ?_ (by first | omega | (simp; done) | (simp; omega)) _ | refine Below.alloc ?_ (by first | omega | (simp; done) | (simp; omega)) _ | refine Below.drew ?_ | refine Below.trans ?_ (Below.mono ‹Below _ _ _› (by first | omega | (simp; done) | (simp; omega))))))⟩
   case measure => simp [intOf]
  ·clear hc
   go_wp2
   exact bodyPost_ret (v := .tuple #[.int .u64 (t + p * 65536 + s * 4294967296 : Nat), .bool true]) (by simp [results, Tryz.results130, go_sem, wordP]) rfl ⟨rfl, HBel.out.trans (HX.out.mono HBel.out.size)⟩
theorem cword_wrong (t p s : Int) (w : World) (hr : rightB t p s = false) :
 Calls Tryz.prog 130 #[.agg #[.int .i64 t, .int .i64 p, .int .i64 s]] w fun e w' => e = .returned (.tuple #[.int .u64 0, .bool false]) ∧ Below w.heap.size w w' := by
 have HC := Lib.hid (fun w => check_wrong t p s w hr)
 clear hr
 go_enter Tryz.func130, Tryz.ntmps130
 go_wp2_with fail
 refine (HC.out _).mono ?_
 rintro e w1 ⟨rfl, h1⟩
 go_wp2
 refine bodyPost_ret (v := .tuple #[.int .u64 0, .bool false]) (by simp [results, Tryz.results130, go_sem]) rfl ⟨rfl, ?_⟩
 (repeat (first | exact Below.refl _ _ | assumption | refine Below.setCell ?_ (by first | omega | (simp; done) | (simp; omega)) _ | refine Below.alloc ?_ (by first | omega | (simp; done) | (simp; omega)) _ | refine Below.drew ?_ | refine Below.trans ?_ (Below.mono ‹Below _ _ _› (by first | omega | (simp; done) | (simp; omega)))))
theorem rword_right (t p s : Nat) (w : World) (hr : rightB t p s = true) :
 Calls Tryz.prog 67 #[.agg #[.int .i64 t, .int .i64 p, .int .i64 s]] w fun e w' => e = .returned (.tuple #[.int .u64 (t + p * 65536 + s * 4294967296 : Nat), .bool true]) ∧ Below w.heap.size w w' := by
 obtain ⟨b1, b2, b3, b4, b5, b6⟩ := right_bd hr
 have HC := Lib.hid (fun w => rright_any t p s w)
 rw [hr] at HC
 have hw1 : IntKind.u64.wrap (t : Int) = t := wraps_u64 _ (by omega) (by omega)
 have hw2 : IntKind.u64.wrap (p : Int) = p := wraps_u64 _ (by omega) (by omega)
 have hw3 : IntKind.u64.wrap (s : Int) = s := wraps_u64 _ (by omega) (by omega)
 have hw4 : IntKind.u64.wrap ((p : Int) * 65536) = p * 65536 := wraps_u64 _ (by omega) (by omega)
 have hw5 : IntKind.u64.wrap ((s : Int) * 4294967296) = s * 4294967296 := wraps_u64 _ (by omega) (by omega)
 have hw6 : IntKind.u64.wrap ((t : Int) + p * 65536) = t + p * 65536 := wraps_u64 _ (by omega) (by omega)
 have hw7 : IntKind.u64.wrap ((t : Int) + p * 65536 + s * 4294967296) = t + p * 65536 + s * 4294967296 := wraps_u64 _ (by omega) (by omega)
 clear hr
 go_enter Tryz.func67, Tryz.ntmps67
 go_wp2_with fail
 refine (HC.out _).mono ?_
 rintro e w1 ⟨rfl, ha⟩
 obtain ⟨hac, haf⟩ := bcell ha
 have haz0 : w.heap.size < w1.heap.size := by have := ha.size; first | omega | (simp at this; omega)
 go_wp2
 refine bodyPost_ret (v := .tuple #[.int .u64 (t + p * 65536 + s * 4294967296 : Nat), .bool true]) (by simp [results, Tryz.results67, go_sem]) rfl ⟨rfl, ?_⟩
 (repeat (first | exact Below.refl _ _ | assumption | refine Below.setCell ?_ (by first | omega | (simp; done) | (simp; omega)) _ | refine Below.alloc ?_ (by first | omega | (simp; done) | (simp; omega)) _ | refine Below.drew ?_ | refine Below.trans ?_ (Below.mono ‹Below _ _ _› (by first | omega | (simp; done) | (simp; omega)))))
end Go.Proofs.YtcbikgafdclhaaaGreat
/- view: Vals; the document's Vals. -/
set_option linter.unusedSimpArgs false
set_option linter.unusedVariables false
namespace Go.Proofs.YtcbikgafdclhaaaGreat
open Go.RowKit

/-- two rows of values are held against one another. -/
def ValsRel (a b : List Int) (w : World) (i : Value) (wr : World) : Prop := ∃ k : Nat, k ≤ a.length ∧ i = .int .i64 k ∧ (∀ j, j < k → a[j]? = b[j]?) ∧ Below w.heap.size w wr

/-- what Vals answers: a row of its own. -/
def ValsP (w : World) (l : List Int) (e : Ending) (w' : World) : Prop :=
 ∃ v, e = .returned v ∧ w'.ownsRow 0 90 1 v l.length (uints l) ∧ (∀ k, v.ownBlock = some k → w.heap.size ≤ k) ∧ Below w.heap.size w w'

end Go.Proofs.YtcbikgafdclhaaaGreat
/- words: rows of words against one another; places of words. -/
set_option linter.unusedSimpArgs false
set_option linter.unusedVariables false
namespace Go.Proofs.YtcbikgafdclhaaaGreat
open Go.RowKit

def ulongs (l : List Int) : List Value := l.map (.int .u64)

/-- two rows of words are held against one another. -/
theorem hwords_any (a b : List Int) (va vb : Value) (w : World) (ha : w.ownsRow 0 61 1 va a.length (ulongs a)) (hb : w.ownsRow 0 61 1 vb b.length (ulongs b)) (hna : a.length ≤ 4294967296) (hnb : b.length ≤ 4294967296) :
 Calls Tryz.prog 10 #[va, vb] w fun e w' => e = .returned (.bool (decide (a = b))) ∧ Below w.heap.size w w' := by
 have hca : ∀ wr, Below w.heap.size w wr → ∀ k, k < a.length → ∃ g m c, va = .slice (some ⟨g, 0, none⟩) m c ∧ wr.cell? ⟨g, k, none⟩ = some (.int .u64 (a.getD k 0)) := by
  intro wr hb0 k hk
  obtain ⟨g, cap, rfl⟩ := Joins.ownsRow_form ha (by omega)
  refine ⟨g, _, cap, rfl, ?_⟩
  have e0 : w.cell? ⟨g, k, none⟩ = some (.int .u64 (a.getD k 0)) := by
   rw [ha.cellAt k (by omega)]
   simp [ulongs, hk]
  exact (hb0.cell (World.block_lt_of_cell? w _ e0)).trans e0
 have hcb : ∀ wr, Below w.heap.size w wr → ∀ k, k < b.length → ∃ g m c, vb = .slice (some ⟨g, 0, none⟩) m c ∧ wr.cell? ⟨g, k, none⟩ = some (.int .u64 (b.getD k 0)) := by
  intro wr hb0 k hk
  obtain ⟨g, cap, rfl⟩ := Joins.ownsRow_form hb (by omega)
  refine ⟨g, _, cap, rfl, ?_⟩
  have e0 : w.cell? ⟨g, k, none⟩ = some (.int .u64 (b.getD k 0)) := by
   rw [hb.cellAt k (by omega)]
   simp [ulongs, hk]
  exact (hb0.cell (World.block_lt_of_cell? w _ e0)).trans e0
 obtain ⟨pa, ca, rfl⟩ := row_shape ha
 obtain ⟨pb, cb, rfl⟩ := row_shape hb
 clear ha hb
 generalize hr : decide (a = b) = r
 have HR := Lib.hid hr
 clear hr
 by_cases hl : a.length = b.length
 ·have hlb : ((a.length : Int) != (b.length : Int)) = false := by simp [hl]
  have HL := Lib.hid hl
  clear hl
  go_enter Tryz.func10, Tryz.ntmps10
  go_wp2
  go_loopw [5] (fun i wr => ValsRel a b w i wr) (fun i _ => a.length - (intOf i).toNat)
  case atStart => exact ⟨0, by omega, rfl, by omega, Below.refl _ _⟩
  case round =>
   obtain ⟨k, hk, rfl, hno, hbw⟩ := hrel
   have HN := Lib.hid hno
   have HB := Lib.hid hbw
   have hca := hca _ hbw
   have hcb := hcb _ hbw
   clear hno hbw
   by_cases hlt : k < a.length
   ·have hltb : k < b.length := by have := HL.out; omega
    obtain ⟨g, m, c', hv, c0⟩ := hca k hlt
    obtain ⟨g2, m2, c2', hv2, c1⟩ := hcb k hltb
    simp only [Value.slice.injEq] at hv hv2
    obtain ⟨rfl, rfl, rfl⟩ := hv
    obtain ⟨rfl, rfl, rfl⟩ := hv2
    clear hca hcb
    have HX := Lib.hid (show a[k]? = some (a.getD k 0) by simp [hlt])
    have HX2 := Lib.hid (show b[k]? = some (b.getD k 0) by simp [hltb])
    generalize a.getD k 0 = y at *
    generalize b.getD k 0 = z at *
    by_cases hy : y = z
    ·have hb : (y != z) = false := by simp [hy]
     have HY := Lib.hid hy
     clear hy
     go_wp2
     refine wp_region_noPanic ?_
     refine wp_region_held_drew (S := fun w' => w'.cell? ⟨g, k, none⟩ = some (.int .u64 y) ∧ w'.cell? ⟨g2, k, none⟩ = some (.int .u64 z)) (by kernel_rfl) ?_ (fun hHeld => ?_)
     ·exact ⟨c0, c1⟩
     refine wT 0 ?_
     refine wT 1 ?_
     refine wT 2 ?_
     refine wT 3 ?_
     refine wT 4 ?_
     refine wT 5 ?_
     refine wT 6 ?_
     refine wT 7 ?_
     refine wT 8 ?_
     refine wpAnyH_done (by kernel_rfl) (NoPanic.normal ?_) _
     go_wp2
     go_roundw
     case rel =>
      refine ⟨k + 1, by omega, by go_num, fun j hj => ?_, HB.out.drew⟩
      by_cases e : j = k
      ·subst e; rw [HX.out, HX2.out, HY.out]
      ·exact HN.out j (by omega)
     case measure => simp [intOf]; omega
    ·have hb : (y != z) = true := by simp [hy]
     have HY := Lib.hid hy
     clear hy
     go_wp2
     refine wp_region_noPanic ?_
     refine wp_region_held_drew (S := fun w' => w'.cell? ⟨g, k, none⟩ = some (.int .u64 y) ∧ w'.cell? ⟨g2, k, none⟩ = some (.int .u64 z)) (by kernel_rfl) ?_ (fun hHeld => ?_)
     ·exact ⟨c0, c1⟩
     refine wT 0 ?_
     refine wT 1 ?_
     refine wT 2 ?_
     refine wT 3 ?_
     refine wT 4 ?_
     refine wT 5 ?_
     refine wT 6 ?_
     refine wT 7 ?_
     refine wT 8 ?_
     refine wpAnyH_done (by kernel_rfl) (NoPanic.normal ?_) _
     go_wp2
     go_ret
     refine ⟨ret_bool ?_, HB.out.drew⟩
     rw [← HR.out]
     symm
     simp only [decide_eq_false_iff_not]
     intro hm
     subst hm
     have := HX.out.symm.trans HX2.out
     exact HY.out (Option.some.inj this)
   ·clear hca hcb
    go_wp2
    go_ret
    refine ⟨ret_bool ?_, HB.out⟩
    rw [← HR.out]
    symm
    simp only [decide_eq_true_eq]
    apply List.ext_getElem?
    intro j
    by_cases hj : j < k
    ·exact HN.out j hj
    ·rw [List.getElem?_eq_none (by omega), List.getElem?_eq_none (by have := HL.out; omega)]
 ·have hlb : ((a.length : Int) != (b.length : Int)) = true := by simp; omega
  have HL := Lib.hid hl
  clear hl hca hcb
  go_enter Tryz.func10, Tryz.ntmps10
  go_wp2
  go_ret
  refine ⟨ret_bool ?_, Below.refl _ _⟩
  rw [← HR.out]
  symm
  simp only [decide_eq_false_iff_not]
  intro hm
  exact HL.out (by rw [hm])



def FirstRel (n m : Int) (w : World) (a : Value) (wr : World) : Prop := ∃ k : Int, a = .int .i64 k ∧ n ≤ k ∧ k ≤ m ∧ Below w.heap.size w wr
theorem rfirst_any (t p s : Int) (w : World) (hr : rightB t p s = true) :
 Calls Tryz.prog 66 #[.agg #[.int .i64 t, .int .i64 p, .int .i64 s]] w fun e w' => e = .returned (.int .i64 (makersN t p)) ∧ Below w.heap.size w w' := by
 have H1 := fun w => rcells_any t p s w
 have hcf : cellsF t p s = cellsN t p := by simp [cellsF, hr]
 rw [hcf] at H1
 have HH1 := Lib.hid H1
 have hb : 0 ≤ cellsN t p ∧ cellsN t p ≤ 10000 := by have := right_bd hr; unfold cellsN; omega
 have hm : 16 + cellsN t p ≤ makersN t p ∧ makersN t p < 16 + cellsN t p + 8 ∧ makersN t p % 8 = 0 := by unfold makersN; omega
 generalize makersN t p = m at *
 generalize cellsN t p = n at *
 clear H1 hcf hr
 go_enter Tryz.func66, Tryz.ntmps66
 go_wp2_with fail
 refine (HH1.out _).mono ?_
 rintro e w1 ⟨rfl, ha⟩
 obtain ⟨hac, haf⟩ := bcell ha
 have haz0 : w.heap.size < w1.heap.size := by have := ha.size; first | omega | (simp at this; omega)
 go_wp2
 have HBel : Hid (Below w.heap.size w w1) := Lib.hid (by
  (repeat (first | exact Below.refl _ _ | assumption | refine Below.setCell ?_ (by first | omega | (simp; done) | (simp; omega)) _ | refine Below.alloc ?_ (by first | omega | (simp; done) | (simp; omega)) _ | refine Below.drew ?_ | refine Below.trans ?_ (Below.mono ‹Below _ _ _› (by first | omega | (simp; done) | (simp; omega))))))
 go_loopw [3] (fun a wr => FirstRel (16 + n) m w a wr) (fun a _ => (m - intOf a).toNat)
 case atStart => exact ⟨16 + n, rfl, by omega, by omega, HBel.out⟩
 case round =>
  obtain ⟨k, rfl, k1, k2, hb⟩ := hrel
  by_cases hlt : k = m
  ·have hz : k % 8 = 0 := by omega
   go_wp2
   go_ret
   exact ⟨ret_int hlt, hb⟩
  ·have hz : k % 8 ≠ 0 := by omega
   go_wp2
   go_roundw
   case rel => exact ⟨k + 1, rfl, by omega, by omega, hb⟩
   case measure => simp [intOf]; omega
theorem rwords_right (t p s : Int) (w : World) (hr : rightB t p s = true) :
 Calls Tryz.prog 38 #[.agg #[.int .i64 t, .int .i64 p, .int .i64 s]] w fun e w' => e = .returned (.int .i64 (wordsN t p)) ∧ Below w.heap.size w w' := by
 have HF := Lib.hid (fun w => rfirst_any t p s w hr)
 have HC := Lib.hid (fun w => rright_any t p s w)
 rw [hr] at HC
 have hm : 0 ≤ makersN t p ∧ makersN t p ≤ 10000 := by have := right_bd hr; unfold makersN cellsN; omega
 have hw : wordsN t p = makersN t p + 120 * (t + 1) := rfl
 have ht := (right_bd hr).1
 have ht2 := (right_bd hr).2.1
 rw [hw]
 generalize makersN t p = m at *
 have e1 : IntKind.i64.wrap (t + 1) = t + 1 := IntWalk.i64_in _ (by omega)
 have e2 : IntKind.i64.wrap (120 * (t + 1)) = 120 * (t + 1) := IntWalk.i64_in _ (by omega)
 have e3 : IntKind.i64.wrap (m + 120 * (t + 1)) = m + 120 * (t + 1) := IntWalk.i64_in _ (by omega)
 clear hw hr
 have c0 := loc_alloc w #[.int .i64 t, .int .i64 p, .int .i64 s] 44
 have S0 := ((BS.start w).alloc (.cells #[.int .i64 t, .int .i64 p, .int .i64 s] 44))
 go_enter Tryz.func38, Tryz.ntmps38
 go_wp2_with fail
 refine (calls_b S0 (HC.out _)).mono ?_
 rintro e w1 ⟨rfl, S1, S1l⟩
 have c1 := loc_step S1l (by simp) c0
 clear S1l
 go_wp2_with fail
 refine wp_region_noPanic ?_
 refine wp_region_held_drew (S := fun w' => (∀ o : Nat, w'.cell? ⟨w.heap.size, o, none⟩ = (#[.int .i64 t, .int .i64 p, .int .i64 s] : Array Value)[o]?)) (by kernel_rfl) ?_ (fun hHeld => ?_)
 ·exact c1
 refine wT 0 ?_
 refine wT 2 ?_
 refine wT 3 ?_
 refine wT 4 ?_
 refine wT 5 ?_
 refine wR 1 fun K hK => ?_
 go_simp
 refine (HF.out _).mono ?_
 rintro e w2 ⟨rfl, b2⟩
 have S2 := S1.drew.below b2
 have c2 := ((BS.start _).below b2).oldbox hHeld (S1.ls w.heap.size (by simp)).1
 refine hK.out _ _ ?_ (fun hHeld => ?_)
 ·exact c2
 clear hK K
 try simp only [Act.put, zA, zB, zC, zD, zE, zF]
 refine wT 6 ?_
 refine wT 7 ?_
 refine wpAnyH_done (by kernel_rfl) (NoPanic.normal ?_) _
 go_wp2
 go_ret
 exact ⟨rfl, S2.bel⟩

theorem infoU64 : (Tryz.prog.info? 61).map (fun i => (i.zero, i.size, i.bytes)) = some (some (.int .u64 0), 1, 8) := by kernel_rfl
theorem row_built (w : World) (cs : List Value) (n : Nat) (hn : cs.length = n) (h : n ≤ 1000000) : (w.alloc (.cells cs.toArray 61)).ownsRow 0 61 1 (.slice (some ⟨w.heap.size, 0, none⟩) n n) n cs := by
 refine ⟨by simpa using hn, Or.inr ⟨w.heap.size, n, cs.toArray, rfl, Nat.zero_le _, heap_alloc_new w _, Nat.le_refl _, by unfold maxLen; omega, by simpa using hn, ?_⟩⟩
 simp [← hn]
def headB (x : Nat) (n : Int) : List Int := [5638862229071736881, 1, x, n, 0, 0, 0]
def headL (x : Nat) (n : Int) : List Int := headB x n ++ [sumF (headB x n)]
/-- what answers a row of words of its own. -/
def WordsP (w : World) (l : List Int) (e : Ending) (w' : World) : Prop :=
 ∃ v, e = .returned v ∧ w'.ownsRow 0 61 1 v l.length (ulongs l) ∧ (∀ k, v.ownBlock = some k → w.heap.size ≤ k) ∧ Below w.heap.size w w'
theorem headB_u64 {x : Nat} {n : Int} (hx : x < 18446744073709551616) (hn : 0 ≤ n) (hn2 : n ≤ 100000) : ∀ y ∈ headB x n, 0 ≤ y ∧ y < 18446744073709551616 := by
 intro y hy
 simp [headB] at hy
 omega
set_option maxHeartbeats 1000000 in
set_option maxRecDepth 100000 in
theorem encode_right (t p s x : Nat) (n : Int) (w : World) (hr : rightB t p s = true) (hx : t + p * 65536 + s * 4294967296 = x) (hn : wordsN t p = n) :
 Calls Tryz.prog 79 #[.agg #[.int .i64 t, .int .i64 p, .int .i64 s]] w (WordsP w (headL x n)) := by
 obtain ⟨b1, b2, b3, b4, b5, b6⟩ := right_bd hr
 have HC := Lib.hid (fun w => cword_right t p s w hr)
 rw [hx] at HC
 have HW := Lib.hid (fun w => words_any t p s w)
 have hwf : wordsF t p s = wordsN t p := by simp [wordsF, hr]
 rw [hwf, hn] at HW
 have hx2 : x < 18446744073709551616 := by omega
 have hn2 : 0 ≤ n ∧ n ≤ 100000 := by rw [← hn]; unfold wordsN makersN cellsN; omega
 have hwn : IntKind.u64.wrap n = n := wraps_u64 _ (by omega) (by omega)
 have hu := Lib.hid (headB_u64 hx2 hn2.1 hn2.2)
 have hsb := sumF_bd (headB x n)
 have hws : IntKind.u64.wrap (sumF (headB x n)) = sumF (headB x n) := wraps_u64 _ (by omega) (by omega)
 have hL : headL x n = headB x n ++ [sumF (headB x n)] := rfl
 have HL := Lib.hid hL
 have HS := Lib.hid (fun g w => ssum_any (headB x n) g w)
 generalize sumF (headB x n) = y at *
 obtain ⟨i0, hi0, hi1, hi2, hi3⟩ := info_parts infoU64
 have HI := Lib.hid (And.intro hi0 (And.intro hi1 (And.intro hi2 hi3)))
 clear hi0 hi1 hi2 hi3 hwf hr hx hn hL
 have c0 := loc_alloc w #[.int .i64 t, .int .i64 p, .int .i64 s] 44
 have S0 := ((BS.start w).alloc (.cells #[.int .i64 t, .int .i64 p, .int .i64 s] 44))
 go_enter Tryz.func79, Tryz.ntmps79
 go_wp2_with fail
 refine (calls_b S0 (HC.out _)).mono ?_
 rintro e w1 ⟨rfl, S1, S1l⟩
 have c1 := loc_step S1l (by simp) c0
 clear S1l
 go_wp2_with fail
 refine (calls_b S1 (HW.out _)).mono ?_
 rintro e w2 ⟨rfl, S2, S2l⟩
 have c2 := loc_step S2l (by simp) c1
 clear S2l
 have R2 : (w2.alloc (.cells #[.int .u64 5638862229071736881, .int .u64 1, .int .u64 x, .int .u64 n, .int .u64 0, .int .u64 0, .int .u64 0] 61)).ownsRow 0 61 1 (.slice (some ⟨w2.heap.size, 0, none⟩) 7 7) 7 (ulongs (headB x n)) := row_built w2 (ulongs (headB x n)) 7 (by simp [ulongs, headB]) (by omega)
 have S3 := S2.alloc (.cells #[.int .u64 5638862229071736881, .int .u64 1, .int .u64 x, .int .u64 n, .int .u64 0, .int .u64 0, .int .u64 0] 61)
 go_wp2_with fail
 refine (HS.out w2.heap.size _ (by simp [headB]) hu.out (by simp) (fun j hj => ?_)).mono ?_
 ·have := R2.cellAt j (by simpa [headB] using hj)
  rw [this]
  simp [ulongs, hj]
 rintro e w3 ⟨rfl, b3⟩
 have R3 := ((BS.start _).below b3).row R2
 have S4 := S3.below b3
 have l2 : w2.heap.size < w3.heap.size := (S4.ls w2.heap.size (by simp)).1
 clear S0 S1 S2 S3 R2 c0 c1 c2 b3 HC HW HS hu
 go_wp2_with (at_builtin; go_must (refine wpL_append rfl _ _ rfl 61 i0 (.int .u64 0) 1 8 Tryz.underlying22 HI.out.1 HI.out.2.1 HI.out.2.2.1 HI.out.2.2.2 rfl (by decide) (.slice (some ⟨w2.heap.size, 0, none⟩) 7 7) 7 (ulongs (headB x n)) rfl (R3.alloc _) ⟨w3.heap.size, 0, none⟩ 1 1 [.int .u64 y] rfl rfl (cell_one_new _ _ _) ?c1 ?c2 ?c3 ?_); go_must (case c1 => (simp [Value.oneCell'])); go_must (case c2 => (unfold maxLen; omega)); go_must (case c3 => (omega)); go_must (intro v' w5 hown5 hg5 hnew5 hnil5); clear hnil5)
 go_ret
 have S5 := (S4.alloc (.cells #[.int .u64 y] 61)).grown hg5 (fun k hk => by simp [Value.ownBlock] at hk; simp [hk]) [] (by simp)
 refine ⟨v', rfl, ?_, fun k hk => ?_, S5.bel⟩
 ·rw [HL.out]
  simpa [headB, ulongs] using hown5
 ·have := S4.bel.size
  rcases hnew5 k hk with h | h
  ·simp [Value.ownBlock] at h
   have := (S4.ls w2.heap.size (by simp)).2
   omega
  ·simp at h; omega
theorem encode_wrong (t p s : Int) (w : World) (hr : rightB t p s = false) :
 Calls Tryz.prog 79 #[.agg #[.int .i64 t, .int .i64 p, .int .i64 s]] w (WordsP w []) := by
 have HC := Lib.hid (fun w => cword_wrong t p s w hr)
 go_enter Tryz.func79, Tryz.ntmps79
 go_wp2_with fail
 refine (HC.out _).mono ?_
 rintro e w1 ⟨rfl, ha⟩
 obtain ⟨hac, haf⟩ := bcell ha
 have haz0 : w.heap.size < w1.heap.size := by have := ha.size; first | omega | (simp at this; omega)
 go_wp2
 go_ret
 refine ⟨_, rfl, World.ownsRow_nil _ _ _ _, by simp [Value.ownBlock], ?_⟩
 (repeat (first | exact Below.refl _ _ | assumption | refine Below.setCell ?_ (by first | omega | (simp; done) | (simp; omega)) _ | refine Below.alloc ?_ (by first | omega | (simp; done) | (simp; omega)) _ | refine Below.drew ?_ | refine Below.trans ?_ (Below.mono ‹Below _ _ _› (by first | omega | (simp; done) | (simp; omega)))))
end Go.Proofs.YtcbikgafdclhaaaGreat
/- slices among the arguments, opened as rows that can be read: any element. -/
set_option linter.unusedSimpArgs false
set_option linter.unusedVariables false
namespace Go.Proofs.YtcbikgafdclhaaaGreat
open Go.ChangeShapes Go.RowKit

theorem addr_add_add (a : Addr) (m j : Nat) : (a.add m).add j = a.add (m + j) := by
 by_cases h : m = 0
 ·subst h; simp [Addr.add]
 ·by_cases h2 : j = 0
  ·subst h2; simp [Addr.add]
  ·simp [Addr.add, h, h2]; omega
theorem flat_len {α : Type} (f : α → List Value) (sz : Nat) (hf : ∀ a, (f a).length = sz) (l : List α) : (l.flatMap f).length = l.length * sz := by
 induction l with
 | nil => simp
 | cons y ys ih => simp [ih, hf, Nat.succ_mul]; omega
theorem flat_cell {α : Type} (f : α → List Value) (sz : Nat) (hf : ∀ a, (f a).length = sz) {l : List α} {k : Nat} {a : α} (h : l[k]? = some a) {j : Nat} {u : Value} (hj : (f a)[j]? = some u) : (l.flatMap f)[k * sz + j]? = some u := by
 induction l generalizing k with
 | nil => simp at h
 | cons p r ih =>
  have hjl : j < sz := by have := (List.getElem?_eq_some_iff.1 hj).1; rw [hf] at this; exact this
  cases k with
  | zero =>
   simp at h; subst h
   rw [List.flatMap_cons, List.getElem?_append_left (by rw [hf]; omega), Nat.zero_mul, Nat.zero_add]
   exact hj
  | succ k =>
   rw [List.flatMap_cons, List.getElem?_append_right (by rw [hf, Nat.succ_mul]; omega), hf]
   rw [show (k + 1) * sz + j - sz = k * sz + j by rw [Nat.succ_mul]; omega]
   exact ih (by simpa using h)

section
variable {H : Type} {enc : TypeId × Value → H} {w : World} {base : Nat} {spare : Nat → Bool} {held : Bool}
end

theorem Rd.keepBy {w w' : World} {v : Value} {sz n : Nat} {xs : List Value} {B : Nat} (hh : Rd w v sz n xs) (hb : Below B w w') (hB : w.heap.size ≤ B) : Rd w' v sz n xs := by
 obtain ⟨hl, hh⟩ := hh
 refine ⟨hl, hh.imp_right ?_⟩
 rintro ⟨ad, c, rfl, hcc⟩
 exact ⟨ad, c, rfl, fun j u hj => (hb.cell (Nat.lt_of_lt_of_le (World.block_lt_of_cell? w _ (hcc j u hj)) hB)).trans (hcc j u hj)⟩
theorem Rd.len {w : World} {v : Value} {sz n : Nat} {xs : List Value} (h : Rd w v sz n xs) : ∃ a c, v = .slice a n c := by
 obtain ⟨hl, ⟨rfl, h0⟩ | ⟨ad, c, rfl, hcc⟩⟩ := h
 ·exact ⟨_, _, by rw [h0]⟩
 ·exact ⟨_, _, rfl⟩
end Go.Proofs.YtcbikgafdclhaaaGreat
/- what words come to when a change was cut off: plain. -/
set_option linter.unusedSimpArgs false
set_option linter.unusedVariables false
namespace Go.Proofs.YtcbikgafdclhaaaGreat

def hiW (w : Int) : Int := w / 4294967296
def loW (w : Int) : Int := w % 4294967296
def joinW (h l : Int) : Int := h * 4294967296 + l
/-- the tip: stamp, maker. -/
def tipW (w : Int) : Option (Int × Int) := if loW w ≤ 16 then some (hiW w, loW w) else none
/-- a note: stamp, open, count. -/
def noteW (w : Int) : Option (Int × Bool × Int) := if loW w % 2147483648 ≤ 96 then some (hiW w, decide (2147483648 ≤ loW w), loW w % 2147483648) else none
def entryW (w : Int) : Option (Int × Int) := if hiW w ≤ 65535 then some (hiW w, loW w) else none
/-- how many cells an open change of a stamp writes. -/
def openW (w s : Int) : Option Int := match noteW w with
 | some (st, true, n) => if st = s then some n else none
 | _ => none
def noteAt (t p u : Int) : Int := makersN t p + 120 * u + 16
def logAt (t p u i : Int) : Int := makersN t p + 120 * u + 24 + i
def entriesF (N : Int) : List Int → Option (List (Int × Int))
 | [] => some []
 | x :: r => match entryW x with
  | some (c, v) => if c < N then (entriesF N r).map ((c, v) :: ·) else none
  | none => none
def turnL (s : Int) : List (Int × Int) → List Int → List Int
 | [], ws => ws
 | x :: l, ws => turnL s l (if hiW (ws.getD (16 + x.1).toNat 0) < s then ws.set (16 + x.1).toNat (joinW s x.2) else ws)
/-- no cell's stamp is beyond. -/
def stampsB (ws : List Int) (s : Int) (n : Nat) : Bool := (List.range n).all fun i => decide (hiW (ws.getD (16 + i) 0) ≤ s)
/-- a maker's note and entries. -/
def mlogF (t p : Int) (ws : List Int) (u : Int) : Option ((Int × Bool × Int) × List (Int × Int)) := match noteW (ws.getD (noteAt t p u).toNat 0) with
 | some (st, o, n) => (entriesF (cellsN t p) ((ws.drop (logAt t p u 0).toNat).take n.toNat)).map fun l => ((st, o, n), l)
 | none => none
/-- the last change: its stamp, its maker, and its entries if it is open. -/
def lastF (t p : Int) (ws : List Int) : Option (Int × Int × Option (List (Int × Int))) := match tipW (ws.getD 8 0) with
 | some (s, u) => if u ≤ t then
  if stampsB ws s (cellsN t p).toNat = true then match openW (ws.getD (noteAt t p u).toNat 0) s with
   | some _ => (mlogF t p ws u).map fun x => (s, u, some x.2)
   | none => some (s, u, none)
  else none
  else none
 | none => none
/-- the words behind the last change. -/
def behindF (s : Int) (l : Option (List (Int × Int))) (ws : List Int) : List Int := match l with
 | some l => turnL s l ws
 | none => ws
def valsW (n : Nat) (ws : List Int) : List Int := (List.range n).map fun i => loW (ws.getD (16 + i) 0)
def rightW (t p s : Int) (ws : List Int) : Bool := rightB t p s && decide ((ws.length : Int) = wordsN t p)
def settleF (t p s : Int) (ws : List Int) : Option (List Int) := if rightW t p s ws = true then (lastF t p ws).map fun x => valsW (cellsN t p).toNat (behindF x.1 x.2.2 ws) else none

theorem hi_bd {w : Int} (h : U64 w) : 0 ≤ hiW w ∧ hiW w < 4294967296 := by unfold U64 at h; unfold hiW; omega
theorem lo_bd (w : Int) : 0 ≤ loW w ∧ loW w < 4294967296 := by unfold loW; omega
theorem join_u64 {h l : Int} (hh : 0 ≤ h ∧ h < 4294967296) (hl : 0 ≤ l ∧ l < 4294967296) : U64 (joinW h l) := by unfold U64 joinW; omega
theorem turnL_len (s : Int) : ∀ (l : List (Int × Int)) (ws : List Int), (turnL s l ws).length = ws.length
 | [], _ => rfl
 | x :: l, ws => by
  unfold turnL
  rw [turnL_len s l]
  split <;> simp
theorem turnL_u64 {s : Int} (hs : 0 ≤ s ∧ s < 4294967296) : ∀ (l : List (Int × Int)) (ws : List Int), (∀ x ∈ l, 0 ≤ x.2 ∧ x.2 < 4294967296) → (∀ w ∈ ws, U64 w) → ∀ w ∈ turnL s l ws, U64 w
 | [], _, _, h => h
 | x :: l, ws, hl, h => by
  unfold turnL
  refine turnL_u64 hs l _ (fun y hy => hl y (by simp [hy])) ?_
  split
  ·intro w hw
   rcases List.mem_or_eq_of_mem_set hw with hw | rfl
   ·exact h w hw
   ·exact join_u64 hs (hl x (by simp))
  ·exact h
theorem entriesF_bd {N : Int} : ∀ {ws : List Int} {l : List (Int × Int)}, (∀ w ∈ ws, U64 w) → entriesF N ws = some l → l.length = ws.length ∧ ∀ x ∈ l, 0 ≤ x.1 ∧ x.1 < N ∧ 0 ≤ x.2 ∧ x.2 < 4294967296
 | [], l, _, h => by
  unfold entriesF at h
  cases h
  exact ⟨rfl, fun x hx => by cases hx⟩
 | w :: ws, l, hu, h => by
  unfold entriesF at h
  have hw := hi_bd (hu w (by simp))
  have hl := lo_bd w
  revert h
  unfold entryW
  by_cases h1 : hiW w ≤ 65535
  ·rw [if_pos h1]
   dsimp only
   by_cases h2 : hiW w < N
   ·rw [if_pos h2]
    intro h
    obtain ⟨r, hr, rfl⟩ := Option.map_eq_some_iff.1 h
    have ih := entriesF_bd (fun y hy => hu y (by simp [hy])) hr
    refine ⟨by simp [ih.1], fun x hx => ?_⟩
    rcases List.mem_cons.1 hx with rfl | hx
    ·exact ⟨hw.1, h2, hl.1, hl.2⟩
    ·exact ih.2 x hx
   ·rw [if_neg h2]; intro h; cases h
  ·rw [if_neg h1]; intro h; cases h
theorem valsW_len (n : Nat) (ws : List Int) : (valsW n ws).length = n := by simp [valsW]
theorem valsW_u32 (n : Nat) (ws : List Int) : ∀ v ∈ valsW n ws, 0 ≤ v ∧ v < 4294967296 := by
 intro v hv
 obtain ⟨i, -, rfl⟩ := List.mem_map.1 hv
 exact lo_bd _
theorem valsW_congr {n : Nat} {ws ws' : List Int} (h : ∀ i, i < n → ws[16 + i]? = ws'[16 + i]?) : valsW n ws = valsW n ws' := by
 unfold valsW
 refine List.map_congr_left fun i hi => ?_
 rw [List.getD_eq_getElem?_getD, List.getD_eq_getElem?_getD, h i (List.mem_range.1 hi)]
theorem note_bd {w st n : Int} {o : Bool} (hw : U64 w) (h : noteW w = some (st, o, n)) : st = hiW w ∧ 0 ≤ n ∧ n ≤ 96 ∧ (o = decide (2147483648 ≤ loW w)) ∧ n = loW w % 2147483648 := by
 unfold noteW at h
 split at h
 ·simp only [Option.some.injEq, Prod.mk.injEq] at h
  obtain ⟨rfl, rfl, rfl⟩ := h
  have := lo_bd w
  exact ⟨rfl, by omega, by assumption, rfl, rfl⟩
 ·cases h
end Go.Proofs.YtcbikgafdclhaaaGreat
/- head: the document's Encode; the words of cells and of the tip. -/
set_option linter.unusedSimpArgs false
set_option linter.unusedVariables false
namespace Go.Proofs.YtcbikgafdclhaaaGreat
open Go.RowKit

set_option maxHeartbeats 1000000 in
set_option maxRecDepth 100000 in
theorem rencode_right (t p s x : Nat) (n : Int) (w : World) (hr : rightB t p s = true) (hx : t + p * 65536 + s * 4294967296 = x) (hn : wordsN t p = n) :
 Calls Tryz.prog 39 #[.agg #[.int .i64 t, .int .i64 p, .int .i64 s]] w (WordsP w (headL x n)) := by
 obtain ⟨b1, b2, b3, b4, b5, b6⟩ := right_bd hr
 have HC := Lib.hid (fun w => rword_right t p s w hr)
 rw [hx] at HC
 have HW := Lib.hid (fun w => rwords_right t p s w hr)
 rw [hn] at HW
 have hx2 : x < 18446744073709551616 := by omega
 have hn2 : 0 ≤ n ∧ n ≤ 100000 := by rw [← hn]; unfold wordsN makersN cellsN; omega
 have hwn : IntKind.u64.wrap n = n := wraps_u64 _ (by omega) (by omega)
 have hu := Lib.hid (headB_u64 hx2 hn2.1 hn2.2)
 have hsb := sumF_bd (headB x n)
 have hws : IntKind.u64.wrap (sumF (headB x n)) = sumF (headB x n) := wraps_u64 _ (by omega) (by omega)
 have hL : headL x n = headB x n ++ [sumF (headB x n)] := rfl
 have HL := Lib.hid hL
 have HS := Lib.hid (fun g w => rsum_any (headB x n) g w)
 generalize sumF (headB x n) = y at *
 obtain ⟨i0, hi0, hi1, hi2, hi3⟩ := info_parts infoU64
 have HI := Lib.hid (And.intro hi0 (And.intro hi1 (And.intro hi2 hi3)))
 clear hi0 hi1 hi2 hi3 hr hx hn hL
 have c0 := loc_alloc w #[.int .i64 t, .int .i64 p, .int .i64 s] 44
 have S0 := ((BS.start w).alloc (.cells #[.int .i64 t, .int .i64 p, .int .i64 s] 44))
 go_enter Tryz.func39, Tryz.ntmps39
 go_wp2_with fail
 refine (calls_b S0 (HC.out _)).mono ?_
 rintro e w1 ⟨rfl, S1, S1l⟩
 have c1 := loc_step S1l (by simp) c0
 clear S1l
 go_wp2_with fail
 refine (calls_b S1 (HW.out _)).mono ?_
 rintro e w2 ⟨rfl, S2, S2l⟩
 have c2 := loc_step S2l (by simp) c1
 clear S2l
 have R2 : (w2.alloc (.cells #[.int .u64 5638862229071736881, .int .u64 1, .int .u64 x, .int .u64 n, .int .u64 0, .int .u64 0, .int .u64 0] 61)).ownsRow 0 61 1 (.slice (some ⟨w2.heap.size, 0, none⟩) 7 7) 7 (ulongs (headB x n)) := row_built w2 (ulongs (headB x n)) 7 (by simp [ulongs, headB]) (by omega)
 have S3 := S2.alloc (.cells #[.int .u64 5638862229071736881, .int .u64 1, .int .u64 x, .int .u64 n, .int .u64 0, .int .u64 0, .int .u64 0] 61)
 go_wp2_with fail
 refine (HS.out w2.heap.size _ (by simp [headB]) hu.out (by simp) (fun j hj => ?_)).mono ?_
 ·have := R2.cellAt j (by simpa [headB] using hj)
  rw [this]
  simp [ulongs, hj]
 rintro e w3 ⟨rfl, b3⟩
 have R3 := ((BS.start _).below b3).row R2
 have S4 := S3.below b3
 have l2 : w2.heap.size < w3.heap.size := (S4.ls w2.heap.size (by simp)).1
 clear S0 S1 S2 S3 R2 c0 c1 c2 b3 HC HW HS hu
 go_wp2_with (at_builtin; go_must (refine wpL_append rfl _ _ rfl 61 i0 (.int .u64 0) 1 8 Tryz.underlying22 HI.out.1 HI.out.2.1 HI.out.2.2.1 HI.out.2.2.2 rfl (by decide) (.slice (some ⟨w2.heap.size, 0, none⟩) 7 7) 7 (ulongs (headB x n)) rfl (R3.alloc _) ⟨w3.heap.size, 0, none⟩ 1 1 [.int .u64 y] rfl rfl (cell_one_new _ _ _) ?c1 ?c2 ?c3 ?_); go_must (case c1 => (simp [Value.oneCell'])); go_must (case c2 => (unfold maxLen; omega)); go_must (case c3 => (omega)); go_must (intro v' w5 hown5 hg5 hnew5 hnil5); clear hnil5)
 go_ret
 have S5 := (S4.alloc (.cells #[.int .u64 y] 61)).grown hg5 (fun k hk => by simp [Value.ownBlock] at hk; simp [hk]) [] (by simp)
 refine ⟨v', rfl, ?_, fun k hk => ?_, S5.bel⟩
 ·rw [HL.out]
  simpa [headB, ulongs] using hown5
 ·have := S4.bel.size
  rcases hnew5 k hk with h | h
  ·simp [Value.ownBlock] at h
   have := (S4.ls w2.heap.size (by simp)).2
   omega
  ·simp at h; omega
theorem rjoin10 (w : World) : Calls Tryz.prog 40 #[.int .u32 1, .int .u32 0] w fun e w' => e = .returned (.int .u64 4294967296) ∧ Below w.heap.size w w' := by
 go_enter Tryz.func40, Tryz.ntmps40
 go_wp2
 go_ret
 exact ⟨rfl, Below.refl _ _⟩
theorem pword_any (t p s c : Int) (w : World) (hr : rightB t p s = true) (h0 : 0 ≤ c) (h1 : c < cellsN t p) :
 Calls Tryz.prog 53 #[.agg #[.int .i64 t, .int .i64 p, .int .i64 s], .int .i64 c] w fun e w' => e = .returned (.int .i64 (16 + c)) ∧ Below w.heap.size w w' := by
 have HL := Lib.hid (fun w => lay_right t p s w hr)
 have HC := Lib.hid (fun m w => lcells_any t p s m w hr)
 have hb : cellsN t p ≤ 10000 := by have := right_bd hr; unfold cellsN; omega
 have HW := Lib.hid (fun w => within_any 16 c (cellsN t p) w (by omega) (by omega) (by omega))
 have hwf : withinF 16 c (cellsN t p) = 16 + c := by unfold withinF; rw [if_neg (by omega)]
 rw [hwf] at HW
 generalize cellsN t p = n at *
 clear hwf hr
 go_enter Tryz.func53, Tryz.ntmps53
 go_wp2_with fail
 refine (HL.out _).mono ?_
 rintro e w1 ⟨rfl, ha⟩
 obtain ⟨hac, haf⟩ := bcell ha
 have haz0 : w.heap.size < w1.heap.size := by have := ha.size; first | omega | (simp at this; omega)
 go_wp2_with fail
 refine (HC.out _ _).mono ?_
 rintro e w2 ⟨rfl, hb2⟩
 obtain ⟨hb2c, hb2f⟩ := bcell hb2
 go_wp2_with fail
 refine (HW.out _).mono ?_
 rintro e w3 ⟨rfl, rfl⟩
 go_wp2
 go_ret
 refine ⟨rfl, ?_⟩
 (repeat (first | exact Below.refl _ _ | assumption | refine Below.setCell ?_ (by first | omega | (simp; done) | (simp; omega)) _ | refine Below.alloc ?_ (by first | omega | (simp; done) | (simp; omega)) _ | refine Below.drew ?_ | refine Below.trans ?_ (Below.mono ‹Below _ _ _› (by first | omega | (simp; done) | (simp; omega)))))
end Go.Proofs.YtcbikgafdclhaaaGreat
/- the document's small functions: places, bits, classes, infos. -/
set_option linter.unusedSimpArgs false
set_option linter.unusedVariables false
namespace Go.Proofs.YtcbikgafdclhaaaGreat
open Go.RowKit

theorem rinfo_any (t p s q : Int) (w : World) :
 Calls Tryz.prog 73 #[.agg #[.int .i64 t, .int .i64 p, .int .i64 s], .int .i64 q] w fun e w' => e = .returned (.int .i64 (ofF t p s q 0)) ∧ Below w.heap.size w w' := by
 go_enter Tryz.func73, Tryz.ntmps73
 go_wp2_with fail
 refine (rpage_any _ _ _ _ _ _ (by omega) (by omega)).mono ?_
 rintro e w1 ⟨rfl, ha⟩
 obtain ⟨hac, haf⟩ := bcell ha
 go_wp2
 go_ret
 refine ⟨rfl, ?_⟩
 (repeat (first | exact Below.refl _ _ | assumption | refine Below.setCell ?_ (by first | omega | (simp; done) | (simp; omega)) _ | refine Below.alloc ?_ (by first | omega | (simp; done) | (simp; omega)) _ | refine Below.drew ?_ | refine Below.trans ?_ (Below.mono ‹Below _ _ _› (by first | omega | (simp; done) | (simp; omega)))))
theorem rfoot_any (t p s q : Int) (w : World) :
 Calls Tryz.prog 74 #[.agg #[.int .i64 t, .int .i64 p, .int .i64 s], .int .i64 q] w fun e w' => e = .returned (.int .i64 (ofF t p s q 1)) ∧ Below w.heap.size w w' := by
 go_enter Tryz.func74, Tryz.ntmps74
 go_wp2_with fail
 refine (rpage_any _ _ _ _ _ _ (by omega) (by omega)).mono ?_
 rintro e w1 ⟨rfl, ha⟩
 obtain ⟨hac, haf⟩ := bcell ha
 go_wp2
 go_ret
 refine ⟨rfl, ?_⟩
 (repeat (first | exact Below.refl _ _ | assumption | refine Below.setCell ?_ (by first | omega | (simp; done) | (simp; omega)) _ | refine Below.alloc ?_ (by first | omega | (simp; done) | (simp; omega)) _ | refine Below.drew ?_ | refine Below.trans ?_ (Below.mono ‹Below _ _ _› (by first | omega | (simp; done) | (simp; omega)))))
theorem rslots_any (t p s q : Int) (w : World) :
 Calls Tryz.prog 237 #[.agg #[.int .i64 t, .int .i64 p, .int .i64 s], .int .i64 q] w fun e w' => e = .returned (.int .i64 (ofF t p s q 4)) ∧ Below w.heap.size w w' := by
 go_enter Tryz.func237, Tryz.ntmps237
 go_wp2_with fail
 refine (rpage_any _ _ _ _ _ _ (by omega) (by omega)).mono ?_
 rintro e w1 ⟨rfl, ha⟩
 obtain ⟨hac, haf⟩ := bcell ha
 go_wp2
 go_ret
 refine ⟨rfl, ?_⟩
 (repeat (first | exact Below.refl _ _ | assumption | refine Below.setCell ?_ (by first | omega | (simp; done) | (simp; omega)) _ | refine Below.alloc ?_ (by first | omega | (simp; done) | (simp; omega)) _ | refine Below.drew ?_ | refine Below.trans ?_ (Below.mono ‹Below _ _ _› (by first | omega | (simp; done) | (simp; omega)))))
theorem rtaken_any (t p s q : Int) (w : World) :
 Calls Tryz.prog 238 #[.agg #[.int .i64 t, .int .i64 p, .int .i64 s], .int .i64 q] w fun e w' => e = .returned (.int .i64 (ofF t p s q 5)) ∧ Below w.heap.size w w' := by
 go_enter Tryz.func238, Tryz.ntmps238
 go_wp2_with fail
 refine (rpage_any _ _ _ _ _ _ (by omega) (by omega)).mono ?_
 rintro e w1 ⟨rfl, ha⟩
 obtain ⟨hac, haf⟩ := bcell ha
 go_wp2
 go_ret
 refine ⟨rfl, ?_⟩
 (repeat (first | exact Below.refl _ _ | assumption | refine Below.setCell ?_ (by first | omega | (simp; done) | (simp; omega)) _ | refine Below.alloc ?_ (by first | omega | (simp; done) | (simp; omega)) _ | refine Below.drew ?_ | refine Below.trans ?_ (Below.mono ‹Below _ _ _› (by first | omega | (simp; done) | (simp; omega)))))

theorem rbin_any (k : Nat) (w : World) (h : k < 11) :
 Calls Tryz.prog 70 #[.int .i64 k] w fun e w' => e = .returned (.int .i64 ((2 + k : Nat) : Int)) ∧ Below w.heap.size w w' := by
 go_enter Tryz.func70, Tryz.ntmps70
 go_wp2
 go_ret
 exact ⟨ret_int (by omega), Below.refl _ _⟩
theorem rrack_any (k : Nat) (w : World) (h : k < 9) :
 Calls Tryz.prog 215 #[.int .i64 k] w fun e w' => e = .returned (.int .i64 ((13 + k : Nat) : Int)) ∧ Below w.heap.size w w' := by
 go_enter Tryz.func215, Tryz.ntmps215
 go_wp2
 go_ret
 exact ⟨ret_int (by omega), Below.refl _ _⟩
theorem rroot_any (k : Nat) (w : World) (h : k < 8) :
 Calls Tryz.prog 62 #[.int .i64 k] w fun e w' => e = .returned (.int .i64 ((22 + k : Nat) : Int)) ∧ Below w.heap.size w w' := by
 go_enter Tryz.func62, Tryz.ntmps62
 go_wp2
 go_ret
 exact ⟨ret_int (by omega), Below.refl _ _⟩

def bitB (v : Int) (i : Nat) : Bool := decide (i < 32) && (v / 2 ^ i % 2 == 1)
theorem rbit_any (v : Int) (i : Nat) (w : World) (h : i < 32) (h1 : 0 ≤ v) :
 Calls Tryz.prog 177 #[.int .u32 v, .int .i64 i] w fun e w' => e = .returned (.bool (bitB v i)) ∧ Below w.heap.size w w' := by
 have hd : 0 ≤ v / 2 ^ i := Int.ediv_nonneg h1 (Int.pow_nonneg (by omega))
 go_enter Tryz.func177, Tryz.ntmps177
 go_wp2
 go_ret
 exact ⟨ret_bool (by simp [bitB, h]), Below.refl _ _⟩

def slotsF (k : Int) : Int := if k = 0 then 32 else if k = 1 then 21 else if k = 2 then 16 else if k = 3 then 10 else if k = 4 then 8 else if k = 5 then 5 else if k = 6 then 4 else if k = 7 then 3 else if k = 8 then 2 else 0
theorem slots_bd (k : Int) : 0 ≤ slotsF k ∧ slotsF k ≤ 32 := by unfold slotsF; repeat' split <;> omega
theorem rkslots_any (k : Int) (w : World) :
 Calls Tryz.prog 211 #[.int .i64 k] w fun e w' => e = .returned (.int .i64 (slotsF k)) ∧ Below w.heap.size w w' := by
 generalize hF : slotsF k = F
 have HF := Lib.hid hF
 clear hF
 go_enter Tryz.func211, Tryz.ntmps211
 go_wp2
 all_goals
  go_ret
  refine ⟨ret_int ?_, Below.refl _ _⟩
  have e := HF.out
  subst e
  clear HF
  simp_all [slotsF]


def onesN (v : Int) : Nat → Nat
 | 0 => 0
 | k + 1 => onesN v k + if bitB v k then 1 else 0
theorem onesN_le (v : Int) (k : Nat) : onesN v k ≤ k := by
 induction k with
 | zero => exact Nat.le_refl _
 | succ k ih => unfold onesN; split <;> omega
def OnesRel (v : Int) (w : World) (a i : Value) (wr : World) : Prop := ∃ k : Nat, k ≤ 32 ∧ i = .int .i64 k ∧ a = .int .i64 (onesN v k) ∧ Below w.heap.size w wr
theorem rones_any (v : Int) (w : World) (h1 : 0 ≤ v) :
 Calls Tryz.prog 220 #[.int .u32 v] w fun e w' => e = .returned (.int .i64 (onesN v 32)) ∧ Below w.heap.size w w' := by
 go_enter Tryz.func220, Tryz.ntmps220
 go_wp2
 go_loopw [3, 4] (fun a i wr => OnesRel v w a i wr) (fun _ i _ => 32 - (intOf i).toNat)
 case atStart => exact ⟨0, by omega, rfl, rfl, Below.refl _ _⟩
 case round =>
  obtain ⟨k, hk, rfl, rfl, hb⟩ := hrel
  have hle := onesN_le v k
  by_cases hlt : k < 32
  ·have HB := rbit_any v k wr hlt h1
   have hs : onesN v (k + 1) = onesN v k + if bitB v k then 1 else 0 := rfl
   have HS := Lib.hid hs
   clear hs
   generalize bitB v k = z at *
   have HC := Lib.hid HB
   have HX := Lib.hid hb
   clear HB hb
   cases z
   ·go_wp2_with fail
    refine HC.out.mono ?_
    rintro e w1 ⟨rfl, b1⟩
    go_wp2_with fail
    go_roundw
    case rel => exact ⟨k + 1, by omega, by go_num, by rw [HS.out]; simp, HX.out.trans (b1.mono HX.out.size)⟩
    case measure => simp [intOf]; omega
   ·go_wp2_with fail
    refine HC.out.mono ?_
    rintro e w1 ⟨rfl, b1⟩
    go_wp2_with fail
    go_roundw
    case rel => exact ⟨k + 1, by omega, by go_num, by rw [HS.out]; simp, HX.out.trans (b1.mono HX.out.size)⟩
    case measure => simp [intOf]; omega
  ·obtain rfl : k = 32 := by omega
   go_wp2
   go_ret
   exact ⟨rfl, hb⟩

def bitsN (n : Nat) : Nat := if n = 0 then 0 else n.log2 + 1
theorem bitsN_half (n : Nat) (h : 1 ≤ n) : bitsN n = bitsN (n / 2) + 1 := by
 unfold bitsN
 rw [if_neg (by omega), Nat.log2_def]
 by_cases h2 : 2 ≤ n
 ·rw [if_pos h2, if_neg (by omega)]
 ·rw [if_neg h2, if_pos (by omega)]
theorem bitsN_le (n : Nat) : bitsN n ≤ n := by
 unfold bitsN
 split
 ·omega
 ·have := Nat.log2_lt (n := n) (k := n) (by omega)
  have := this.2 Nat.lt_two_pow_self
  omega
def logF (n : Int) : Int := (bitsN n.toNat : Int) - 1
def LogRel (n : Int) (w : World) (a i : Value) (wr : World) : Prop := ∃ c k : Nat, a = .int .i64 c ∧ c ≤ 1000000 ∧ i = .int .i64 ((k : Int) - 1) ∧ k + bitsN c = bitsN n.toNat ∧ w = wr
theorem rlog_any (n : Int) (w : World) (h1 : 0 ≤ n) (h2 : n ≤ 1000000) :
 Calls Tryz.prog 122 #[.int .i64 n] w fun e w' => e = .returned (.int .i64 (logF n)) ∧ Below w.heap.size w w' := by
 have hbn := bitsN_le n.toNat
 obtain ⟨m, rfl⟩ := Int.eq_ofNat_of_zero_le h1
 simp at hbn
 generalize hF : logF m = F
 have HF := Lib.hid hF
 clear hF h1
 have h3 : m ≤ 1000000 := by omega
 clear h2
 go_enter Tryz.func122, Tryz.ntmps122
 go_wp2
 go_loopw [0, 3] (fun a i wr => LogRel m w a i wr) (fun a _ _ => (intOf a).toNat)
 case atStart => exact ⟨m, 0, rfl, h3, rfl, by simp, rfl⟩
 case round =>
  obtain ⟨c, k, rfl, hc, rfl, hs, rfl⟩ := hrel
  have hbc := bitsN_le c
  have hs2 : k + bitsN c = bitsN m := by simpa using hs
  have HS := Lib.hid hs2
  have hk : k ≤ 1000000 := by omega
  clear hs hs2
  by_cases hlt : 1 ≤ c
  ·go_wp2
   go_roundw
   case rel => exact ⟨c / 2, k + 1, by simp, by omega, by congr 1; omega, by have := HS.out; have := bitsN_half c hlt; simp; omega, rfl⟩
   case measure => simp [intOf]; omega
  ·go_wp2
   go_ret
   refine ⟨ret_int ?_, Below.refl _ _⟩
   have := HS.out
   have e := HF.out
   subst e
   have : bitsN c = 0 := by unfold bitsN; rw [if_pos (by omega)]
   simp [logF]
   omega

def fullB (v k : Int) : Bool := ((onesN v 32 : Nat) : Int) == slotsF k
theorem rfull_any (v k : Int) (w : World) (h1 : 0 ≤ v) :
 Calls Tryz.prog 217 #[.int .u32 v, .int .i64 k] w fun e w' => e = .returned (.bool (fullB v k)) ∧ Below w.heap.size w w' := by
 have H1 := Lib.hid (fun w => rones_any v w h1)
 generalize hz : fullB v k = z
 have HZ := Lib.hid hz
 clear hz h1
 go_enter Tryz.func217, Tryz.ntmps217
 go_wp2_with fail
 refine (H1.out _).mono ?_
 rintro e w1 ⟨rfl, b1⟩
 go_wp2_with fail
 refine (rkslots_any _ _).mono ?_
 rintro e w2 ⟨rfl, b2⟩
 go_wp2_with fail
 go_ret
 exact ⟨ret_bool HZ.out, b1.trans (b2.mono b1.size)⟩

def rightI (k l c : Int) : Bool :=
 if k = 0 then decide (l = 0) && decide (c = 0)
 else if k = 1 ∨ k = 2 then decide (1 ≤ l) && decide (l ≤ 1024) && decide (c = 0)
 else if k = 3 then decide (l = 1) && decide (0 ≤ c) && decide (c ≤ 8) else false
theorem riright_any (k l c : Int) (w : World) :
 Calls Tryz.prog 178 #[.agg #[.int .i64 k, .int .i64 l, .int .i64 c]] w fun e w' => e = .returned (.bool (rightI k l c)) ∧ Below w.heap.size w w' := by
 generalize hF : rightI k l c = F
 have HF := Lib.hid hF
 clear hF
 go_enter Tryz.func178, Tryz.ntmps178
 go_wp2
 all_goals
  go_ret
  refine ⟨ret_bool ?_, by (repeat (first | exact Below.refl _ _ | assumption | refine Below.setCell ?_ (by first | omega | (simp; done) | (simp; omega)) _ | refine Below.alloc ?_ (by first | omega | (simp; done) | (simp; omega)) _ | refine Below.drew ?_ | refine Below.trans ?_ (Below.mono ‹Below _ _ _› (by first | omega | (simp; done) | (simp; omega)))))⟩
  have e := HF.out
  subst e
  clear HF
  rw [Bool.eq_iff_iff]
  simp_all [rightI] <;> omega

end Go.Proofs.YtcbikgafdclhaaaGreat
/- half, info: what a free span's info is worth. -/
set_option linter.unusedSimpArgs false
set_option linter.unusedVariables false
namespace Go.Proofs.YtcbikgafdclhaaaGreat
open Go.RowKit

theorem hfield_any (a b : Int) (w : World) (h0 : 0 ≤ a) (h1 : 1 ≤ b) (h2 : b ≤ 64) (h3 : a ≤ 64 - b) :
 Calls Tryz.prog 125 #[.int .i64 a, .int .i64 b] w fun e w' => e = .returned (.bool true) ∧ Below w.heap.size w w' := by
 go_enter Tryz.func125, Tryz.ntmps125
 go_wp2
 go_ret
 exact ⟨rfl, Below.refl _ _⟩
theorem hmask12 (w : World) : Calls Tryz.prog 126 #[.int .i64 12] w fun e w' => e = .returned (.int .u64 4095) ∧ Below w.heap.size w w' := by
 go_enter Tryz.func126, Tryz.ntmps126
 go_wp2
 go_ret
 exact ⟨rfl, Below.refl _ _⟩
theorem hmask4 (w : World) : Calls Tryz.prog 126 #[.int .i64 4] w fun e w' => e = .returned (.int .u64 15) ∧ Below w.heap.size w w' := by
 go_enter Tryz.func126, Tryz.ntmps126
 go_wp2
 go_ret
 exact ⟨rfl, Below.refl _ _⟩
end Go.Proofs.YtcbikgafdclhaaaGreat
/- the document's audit: infos of pages. -/
set_option linter.unusedSimpArgs false
set_option linter.unusedVariables false
namespace Go.Proofs.YtcbikgafdclhaaaGreat
open Go.RowKit

def okI (v : Int) : Bool := rightI (v % 16) (v / 16 % 4096) (v / 65536)
def iK (v : Int) : Int := if okI v then v % 16 else 0
def iL (v : Int) : Int := if okI v then v / 16 % 4096 else 0
def iC (v : Int) : Int := if okI v then v / 65536 else 0
theorem inf_bd (v : Int) : 0 ≤ iK v ∧ iK v ≤ 3 ∧ 0 ≤ iL v ∧ iL v ≤ 1024 ∧ 0 ≤ iC v ∧ iC v ≤ 8 ∧ (iK v ≠ 0 → okI v = true ∧ 1 ≤ iL v) ∧ (okI v = false → iK v = 0) := by
 unfold iK iL iC
 cases h : okI v
 ·simp
 ·unfold okI rightI at h
  have h0 := h
  split at h0
  ·simp at h0; simp; omega
  ·split at h0
   ·simp at h0; simp; omega
   ·split at h0
    ·simp at h0; simp; omega
    ·simp at h0

theorem rget9_any (v : Int) (w : World) (h1 : 0 ≤ v) (h2 : v < 4294967296) :
 Calls Tryz.prog 236 #[.int .u32 v] w fun e w' => e = .returned (.tuple #[.agg #[.int .i64 (iK v), .int .i64 (iL v), .int .i64 (iC v)], .bool (okI v)]) ∧ Below w.heap.size w w' := by
 have H := fun w => riright_any (v % 16) (v / 16 % 4096) (v / 65536) w
 have hz : rightI (v % 16) (v / 16 % 4096) (v / 65536) = okI v := rfl
 rw [hz] at H
 have HZ : ∀ z, okI v = z → (iK v = if z then v % 16 else 0) ∧ (iL v = if z then v / 16 % 4096 else 0) ∧ (iC v = if z then v / 65536 else 0) := by
  intro z hz; subst hz; exact ⟨rfl, rfl, rfl⟩
 clear hz
 cases hok : okI v
 ·obtain ⟨e1, e2, e3⟩ := HZ _ hok
  simp at e1 e2 e3
  rw [e1, e2, e3]
  rw [hok] at H
  have HH := Lib.hid H
  clear H HZ hok e1 e2 e3
  go_enter Tryz.func236, Tryz.ntmps236
  go_wp2_with fail
  refine (HH.out _).mono ?_
  rintro e w1 ⟨rfl, hb⟩
  obtain ⟨hbc, hbf⟩ := bcell hb
  have z0 : w.heap.size < w1.heap.size := by have := hb.size; simp at this; omega
  have k := fun o => (hbc w.heap.size o (by simp; omega)).trans (loc_old (.cells #[.int .i64 (v % 16), .int .i64 (v / 16 % 4096), .int .i64 (v / 65536)] 174) (by simp) (loc_alloc w #[.int .i64 0, .int .i64 0, .int .i64 0] 174) o)
  have k0 := k 0
  have k1 := k 1
  have k2 := k 2
  simp at k0 k1 k2
  clear k
  go_wp2
  clear hbc hbf
  refine bodyPost_ret (v := .tuple #[.agg #[.int .i64 0, .int .i64 0, .int .i64 0], .bool false]) (by simp [results, Tryz.results236, go_sem, *]) rfl ⟨rfl, ?_⟩
  (repeat (first | exact Below.refl _ _ | assumption | refine Below.setCell ?_ (by first | omega | (simp; done) | (simp; omega)) _ | refine Below.alloc ?_ (by first | omega | (simp; done) | (simp; omega)) _ | refine Below.drew ?_ | refine Below.trans ?_ (Below.mono ‹Below _ _ _› (by first | omega | (simp; done) | (simp; omega)))))
 ·obtain ⟨e1, e2, e3⟩ := HZ _ hok
  simp at e1 e2 e3
  rw [e1, e2, e3]
  rw [hok] at H
  have HH := Lib.hid H
  clear H HZ hok e1 e2 e3
  go_enter Tryz.func236, Tryz.ntmps236
  go_wp2_with fail
  refine (HH.out _).mono ?_
  rintro e w1 ⟨rfl, hb⟩
  obtain ⟨hbc, hbf⟩ := bcell hb
  have z0 : w.heap.size < w1.heap.size := by have := hb.size; simp at this; omega
  have z1 : w.heap.size + 1 < w1.heap.size := by have := hb.size; simp at this; omega
  have k := fun o => (hbc w.heap.size o (by simp; omega)).trans (loc_old (.cells #[.int .i64 (v % 16), .int .i64 (v / 16 % 4096), .int .i64 (v / 65536)] 174) (by simp) (loc_alloc w #[.int .i64 0, .int .i64 0, .int .i64 0] 174) o)
  have k0 := k 0
  have k1 := k 1
  have k2 := k 2
  simp at k0 k1 k2
  clear k
  go_wp2
  clear hbc hbf
  refine bodyPost_ret (v := .tuple #[.agg #[.int .i64 (v % 16), .int .i64 (v / 16 % 4096), .int .i64 (v / 65536)], .bool true]) (by simp [results, Tryz.results236, go_sem, *]) rfl ⟨rfl, ?_⟩
  (repeat (first | exact Below.refl _ _ | assumption | refine Below.setCell ?_ (by first | omega | (simp; done) | (simp; omega)) _ | refine Below.alloc ?_ (by first | omega | (simp; done) | (simp; omega)) _ | refine Below.drew ?_ | refine Below.trans ?_ (Below.mono ‹Below _ _ _› (by first | omega | (simp; done) | (simp; omega)))))

section
variable {t p s : Int} {ad : Addr} {n : Nat} {vs : List Int}

set_option maxHeartbeats 800000 in
theorem xinfo_any (q : Int) (c : Nat) (w : World) (h : XV w t p s ad n vs) (h0 : 0 ≤ q) (h1 : q < p) :
 Calls Tryz.prog 208 #[.agg #[.int .i64 t, .int .i64 p, .int .i64 s, .slice (some ad) n c], .int .i64 q] w fun e w' => e = .returned (.agg #[.int .i64 (iK (gv vs t q 0)), .int .i64 (iL (gv vs t q 0)), .int .i64 (iC (gv vs t q 0))]) ∧ Below w.heap.size w w' := by
 obtain ⟨hx1, hx2⟩ := h.cx h0 h1 (part := 0) (by omega) (by omega)
 have hc0 := h.cells _ hx1
 have hgu := h.gu q 0
 have hI := fun w => rinfo_any t p s q w
 rw [hx2] at hI
 have hd : vs.getD (cix t q 0) 0 = gv vs t q 0 := rfl
 rw [hd] at hc0
 generalize gv vs t q 0 = v at *
 have hG := fun w => rget9_any v w hgu.1 hgu.2
 generalize okI v = ok at *
 generalize iK v = a1 at *
 generalize iL v = a2 at *
 generalize iC v = a3 at *
 generalize cix t q 0 = k at *
 have H1 := Lib.hid hI
 have H2 := Lib.hid hG
 clear h hd hgu hI hG hx2
 have hS0 := (((BS.start w).alloc (.cells #[.int .i64 t, .int .i64 p, .int .i64 s, .slice (some ad) n c] 169)).alloc (.cells #[.int .i64 0, .int .i64 0, .int .i64 0] 174))
 simp only [World.size_alloc] at hS0
 go_enter Tryz.func208, Tryz.ntmps208
 go_wp2_with fail
 refine wp_region_noPanic ?_
 refine wp_region_held_drew (S := fun w' => BS w [w.heap.size + 1, w.heap.size] w' ∧ (∀ o : Nat, w'.cell? ⟨w.heap.size, o, none⟩ = (#[.int .i64 t, .int .i64 p, .int .i64 s, .slice (some ad) n c] : Array Value)[o]?) ∧ w'.heap[w.heap.size + 1]? = some (.cells (#[.int .i64 0, .int .i64 0, .int .i64 0]) 174) ∧ w'.cell? (ad.add k) = some (.int .u32 v)) (by kernel_rfl) ?_ (fun hHeld => ?_)
 ·exact ⟨hS0.drew, loc_old _ (by simp) (loc_alloc w _ _), hb_alloc _ _ _ (by simp), hS0.drew.old hc0⟩
 refine wT 0 ?_
 refine wT 1 ?_
 refine wT 2 ?_
 refine wT 3 ?_
 refine wT 4 ?_
 refine wpAnyH_ready (rs := [5, 12]) (by kernel_rfl) (by simp) ?_
 refine AllReadyH.cons (o := _) rfl (fun K hK => ?_) (AllReadyH.cons (o := _) rfl (fun K hK => ?_) AllReadyH.nil)
 ·go_simp
  refine (calls_b hHeld.1 (H1.out _)).mono ?_
  rintro e wr1 ⟨rfl, hV, hVl⟩
  dsimp only
  refine hK.out _ _ ?_ (fun hHeld2 => ?_)
  ·exact ⟨hV, loc_step hVl (by simp) hHeld.2.1, (hVl _ (by simp)).trans hHeld.2.2.1, hV.old hc0⟩
  clear hK K hV hVl hHeld
  have hHeld := hHeld2
  clear hHeld2
  try simp only [Act.put, zA, zB, zC, zD, zE, zF]
  refine wT 6 ?_
  refine wT 7 ?_
  refine wpAnyH_ready (rs := [8, 12]) (by kernel_rfl) (by simp) ?_
  refine AllReadyH.cons (o := _) rfl (fun K hK => ?_) (AllReadyH.cons (o := _) rfl (fun K hK => ?_) AllReadyH.nil)
  ·go_simp
   refine (calls_b hHeld.1 (H2.out _)).mono ?_
   rintro e wr2 ⟨rfl, hV, hVl⟩
   dsimp only
   refine hK.out _ _ ?_ (fun hHeld2 => ?_)
   ·exact ⟨hV, loc_step hVl (by simp) hHeld.2.1, (hVl _ (by simp)).trans hHeld.2.2.1, hV.old hc0⟩
   clear hK K hV hVl hHeld
   have hHeld := hHeld2
   clear hHeld2
   try simp only [Act.put, zA, zB, zC, zD, zE, zF]
   refine wT 9 ?_
   refine wT 10 ?_
   refine wT 11 ?_
   refine wR 12 fun K hK => ?_
   have hP := hHeld
   have hA := hHeld.1.allocd (#[.int .i64 0, .int .i64 0, .int .i64 0]) 174
   try simp only [World.size_drew] at hA
   try simp only [World.size_alloc] at hA
   go_simp
   refine hK.out _ _ ?_ (fun hHeld2 => ?_)
   ·exact ⟨hA.bs.sub _ (by simp), loc_old _ (hHeld.1.ls _ (by simp)).1 hHeld.2.1, (heap_alloc_old _ _ (hHeld.1.ls _ (by simp)).1).trans hHeld.2.2.1, hA.bs.old hc0⟩
   clear hK K hHeld
   have hHeld := hHeld2
   clear hHeld2
   try simp only [Act.put, zA, zB, zC, zD, zE, zF]
   refine wR 13 fun K hK => ?_
   go_simp
   have hA2 := (hP.1).allocd (#[.int .i64 a1 , .int .i64 a2 , .int .i64 a3]) 174
   refine hK.out _ _ ?_ (fun hHeld2 => ?_)
   try simp only [World.size_drew] at hA2
   try simp only [World.size_alloc] at hA2
   ·exact ⟨hA2.bs.sub _ (by simp), loc_old _ ((hP.1).ls _ (by simp)).1 hP.2.1, (heap_alloc_old _ _ ((hP.1).ls _ (by simp)).1).trans hP.2.2.1, hA2.bs.old hc0⟩
   clear hA hP
   have hA := hA2
   clear hA2 hHeld
   have hHeld := hHeld2
   clear hHeld2
   clear hK K
   try simp only [Act.put, zA, zB, zC, zD, zE, zF]
   refine wT 14 ?_
   refine wpAnyH_done (by kernel_rfl) (NoPanic.normal ?_) _
   refine world_gen ?_
   intro wz hwz
   rw [← hwz] at hHeld hA
   clear hwz
   obtain ⟨⟨q0, q1, q2⟩, f0, f1, f2, z1, z2, bel⟩ := hA.cells3
   obtain ⟨⟨r0, r1, r2⟩, g0, g1, g2⟩ := cells3 hHeld.2.2.1
   have y1 := hA.ne (w.heap.size + 1) (by simp)
   have y2 := (hHeld.1.ls (w.heap.size + 1) (by simp)).1
   clear hHeld hA H1 H2 hS0 hc0
   go_wp2
   refine bodyPost_ret (v := .agg #[.int .i64 a1, .int .i64 a2, .int .i64 a3]) (by simp [results, Tryz.results208, go_sem, *]) rfl ⟨rfl, ?_⟩
   exact (bel.setCell (by simp) _ |>.setCell (by simp) _ |>.setCell (by simp) _)
  ·have hP := hHeld
   have hA := hHeld.1.allocd (#[.int .i64 0, .int .i64 0, .int .i64 0]) 174
   try simp only [World.size_drew] at hA
   try simp only [World.size_alloc] at hA
   go_simp
   refine hK.out _ _ ?_ (fun hHeld2 => ?_)
   ·exact ⟨hA.bs.sub _ (by simp), loc_old _ (hHeld.1.ls _ (by simp)).1 hHeld.2.1, (heap_alloc_old _ _ (hHeld.1.ls _ (by simp)).1).trans hHeld.2.2.1, hA.bs.old hc0⟩
   clear hK K hHeld
   have hHeld := hHeld2
   clear hHeld2
   try simp only [Act.put, zA, zB, zC, zD, zE, zF]
   refine wR 8 fun K hK => ?_
   go_simp
   refine (calls_b hA.bs (H2.out _)).mono ?_
   rintro e wr3 ⟨rfl, hV, hVl⟩
   have hAn := hA.step hV hVl
   dsimp only
   refine hK.out _ _ ?_ (fun hHeld2 => ?_)
   ·exact ⟨hV.sub _ (by simp), loc_step hVl (by simp) hHeld.2.1, (hVl _ (by simp)).trans hHeld.2.2.1, hV.old hc0⟩
   clear hK K hV hVl hHeld hA hP
   have hA := hAn
   have hP := trivial
   clear hAn
   have hHeld := hHeld2
   clear hHeld2
   try simp only [Act.put, zA, zB, zC, zD, zE, zF]
   refine wT 9 ?_
   refine wT 10 ?_
   refine wT 11 ?_
   refine wR 13 fun K hK => ?_
   have kc0 := (cell?_of_heap (o := 0) hA.box)
   have kc1 := (cell?_of_heap (o := 1) hA.box)
   have kc2 := (cell?_of_heap (o := 2) hA.box)
   simp at kc0 kc1 kc2
   have kf0 := frozen?_of_heap (o := 0) hA.box
   have kf1 := frozen?_of_heap (o := 1) hA.box
   have kf2 := frozen?_of_heap (o := 2) hA.box
   go_simp
   refine hK.out _ _ ?_ (fun hHeld2 => ?_)
   ·exact ⟨(((hA.set 0 _).set 1 _).set 2 _).bs.sub _ (by simp), (((hA.set 0 _).set 1 _).loc (by simp) 2 _ ((hA.set 0 _).loc (by simp) 1 _ (hA.loc (by simp) 0 _ hHeld.2.1))), (((hA.set 0 _).set 1 _).hloc (by simp) 2 _ ((hA.set 0 _).hloc (by simp) 1 _ (hA.hloc (by simp) 0 _ hHeld.2.2.1))), (((hA.set 0 _).set 1 _).set 2 _).bs.old hc0⟩
   have hA2 : BA w [w.heap.size + 1, w.heap.size] _ (#[.int .i64 a1 , .int .i64 a2 , .int .i64 a3]) 174 _ := (((hA.set 0 (.int .i64 a1)).set 1 (.int .i64 a2)).set 2 (.int .i64 a3))
   clear kc0 kf0 kc1 kf1 kc2 kf2 hA hP
   have hA := hA2
   clear hA2 hHeld
   have hHeld := hHeld2
   clear hHeld2
   clear hK K
   try simp only [Act.put, zA, zB, zC, zD, zE, zF]
   refine wT 14 ?_
   refine wpAnyH_done (by kernel_rfl) (NoPanic.normal ?_) _
   refine world_gen ?_
   intro wz hwz
   rw [← hwz] at hHeld hA
   clear hwz
   obtain ⟨⟨q0, q1, q2⟩, f0, f1, f2, z1, z2, bel⟩ := hA.cells3
   obtain ⟨⟨r0, r1, r2⟩, g0, g1, g2⟩ := cells3 hHeld.2.2.1
   have y1 := hA.ne (w.heap.size + 1) (by simp)
   have y2 := (hHeld.1.ls (w.heap.size + 1) (by simp)).1
   clear hHeld hA H1 H2 hS0 hc0
   go_wp2
   refine bodyPost_ret (v := .agg #[.int .i64 a1, .int .i64 a2, .int .i64 a3]) (by simp [results, Tryz.results208, go_sem, *]) rfl ⟨rfl, ?_⟩
   exact (bel.setCell (by simp) _ |>.setCell (by simp) _ |>.setCell (by simp) _)
 ·have hP := hHeld
  have hA := hHeld.1.allocd (#[.int .i64 0, .int .i64 0, .int .i64 0]) 174
  try simp only [World.size_drew] at hA
  try simp only [World.size_alloc] at hA
  go_simp
  refine hK.out _ _ ?_ (fun hHeld2 => ?_)
  ·exact ⟨hA.bs.sub _ (by simp), loc_old _ (hHeld.1.ls _ (by simp)).1 hHeld.2.1, (heap_alloc_old _ _ (hHeld.1.ls _ (by simp)).1).trans hHeld.2.2.1, hA.bs.old hc0⟩
  clear hK K hHeld
  have hHeld := hHeld2
  clear hHeld2
  try simp only [Act.put, zA, zB, zC, zD, zE, zF]
  refine wR 5 fun K hK => ?_
  go_simp
  refine (calls_b hA.bs (H1.out _)).mono ?_
  rintro e wr4 ⟨rfl, hV, hVl⟩
  have hAn := hA.step hV hVl
  dsimp only
  refine hK.out _ _ ?_ (fun hHeld2 => ?_)
  ·exact ⟨hV.sub _ (by simp), loc_step hVl (by simp) hHeld.2.1, (hVl _ (by simp)).trans hHeld.2.2.1, hV.old hc0⟩
  clear hK K hV hVl hHeld hA hP
  have hA := hAn
  have hP := trivial
  clear hAn
  have hHeld := hHeld2
  clear hHeld2
  try simp only [Act.put, zA, zB, zC, zD, zE, zF]
  refine wT 6 ?_
  refine wT 7 ?_
  refine wR 8 fun K hK => ?_
  go_simp
  refine (calls_b hA.bs (H2.out _)).mono ?_
  rintro e wr5 ⟨rfl, hV, hVl⟩
  have hAn := hA.step hV hVl
  dsimp only
  refine hK.out _ _ ?_ (fun hHeld2 => ?_)
  ·exact ⟨hV.sub _ (by simp), loc_step hVl (by simp) hHeld.2.1, (hVl _ (by simp)).trans hHeld.2.2.1, hV.old hc0⟩
  clear hK K hV hVl hHeld hA hP
  have hA := hAn
  have hP := trivial
  clear hAn
  have hHeld := hHeld2
  clear hHeld2
  try simp only [Act.put, zA, zB, zC, zD, zE, zF]
  refine wT 9 ?_
  refine wT 10 ?_
  refine wT 11 ?_
  refine wR 13 fun K hK => ?_
  have kc0 := (cell?_of_heap (o := 0) hA.box)
  have kc1 := (cell?_of_heap (o := 1) hA.box)
  have kc2 := (cell?_of_heap (o := 2) hA.box)
  simp at kc0 kc1 kc2
  have kf0 := frozen?_of_heap (o := 0) hA.box
  have kf1 := frozen?_of_heap (o := 1) hA.box
  have kf2 := frozen?_of_heap (o := 2) hA.box
  go_simp
  refine hK.out _ _ ?_ (fun hHeld2 => ?_)
  ·exact ⟨(((hA.set 0 _).set 1 _).set 2 _).bs.sub _ (by simp), (((hA.set 0 _).set 1 _).loc (by simp) 2 _ ((hA.set 0 _).loc (by simp) 1 _ (hA.loc (by simp) 0 _ hHeld.2.1))), (((hA.set 0 _).set 1 _).hloc (by simp) 2 _ ((hA.set 0 _).hloc (by simp) 1 _ (hA.hloc (by simp) 0 _ hHeld.2.2.1))), (((hA.set 0 _).set 1 _).set 2 _).bs.old hc0⟩
  have hA2 : BA w [w.heap.size + 1, w.heap.size] _ (#[.int .i64 a1 , .int .i64 a2 , .int .i64 a3]) 174 _ := (((hA.set 0 (.int .i64 a1)).set 1 (.int .i64 a2)).set 2 (.int .i64 a3))
  clear kc0 kf0 kc1 kf1 kc2 kf2 hA hP
  have hA := hA2
  clear hA2 hHeld
  have hHeld := hHeld2
  clear hHeld2
  clear hK K
  try simp only [Act.put, zA, zB, zC, zD, zE, zF]
  refine wT 14 ?_
  refine wpAnyH_done (by kernel_rfl) (NoPanic.normal ?_) _
  refine world_gen ?_
  intro wz hwz
  rw [← hwz] at hHeld hA
  clear hwz
  obtain ⟨⟨q0, q1, q2⟩, f0, f1, f2, z1, z2, bel⟩ := hA.cells3
  obtain ⟨⟨r0, r1, r2⟩, g0, g1, g2⟩ := cells3 hHeld.2.2.1
  have y1 := hA.ne (w.heap.size + 1) (by simp)
  have y2 := (hHeld.1.ls (w.heap.size + 1) (by simp)).1
  clear hHeld hA H1 H2 hS0 hc0
  go_wp2
  refine bodyPost_ret (v := .agg #[.int .i64 a1, .int .i64 a2, .int .i64 a3]) (by simp [results, Tryz.results208, go_sem, *]) rfl ⟨rfl, ?_⟩
  exact (bel.setCell (by simp) _ |>.setCell (by simp) _ |>.setCell (by simp) _)
end
end Go.Proofs.YtcbikgafdclhaaaGreat
