/- a range over a function whose iterator writes cells of its own between the rounds. -/
import Derived.RangeFuncNested
import Derived.RangeFuncBound
import Derived.RangeFuncCalls
import Derived.RangeFuncLeaves
import Derived.Shelf.Abstract
import Derived.WalkKit
import Derived.OwnWalkIn
import Derived.TacticsInMore
import Derived.LoopNIn
import Derived.LoopIn
set_option linter.unusedSimpArgs false
set_option linter.unusedVariables false
namespace Go.Proofs.YtloilknkhloegaaDoor
open Go.RowKit

section
variable {P : Program} {F : Fence} {n : Nat} {α : Type}
/-- what may turn beneath an invariant: new blocks, and the blocks bs. -/
def Bears (bs : List Nat) (J : List α → World → Prop) : Prop := ∀ pre A A' row, J pre A → A.grownBy A' row → (∀ r, row = some r → r ∈ bs) → J pre A'
/-- the blocks rs lie as they lay. -/
def Kept (rs : List Nat) (A B : World) : Prop := ∀ b ∈ rs, B.heap[b]? = A.heap[b]?
theorem Kept.trans {rs : List Nat} {A B C : World} (h : Kept rs A B) (k : Kept rs B C) : Kept rs A C := fun b hb => (k b hb).trans (h b hb)
theorem Kept.put {rs : List Nat} {B : Nat} (hrs : ∀ b ∈ rs, b < B) {A : World} {l : Nat} (hl : B ≤ l) (o : Obj) : Kept rs A (A.putObj l o) := fun b hb => World.putObj_heap_other (by have := hrs b hb; omega)
/-- the contract of an iterator that writes the blocks bs. -/
def SeqCells (F : Fence) (n : Nat) (P : Program) (g : Nat) (lb : Array Value) (encs : α → Array Value) (bs rs : List Nat) (S Sp : List α → Prop) (w : World) : Prop :=
  ∀ (l : Nat) (J Jx : List α → World → Prop) (W : World), Below w.heap.size w W → Bears bs J → Bears bs Jx →
    (∀ pre x W1, J pre W1 → Sp (pre ++ [x]) → YieldAt F (n - 1) P l (encs x) W1 fun e W' =>
      (e = .returned (.bool true) ∧ J (pre ++ [x]) W' ∧ Kept rs W1 W') ∨ (e = .returned (.bool false) ∧ Jx (pre ++ [x]) W')) →
    J [] W →
    CallsIn F n P g (#[.func (.yield l) #[] #[]] ++ lb) W fun e W' => (∃ v, e = .returned v) ∧ ((∃ xs, S xs ∧ J xs W') ∨ (∃ pre, Sp pre ∧ Jx pre W'))
/-- what the caller's invariant bears: the blocks bs, and whatever is no cells from B on. -/
def BearsB (bs : List Nat) (B : Nat) (I : List α → World → Prop) : Prop := ∀ pre A A' row, I pre A → A.grownBy A' row → (∀ r, row = some r → r ∈ bs ∨ (B ≤ r ∧ ∃ o : Obj, A.heap[r]? = some o ∧ o.isCells = false)) → I pre A'
theorem BearsB.put {bs : List Nat} {B : Nat} {I : List α → World → Prop} (h : BearsB bs B I) {pre : List α} {A : World} {l : Nat} {o : Obj} (o' : Obj) (hi : I pre A) (hl : B ≤ l) (ho : A.heap[l]? = some o) (hc : o.isCells = false) : I pre (A.putObj l o') :=
  h pre A _ (some l) hi (grownBy_putObj' A l o') (fun r e => by cases e; exact Or.inr ⟨hl, o, ho, hc⟩)
theorem BearsB.new {bs : List Nat} {B : Nat} {I : List α → World → Prop} (h : BearsB bs B I) {pre : List α} {A : World} (o : Obj) (hi : I pre A) : I pre (A.alloc o) :=
  h pre A _ none hi (World.grownBy_alloc A o none) (fun r e => by cases e)
theorem BearsB.bears {bs : List Nat} {B : Nat} {I : List α → World → Prop} (h : BearsB bs B I) : Bears bs I := fun pre A A' row hi hg hr => h pre A A' row hi hg (fun r e => Or.inl (hr r e))
/-- a block that is none of bs stays. -/
theorem stays {bs : List Nat} {A A' : World} {row : Option Nat} {k : Nat} {o : Obj} (hg : A.grownBy A' row) (hr : ∀ r, row = some r → r ∈ bs) (hk : k ∉ bs) (ho : A.heap[k]? = some o) : A'.heap[k]? = some o :=
  (hg.block k (Array.getElem?_eq_some_iff.1 ho).1 (fun e => hk (hr k e.symm))).trans ho
/-- how a body ends: it keeps what is no cells; where it goes on, it keeps what lay ahead but the caller's. -/
def endsC (rs : List Nat) (I : List α → World → Prop) (Ix : Code → List α → World → Prop) (xs : List α) (W : World) : Exit → Act → World → Prop
  | .normal, _, W' => KeepsOthers W W' ∧ Kept rs W W' ∧ I xs W'
  | .ret, _, W' => KeepsOthers W W' ∧ Ix .ret xs W'
  | .exit id, _, W' => KeepsOthers W W' ∧ Ix (.exit id) xs W'
  | .goto t, _, W' => KeepsOthers W W' ∧ Ix (.goto t) xs W'
  | _, _, _ => False
/-- **'for .. := range g { .. }' over an iterator that writes the blocks bs between the rounds.** -/
theorem wpIn_range_cells {g : Operand} {ps : Array Tmp} {assign body : Code} {Q : Exit → Act → World → Prop} {a : Act} {w : World}
    (hro : F.round = none) (h1 : 1 ≤ n) {gf : Nat} {lb : Array Value} (hg : a.eval g = .func (.func gf) #[] lb) (hFg : F.fn gf) (eg : ∀ args w, (callFunc gf args).run P w = .ok (.enter gf args) w)
    {encs : α → Array Value} {bs rs : List Nat} {S Sp : List α → Prop} {w0 : World} (hseq : SeqCells F (n - 1) P gf lb encs bs rs S Sp w0)
    (hbs : ∀ b ∈ bs, b < w.heap.size) (hrs : ∀ b ∈ rs, b < w.heap.size) (hb0 : Below w0.heap.size w0 w) (hps : ∀ x, (encs x).size = ps.size)
    (I : List α → World → Prop) (Ix : Code → List α → World → Prop) (hI : BearsB bs w.heap.size I) (hIx : ∀ c, BearsB bs w.heap.size (Ix c)) (h0 : I [] w) (a₁ : α → Act)
    (hassign : ∀ (l : Nat) (x : α) (W : World) (K : Act → World → Prop), K (a₁ x) W →
      assign.wpIn (F.inRound l) (n - 1 - 1) P (Exit.then K (fun _ _ _ => False)) { tmps := (ps.zip (encs x)).foldl (fun t (p, v) => t.setIfInBounds p v) a.tmps, defers := [] } W)
    (hbody : ∀ (l : Nat) (pre : List α) (x : α) (W : World), I pre W → Sp (pre ++ [x]) → body.wpIn (F.inRound l) (n - 1 - 1) P (endsC rs I Ix (pre ++ [x]) W) (a₁ x) W)
    (hdone : ∀ (D : Nat) (xs : List α) (W : World), w.heap.size ≤ D → S xs → I xs W → W.heap[D]? = some (.deferred (some [])) → Q .normal { a with defers := { target := .collected D, args := #[] } :: a.defers } W)
    (hstop : ∀ (D : Nat) (c : Code) (pre : List α) (W : World), w.heap.size ≤ D → Sp pre → Ix c pre W → W.heap[D]? = some (.deferred (some [])) → c.wpIn F n P Q { a with defers := { target := .collected D, args := #[] } :: a.defers } W) :
    (Code.rangeFunc g ps assign body).wpIn F n P Q a w := by
  refine wpIn_rangeFunc fun fn hfn => ?_
  rw [hro]
  let r0 : Loop := { state := .ready, pending := none, fn, tmps := a.tmps, params := ps, assign, body, defers := w.heap.size }
  have hr0 : r0 = { state := .ready, pending := none, fn, tmps := a.tmps, params := ps, assign, body, defers := w.heap.size } := rfl
  clear_value r0
  have hD : w.heap.size ∉ bs := fun h => absurd (hbs _ h) (by omega)
  have hL : w.heap.size + 1 ∉ bs := fun h => absurd (hbs _ h) (by omega)
  let ready : Option Code → Loop := fun j => { r0 with state := if j.isNone then .ready else .done, pending := j }
  have hrdy : ∀ j, ready j = { r0 with state := if j.isNone then .ready else .done, pending := j } := fun _ => rfl
  have hr00 : ready none = r0 := by rw [hrdy, hr0]; rfl
  clear_value ready
  let W1 := (w.alloc (.deferred (some []))).alloc (.loop r0)
  have hW1 : W1 = (w.alloc (.deferred (some []))).alloc (.loop r0) := rfl
  have l1 : W1.heap[w.heap.size + 1]? = some (.loop r0) := by
    have := heap_alloc_new (w.alloc (.deferred (some []))) (.loop r0)
    rwa [World.size_alloc] at this
  have d1 : W1.heap[w.heap.size]? = some (.deferred (some [])) := (Below.heap_alloc _ _ _ (by simp)).trans (heap_alloc_new w _)
  have i1 : I [] W1 := hI.new _ (hI.new _ h0)
  have b1 : Below w0.heap.size w0 W1 := (hb0.alloc hb0.size _).alloc (by have := hb0.size; simp; omega) _
  clear_value W1
  refine ⟨w.heap.size + 1, [{ target := .collected w.heap.size, args := #[] }], W1, { target := .fn (.func gf) lb, args := #[.func (.yield (w.heap.size + 1)) #[] #[]] }, W1, gf, #[.func (.yield (w.heap.size + 1)) #[] #[]] ++ lb, W1, ?_, ?_, ?_, ?_, fun _ => h1, ?_⟩
  · rw [hW1, hr0]; exact run_enterLoop_outer _ _ _ _ _
  · simp only [resolve, hg]
    simp [go_sem]
  · intro f' hf'
    simp [Target.leads] at hf'
    subst hf'
    exact hFg
  · simp [invoke, go_sem, eg]
  refine (hseq (w.heap.size + 1)
    (fun pre W => I pre W ∧ W.heap[w.heap.size + 1]? = some (.loop r0) ∧ W.heap[w.heap.size]? = some (.deferred (some [])))
    (fun pre W => ∃ c, Ix c pre W ∧ W.heap[w.heap.size + 1]? = some (.loop (ready (some c))) ∧ W.heap[w.heap.size]? = some (.deferred (some []))) W1 b1
    (fun pre A A' row h hg hr => ⟨hI.bears pre A A' row h.1 hg hr, stays hg hr hL h.2.1, stays hg hr hD h.2.2⟩)
    (fun pre A A' row h hg hr => by
      obtain ⟨c, x, y, z⟩ := h
      exact ⟨c, (hIx c).bears pre A A' row x hg hr, stays hg hr hL y, stays hg hr hD z⟩) ?_ ⟨i1, l1, d1⟩).mono ?_
  · rintro pre x W ⟨hi, hl, hd⟩ hsp
    have hlt : w.heap.size + 1 < W.heap.size := (Array.getElem?_eq_some_iff.1 hl).1
    have hy := run_yield (P := P) (args := encs x) hl (by rw [hr0]; exact hps x)
    let bz : Loop := { r0 with state := .busy }
    have hbz : bz = { r0 with state := .busy } := rfl
    have hbg : (Instr.beginRound (w.heap.size + 1)).run P W = .ok () (W.putObj (w.heap.size + 1) (.loop bz)) := run_beginRound hl (by rw [hr0])
    have hen : ∀ (j : Option Code) (W3 : World), W3.heap[w.heap.size + 1]? = some (.loop bz) → (Instr.endRound (w.heap.size + 1) j).run P W3 = .ok (.bool j.isNone) (W3.putObj (w.heap.size + 1) (.loop (ready j))) := fun j W3 h => by
      rw [run_endRound (P := P) j h, hrdy, hbz]
    clear_value bz
    have hl2 : (W.putObj (w.heap.size + 1) (.loop bz)).heap[w.heap.size + 1]? = some (.loop bz) := World.putObj_heap_same hlt
    have hd2 : (W.putObj (w.heap.size + 1) (.loop bz)).heap[w.heap.size]? = some (.deferred (some [])) := (World.putObj_heap_other (by omega)).trans hd
    have hk2 : Kept rs W (W.putObj (w.heap.size + 1) (.loop bz)) := Kept.put hrs (by omega) _
    have hi2 := hI.put (.loop bz) hi (by omega : w.heap.size ≤ w.heap.size + 1) hl rfl
    rw [hr0] at hy
    refine ⟨fn, _, assign, body, hy, roundIn_of_wpIn hfn (hassign _ x W _ ⟨_, hbg, ?_⟩)⟩
    refine wpIn_mono (hbody _ pre x _ hi2 hsp) ?_
    have after : ∀ (j : Option Code) (W3 : World), KeepsOthers (W.putObj (w.heap.size + 1) (.loop bz)) W3 →
        W3.heap[w.heap.size + 1]? = some (.loop bz) ∧ (W3.putObj (w.heap.size + 1) (.loop (ready j))).heap[w.heap.size + 1]? = some (.loop (ready j)) ∧ (W3.putObj (w.heap.size + 1) (.loop (ready j))).heap[w.heap.size]? = some (.deferred (some [])) := fun j W3 hk => by
      have h3 := hk.same _ _ hl2 rfl
      exact ⟨h3, World.putObj_heap_same (Array.getElem?_eq_some_iff.1 h3).1, (World.putObj_heap_other (by omega)).trans (hk.same _ _ hd2 rfl)⟩
    rintro e a3 W3 hp
    cases e with
    | normal =>
      obtain ⟨hko, hkp, hi3⟩ := hp
      obtain ⟨h3, h4, h5⟩ := after none W3 hko
      rw [hr00] at h4
      refine ⟨_, _, hen none W3 h3, Or.inl ⟨rfl, ⟨hI.put _ hi3 (by omega) h3 rfl, ?_, h5⟩, (hk2.trans hkp).trans (Kept.put hrs (by omega) _)⟩⟩
      rw [hr00]
      exact h4
    | ret =>
      obtain ⟨hko, hi3⟩ := hp
      obtain ⟨h3, h4, h5⟩ := after (some .ret) W3 hko
      exact ⟨_, _, hen _ W3 h3, Or.inr ⟨rfl, .ret, (hIx _).put _ hi3 (by omega) h3 rfl, h4, h5⟩⟩
    | exit id =>
      obtain ⟨hko, hi3⟩ := hp
      obtain ⟨h3, h4, h5⟩ := after (some (.exit id)) W3 hko
      exact ⟨_, _, hen _ W3 h3, Or.inr ⟨rfl, .exit id, (hIx _).put _ hi3 (by omega) h3 rfl, h4, h5⟩⟩
    | goto t =>
      obtain ⟨hko, hi3⟩ := hp
      obtain ⟨h3, h4, h5⟩ := after (some (.goto t)) W3 hko
      exact ⟨_, _, hen _ W3 h3, Or.inr ⟨rfl, .goto t, (hIx _).put _ hi3 (by omega) h3 rfl, h4, h5⟩⟩
    | panic ch => exact hp.elim
    | outgrown => exact hp.elim
  · rintro e W2 ⟨⟨v, rfl⟩, h | h⟩
    · obtain ⟨xs, hS, hi, hl, hd⟩ := h
      refine ⟨none, _, (run_endLoop (P := P) hl (by rw [hr0]; simp)).trans (by rw [hr0]), hdone _ xs _ (Nat.le_refl _) hS (hI.put _ hi (by omega) hl rfl) ((World.putObj_heap_other (by omega)).trans hd)⟩
    · obtain ⟨pre, hSp, c, hi, hl, hd⟩ := h
      refine ⟨some c, _, (run_endLoop (P := P) hl (by rw [hrdy]; simp)).trans (by rw [hrdy]), hstop _ c pre _ (Nat.le_refl _) hSp ((hIx c).put _ hi (by omega) hl rfl) ((World.putObj_heap_other (by omega)).trans hd)⟩
end
end Go.Proofs.YtloilknkhloegaaDoor
