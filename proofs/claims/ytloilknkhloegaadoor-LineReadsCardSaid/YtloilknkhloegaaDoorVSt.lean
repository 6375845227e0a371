/- views under way: a view, beside boxes of the call's own. -/
import Derived.Test.YtloilknkhloegaaDoorViewPut
set_option linter.unusedSimpArgs false
set_option linter.unusedVariables false
namespace Go.Proofs.YtloilknkhloegaaDoor
open Go.RowKit

/-- what a predicate of views must bear: it speaks of the blocks of S alone. -/
structure Keeps (R : World → Nat → (Nat → Prop) → VS → Prop) : Prop where
  keep : ∀ {w w' : World} {b : Nat} {S T : Nat → Prop} {s : VS}, R w b S s → Fr T w w' → (∀ k, S k → ¬ T k) → R w' b S s
  lt : ∀ {w : World} {b : Nat} {S : Nat → Prop} {s : VS}, R w b S s → ∀ k, S k → k < w.heap.size
  inv : ∀ {w : World} {b : Nat} {S : Nat → Prop} {s : VS}, R w b S s → s.Inv
  mono : ∀ {w : World} {b : Nat} {S S' : Nat → Prop} {s : VS}, R w b S s → (∀ k, S k → S' k) → (∀ k, S' k → k < w.heap.size) → R w b S' s

/-- since w0 nothing but S has turned; the view at b is s; the boxes Ls are none of its. -/
structure VSt (R : World → Nat → (Nat → Prop) → VS → Prop) (w0 : World) (b : Nat) (S : Nat → Prop) (Ls : List Nat) (s : VS) (w : World) : Prop where
  ex : ∃ S1, R w b S1 s ∧ (∀ k, S1 k → S k ∨ w0.heap.size ≤ k) ∧ (∀ L ∈ Ls, ¬ S1 L)
  fr : Fr S w0 w
  ls : ∀ L ∈ Ls, L < w.heap.size ∧ w0.heap.size ≤ L
  s0 : ∀ k, S k → k < w0.heap.size

section
variable {R : World → Nat → (Nat → Prop) → VS → Prop} {w0 w w' : World} {b : Nat} {S : Nat → Prop} {Ls : List Nat} {s s' : VS}

theorem VSt.start (K : Keeps R) (h : R w b S s) : VSt R w b S [] s w := ⟨⟨S, h, fun _ hk => Or.inl hk, by simp⟩, Fr.refl _ _, by simp, K.lt h⟩

theorem VSt.below (K : Keeps R) (h : VSt R w0 b S Ls s w) (hb : Below w.heap.size w w') : VSt R w0 b S Ls s w' := by
  obtain ⟨S1, h1, h2, h4⟩ := h.ex
  exact ⟨⟨S1, K.keep (T := fun _ => False) h1 (Fr.of_below hb) (fun _ _ x => x), h2, h4⟩, h.fr.trans (S1 := fun _ => False) (Fr.of_below hb) (fun _ x => x.elim), fun L hL => ⟨Nat.lt_of_lt_of_le (h.ls L hL).1 hb.size, (h.ls L hL).2⟩, h.s0⟩

theorem VSt.alloc (K : Keeps R) (h : VSt R w0 b S Ls s w) (o : Obj) : VSt R w0 b S (w.heap.size :: Ls) s (w.alloc o) := by
  have hb : Below w.heap.size w (w.alloc o) := (Below.refl _ _).alloc (Nat.le_refl _) o
  obtain ⟨S1, h1, h2, h4⟩ := h.ex
  refine ⟨⟨S1, K.keep (T := fun _ => False) h1 (Fr.of_below hb) (fun _ _ x => x), h2, ?_⟩, h.fr.trans (S1 := fun _ => False) (Fr.of_below hb) (fun _ x => x.elim), ?_, h.s0⟩
  · intro L hL
    simp at hL
    rcases hL with rfl | hL
    · exact fun x => Nat.lt_irrefl _ (K.lt h1 _ x)
    · exact h4 L hL
  · intro L hL
    simp at hL
    rcases hL with rfl | hL
    · exact ⟨by simp, h.fr.size⟩
    · exact ⟨Nat.lt_of_lt_of_le (h.ls L hL).1 hb.size, (h.ls L hL).2⟩

theorem VSt.drew (K : Keeps R) (h : VSt R w0 b S Ls s w) : VSt R w0 b S Ls s w.drew := h.below K ((Below.refl _ _).drew)

theorem VSt.setCell (K : Keeps R) (h : VSt R w0 b S Ls s w) {L : Nat} (hL : L ∈ Ls) (o : Nat) (v : Value) : VSt R w0 b S Ls s (w.setCell ⟨L, o, none⟩ v) := by
  obtain ⟨S1, h1, h2, h4⟩ := h.ex
  have F : Fr (fun k => k = L) w (w.setCell ⟨L, o, none⟩ v) := (Fr.refl _ _).setCell _ _ (Or.inl rfl)
  exact ⟨⟨S1, K.keep h1 F (fun k hk e => h4 L hL (e ▸ hk)), h2, h4⟩, h.fr.setCell _ _ (Or.inr (h.ls L hL).2), fun M hM => ⟨by simpa using (h.ls M hM).1, (h.ls M hM).2⟩, h.s0⟩

theorem VSt.inv (K : Keeps R) (h : VSt R w0 b S Ls s w) : s.Inv := by
  obtain ⟨S1, h1, -⟩ := h.ex
  exact K.inv h1

/-- at the end: the boxes are let go. -/
theorem VSt.done (K : Keeps R) (h : VSt R w0 b S Ls s w) : R w b (upd S w0 w) s ∧ Fr S w0 w := by
  obtain ⟨S1, h1, h2, -⟩ := h.ex
  refine ⟨K.mono h1 (fun k hk => ?_) (fun k hk => ?_), h.fr⟩
  · rcases h2 k hk with h | h
    · exact Or.inl h
    · exact Or.inr ⟨h, K.lt h1 k hk⟩
  · rcases hk with hk | hk
    · exact Nat.lt_of_lt_of_le (h.s0 k hk) h.fr.size
    · exact hk.2

/-- a call that turns the view. -/
theorem calls_st {P : Program} {f : FuncId} {args : Array Value} {val : Value} (h : VSt R w0 b S Ls s w)
    (hc : ∀ S1, R w b S1 s → Calls P f args w fun e w' => e = .returned val ∧ (R w' b (upd S1 w w') s' ∧ Fr S1 w w')) :
    Calls P f args w fun e w' => e = .returned val ∧ VSt R w0 b S Ls s' w' ∧ ∀ L ∈ Ls, w'.heap[L]? = w.heap[L]? := by
  obtain ⟨S1, h1, h2, h4⟩ := h.ex
  refine (hc S1 h1).mono fun e w' ⟨he, hr, hf⟩ => ⟨he, ⟨⟨upd S1 w w', hr, ?_, ?_⟩, h.fr.trans hf h2, fun L hL => ⟨Nat.lt_of_lt_of_le (h.ls L hL).1 hf.size, (h.ls L hL).2⟩, h.s0⟩, fun L hL => hf.block L (h.ls L hL).1 (h4 L hL)⟩
  · intro k hk
    rcases hk with hk | hk
    · exact h2 k hk
    · have := h.fr.size; exact Or.inr (by omega)
  · intro L hL x
    rcases x with x | x
    · exact h4 L hL x
    · have := (h.ls L hL).1; omega

/-- a call that makes new blocks alone. -/
theorem calls_bl {P : Program} {f : FuncId} {args : Array Value} {val : Value} (K : Keeps R) (h : VSt R w0 b S Ls s w)
    (hc : Calls P f args w fun e w' => e = .returned val ∧ Below w.heap.size w w') :
    Calls P f args w fun e w' => e = .returned val ∧ VSt R w0 b S Ls s w' ∧ ∀ L ∈ Ls, w'.heap[L]? = w.heap[L]? :=
  hc.mono fun _ _ ⟨he, hb⟩ => ⟨he, h.below K hb, fun L hL => hb.block L (h.ls L hL).1⟩

theorem loc_step {L : Nat} {cs : Array Value} (hl : ∀ L ∈ Ls, w'.heap[L]? = w.heap[L]?) (hm : L ∈ Ls) (hc : ∀ o : Nat, w.cell? ⟨L, o, none⟩ = cs[o]?) : ∀ o : Nat, w'.cell? ⟨L, o, none⟩ = cs[o]? :=
  fun o => (World.cell?_of_block (a := ⟨L, o, none⟩) (hl L hm)).trans (hc o)
theorem loc_alloc (w : World) (cs : Array Value) (T : TypeId) : ∀ o : Nat, (w.alloc (.cells cs T)).cell? ⟨w.heap.size, o, none⟩ = cs[o]? := fun _ => cell?_of_heap (heap_alloc_new w _)
theorem loc_old {L : Nat} {cs : Array Value} (ob : Obj) (hL : L < w.heap.size) (hc : ∀ o : Nat, w.cell? ⟨L, o, none⟩ = cs[o]?) : ∀ i : Nat, (w.alloc ob).cell? ⟨L, i, none⟩ = cs[i]? :=
  fun i => (World.cell?_alloc_lt (a := ⟨L, i, none⟩) _ _ hL).trans (hc i)
theorem row_step {e size : Nat} {v : Value} {n : Nat} {xs : List Value} (hl : ∀ L ∈ Ls, w'.heap[L]? = w.heap[L]?) (hm : ∀ k, v.ownBlock = some k → k ∈ Ls) (h : w.ownsRow 0 e size v n xs) : w'.ownsRow 0 e size v n xs :=
  ownsRow_block h fun k hk => hl k (hm k hk)

/-- behind an append to a row of the call's own. -/
theorem VSt.grown (K : Keeps R) (h : VSt R w0 b S Ls s w) {row : Option Nat} (hg : w.grownBy w' row) (hr : ∀ k, row = some k → k ∈ Ls) (Ls' : List Nat) (hL : ∀ L ∈ Ls', L ∈ Ls ∨ (w.heap.size ≤ L ∧ L < w'.heap.size)) : VSt R w0 b S Ls' s w' := by
  obtain ⟨S1, h1, h2, h4⟩ := h.ex
  have F : Fr (fun k => row = some k) w w' := (Fr.refl _ _).grown hg (fun k hk => Or.inl hk)
  have hle := h.fr.size
  refine ⟨⟨S1, K.keep h1 F (fun k hk e => h4 k (hr k e) hk), h2, ?_⟩, h.fr.trans F (fun k hk => Or.inr (h.ls k (hr k hk)).2), ?_, h.s0⟩
  · intro L hm x
    rcases hL L hm with y | y
    · exact h4 L y x
    · exact absurd (K.lt h1 L x) (by omega)
  · intro L hm
    rcases hL L hm with y | y
    · exact ⟨Nat.lt_of_lt_of_le (h.ls L y).1 hg.size, (h.ls L y).2⟩
    · exact ⟨y.2, by omega⟩

theorem VSt.sub (h : VSt R w0 b S Ls s w) (Ls' : List Nat) (hL : ∀ L ∈ Ls', L ∈ Ls) : VSt R w0 b S Ls' s w := by
  obtain ⟨S1, h1, h2, h4⟩ := h.ex
  exact ⟨⟨S1, h1, h2, fun L hm => h4 L (hL L hm)⟩, h.fr, fun L hm => h.ls L (hL L hm), h.s0⟩

end
end Go.Proofs.YtloilknkhloegaaDoor
