/- something that lies at a block, under way: beside boxes of the call's own; two such things. -/
import Derived.Test.YtdfjgaeiodjmnaaBSt
set_option linter.unusedSimpArgs false
set_option linter.unusedVariables false
namespace Go.Proofs.Ytdfjgaeiodjmnaa
open Go.RowKit

/-- what a predicate of such things must bear: it speaks of the blocks of S alone. -/
structure KeepsG {α : Type} (R : World → Nat → (Nat → Prop) → α → Prop) : Prop where
  keep : ∀ {w w' : World} {b : Nat} {S T : Nat → Prop} {s : α}, R w b S s → Fr T w w' → (∀ k, S k → ¬ T k) → R w' b S s
  lt : ∀ {w : World} {b : Nat} {S : Nat → Prop} {s : α}, R w b S s → ∀ k, S k → k < w.heap.size
  mono : ∀ {w : World} {b : Nat} {S S' : Nat → Prop} {s : α}, R w b S s → (∀ k, S k → S' k) → (∀ k, S' k → k < w.heap.size) → R w b S' s

/-- since w0 nothing but S has turned; the thing at b is s; the boxes Ls are none of its. -/
structure NSt {α : Type} (R : World → Nat → (Nat → Prop) → α → Prop) (w0 : World) (b : Nat) (S : Nat → Prop) (Ls : List Nat) (s : α) (w : World) : Prop where
  ex : ∃ S1, R w b S1 s ∧ (∀ k, S1 k → S k ∨ w0.heap.size ≤ k) ∧ (∀ L ∈ Ls, ¬ S1 L)
  fr : Fr S w0 w
  ls : ∀ L ∈ Ls, L < w.heap.size ∧ w0.heap.size ≤ L
  s0 : ∀ k, S k → k < w0.heap.size

section
variable {α : Type} {R : World → Nat → (Nat → Prop) → α → Prop} {w0 w w' : World} {b : Nat} {S : Nat → Prop} {Ls : List Nat} {s s' : α}

theorem NSt.start (K : KeepsG R) (h : R w b S s) : NSt R w b S [] s w := ⟨⟨S, h, fun _ hk => Or.inl hk, by simp⟩, Fr.refl _ _, by simp, K.lt h⟩

theorem NSt.below (K : KeepsG R) (h : NSt R w0 b S Ls s w) (hb : Below w.heap.size w w') : NSt R w0 b S Ls s w' := by
  obtain ⟨S1, h1, h2, h4⟩ := h.ex
  exact ⟨⟨S1, K.keep (T := fun _ => False) h1 (Fr.of_below hb) (fun _ _ x => x), h2, h4⟩, h.fr.trans (S1 := fun _ => False) (Fr.of_below hb) (fun _ x => x.elim), fun L hL => ⟨Nat.lt_of_lt_of_le (h.ls L hL).1 hb.size, (h.ls L hL).2⟩, h.s0⟩

theorem NSt.alloc (K : KeepsG R) (h : NSt R w0 b S Ls s w) (o : Obj) : NSt R w0 b S (w.heap.size :: Ls) s (w.alloc o) := by
  have hb : Below w.heap.size w (w.alloc o) := (Below.refl _ _).alloc (Nat.le_refl _) o
  obtain ⟨S1, h1, h2, h4⟩ := h.ex
  refine ⟨⟨S1, K.keep (T := fun _ => False) h1 (Fr.of_below hb) (fun _ _ x => x), h2, ?_⟩, h.fr.trans (S1 := fun _ => False) (Fr.of_below hb) (fun _ x => x.elim), ?_, h.s0⟩
  · intro L hL
    simp at hL
    rcases hL with rfl | hL
    · exact fun x => Nat.lt_irrefl _ (K.lt h1 _ x)
    · exact h4 L hL
  · intro L hL
    simp at hL
    rcases hL with rfl | hL
    · exact ⟨by simp, h.fr.size⟩
    · exact ⟨Nat.lt_of_lt_of_le (h.ls L hL).1 hb.size, (h.ls L hL).2⟩

theorem NSt.drew (K : KeepsG R) (h : NSt R w0 b S Ls s w) : NSt R w0 b S Ls s w.drew := h.below K ((Below.refl _ _).drew)

theorem NSt.setCell (K : KeepsG R) (h : NSt R w0 b S Ls s w) {L : Nat} (hL : L ∈ Ls) (o : Nat) (v : Value) : NSt R w0 b S Ls s (w.setCell ⟨L, o, none⟩ v) := by
  obtain ⟨S1, h1, h2, h4⟩ := h.ex
  have F : Fr (fun k => k = L) w (w.setCell ⟨L, o, none⟩ v) := (Fr.refl _ _).setCell _ _ (Or.inl rfl)
  exact ⟨⟨S1, K.keep h1 F (fun k hk e => h4 L hL (e ▸ hk)), h2, h4⟩, h.fr.setCell _ _ (Or.inr (h.ls L hL).2), fun M hM => ⟨by simpa using (h.ls M hM).1, (h.ls M hM).2⟩, h.s0⟩

/-- at the end: the boxes are let go. -/
theorem NSt.done (K : KeepsG R) (h : NSt R w0 b S Ls s w) : R w b (upd S w0 w) s ∧ Fr S w0 w := by
  obtain ⟨S1, h1, h2, -⟩ := h.ex
  refine ⟨K.mono h1 (fun k hk => ?_) (fun k hk => ?_), h.fr⟩
  · rcases h2 k hk with h | h
    · exact Or.inl h
    · exact Or.inr ⟨h, K.lt h1 k hk⟩
  · rcases hk with hk | hk
    · exact Nat.lt_of_lt_of_le (h.s0 k hk) h.fr.size
    · exact hk.2

/-- the thing itself, as it stands. -/
theorem NSt.get (h : NSt R w0 b S Ls s w) : ∃ S1, R w b S1 s := by
  obtain ⟨S1, h1, -⟩ := h.ex
  exact ⟨S1, h1⟩

/-- a call that turns it. -/
theorem calls_nst {P : Program} {f : FuncId} {args : Array Value} {val : Value} (h : NSt R w0 b S Ls s w)
    (hc : ∀ S1, R w b S1 s → Calls P f args w fun e w' => e = .returned val ∧ (R w' b (upd S1 w w') s' ∧ Fr S1 w w')) :
    Calls P f args w fun e w' => e = .returned val ∧ NSt R w0 b S Ls s' w' ∧ ∀ L ∈ Ls, w'.heap[L]? = w.heap[L]? := by
  obtain ⟨S1, h1, h2, h4⟩ := h.ex
  refine (hc S1 h1).mono fun e w' ⟨he, hr, hf⟩ => ⟨he, ⟨⟨upd S1 w w', hr, ?_, ?_⟩, h.fr.trans hf h2, fun L hL => ⟨Nat.lt_of_lt_of_le (h.ls L hL).1 hf.size, (h.ls L hL).2⟩, h.s0⟩, fun L hL => hf.block L (h.ls L hL).1 (h4 L hL)⟩
  · intro k hk
    rcases hk with hk | hk
    · exact h2 k hk
    · have := h.fr.size; exact Or.inr (by omega)
  · intro L hL x
    rcases x with x | x
    · exact h4 L hL x
    · have := (h.ls L hL).1; omega

/-- a call that makes new blocks alone. -/
theorem calls_nbl {P : Program} {f : FuncId} {args : Array Value} {val : Value} (K : KeepsG R) (h : NSt R w0 b S Ls s w)
    (hc : Calls P f args w fun e w' => e = .returned val ∧ Below w.heap.size w w') :
    Calls P f args w fun e w' => e = .returned val ∧ NSt R w0 b S Ls s w' ∧ ∀ L ∈ Ls, w'.heap[L]? = w.heap[L]? :=
  hc.mono fun _ _ ⟨he, hb⟩ => ⟨he, h.below K hb, fun L hL => hb.block L (h.ls L hL).1⟩

/-- a row that a call has made: a new box. -/
theorem NSt.row (K : KeepsG R) (h : NSt R w0 b S Ls s w) {e sz n : Nat} {v : Value} {xs : List Value} (hb : Below w.heap.size w w') (hr : w'.ownsRow w.heap.size e sz v n xs) : NSt R w0 b S (v.ownBlock.toList ++ Ls) s w' := by
  obtain ⟨S1, h1, h2, h4⟩ := h.ex
  have h' := h.below K hb
  refine ⟨⟨S1, K.keep (T := fun _ => False) h1 (Fr.of_below hb) (fun _ _ x => x), h2, ?_⟩, h'.fr, ?_, h.s0⟩
  · intro L hL
    rcases List.mem_append.1 hL with x | x
    · intro y
      have := (hr.lt L (by simpa using x)).1
      have := K.lt h1 L y
      omega
    · exact h4 L x
  · intro L hL
    rcases List.mem_append.1 hL with x | x
    · have := hr.lt L (by simpa using x)
      have := h.fr.size
      omega
    · exact h'.ls L x

theorem NSt.sub (h : NSt R w0 b S Ls s w) (Ls' : List Nat) (hL : ∀ L ∈ Ls', L ∈ Ls) : NSt R w0 b S Ls' s w := by
  obtain ⟨S1, h1, h2, h4⟩ := h.ex
  exact ⟨⟨S1, h1, h2, fun L hm => h4 L (hL L hm)⟩, h.fr, fun L hm => h.ls L (hL L hm), h.s0⟩
end

/-- since w0 nothing that was there has turned; the things at b1, b2 are s1, s2; the boxes Ls are none of theirs. -/
structure N2 {α β : Type} (R : World → Nat → (Nat → Prop) → α → Prop) (Q : World → Nat → (Nat → Prop) → β → Prop) (w0 : World) (b1 b2 : Nat) (Ls : List Nat) (s1 : α) (s2 : β) (w : World) : Prop where
  ex : ∃ S1 S2, R w b1 S1 s1 ∧ Q w b2 S2 s2 ∧ (∀ k, S1 k → w0.heap.size ≤ k) ∧ (∀ k, S2 k → w0.heap.size ≤ k) ∧ (∀ k, S1 k → ¬ S2 k) ∧ (∀ L ∈ Ls, ¬ S1 L ∧ ¬ S2 L)
  bel : Below w0.heap.size w0 w
  ls : ∀ L ∈ Ls, L < w.heap.size ∧ w0.heap.size ≤ L

section
variable {α β : Type} {R : World → Nat → (Nat → Prop) → α → Prop} {Q : World → Nat → (Nat → Prop) → β → Prop} {w0 w w' : World} {b1 b2 : Nat} {Ls : List Nat} {s1 t1 : α} {s2 t2 : β} {P : Program} {f : FuncId} {args : Array Value} {val : Value}

theorem N2.below (K : KeepsG R) (J : KeepsG Q) (h : N2 R Q w0 b1 b2 Ls s1 s2 w) (hb : Below w.heap.size w w') : N2 R Q w0 b1 b2 Ls s1 s2 w' := by
  obtain ⟨S1, S2, p1, p2, g1, g2, d, hl⟩ := h.ex
  exact ⟨⟨S1, S2, K.keep (T := fun _ => False) p1 (Fr.of_below hb) (fun _ _ x => x), J.keep (T := fun _ => False) p2 (Fr.of_below hb) (fun _ _ x => x), g1, g2, d, hl⟩, h.bel.trans (hb.mono h.bel.size), fun L hL => ⟨Nat.lt_of_lt_of_le (h.ls L hL).1 hb.size, (h.ls L hL).2⟩⟩
theorem N2.drew (K : KeepsG R) (J : KeepsG Q) (h : N2 R Q w0 b1 b2 Ls s1 s2 w) : N2 R Q w0 b1 b2 Ls s1 s2 w.drew := h.below K J ((Below.refl _ _).drew)
theorem N2.sub (h : N2 R Q w0 b1 b2 Ls s1 s2 w) (Ms : List Nat) (hM : ∀ L ∈ Ms, L ∈ Ls) : N2 R Q w0 b1 b2 Ms s1 s2 w := by
  obtain ⟨S1, S2, p1, p2, g1, g2, d, hl⟩ := h.ex
  exact ⟨⟨S1, S2, p1, p2, g1, g2, d, fun L hL => hl L (hM L hL)⟩, h.bel, fun L hL => h.ls L (hM L hL)⟩
theorem N2.alloc (K : KeepsG R) (J : KeepsG Q) (h : N2 R Q w0 b1 b2 Ls s1 s2 w) (o : Obj) : N2 R Q w0 b1 b2 (w.heap.size :: Ls) s1 s2 (w.alloc o) := by
  have hb : Below w.heap.size w (w.alloc o) := (Below.refl _ _).alloc (Nat.le_refl _) o
  have h' := h.below K J hb
  obtain ⟨S1, S2, p1, p2, g1, g2, d, hl⟩ := h.ex
  refine ⟨⟨S1, S2, K.keep (T := fun _ => False) p1 (Fr.of_below hb) (fun _ _ x => x), J.keep (T := fun _ => False) p2 (Fr.of_below hb) (fun _ _ x => x), g1, g2, d, ?_⟩, h'.bel, ?_⟩
  · intro L hL
    simp at hL
    rcases hL with rfl | hL
    · exact ⟨fun x => Nat.lt_irrefl _ (K.lt p1 _ x), fun x => Nat.lt_irrefl _ (J.lt p2 _ x)⟩
    · exact hl L hL
  · intro L hL
    simp at hL
    rcases hL with rfl | hL
    · exact ⟨by simp, h.bel.size⟩
    · exact h'.ls L hL
/-- a row that a call has made: a new box. -/
theorem N2.row (K : KeepsG R) (J : KeepsG Q) (h : N2 R Q w0 b1 b2 Ls s1 s2 w) {e sz n : Nat} {v : Value} {xs : List Value} (hb : Below w.heap.size w w') (hr : w'.ownsRow w.heap.size e sz v n xs) : N2 R Q w0 b1 b2 (v.ownBlock.toList ++ Ls) s1 s2 w' := by
  have h' := h.below K J hb
  obtain ⟨S1, S2, p1, p2, g1, g2, d, hl⟩ := h.ex
  refine ⟨⟨S1, S2, K.keep (T := fun _ => False) p1 (Fr.of_below hb) (fun _ _ x => x), J.keep (T := fun _ => False) p2 (Fr.of_below hb) (fun _ _ x => x), g1, g2, d, ?_⟩, h'.bel, ?_⟩
  · intro L hL
    rcases List.mem_append.1 hL with x | x
    · have := (hr.lt L (by simpa using x)).1
      exact ⟨fun y => by have := K.lt p1 L y; omega, fun y => by have := J.lt p2 L y; omega⟩
    · exact hl L x
  · intro L hL
    rcases List.mem_append.1 hL with x | x
    · have := hr.lt L (by simpa using x)
      have := h.bel.size
      omega
    · exact h'.ls L x

/-- a call of one of the two. -/
theorem N2.fst (K : KeepsG R) (J : KeepsG Q) (h : N2 R Q w0 b1 b2 Ls s1 s2 w) (hc : ∀ S1, R w b1 S1 s1 → Calls P f args w fun e w' => e = .returned val ∧ (R w' b1 (upd S1 w w') t1 ∧ Fr S1 w w')) :
    Calls P f args w fun e w' => e = .returned val ∧ N2 R Q w0 b1 b2 Ls t1 s2 w' ∧ ∀ L ∈ Ls, w'.heap[L]? = w.heap[L]? := by
  obtain ⟨S1, S2, p1, p2, g1, g2, d, hl⟩ := h.ex
  have hz := h.bel.size
  refine (hc S1 p1).mono fun e w' ⟨he, q, F⟩ => ⟨he, ⟨⟨upd S1 w w', S2, q, J.keep p2 F (fun k hk x => d k x hk), ?_, g2, ?_, ?_⟩, h.bel.trans (F.below h.bel.size g1), fun L hL => ⟨Nat.lt_of_lt_of_le (h.ls L hL).1 F.size, (h.ls L hL).2⟩⟩, fun L hL => F.block L (h.ls L hL).1 (hl L hL).1⟩
  · intro k hk
    rcases hk with hk | hk
    · exact g1 k hk
    · omega
  · intro k hk x
    rcases hk with hk | hk
    · exact d k hk x
    · exact absurd (J.lt p2 k x) (by omega)
  · intro L hL
    refine ⟨fun x => ?_, (hl L hL).2⟩
    rcases x with x | x
    · exact (hl L hL).1 x
    · have := (h.ls L hL).1; omega

theorem N2.snd (K : KeepsG R) (J : KeepsG Q) (h : N2 R Q w0 b1 b2 Ls s1 s2 w) (hc : ∀ S2, Q w b2 S2 s2 → Calls P f args w fun e w' => e = .returned val ∧ (Q w' b2 (upd S2 w w') t2 ∧ Fr S2 w w')) :
    Calls P f args w fun e w' => e = .returned val ∧ N2 R Q w0 b1 b2 Ls s1 t2 w' ∧ ∀ L ∈ Ls, w'.heap[L]? = w.heap[L]? := by
  obtain ⟨S1, S2, p1, p2, g1, g2, d, hl⟩ := h.ex
  have hz := h.bel.size
  refine (hc S2 p2).mono fun e w' ⟨he, q, F⟩ => ⟨he, ⟨⟨S1, upd S2 w w', K.keep p1 F (fun k hk x => d k hk x), q, g1, ?_, ?_, ?_⟩, h.bel.trans (F.below h.bel.size g2), fun L hL => ⟨Nat.lt_of_lt_of_le (h.ls L hL).1 F.size, (h.ls L hL).2⟩⟩, fun L hL => F.block L (h.ls L hL).1 (hl L hL).2⟩
  · intro k hk
    rcases hk with hk | hk
    · exact g2 k hk
    · omega
  · intro k hk x
    rcases x with x | x
    · exact d k hk x
    · exact absurd (K.lt p1 k hk) (by omega)
  · intro L hL
    refine ⟨(hl L hL).1, fun x => ?_⟩
    rcases x with x | x
    · exact (hl L hL).2 x
    · have := (h.ls L hL).1; omega

theorem N2.bl (K : KeepsG R) (J : KeepsG Q) (h : N2 R Q w0 b1 b2 Ls s1 s2 w) (hc : Calls P f args w fun e w' => e = .returned val ∧ Below w.heap.size w w') :
    Calls P f args w fun e w' => e = .returned val ∧ N2 R Q w0 b1 b2 Ls s1 s2 w' ∧ ∀ L ∈ Ls, w'.heap[L]? = w.heap[L]? :=
  hc.mono fun _ _ ⟨he, hb⟩ => ⟨he, h.below K J hb, fun L hL => hb.block L (h.ls L hL).1⟩
end
end Go.Proofs.Ytdfjgaeiodjmnaa
