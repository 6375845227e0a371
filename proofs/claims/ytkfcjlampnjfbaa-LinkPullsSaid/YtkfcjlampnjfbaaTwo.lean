/- the program's view and the document's beside one another. -/
import Derived.Test.YtkfcjlampnjfbaaLive
namespace Go.Proofs.Ytkfcjlampnjfbaa
open Go.RowKit

/-- since w0 nothing that was there has turned; the program's view at b1 is s1, the document's at b2 is s2; the boxes Ls are none of theirs. -/
structure V2 (w0 : World) (b1 b2 : Nat) (Ls : List Nat) (s1 s2 : VS) (w : World) : Prop where
  ex : ∃ S1 S2, PV w b1 S1 s1 ∧ RV w b2 S2 s2 ∧ (∀ k, S1 k → w0.heap.size ≤ k) ∧ (∀ k, S2 k → w0.heap.size ≤ k) ∧ (∀ k, S1 k → ¬ S2 k) ∧ (∀ L ∈ Ls, ¬ S1 L ∧ ¬ S2 L)
  bel : Below w0.heap.size w0 w
  ls : ∀ L ∈ Ls, L < w.heap.size ∧ w0.heap.size ≤ L

section
variable {w0 w w' : World} {b1 b2 : Nat} {Ls : List Nat} {s1 s2 t1 t2 : VS} {P : Program} {f : FuncId} {args : Array Value} {val : Value}

theorem V2.below (h : V2 w0 b1 b2 Ls s1 s2 w) (hb : Below w.heap.size w w') : V2 w0 b1 b2 Ls s1 s2 w' := by
  obtain ⟨S1, S2, p1, p2, g1, g2, d, hl⟩ := h.ex
  exact ⟨⟨S1, S2, keepsPV.keep (T := fun _ => False) p1 (Fr.of_below hb) (fun _ _ x => x), keepsRV.keep (T := fun _ => False) p2 (Fr.of_below hb) (fun _ _ x => x), g1, g2, d, hl⟩, h.bel.trans (hb.mono h.bel.size), fun L hL => ⟨Nat.lt_of_lt_of_le (h.ls L hL).1 hb.size, (h.ls L hL).2⟩⟩
theorem V2.drew (h : V2 w0 b1 b2 Ls s1 s2 w) : V2 w0 b1 b2 Ls s1 s2 w.drew := h.below ((Below.refl _ _).drew)
theorem V2.sub (h : V2 w0 b1 b2 Ls s1 s2 w) (Ms : List Nat) (hM : ∀ L ∈ Ms, L ∈ Ls) : V2 w0 b1 b2 Ms s1 s2 w := by
  obtain ⟨S1, S2, p1, p2, g1, g2, d, hl⟩ := h.ex
  exact ⟨⟨S1, S2, p1, p2, g1, g2, d, fun L hL => hl L (hM L hL)⟩, h.bel, fun L hL => h.ls L (hM L hL)⟩

/-- a call of one of the two. -/
theorem V2.pv (h : V2 w0 b1 b2 Ls s1 s2 w) (hc : ∀ S1, PV w b1 S1 s1 → Calls P f args w fun e w' => e = .returned val ∧ (PV w' b1 (upd S1 w w') t1 ∧ Fr S1 w w')) :
    Calls P f args w fun e w' => e = .returned val ∧ V2 w0 b1 b2 Ls t1 s2 w' ∧ ∀ L ∈ Ls, w'.heap[L]? = w.heap[L]? := by
  obtain ⟨S1, S2, p1, p2, g1, g2, d, hl⟩ := h.ex
  have hz := h.bel.size
  refine (hc S1 p1).mono fun e w' ⟨he, q, F⟩ => ⟨he, ⟨⟨upd S1 w w', S2, q, keepsRV.keep p2 F (fun k hk x => d k x hk), ?_, g2, ?_, ?_⟩, h.bel.trans (F.below h.bel.size g1), fun L hL => ⟨Nat.lt_of_lt_of_le (h.ls L hL).1 F.size, (h.ls L hL).2⟩⟩, fun L hL => F.block L (h.ls L hL).1 (hl L hL).1⟩
  · intro k hk
    rcases hk with hk | hk
    · exact g1 k hk
    · omega
  · intro k hk x
    rcases hk with hk | hk
    · exact d k hk x
    · exact absurd (keepsRV.lt p2 k x) (by omega)
  · intro L hL
    refine ⟨fun x => ?_, (hl L hL).2⟩
    rcases x with x | x
    · exact (hl L hL).1 x
    · have := (h.ls L hL).1; omega

theorem V2.rv (h : V2 w0 b1 b2 Ls s1 s2 w) (hc : ∀ S2, RV w b2 S2 s2 → Calls P f args w fun e w' => e = .returned val ∧ (RV w' b2 (upd S2 w w') t2 ∧ Fr S2 w w')) :
    Calls P f args w fun e w' => e = .returned val ∧ V2 w0 b1 b2 Ls s1 t2 w' ∧ ∀ L ∈ Ls, w'.heap[L]? = w.heap[L]? := by
  obtain ⟨S1, S2, p1, p2, g1, g2, d, hl⟩ := h.ex
  have hz := h.bel.size
  refine (hc S2 p2).mono fun e w' ⟨he, q, F⟩ => ⟨he, ⟨⟨S1, upd S2 w w', keepsPV.keep p1 F (fun k hk x => d k hk x), q, g1, ?_, ?_, ?_⟩, h.bel.trans (F.below h.bel.size g2), fun L hL => ⟨Nat.lt_of_lt_of_le (h.ls L hL).1 F.size, (h.ls L hL).2⟩⟩, fun L hL => F.block L (h.ls L hL).1 (hl L hL).2⟩
  · intro k hk
    rcases hk with hk | hk
    · exact g2 k hk
    · omega
  · intro k hk x
    rcases x with x | x
    · exact d k hk x
    · exact absurd (keepsPV.lt p1 k hk) (by omega)
  · intro L hL
    refine ⟨(hl L hL).1, fun x => ?_⟩
    rcases x with x | x
    · exact (hl L hL).2 x
    · have := (h.ls L hL).1; omega

theorem V2.bl (h : V2 w0 b1 b2 Ls s1 s2 w) (hc : Calls P f args w fun e w' => e = .returned val ∧ Below w.heap.size w w') :
    Calls P f args w fun e w' => e = .returned val ∧ V2 w0 b1 b2 Ls s1 s2 w' ∧ ∀ L ∈ Ls, w'.heap[L]? = w.heap[L]? :=
  hc.mono fun _ _ ⟨he, hb⟩ => ⟨he, h.below hb, fun L hL => hb.block L (h.ls L hL).1⟩

/-- a walk of one of the two: its row is a new box. -/
def Walk2 (w0 : World) (b1 b2 : Nat) (Ls : List Nat) (s1 s2 : VS) (w : World) (l : List Int) (e : Ending) (w' : World) : Prop :=
  ∃ v : Value, e = .returned v ∧ w'.ownsRow 0 3 1 v l.length (ints l) ∧ V2 w0 b1 b2 (v.ownBlock.toList ++ Ls) s1 s2 w' ∧ ∀ L ∈ Ls, w'.heap[L]? = w.heap[L]?

theorem V2.walkP {l : List Int} (h : V2 w0 b1 b2 Ls s1 s2 w) (hc : ∀ S1, PV w b1 S1 s1 → Calls P f args w (WalkP w b1 S1 l t1)) : Calls P f args w (Walk2 w0 b1 b2 Ls t1 s2 w l) := by
  obtain ⟨S1, S2, p1, p2, g1, g2, d, hl⟩ := h.ex
  have hz := h.bel.size
  refine (hc S1 p1).mono fun e w' ⟨v, he, hr, hv⟩ => ⟨v, he, hr, ⟨?_, h.bel.trans (hv.fr.below h.bel.size g1), ?_⟩, fun L hL => hv.fr.block L (h.ls L hL).1 (hl L hL).1⟩
  · obtain ⟨S3, q1, q2, q3⟩ := hv.ex
    refine ⟨S3, S2, q1, keepsRV.keep p2 hv.fr (fun k hk x => d k x hk), ?_, g2, ?_, ?_⟩
    · intro k hk
      rcases q2 k hk with x | x
      · exact g1 k x
      · omega
    · intro k hk x
      rcases q2 k hk with y | y
      · exact d k y x
      · exact absurd (keepsRV.lt p2 k x) (by omega)
    · intro L hL
      rcases List.mem_append.1 hL with x | x
      · refine ⟨q3 L x, fun y => ?_⟩
        have a1 := keepsRV.lt p2 L y
        have a2 := (hv.ls L x).2
        omega
      · refine ⟨fun y => ?_, (hl L x).2⟩
        rcases q2 L y with z | z
        · exact (hl L x).1 z
        · have := (h.ls L x).1; omega
  · intro L hL
    rcases List.mem_append.1 hL with x | x
    · have := hv.ls L x; omega
    · exact ⟨Nat.lt_of_lt_of_le (h.ls L x).1 hv.fr.size, (h.ls L x).2⟩

theorem V2.walkR {l : List Int} (h : V2 w0 b1 b2 Ls s1 s2 w) (hc : ∀ S2, RV w b2 S2 s2 → Calls P f args w (RWalkP w b2 S2 l t2)) : Calls P f args w (Walk2 w0 b1 b2 Ls s1 t2 w l) := by
  obtain ⟨S1, S2, p1, p2, g1, g2, d, hl⟩ := h.ex
  have hz := h.bel.size
  refine (hc S2 p2).mono fun e w' ⟨v, he, hr, hv⟩ => ⟨v, he, hr, ⟨?_, h.bel.trans (hv.fr.below h.bel.size g2), ?_⟩, fun L hL => hv.fr.block L (h.ls L hL).1 (hl L hL).2⟩
  · obtain ⟨S3, q1, q2, q3⟩ := hv.ex
    refine ⟨S1, S3, keepsPV.keep p1 hv.fr (fun k hk x => d k hk x), q1, g1, ?_, ?_, ?_⟩
    · intro k hk
      rcases q2 k hk with x | x
      · exact g2 k x
      · omega
    · intro k hk x
      rcases q2 k x with y | y
      · exact d k hk y
      · exact absurd (keepsPV.lt p1 k hk) (by omega)
    · intro L hL
      rcases List.mem_append.1 hL with x | x
      · refine ⟨fun y => ?_, q3 L x⟩
        have a1 := keepsPV.lt p1 L y
        have a2 := (hv.ls L x).2
        omega
      · refine ⟨(hl L x).1, fun y => ?_⟩
        rcases q2 L y with z | z
        · exact (hl L x).2 z
        · have := (h.ls L x).1; omega
  · intro L hL
    rcases List.mem_append.1 hL with x | x
    · have := hv.ls L x; omega
    · exact ⟨Nat.lt_of_lt_of_le (h.ls L x).1 hv.fr.size, (h.ls L x).2⟩

end
end Go.Proofs.Ytkfcjlampnjfbaa
