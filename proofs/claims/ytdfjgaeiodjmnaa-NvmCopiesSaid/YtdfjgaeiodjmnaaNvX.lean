/- the document's memories: Crash, New. -/
import Derived.Test.YtdfjgaeiodjmnaaNvV
set_option linter.unusedSimpArgs false
set_option linter.unusedVariables false
namespace Go.Proofs.Ytdfjgaeiodjmnaa
open Go.RowKit

/-- the words are a new row. -/
theorem RQ.newW {w w2 : World} {b : Nat} {S : Nat → Prop} {W K X : List Int} {wv kv v : Value} {pv : Nat → Value} {k : Nat} {rows rows' : Nat → List Value} (h : RQ w b S W K wv kv pv k rows) (hb : Below w.heap.size w w2)
    (hr : w2.ownsRow 0 24 1 v X.length (u64s X)) (ho : ∀ x, v.ownBlock = some x → w.heap.size ≤ x) :
    RQ (w2.setCell ⟨b, 0, none⟩ v) b (upd S w (w2.setCell ⟨b, 0, none⟩ v)) X K v kv pv 0 rows' ∧ Fr S w (w2.setCell ⟨b, 0, none⟩ v) := by
  have hz := hb.size
  have F : Fr S w (w2.setCell ⟨b, 0, none⟩ v) := ((Fr.refl S w).trans (S1 := fun _ => False) (Fr.of_below hb) (fun _ x => x.elim)).setCell _ _ (Or.inl h.inb)
  have hbl := h.lt b h.inb
  obtain ⟨cs, h1, h2, h3, h4, h5⟩ := h.box
  have hs : (w2.setCell ⟨b, 0, none⟩ v).heap.size = w2.heap.size := by simp
  refine ⟨⟨⟨cs.setIfInBounds 0 v, heap_setCell_same ((hb.block b hbl).trans h1), by simpa using h2, ?_, ?_, ?_⟩, ?_, ?_, fun i hi => absurd hi (by omega), ?_, fun i hi => absurd hi (by omega), Or.inl h.inb, ?_, ?_, fun i hi => absurd hi (by omega), ?_⟩, F⟩
  · rw [Array.getElem?_setIfInBounds, if_pos rfl, if_pos (by omega)]
  · rw [Array.getElem?_setIfInBounds, if_neg (by omega)]; exact h4
  · intro i hi
    rw [Array.getElem?_setIfInBounds, if_neg (by omega)]; exact h5 i hi
  · exact ownsRow_block hr fun x hx => heap_setCell_other (fun e => by have := ho x hx; omega)
  · exact ownsRow_block h.kr fun x hx => (heap_setCell_other (fun e => h.kb (by rw [← e]; exact hx))).trans (hb.block x (ownsRow_lt h.kr hx))
  · intro x hx hx2
    have := ho x hx
    have := ownsRow_lt h.kr hx2
    omega
  · intro x hx
    have := ownsRow_lt hr hx
    exact Or.inr ⟨ho x hx, by omega⟩
  · intro x hx
    exact Or.inl (h.ink x hx)
  · intro x hx
    rcases hx with hx | hx
    · have := h.lt x hx
      omega
    · exact hx.2

theorem RM.of_quiet {w : World} {b : Nat} {S : Nat → Prop} {s : NM} {wv kv : Value} {pv : Nat → Value} (h : RQ w b S s.W s.K wv kv pv 17 (fun _ => noRow (s.W.length / 8))) (hi : s.Inv) (hp : s.P = []) : RM w b S s := by
  refine ⟨hi, wv, kv, pv, ?_⟩
  have e : flagRow s = fun _ => noRow (s.W.length / 8) := by
    funext i
    simp [flagRow, noRow, hp]
  rw [e]
  exact h

theorem rcrash_any (b : Nat) (w : World) (S : Nat → Prop) (s : NM) (h : RM w b S s) :
    Calls Try.prog 39 #[.pointer (some ⟨b, 0, none⟩)] w fun e w' => e = .returned (.tuple #[]) ∧ (RM w' b (upd S w w') s.crash ∧ Fr S w w') := by
  obtain ⟨hi, wv, kv, pv, hv⟩ := h
  obtain ⟨gk, ck, rfl⟩ := hv.kform (by rw [hi.kl]; exact hi.pos)
  have h0 := hv.cell0
  have h1 := hv.cell1
  have hf := hv.froz 0
  have hbl := hv.lt b hv.inb
  have hgl := ownsRow_lt hv.kr rfl
  have hs : s.K.length ≤ 65536 := by rw [hi.kl]; exact hi.small
  have hpos : 0 < s.K.length := by rw [hi.kl]; exact hi.pos
  have HV := Lib.hid hv
  have HI := Lib.hid hi.crash
  obtain ⟨i0, hi0, hi1, hi2, hi3⟩ := info_parts infoU64
  have HT := Lib.hid (And.intro hi0 (And.intro hi1 (And.intro hi2 hi3)))
  have HC := Lib.hid (fun j u (hj : (u64s s.K)[j]? = some u) => (hv.kr.cells (g := gk) rfl j u hj))
  have HC1 := Lib.hid (fun u (hu : u ∈ u64s s.K) => (by obtain ⟨z, -, rfl⟩ := List.mem_map.1 hu; rfl : u.oneCell' = true))
  clear hv hi hi0 hi1 hi2 hi3
  go_enter Try.func39, Try.ntmps39
  go_wp2_with (at_builtin; go_must (refine wpL_append rfl _ _ rfl 24 i0 (.int .u64 0) 1 8 Try.underlying22 HT.out.1 HT.out.2.1 HT.out.2.2.1 HT.out.2.2.2 rfl (by decide) (.slice (some ⟨w.heap.size, 0, none⟩) 0 0) 0 [] rfl (row_empty w 24 1) ⟨gk, 0, none⟩ s.K.length ck (u64s s.K) rfl (by rw [u64s_len, Nat.mul_one]) ?c0 HC1.out ?c2 ?c3 ?_); go_must (case c0 => (exact fun j u hj => (World.cell?_alloc_lt (w := w) (a := (⟨gk, 0, none⟩ : Addr).add j) _ (World.block_lt_of_cell? w _ (HC.out j u hj))).trans (HC.out j u hj))); go_must (case c2 => (unfold maxLen; omega)); go_must (case c3 => (omega)); go_must (intro v' w5 hown5 hg5 hnew5 hnil5); clear hnil5; go_must (obtain ⟨g', cap', rfl⟩ := Joins.ownsRow_form hown5 (by omega)); go_must (have hB5 : Below w.heap.size w w5 := ((Below.refl w.heap.size w).alloc (Nat.le_refl _) _).grown hg5 (by simp) (fun x hx => by simp [Value.ownBlock] at hx; omega)); go_must (rw [Nat.zero_add] at hown5 hnew5 ⊢); go_must (rw [List.nil_append] at hown5); go_must (have HCr := Lib.hid (HV.out.newW (rows' := fun _ => noRow (s.K.length / 8)) hB5 hown5 (fun x hx => by rcases hnew5 x hx with h1 | h1; (simp [Value.ownBlock] at h1; omega); (simp at h1; omega)))); go_must (have q0 := (hB5.cell (p := ⟨b, 0, none⟩) hbl).trans h0); go_must (have qf : w5.frozen? ⟨b, 0, none⟩ = false := (World.frozen?_of_block (hB5.block b hbl)).trans hf); clear hg5 hnew5 hB5 hown5)
  have HN1 := Lib.hid HCr.out.1
  have HN2 := Lib.hid HCr.out.2
  clear HCr
  refine (rquiet_any b _ _ s.K s.K _ _ _ _ HN1.out hs hpos).mono ?_
  rintro e w6 ⟨rfl, ⟨pv', h6⟩, f6⟩
  have H6 := Lib.hid (show RM w6 b (upd S w w6) s.crash from RM.of_quiet (s := s.crash) (h6.move (fun _ _ => rfl) (fun x hx => by
      have hz := HN2.out.size
      rcases hx with (hx | hx) | hx
      · exact Or.inl hx
      · exact Or.inr ⟨hx.1, Nat.lt_of_lt_of_le hx.2 f6.size⟩
      · exact Or.inr ⟨by omega, hx.2⟩) (fun x hx => by
      have hz := HN2.out.size
      have hz2 := f6.size
      rcases hx with hx | hx
      · have := HV.out.lt x hx; omega
      · exact hx.2)) HI.out rfl)
  have F6 := Lib.hid (show Fr S w w6 from HN2.out.trans f6 (fun x hx => by
      rcases hx with hx | hx
      · exact Or.inl hx
      · exact Or.inr hx.1))
  clear h6 f6
  go_wp2
  go_end0
  exact ⟨rfl, H6.out, F6.out⟩
end Go.Proofs.Ytdfjgaeiodjmnaa
