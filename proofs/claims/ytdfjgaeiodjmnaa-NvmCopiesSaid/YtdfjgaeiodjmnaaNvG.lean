/- the program's memories: a fence. -/
import Derived.Test.YtdfjgaeiodjmnaaNvP
set_option linter.unusedSimpArgs false
set_option linter.unusedVariables false
namespace Go.Proofs.Ytdfjgaeiodjmnaa
open Go.RowKit

theorem NSt.turn {α : Type} {R : World → Nat → (Nat → Prop) → α → Prop} {w0 w w' : World} {b : Nat} {S S1 : Nat → Prop} {Ls : List Nat} {s s' : α} (h : NSt R w0 b S Ls s w) (hS : ∀ k, S1 k → S k ∨ w0.heap.size ≤ k) (hL : ∀ L ∈ Ls, ¬ S1 L) (h' : R w' b S1 s') (F : Fr S1 w w') : NSt R w0 b S Ls s' w' ∧ ∀ L ∈ Ls, w'.heap[L]? = w.heap[L]? :=
  ⟨⟨⟨S1, h', hS, hL⟩, h.fr.trans F hS, fun L hm => ⟨Nat.lt_of_lt_of_le (h.ls L hm).1 F.size, (h.ls L hm).2⟩, h.s0⟩, fun L hm => F.block L (h.ls L hm).1 (hL L hm)⟩

theorem NM.step_eq (who : Int) (s : NM) (l : Nat) : NM.step who s l = { s with K := NM.keepI s.W l 255 8 s.K, P := NM.delP s.P (who, (l : Int)) } := rfl
theorem foldl_take {α β : Type} (f : α → β → α) (a : α) (l : List β) {k : Nat} {x : β} (h : l[k]? = some x) : (l.take (k + 1)).foldl f a = f ((l.take k).foldl f a) x := by
  rw [List.take_add_one, h]
  simp

structure FeRel (w : World) (b : Nat) (S : Nat → Prop) (s : NM) (who : Int) (v : Value) (vi : Value) (wr : World) (k : Nat) : Prop where
  le : k ≤ (s.pend who).length
  eq : vi = .int .i64 k
  st : NSt PM w b S v.ownBlock.toList (((s.pend who).take k).foldl (NM.step who) s) wr
  row : wr.ownsRow 0 3 1 v (s.pend who).length (intCells (s.pend who))
def FeRelE (w : World) (b : Nat) (S : Nat → Prop) (s : NM) (who : Int) (v : Value) (vi : Value) (wr : World) : Prop := ∃ k, FeRel w b S s who v vi wr k

set_option maxHeartbeats 1000000 in
theorem mfence_any (b : Nat) (who : Int) (w : World) (S : Nat → Prop) (s : NM) (h : PM w b S s) :
    Calls Try.prog 14 #[.pointer (some ⟨b, 0, none⟩), .int .i64 who] w fun e w' => e = .returned (.int .i64 (s.fence who).1) ∧ (PM w' b (upd S w w') (s.fence who).2 ∧ Fr S w w') := by
  have HP := Lib.hid (mpend_any b who w S s h)
  have HI := Lib.hid h.inv
  have HS := Lib.hid (NSt.start keepsPM h)
  have hpl := NM.pend_le h.inv who
  have hsm := h.inv.small
  clear h
  go_enter Try.func14, Try.ntmps14
  go_wp2_with fail
  refine HP.out.mono ?_
  rintro e w1 ⟨v, rfl, hr, hb⟩
  obtain ⟨pa, pc, rfl⟩ := row_shape (Joins.ownsRow_le hr (Nat.zero_le _))
  have HN1 := Lib.hid (HS.out.row keepsPM hb hr)
  have HR1 := Lib.hid (Joins.ownsRow_le hr (Nat.zero_le _))
  clear hr hb
  go_wp2_with fail
  go_loopw [13] (fun vi wr => FeRelE w b S s who (.slice pa (s.pend who).length pc) vi wr) (fun vi _ => (s.pend who).length - (intOf vi).toNat)
  case atStart => exact ⟨0, by omega, rfl, by simpa using HN1.out, HR1.out⟩
  case round =>
    obtain ⟨k, hk, rfl, hst, hrow⟩ := hrel
    by_cases hlt : k < (s.pend who).length
    · obtain ⟨l, hl⟩ : ∃ l, (s.pend who)[k]? = some l := ⟨_, List.getElem?_eq_getElem hlt⟩
      have hlw := NM.pend_lt (List.mem_of_getElem? hl)
      have hwho := (HI.out.pb _ hlw.2)
      have hfold := foldl_take (NM.step who) s _ hl
      obtain ⟨g, cap, hg⟩ := Joins.ownsRow_form hrow (by omega)
      simp only [Value.slice.injEq, true_and] at hg
      obtain ⟨rfl, rfl⟩ := hg
      have hc : wr.cell? ⟨g, k, none⟩ = some (.int .i64 l) := by
        rw [hrow.cellAt k (by omega)]
        simp [intCells, hl]
      have hkl : (k : Int) < (s.pend who).length := by omega
      have hinv := NM.Inv.steps who ((s.pend who).take k) s HI.out
      have hW := NM.steps_W who ((s.pend who).take k) s
      obtain ⟨st, hstt⟩ : ∃ st, ((s.pend who).take k).foldl (NM.step who) s = st := ⟨_, rfl⟩
      rw [hstt] at hst hfold hinv hW
      have HSt := Lib.hid hst
      have HRow := Lib.hid hrow
      have HFo := Lib.hid hfold
      have HIn := Lib.hid (hinv.step who l)
      have HK := Lib.hid (fun S1 (h1 : PM wr b S1 st) => mkeep_any b l 255 wr S1 st h1 (by rw [hW]; exact hlw.1) (by omega))
      have hp : I64p (who, (l : Int)) := by
        obtain ⟨a0, a1, a2, a3⟩ := hwho
        dsimp only at a0 a1 a2 a3
        exact ⟨⟨by dsimp only; omega, by dsimp only; omega⟩, ⟨by dsimp only; omega, by dsimp only; omega⟩⟩
      have HPr := Lib.hid hp
      clear hst hrow hfold hinv hW hstt hl hlw hwho hp
      go_wp2_with fail
      refine (calls_nst HSt.out HK.out).mono ?_
      rintro e w2 ⟨rfl, hn2, hl2⟩
      have hrow2 := ownsRow_block (w' := w2) HRow.out (fun j hj => hl2 j (by simp [hj]))
      obtain ⟨S1, ⟨wv, kv, pb, hps⟩, hS1, hL1⟩ := hn2.ex
      have h2c := hps.cell 2
      simp at h2c
      have HM := Lib.hid hps.mp
      have HPs := Lib.hid hps
      have HN2 := Lib.hid hn2
      have HSL := Lib.hid (And.intro hS1 hL1)
      have HRow2 := Lib.hid hrow2
      clear hn2 hl2 hrow2 hps hS1 hL1
      go_wp2_with (at_delete; refine wpL_pdelete rfl _ _ rfl HM.out fPair uPend (who, (l : Int)) HPr.out rfl rfl ?_; intro w3 hm3 hg3)
      obtain ⟨n1, n2⟩ := HPs.out.pendI (P' := NM.delP st.P (who, (l : Int))) hm3 hg3 HIn.out
      obtain ⟨n3, n4⟩ := HN2.out.turn HSL.out.1 HSL.out.2 ⟨_, _, _, n1⟩ n2
      have hrow3 := ownsRow_block (w' := w3) HRow2.out (fun j hj => n4 j (by simp [hj]))
      have HN3 := Lib.hid n3
      have HRow3 := Lib.hid hrow3
      clear n1 n2 n3 n4 hrow3 hm3 hg3
      go_wp2
      go_roundw
      case rel => exact ⟨k + 1, by omega, by go_num, by rw [HFo.out]; exact HN3.out, HRow3.out⟩
      case measure => simp [intOf]; omega
    · have hke : k = (s.pend who).length := by omega
      have hkl : ¬ (k : Int) < (s.pend who).length := by omega
      have hd := hst.done keepsPM
      rw [hke, List.take_length] at hd
      have HD := Lib.hid hd
      clear hst hrow hd hke
      go_wp2
      go_ret
      exact ⟨rfl, HD.out⟩
end Go.Proofs.Ytdfjgaeiodjmnaa
