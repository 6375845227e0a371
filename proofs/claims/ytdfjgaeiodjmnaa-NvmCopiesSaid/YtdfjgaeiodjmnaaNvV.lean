/- the document's memories: quiet, New, Crash, an act. -/
import Derived.Test.YtdfjgaeiodjmnaaNvU
import Derived.Deep.OwnRows
set_option linter.unusedSimpArgs false
set_option linter.unusedVariables false
namespace Go.Proofs.Ytdfjgaeiodjmnaa
open Go.RowKit

theorem infoBoolN : (Try.prog.info? 4).map (fun i => (i.zero, i.size, i.bytes)) = some (some (.bool false), 1, 1) := by kernel_rfl
def noRow (n : Nat) : List Value := rowF n fun _ => .bool false

theorem made_row (w : World) (n : Nat) (h : n ≤ 8192) : (w.alloc (.cells (madeCells #[.bool false] n) 4)).ownsRow w.heap.size 4 1 (.slice (some ⟨w.heap.size, 0, none⟩) n n) n (noRow n) := by
  have hl : (madeCells #[Value.bool false] n).toList = List.replicate n (.bool false) := toList_madeCells_one _ _
  have hr : noRow n = List.replicate n (.bool false) := List.ext_getElem (by simp [noRow, rowF]) (by intros; simp [noRow, rowF])
  have hs : (madeCells #[Value.bool false] n).size = n := by
    have := congrArg List.length hl
    simpa using this
  refine ⟨by simp [noRow, rowF_length], Or.inr ⟨w.heap.size, n, _, rfl, Nat.le_refl _, heap_alloc_new w _, Nat.le_refl _, by unfold maxLen; omega, by rw [hs]; omega, ?_⟩⟩
  rw [hl, hr]
  simp

theorem RQ.setRow {w : World} {b : Nat} {S S' : Nat → Prop} {W K : List Int} {wv kv : Value} {pv : Nat → Value} {k : Nat} (h : RQ w b S W K wv kv pv k (fun _ => noRow (W.length / 8))) (hk : k < 17) (hn : W.length / 8 ≤ 8192)
    (hs : ∀ x, S x → S' x) (hs2 : S' w.heap.size) (hl : ∀ x, S' x → x < w.heap.size + 1) :
    RQ ((w.alloc (.cells (madeCells #[.bool false] (W.length / 8)) 4)).setCell ⟨b, 2 + k, none⟩ (.slice (some ⟨w.heap.size, 0, none⟩) (W.length / 8) (W.length / 8))) b S' W K wv kv (fun j => if j = k then .slice (some ⟨w.heap.size, 0, none⟩) (W.length / 8) (W.length / 8) else pv j) (k + 1) (fun _ => noRow (W.length / 8)) := by
  have hbl := h.lt b h.inb
  have ho : ∀ x, x ≠ b → x < w.heap.size → ((w.alloc (.cells (madeCells #[.bool false] (W.length / 8)) 4)).setCell ⟨b, 2 + k, none⟩ (.slice (some ⟨w.heap.size, 0, none⟩) (W.length / 8) (W.length / 8))).heap[x]? = w.heap[x]? := fun x hx hx2 => (heap_setCell_other hx).trans (Below.heap_alloc _ _ _ hx2)
  have hnew := made_row w (W.length / 8) hn
  have hpl : ∀ i, i < k → ∀ x, (pv i).ownBlock = some x → x < w.heap.size := fun i hi x hx => h.lt x (h.inp i hi x hx)
  obtain ⟨cs, h1, h2, h3, h4, h5⟩ := h.box
  refine ⟨⟨cs.setIfInBounds (2 + k) (.slice (some ⟨w.heap.size, 0, none⟩) (W.length / 8) (W.length / 8)), heap_setCell_same ((Below.heap_alloc _ _ _ hbl).trans h1), by simpa using h2, ?_, ?_, ?_⟩, ownsRow_block h.wr fun x hx => ho x (fun e => h.wb (e ▸ hx)) (ownsRow_lt h.wr hx), ownsRow_block h.kr fun x hx => ho x (fun e => h.kb (e ▸ hx)) (ownsRow_lt h.kr hx), ?_, h.ne, ?_, hs _ h.inb, fun x hx => hs x (h.inw x hx), fun x hx => hs x (h.ink x hx), ?_, fun x hx => by simpa using hl x hx⟩
  · rw [Array.getElem?_setIfInBounds, if_neg (by omega)]; exact h3
  · rw [Array.getElem?_setIfInBounds, if_neg (by omega)]; exact h4
  · intro i hi
    rw [Array.getElem?_setIfInBounds]
    by_cases hik : i = k
    · subst hik
      rw [if_pos rfl, if_pos (by omega), if_pos rfl]
    · rw [if_neg (by omega), if_neg hik]
      exact h5 i hi
  · intro i hi
    by_cases hik : i = k
    · subst hik
      rw [if_pos rfl]
      exact ownsRow_block (Joins.ownsRow_le hnew (Nat.zero_le _)) fun x hx => by
        simp [Value.ownBlock] at hx
        subst hx
        exact heap_setCell_other (by omega)
    · rw [if_neg hik]
      have hi2 : i < k := by omega
      exact ownsRow_block (h.pr i hi2) fun x hx => ho x (fun e => h.pb hi2 (e ▸ hx)) (hpl i hi2 x hx)
  · intro i hi j hj hij x hx
    by_cases hik : i = k
    · rw [if_pos hik] at hx
      simp [Value.ownBlock] at hx
      rw [if_neg (by omega)]
      intro hx2
      have := hpl j (by omega) x hx2
      omega
    · rw [if_neg hik] at hx
      have hxl := hpl i (by omega) x hx
      by_cases hjk : j = k
      · rw [if_pos hjk]
        simp [Value.ownBlock]
        omega
      · rw [if_neg hjk]
        exact h.pd i (by omega) j (by omega) hij x hx
  · intro i hi x hx
    by_cases hik : i = k
    · rw [if_pos hik] at hx
      simp [Value.ownBlock] at hx
      subst hx
      exact hs2
    · rw [if_neg hik] at hx
      exact hs x (h.inp i (by omega) x hx)

structure QuRel (w : World) (b : Nat) (S : Nat → Prop) (W K : List Int) (wv kv : Value) (vi : Value) (wr : World) (k : Nat) (pv : Nat → Value) : Prop where
  le : k ≤ 17
  eq : vi = .int .i64 k
  rq : RQ wr b (upd S w wr) W K wv kv pv k (fun _ => noRow (W.length / 8))
  fr : Fr S w wr
def QuRelE (w : World) (b : Nat) (S : Nat → Prop) (W K : List Int) (wv kv : Value) (vi : Value) (wr : World) : Prop := ∃ k pv, QuRel w b S W K wv kv vi wr k pv

set_option maxHeartbeats 1000000 in
theorem rquiet_any (b : Nat) (w : World) (S : Nat → Prop) (W K : List Int) (wv kv : Value) (pv : Nat → Value) (rows : Nat → List Value) (h : RQ w b S W K wv kv pv 0 rows) (h1 : W.length ≤ 65536) (h0 : 0 < W.length) :
    Calls Try.prog 32 #[.pointer (some ⟨b, 0, none⟩)] w fun e w' => e = .returned (.tuple #[]) ∧ ((∃ pv', RQ w' b (upd S w w') W K wv kv pv' 17 (fun _ => noRow (W.length / 8))) ∧ Fr S w w') := by
  obtain ⟨g, c, rfl⟩ := h.wform h0
  have H0 := Lib.hid (show RQ w b S W K (.slice (some ⟨g, 0, none⟩) W.length c) kv pv 0 (fun _ => noRow (W.length / 8)) from ⟨h.box, h.wr, h.kr, fun i hi => absurd hi (by omega), h.ne, fun i hi => absurd hi (by omega), h.inb, h.inw, h.ink, fun i hi => absurd hi (by omega), h.lt⟩)
  clear h
  go_enter Try.func32, Try.ntmps32
  go_wp2
  go_loopw [2] (fun vi wr => QuRelE w b S W K (.slice (some ⟨g, 0, none⟩) W.length c) kv vi wr) (fun vi _ => 17 - (intOf vi).toNat)
  case atStart => exact ⟨0, pv, by omega, rfl, H0.out.up, Fr.refl _ _⟩
  case round =>
    obtain ⟨k, pv', hk, rfl, hrq, hfr⟩ := hrel
    have hdv : (W.length : Int) / 8 = ((W.length / 8 : Nat) : Int) := by omega
    by_cases hlt : k < 17
    · have hkl : (k : Int) < 17 := by omega
      have q0 := hrq.cell0
      have qk := hrq.cellP hlt
      have qf := hrq.froz (2 + k)
      have hset := RQ.setRow hrq.drew (S' := upd S w ((wr.drew.alloc (.cells (madeCells #[.bool false] (W.length / 8)) 4)).setCell ⟨b, 2 + k, none⟩ (.slice (some ⟨wr.drew.heap.size, 0, none⟩) (W.length / 8) (W.length / 8)))) hlt (by omega) (fun x hx => by rcases hx with hx | hx; exact Or.inl hx; exact Or.inr ⟨hx.1, by simp; omega⟩) (Or.inr ⟨hfr.size, by simp⟩) (fun x hx => by
        rcases hx with hx | hx
        · have h2 := H0.out.lt x hx
          have h3 := hfr.size
          show x < wr.heap.size + 1
          omega
        · have := hx.2
          simpa using this)
      have hF : Fr S w ((wr.drew.alloc (.cells (madeCells #[.bool false] (W.length / 8)) 4)).setCell ⟨b, 2 + k, none⟩ (.slice (some ⟨wr.drew.heap.size, 0, none⟩) (W.length / 8) (W.length / 8))) := (hfr.drew.alloc _).setCell _ _ (Or.inl H0.out.inb)
      have hbs : b < wr.heap.size := hrq.lt b hrq.inb
      have hcm : (wr.drew.alloc (.cells (madeCells #[.bool false] (W.length / 8)) 4)).setCell ⟨b, 2 + k, none⟩ (.slice (some ⟨wr.heap.size, 0, none⟩) (W.length / 8) (W.length / 8)) = ((wr.setCell ⟨b, 2 + k, none⟩ (.slice (some ⟨wr.heap.size, 0, none⟩) (W.length / 8) (W.length / 8))).alloc (.cells (madeCells #[.bool false] (W.length / 8)) 4)).drew := by
        exact World.setCell_alloc_past (w := wr.drew) _ _ _ _ hbs
      rw [show wr.drew.heap.size = wr.heap.size from rfl, hcm] at hset hF
      clear hcm
      have HSet := Lib.hid hset
      have HF := Lib.hid hF
      have hn8 : W.length / 8 ≤ 8192 := by omega
      clear hrq hset hF hfr
      have hmk : ∀ w : World, (Instr.makeSlice 43 (.int .i64 ((W.length / 8 : Nat) : Int)) (.int .i64 ((W.length / 8 : Nat) : Int))).run Try.prog w = .ok (.slice (some ⟨w.heap.size, 0, none⟩) (W.length / 8) (W.length / 8)) (w.alloc (.cells (madeCells #[.bool false] (W.length / 8)) 4)) := run_make_row' (P := Try.prog) 43 4 (.bool false) 1 Try.underlying43 infoBoolN rfl .i64 .i64 (W.length / 8) (by omega) (by omega)
      generalize hq : W.length / 8 = q at *
      have HQ := Lib.hid hq
      clear hq
      go_wp2
      go_region
      go_wp2
      go_roundw
      case rel => exact ⟨k + 1, _, by omega, by go_num, by have h := HSet.out; rw [HQ.out]; exact h, HF.out⟩
      case measure => simp [intOf]; omega
    · have hke : k = 17 := by omega
      have hkl : ¬ (k : Int) < 17 := by omega
      rw [hke] at hrq
      have HQ := Lib.hid hrq
      have HF := Lib.hid hfr
      clear hrq hfr hke hdv
      go_wp2
      go_end0
      exact ⟨rfl, ⟨pv', HQ.out⟩, HF.out⟩
end Go.Proofs.Ytdfjgaeiodjmnaa
