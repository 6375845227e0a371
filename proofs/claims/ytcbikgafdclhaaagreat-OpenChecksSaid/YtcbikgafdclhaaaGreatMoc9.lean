/- parts of the proof, merged by a program. -/
import Derived.Test.YtcbikgafdclhaaaGreatMoc1
import Derived.Test.YtcbikgafdclhaaaGreatMoc7
import Derived.Test.YtcbikgafdclhaaaGreatMoc8
import Derived.Laws.CopyOwn
import Derived.Laws.BytesArg
set_option linter.unusedSimpArgs false
set_option linter.unusedVariables false
/- lists of pages in a view's values: what Pull, Push and Walk make of them. -/
set_option linter.unusedSimpArgs false
set_option linter.unusedVariables false
namespace Go.Proofs.YtcbikgafdclhaaaGreat
open Go.RowKit

def wl (l : List (Nat × Int)) (i : Nat) : Option Int := (wix l i).bind fun j => l[j]?.map (·.2)
theorem wl_cons (x : Nat × Int) (l : List (Nat × Int)) (i : Nat) : wl (x :: l) i = if x.1 = i then some x.2 else wl l i := by
 unfold wl
 by_cases h : x.1 = i
 ·simp [wix, h]
 ·simp only [wix, h, if_false]
  cases wix l i <;> simp
theorem setW_cons (x : Nat × Int) (l : List (Nat × Int)) (i : Nat) (v : Int) : VS.setW (x :: l) i v = if x.1 = i then (i, v) :: l else x :: VS.setW l i v := by
 unfold VS.setW
 by_cases h : x.1 = i
 ·simp [wix, h]
 ·simp only [wix, h, if_false]
  cases wix l i <;> simp
theorem wlk_setW (i : Nat) (v : Int) (j : Nat) : ∀ l : List (Nat × Int), wl (VS.setW l i v) j = if j = i then some v else wl l j
 | [] => by
  have : VS.setW [] i v = [(i, v)] := rfl
  rw [this, wl_cons]
  by_cases h : j = i
  ·simp [h]
  ·rw [if_neg (fun e => h e.symm), if_neg h]
 | x :: l => by
  rw [setW_cons]
  by_cases h : x.1 = i
  ·rw [if_pos h, wl_cons, wl_cons]
   by_cases h2 : j = i
   ·simp [h2]
   ·rw [if_neg (fun e => h2 e.symm), if_neg h2, if_neg (fun e => h2 (by rw [← e, h]))]
  ·rw [if_neg h, wl_cons, wl_cons, wlk_setW i v j l]
   by_cases h2 : j = i
   ·subst h2; simp [h]
   ·by_cases h3 : x.1 = j
    ·simp [h3, h2]
    ·simp [h3, h2]

/-- the value of a cell, in a view. -/
def vat (s : VS) (i : Nat) : Option Int := match wl s.writes i with | some v => some v | none => s.known i
theorem vat_get {s : VS} {i : Int} {v : Int} (h0 : 0 ≤ i) (h1 : i < s.n) (hm : s.miss = none) (hv : vat s i.toNat = some v) :
 (s.get i).1 = v ∧ (∀ j, vat (s.get i).2 j = vat s j) ∧ (s.get i).2.n = s.n ∧ (s.get i).2.miss = none := by
 have ht : s.there i = true := VS.there_iff.2 ⟨h0, h1, hm⟩
 unfold VS.get
 rw [if_pos ht]
 have hw : s.wr i.toNat = wl s.writes i.toNat := rfl
 rw [hw]
 unfold vat at hv
 cases hx : wl s.writes i.toNat with
 | some u => rw [hx] at hv; simp at hv; subst hv; exact ⟨rfl, fun _ => rfl, rfl, hm⟩
 | none =>
  rw [hx] at hv
  simp only at hv
  simp only [hv]
  refine ⟨trivial, fun j => ?_, ?_, ?_⟩
  all_goals
   unfold VS.read1
   split
   ·first | rfl | exact hm
   ·first | rfl | exact hm
theorem vat_put {s : VS} {i : Int} (v : Int) (h0 : 0 ≤ i) (h1 : i < s.n) (hm : s.miss = none) :
 (∀ j, vat (s.put i v) j = if j = i.toNat then some v else vat s j) ∧ (s.put i v).n = s.n ∧ (s.put i v).miss = none := by
 have ht : s.there i = true := VS.there_iff.2 ⟨h0, h1, hm⟩
 unfold VS.put
 rw [if_pos ht]
 refine ⟨fun j => ?_, rfl, hm⟩
 unfold vat
 simp only [wlk_setW]
 by_cases h : j = i.toNat
 ·simp [h]
 ·simp [h]

/-- a heap's lists in a view. -/
structure HV (t p s : Int) (hd nx pv : Int → Int) (st : VS) : Prop where
 right : rightB t p s = true
 num : (st.n : Int) = 30 + 4 * t + 6 * p
 miss : st.miss = none
 hd : ∀ h, 2 ≤ h → h ≤ 21 → vat st h.toNat = some (hd h)
 nx : ∀ q, 0 ≤ q → q < p → vat st (30 + 4 * t + 6 * q + 2).toNat = some (nx q)
 pv : ∀ q, 0 ≤ q → q < p → vat st (30 + 4 * t + 6 * q + 3).toNat = some (pv q)

section
variable {t p s : Int} {hd nx pv : Int → Int} {st : VS}
theorem HV.of (h : HV t p s hd nx pv st) {q part : Int} (h0 : 0 ≤ q) (h1 : q < p) : ofF t p s q part = 30 + 4 * t + 6 * q + part := by
 simp [ofF, h.right, h0, h1]
theorem HV.tk (h : HV t p s hd nx pv st) {i v : Int} (h0 : 0 ≤ i) (h1 : i < st.n) (hv : vat st i.toNat = some v) : (st.get i).1 = v ∧ HV t p s hd nx pv (st.get i).2 := by
 obtain ⟨e1, e2, e3, e4⟩ := vat_get h0 h1 h.miss hv
 exact ⟨e1, h.right, by rw [e3]; exact h.num, e4, fun a b c => by rw [e2]; exact h.hd a b c, fun a b c => by rw [e2]; exact h.nx a b c, fun a b c => by rw [e2]; exact h.pv a b c⟩
theorem HV.get_hd (h : HV t p s hd nx pv st) {a : Int} (h2 : 2 ≤ a) (h21 : a ≤ 21) : (st.get a).1 = hd a ∧ HV t p s hd nx pv (st.get a).2 := by
 have := h.num
 have := right_bd h.right
 exact h.tk (by omega) (by omega) (h.hd a h2 h21)
theorem HV.put_hd (h : HV t p s hd nx pv st) {a : Int} (v : Int) (h2 : 2 ≤ a) (h21 : a ≤ 21) : HV t p s (upI hd a v) nx pv (st.put a v) := by
 have hn := h.num
 have hr := right_bd h.right
 obtain ⟨e1, e2, e3⟩ := vat_put (s := st) (i := a) v (by omega) (by omega) h.miss
 refine ⟨h.right, by rw [e2]; exact hn, e3, fun b c d => ?_, fun b c d => ?_, fun b c d => ?_⟩
 ·rw [e1]
  by_cases e : b = a
  ·subst e; rw [if_pos rfl, upI_same]
  ·rw [if_neg (by omega), upI_other _ e]; exact h.hd b c d
 ·rw [e1, if_neg (by omega)]; exact h.nx b c d
 ·rw [e1, if_neg (by omega)]; exact h.pv b c d
theorem HV.put_nx (h : HV t p s hd nx pv st) {q : Int} (v : Int) (h0 : 0 ≤ q) (h1 : q < p) : HV t p s hd (upI nx q v) pv (st.put (ofF t p s q 2) v) := by
 have hn := h.num
 have hr := right_bd h.right
 rw [h.of h0 h1]
 obtain ⟨e1, e2, e3⟩ := vat_put (s := st) (i := 30 + 4 * t + 6 * q + 2) v (by omega) (by omega) h.miss
 refine ⟨h.right, by rw [e2]; exact hn, e3, fun b c d => ?_, fun b c d => ?_, fun b c d => ?_⟩
 ·rw [e1, if_neg (by omega)]; exact h.hd b c d
 ·rw [e1]
  by_cases e : b = q
  ·subst e; rw [if_pos rfl, upI_same]
  ·rw [if_neg (by omega), upI_other _ e]; exact h.nx b c d
 ·rw [e1, if_neg (by omega)]; exact h.pv b c d
theorem HV.put_pv (h : HV t p s hd nx pv st) {q : Int} (v : Int) (h0 : 0 ≤ q) (h1 : q < p) : HV t p s hd nx (upI pv q v) (st.put (ofF t p s q 3) v) := by
 have hn := h.num
 have hr := right_bd h.right
 rw [h.of h0 h1]
 obtain ⟨e1, e2, e3⟩ := vat_put (s := st) (i := 30 + 4 * t + 6 * q + 3) v (by omega) (by omega) h.miss
 refine ⟨h.right, by rw [e2]; exact hn, e3, fun b c d => ?_, fun b c d => ?_, fun b c d => ?_⟩
 ·rw [e1, if_neg (by omega)]; exact h.hd b c d
 ·rw [e1, if_neg (by omega)]; exact h.nx b c d
 ·rw [e1]
  by_cases e : b = q
  ·subst e; rw [if_pos rfl, upI_same]
  ·rw [if_neg (by omega), upI_other _ e]; exact h.pv b c d

theorem pageB_t {q : Int} (h0 : 0 ≤ q) (h1 : q < p) : pageB p q = true := by simp [pageB, h0, h1]

theorem HV.push (h : HV t p s hd nx pv st) {a q : Int} {l : List Int} (h2 : 2 ≤ a) (h21 : a ≤ 21) (hl : LsOK p hd nx pv a l) (h0 : 0 ≤ q) (h1 : q < p) :
 HV t p s (upI hd a (q + 1)) (pushNx hd nx a q) (pushPv hd pv a q) (pushF t p s a q st) := by
 unfold pushF
 rw [if_pos (pageB_t h0 h1)]
 obtain ⟨g1, g2⟩ := h.get_hd h2 h21
 simp only [g1]
 have k2 := (g2.put_nx (hd a) h0 h1).put_pv 0 h0 h1
 unfold pushNx pushPv
 by_cases hz : hd a = 0
 ·simp only [hz, if_true] at k2 ⊢
  exact k2.put_hd (q + 1) h2 h21
 ·have hy : 0 ≤ hd a - 1 ∧ hd a - 1 < p := by
   obtain ⟨⟨e, hs⟩, -, hb⟩ := hl
   cases l with
   | nil => exact absurd hs.1.symm hz
   | cons y l => have := hb y (by simp); have := hs.1; omega
  simp only [hz, if_false]
  exact (k2.put_pv (q + 1) hy.1 hy.2).put_hd (q + 1) h2 h21

end
end Go.Proofs.YtcbikgafdclhaaaGreat
/- fresh: the program's Words. -/
set_option linter.unusedSimpArgs false
set_option linter.unusedVariables false
namespace Go.Proofs.YtcbikgafdclhaaaGreat
open Go.RowKit

def fillA (l src : List Int) (off : Nat) : Nat → List Int
 | 0 => l
 | k + 1 => (fillA l src off k).set (off + k) (src.getD k 0)
theorem fillA_len (l src : List Int) (off : Nat) : ∀ k, (fillA l src off k).length = l.length
 | 0 => rfl
 | k + 1 => by simp [fillA, fillA_len l src off k]
def wordsL (N : Nat) (h v : List Int) : List Int := fillA ((fillA (List.replicate N 0) h 0 8).set 8 4294967296) v 16 v.length
theorem wordsL_len (N : Nat) (h v : List Int) : (wordsL N h v).length = N := by simp [wordsL, fillA_len]
theorem uset (l : List Int) (i : Nat) (v : Int) : (ulongs l).set i (.int .u64 v) = ulongs (l.set i v) := by simp [ulongs, List.map_set]
theorem row_at {w : World} {g n : Nat} {l : List Int} (hg : w.heap[g]? = some (.cells (ulongs l).toArray 61)) (hn : l.length = n) (h : n ≤ 1000000) : w.ownsRow 0 61 1 (.slice (some ⟨g, 0, none⟩) n n) n (ulongs l) := by
 refine ⟨by simpa [ulongs] using hn, Or.inr ⟨g, n, (ulongs l).toArray, rfl, Nat.zero_le _, hg, Nat.le_refl _, by unfold maxLen; omega, by simpa [ulongs] using hn, ?_⟩⟩
 have : (ulongs l).length = n := by simpa [ulongs] using hn
 simp [← this]
theorem lcell {w : World} {g c n : Nat} {l : List Int} (h : w.ownsRow 0 61 1 (.slice (some ⟨g, 0, none⟩) n c) n (ulongs l)) {i : Nat} (hi : i < n) : ∃ z, w.cell? ⟨g, i, none⟩ = some z := by
 refine ⟨_, (h.cellAt i (by omega)).trans (List.getElem?_eq_getElem ?_)⟩
 have := h.1
 omega
theorem made_rep64 (N : Nat) : madeCells #[.int .u64 0] N = (ulongs (List.replicate N 0)).toArray := by
 apply Array.ext'
 simp [madeCells, ulongs, Nat.mod_one]
 exact List.eq_replicate_iff.2 ⟨by simp, by simp⟩

def FwRel (w : World) (t p s : Int) (N C : Nat) (l l2 : List Int) (g1 gv cv : Nat) (i : Value) (wr : World) : Prop :=
 ∃ k : Nat, k ≤ C ∧ i = .int .i64 k ∧ wr.ownsRow 0 61 1 (.slice (some ⟨g1, 0, none⟩) N N) N (ulongs (fillA l2 l 16 k)) ∧ wr.ownsRow 0 90 1 (.slice (some ⟨gv, 0, none⟩) C cv) C (uints l) ∧
  (∀ o : Nat, wr.cell? ⟨w.heap.size, o, none⟩ = (#[.int .i64 t, .int .i64 p, .int .i64 s] : Array Value)[o]?) ∧ BS w [gv, g1, w.heap.size] wr
end Go.Proofs.YtcbikgafdclhaaaGreat
/- fresh: the document's Words. -/
set_option linter.unusedSimpArgs false
set_option linter.unusedVariables false
namespace Go.Proofs.YtcbikgafdclhaaaGreat
open Go.RowKit

def RwRelA (w : World) (t p s : Int) (N : Nat) (hd : List Int) (g1 gh ch : Nat) (i : Value) (wr : World) : Prop :=
 ∃ k : Nat, k ≤ 8 ∧ i = .int .i64 k ∧ wr.ownsRow 0 61 1 (.slice (some ⟨g1, 0, none⟩) N N) N (ulongs (fillA (List.replicate N 0) hd 0 k)) ∧ wr.ownsRow 0 61 1 (.slice (some ⟨gh, 0, none⟩) 8 ch) 8 (ulongs hd) ∧
  (∀ o : Nat, wr.cell? ⟨w.heap.size, o, none⟩ = (#[.int .i64 t, .int .i64 p, .int .i64 s] : Array Value)[o]?) ∧ BS w [gh, g1, w.heap.size] wr
set_option maxHeartbeats 1000000 in
set_option maxRecDepth 100000 in
theorem rwords25_right (t p s x : Nat) (N C : Nat) (l : List Int) (w : World) (hr : rightB t p s = true) (hx : t + p * 65536 + s * 4294967296 = x) (hn : wordsN t p = (N : Int)) (hc : cellsN t p = (C : Int)) (hl : l.length = C) (hu : ∀ x ∈ l, 0 ≤ x ∧ x < 4294967296)
 (hV : ∀ w, Calls Tryz.prog 41 #[.agg #[.int .i64 t, .int .i64 p, .int .i64 s]] w (ValsP w l)) :
 Calls Tryz.prog 22 #[.agg #[.int .i64 t, .int .i64 p, .int .i64 s]] w (WordsP w (wordsL N (headL x N) l)) := by
 obtain ⟨b1, b2, b3, b4, b5, b6⟩ := right_bd hr
 have HW := Lib.hid (fun w => rwords_right t p s w hr)
 rw [hn] at HW
 have HE := Lib.hid (fun w => rencode_right t p s x N w hr hx hn)
 have HV := Lib.hid hV
 have HT := Lib.hid rjoin10
 have HU := Lib.hid hu
 have hNC : C + 16 ≤ N ∧ N ≤ 100000 := by unfold wordsN makersN at hn; unfold cellsN at hn hc; omega
 have hC : 0 < C := by unfold cellsN at hc; omega
 have hhl : (headL x N).length = 8 := rfl
 have hWL : wordsL N (headL x N) l = fillA ((fillA (List.replicate N 0) (headL x N) 0 8).set 8 4294967296) l 16 C := by rw [← hl]; rfl
 rw [hWL]
 generalize hHd : headL x (N : Int) = hd at *
 have hmk : ∀ w : World, (Instr.makeSlice 22 (.int .i64 (N : Int)) (.int .i64 (N : Int))).run Tryz.prog w = .ok (.slice (some ⟨w.heap.size, 0, none⟩) N N) (w.alloc (.cells (madeCells #[.int .u64 0] N) 61)) := run_make_row' (P := Tryz.prog) 22 61 (.int .u64 0) 8 Tryz.underlying22 infoU64 rfl .i64 .i64 N (by omega) (by omega)
 have hnb : ((N : Int) == 0) = false := by simp; omega
 have c0 := loc_alloc w #[.int .i64 t, .int .i64 p, .int .i64 s] 44
 have S0 := ((BS.start w).alloc (.cells #[.int .i64 t, .int .i64 p, .int .i64 s] 44))
 clear hV hr hx hn hc hu hWL hHd
 go_enter Tryz.func22, Tryz.ntmps22
 go_wp2_with fail
 refine (calls_b S0 (HW.out _)).mono ?_
 rintro e w1 ⟨rfl, S1, S1l⟩
 have c1 := loc_step S1l (by simp) c0
 clear S1l
 have l1' := (S1.ls w.heap.size (by simp)).1
 have g1 : (w1.alloc (.cells (madeCells #[.int .u64 0] N) 61)).heap[w1.heap.size]? = some (.cells (ulongs (List.replicate N 0)).toArray 61) := by rw [made_rep64]; exact heap_alloc_new w1 _
 have Rm := row_at g1 (show (List.replicate N (0 : Int)).length = N by simp) (by omega)
 have S1a := S1.alloc (.cells (madeCells #[.int .u64 0] N) 61)
 have c1a := loc_old (.cells (madeCells #[.int .u64 0] N) 61) (S1.ls w.heap.size (by simp)).1 c1
 go_wp2_with fail
 refine (HE.out _).mono ?_
 rintro e w2 ⟨v, rfl, R, hf, b2⟩
 rw [hhl] at R
 obtain ⟨gh, ch, rfl⟩ := Joins.ownsRow_form R (by omega)
 have S2 := S1a.below b2
 have c2 := ((BS.start _).below b2).oldbox c1a (S1a.ls w.heap.size (by simp)).1
 have R2 := ((BS.start _).below b2).row Rm
 have hgh : w1.heap.size < gh := by have := hf gh rfl; simp at this; omega
 have S2b : BS w [gh, w1.heap.size, w.heap.size] w2 := ⟨S2.bel, fun L hL => by
  simp at hL
  rcases hL with rfl | rfl | rfl
  ·exact ⟨ownsRow_lt R rfl, by omega⟩
  ·exact S2.ls _ (by simp)
  ·exact S2.ls _ (by simp)⟩
 have HR : RwRelA w t p s N hd w1.heap.size gh ch (.int .i64 0) w2 := ⟨0, by omega, rfl, R2, R, c2, S2b⟩
 have hne : w1.heap.size ≠ w.heap.size := by omega
 have hgw : gh ≠ w1.heap.size := by omega
 have hgw2 : gh ≠ w.heap.size := by omega
 have hg1w : w.heap.size ≤ w1.heap.size := by omega
 clear R2 R c2 S2b S2 b2 hf S1a c1a Rm g1 S1 c1 S0 c0 HW HE hmk l1' hgh
 generalize w1.heap.size = g1 at *
 go_wp2
 go_loopw [5] (fun i wr => RwRelA w t p s N hd g1 gh ch i wr) (fun i _ => 8 - (intOf i).toNat)
 case atStart => exact HR
 case round =>
  clear HR
  obtain ⟨k, hk, rfl, R8, RH8, c8, S8⟩ := hrel
  by_cases hlt : k < 8
  ·have q0 := RH8.cellAt k (by omega)
   have hyk : (ulongs hd)[k]? = some (.int .u64 (hd.getD k 0)) := by simp [ulongs, hhl, hlt]
   rw [hyk] at q0
   obtain ⟨z1, q1⟩ := lcell R8 (i := k) (by omega)
   have f1 := R8.frozenAt k
   have hfk : fillA (List.replicate N 0) hd 0 (k + 1) = (fillA (List.replicate N 0) hd 0 k).set k (hd.getD k 0) := by simp [fillA]
   have HFk := Lib.hid hfk
   clear hyk hfk
   generalize hd.getD k 0 = y at *
   have R11 := (R8.stored k (.int .u64 y)).1
   rw [uset] at R11
   have S11 := S8.setCell (L := g1) (by simp) k (.int .u64 y)
   have RH11 := ownsRow_block (w' := wr.setCell ⟨g1, k, none⟩ (.int .u64 y)) RH8 (fun b hb => by simp [Value.ownBlock] at hb; subst hb; exact heap_setCell_other (L := g1) (by omega))
   have c11 : ∀ o : Nat, (wr.setCell ⟨g1, k, none⟩ (.int .u64 y)).cell? ⟨w.heap.size, o, none⟩ = (#[.int .i64 t, .int .i64 p, .int .i64 s] : Array Value)[o]? := fun o => (World.cell?_of_block (a := ⟨w.heap.size, o, none⟩) (heap_setCell_other (L := g1) (M := w.heap.size) (by omega))).trans (c8 o)
   have HRR := Lib.hid (And.intro R11 (And.intro RH11 (And.intro c11 S11)))
   have hkN : (k : Int) < N := by omega
   clear R11 RH11 c11 S11 R8 RH8 S8 c8
   go_wp2
   go_roundw
   case rel => exact ⟨k + 1, by omega, by go_num, by rw [HFk.out]; exact HRR.out.1, HRR.out.2.1, HRR.out.2.2.1, HRR.out.2.2.2⟩
   case measure => simp [intOf]; omega
  ·have h32 : k = 8 := by omega
   rw [h32] at R8
   have HK := Lib.hid h32
   generalize hL1 : fillA (List.replicate N 0) hd 0 8 = l1 at *
   have hl1 : l1.length = N := by rw [← hL1, fillA_len]; simp
   clear hL1 RH8 h32
   go_wp2_with fail
   refine (HT.out _).mono ?_
   rintro e w3 ⟨rfl, b3⟩
   have S3 := S8.below b3
   have R3 := ((BS.start _).below b3).row R8
   have c3 := ((BS.start _).below b3).oldbox c8 (S8.ls w.heap.size (by simp)).1
   obtain ⟨z3, q3⟩ := lcell R3 (i := 8) (by omega)
   have f3 := R3.frozenAt 8
   have S4 := S3.setCell (L := g1) (by simp) 8 (.int .u64 4294967296)
   have R4 := (R3.stored 8 (.int .u64 4294967296)).1
   rw [uset] at R4
   have c4 : ∀ o : Nat, (w3.setCell ⟨g1, 8, none⟩ (.int .u64 4294967296)).cell? ⟨w.heap.size, o, none⟩ = (#[.int .i64 t, .int .i64 p, .int .i64 s] : Array Value)[o]? := fun o => (World.cell?_of_block (a := ⟨w.heap.size, o, none⟩) (heap_setCell_other (L := g1) (M := w.heap.size) (by omega))).trans (c3 o)
   clear S8 R8 c8 b3
   go_wp2_with fail
   clear q3 f3 S3 R3 c3
   refine (HV.out _).mono ?_
   rintro e w6 ⟨v, rfl, RV, hfv, b6⟩
   rw [hl] at RV
   obtain ⟨gv, cv, rfl⟩ := Joins.ownsRow_form RV (by omega)
   have S6 := S4.below b6
   have R6 := ((BS.start _).below b6).row R4
   have c6 := ((BS.start _).below b6).oldbox c4 (S4.ls w.heap.size (by simp)).1
   have hgv : g1 < gv := by have := hfv gv rfl; have := (S4.ls g1 (by simp)).1; omega
   have S7 : BS w [gv, g1, w.heap.size] w6 := ⟨S6.bel, fun L hL => by
    simp at hL
    rcases hL with rfl | rfl | rfl
    ·exact ⟨ownsRow_lt RV rfl, by have := S4.bel.size; have := hfv _ rfl; omega⟩
    ·exact S6.ls _ (by simp)
    ·exact S6.ls _ (by simp)⟩
   have HR : FwRel w t p s N C l (l1.set 8 4294967296) g1 gv cv (.int .i64 0) w6 := ⟨0, by omega, rfl, R6, RV, c6, S7⟩
   have hgw3 : gv ≠ g1 := by omega
   have hgw4 : gv ≠ w.heap.size := by omega
   have hll : (l1.set 8 4294967296).length = N := by simp [hl1]
   clear S4 R4 c4 S6 b6 hfv R6 RV c6 S7 HV HT hgv
   generalize l1.set 8 4294967296 = l2 at *
   go_wp2
   go_loopw [7] (fun i wr => FwRel w t p s N C l l2 g1 gv cv i wr) (fun i _ => C - (intOf i).toNat)
   case atStart => exact HR
   case round =>
    clear HR
    obtain ⟨k2, hk2, rfl, R8, RV8, c8, S8⟩ := hrel
    by_cases hlt2 : k2 < C
    ·have hy := HU.out (l.getD k2 0) (by rw [List.getD_eq_getElem?_getD, List.getElem?_eq_getElem (by omega)]; exact List.getElem_mem _)
     have v8 : wr.cell? ⟨gv, k2, none⟩ = some (.int .u32 (l.getD k2 0)) := by
      rw [RV8.cellAt k2 (by omega)]
      simp [uints, hl, hlt2]
     have hfk : fillA l2 l 16 (k2 + 1) = (fillA l2 l 16 k2).set (16 + k2) (l.getD k2 0) := rfl
     have HFk := Lib.hid hfk
     have hk16 : (16 : Int) + k2 = ((16 + k2 : Nat) : Int) := by omega
     have hwr : IntKind.i64.wrap ((16 : Int) + k2) = ((16 + k2 : Nat) : Int) := by rw [hk16]; exact IntWalk.i64_in _ (by omega)
     have hkN : 16 + k2 < N := by omega
     have hkN2 : ((16 + k2 : Nat) : Int) < N := by omega
     have hwy : IntKind.u64.wrap (l.getD k2 0) = l.getD k2 0 := wraps_u64 _ (by omega) (by omega)
     clear hfk hy HU
     generalize l.getD k2 0 = y at *
     generalize hf1 : fillA l2 l 16 k2 = f1 at *
     generalize 16 + k2 = k3 at *
     obtain ⟨z1, q1⟩ := lcell R8 hkN
     have f8 := R8.frozenAt k3
     have R11 := (R8.stored k3 (.int .u64 y)).1
     rw [uset] at R11
     have S11 := S8.setCell (L := g1) (by simp) k3 (.int .u64 y)
     have RV11 := ownsRow_block (w' := wr.setCell ⟨g1, k3, none⟩ (.int .u64 y)) RV8 (fun b hb => by simp [Value.ownBlock] at hb; subst hb; exact heap_setCell_other (L := g1) (by omega))
     have c11 : ∀ o : Nat, (wr.setCell ⟨g1, k3, none⟩ (.int .u64 y)).cell? ⟨w.heap.size, o, none⟩ = (#[.int .i64 t, .int .i64 p, .int .i64 s] : Array Value)[o]? := fun o => (World.cell?_of_block (a := ⟨w.heap.size, o, none⟩) (heap_setCell_other (L := g1) (M := w.heap.size) (by omega))).trans (c8 o)
     have HRR := Lib.hid (And.intro R11 (And.intro RV11 (And.intro c11 S11)))
     clear R11 RV11 c11 S11 R8 RV8 S8 c8
     go_wp2
     go_roundw
     case rel => exact ⟨k2 + 1, by omega, by go_num, by rw [HFk.out]; exact HRR.out.1, HRR.out.2.1, HRR.out.2.2.1, HRR.out.2.2.2⟩
     case measure => simp [intOf]; omega
    ·obtain rfl : k2 = C := by omega
     go_wp2
     go_ret
     refine ⟨_, rfl, ?_, fun k hk => ?_, S8.bel⟩
     ·have : (fillA l2 l 16 k2).length = N := by rw [fillA_len]; exact hll
      rw [this]
      exact R8
     ·simp [Value.ownBlock] at hk
      subst hk
      exact (S8.ls g1 (by simp)).2
end Go.Proofs.YtcbikgafdclhaaaGreat
/- fresh: the plain law: the fresh values are a heap that holds nothing. -/
set_option linter.unusedSimpArgs false
set_option linter.unusedVariables false
namespace Go.Proofs.YtcbikgafdclhaaaGreat
open Go.RowKit

/-- values of a heap of which all pages are free. -/
structure FV (vs : List Int) (t : Int) (P K : Nat) : Prop where
 p4 : 4 ≤ P
 p64 : P ≤ 1024
 h0 : ∀ q : Nat, q < P → gv vs t q 0 = if q = 0 then 1 + 16 * (P : Int) else 0
 h1 : ∀ q : Nat, q < P → gv vs t q 1 = if q + 1 = P then 1 else 0
 h2 : ∀ q : Nat, q < P → gv vs t q 2 = 0
 h3 : ∀ q : Nat, q < P → gv vs t q 3 = 0
 h4 : ∀ q : Nat, q < P → gv vs t q 4 = 0
 h5 : ∀ q : Nat, q < P → gv vs t q 5 = 0
 c0 : vs.getD 0 0 = P
 c1 : vs.getD 1 0 = 0
 bins : ∀ k : Nat, k < 11 → vs.getD (2 + k) 0 = if k = K then 1 else 0
 hK : logF P = K
 K11 : K < 11
 racks : ∀ k : Nat, k < 9 → vs.getD (13 + k) 0 = 0
 roots : ∀ i : Nat, i < 8 → vs.getD (22 + i) 0 = 0

theorem i0_info : okI 0 = true ∧ iK 0 = 0 ∧ iL 0 = 0 ∧ iC 0 = 0 := by decide
theorem iP_info {P : Nat} (h4 : 4 ≤ P) (h : P ≤ 1024) : okI (1 + 16 * (P : Int)) = true ∧ iK (1 + 16 * (P : Int)) = 1 ∧ iL (1 + 16 * (P : Int)) = P ∧ iC (1 + 16 * (P : Int)) = 0 := by
 have e1 : (1 + 16 * (P : Int)) % 16 = 1 := by omega
 have e2 : (1 + 16 * (P : Int)) / 16 % 4096 = P := by omega
 have e3 : (1 + 16 * (P : Int)) / 65536 = 0 := by omega
 have ho : okI (1 + 16 * (P : Int)) = true := by
  unfold okI
  rw [e1, e2, e3]
  simp [rightI]
  omega
 unfold iK iL iC
 rw [ho, e1, e2, e3]
 simp

section
variable {vs : List Int} {t s : Int} {P K : Nat}
theorem FV.first (h : FV vs t P K) : gv vs t 0 0 = 1 + 16 * (P : Int) := by
 have := h.h0 0 (by have := h.p4; omega)
 simpa using this
theorem FV.other (h : FV vs t P K) {q : Nat} (h1 : q ≠ 0) (h2 : q < P) : gv vs t q 0 = 0 := by
 rw [h.h0 q h2, if_neg h1]
theorem FV.kind (h : FV vs t P K) {q : Nat} (h2 : q < P) : iK (gv vs t q 0) = if q = 0 then 1 else 0 := by
 by_cases e : q = 0
 ·subst e
  rw [if_pos rfl, show ((0 : Nat) : Int) = 0 from rfl, h.first]
  exact (iP_info h.p4 h.p64).2.1
 ·rw [if_neg e, h.other e h2]
  exact i0_info.2.1
theorem FV.starts (h : FV vs t P K) : startsF (fun q => gv vs t q 0) P = ([0], true) := by
 have hp := h.p4
 obtain ⟨a, b, c, d⟩ := iP_info h.p4 h.p64
 obtain ⟨m, hm⟩ : ∃ m, P = m + 1 := ⟨P - 1, by omega⟩
 unfold startsF
 rw [show (P : Int).toNat + 1 = (m + 1) + 1 by omega]
 unfold startsL
 simp only [h.first]
 rw [if_pos (by omega), if_neg (by rw [a, b]; simp), c]
 unfold startsL
 rw [if_neg (by omega)]
 simp
theorem FV.tiles (h : FV vs t P K) : tilesF vs t P = true := by
 have hT : ∀ q, q ≤ P → tilesN vs t [0] q = some (if q = 0 then 0 else 1) := by
  intro q
  induction q with
  | zero => intro _; rfl
  | succ q ih =>
   intro hq
   unfold tilesN
   rw [ih (by omega)]
   by_cases e : q = 0
   ·subst e; simp
   ·simp only [if_neg e]
    rw [if_neg (by simp), if_pos (h.other e (by omega))]
    simp
 unfold tilesF
 rw [h.starts]
 have := hT P (Nat.le_refl _)
 simp [this]
theorem FV.feet (h : FV vs t P K) : feetF vs t P = true := by
 have hp := h.p4
 obtain ⟨a, b, c, d⟩ := iP_info h.p4 h.p64
 have hT : ∀ q, q ≤ P → feetN vs t [0] q = some 0 := by
  intro q
  induction q with
  | zero => intro _; rfl
  | succ q ih =>
   intro hq
   unfold feetN
   rw [ih (by omega)]
   have ha : advN [0] 0 (q : Int) = 0 := by simp [advN]
   have hw : wantF vs t [0] 0 (q : Int) = if q + 1 = P then 1 else 0 := by
    unfold wantF
    simp only [List.getD_cons_zero]
    rw [h.first, c]
    by_cases e : q + 1 = P
    ·rw [if_pos e, if_pos (by omega)]; omega
    ·rw [if_neg e, if_neg (by omega)]
   simp only
   rw [ha, hw, h.h1 q (by omega), if_pos rfl]
 unfold feetF
 rw [h.starts]
 have := hT P (Nat.le_refl _)
 simp [this]
theorem FV.apart (h : FV vs t P K) : apartF vs t P = true := by
 unfold apartF
 rw [h.starts]
 rfl
theorem bitB_zero (b : Nat) : bitB 0 b = false := by simp [bitB]
theorem FV.slots (h : FV vs t P K) : slotsAll vs t P = true := by
 unfold slotsAll
 rw [allN_iff]
 intro q hq
 have hq2 : q < P := by omega
 unfold slotsQ
 have hk := h.kind hq2
 have hk3 : (iK (gv vs t q 0) == 3) = false := by rw [hk]; split <;> rfl
 rw [hk3]
 simp only [Bool.false_and, Bool.not_false, Bool.and_true]
 rw [allN_iff]
 intro b _
 unfold slotB badB
 rw [h.h4 q hq2, h.h5 q hq2, bitB_zero]
 rfl
theorem FV.binned (h : FV vs t P K) {q k : Nat} (hq : q < P) : binnedB (gv vs t q 0) k = (q == 0 && k == K) := by
 unfold binnedB
 rw [h.kind hq]
 by_cases e : q = 0
 ·subst e
  rw [show ((0 : Nat) : Int) = 0 from rfl, h.first, (iP_info h.p4 h.p64).2.2.1, h.hK]
  by_cases e2 : k = K
  ·simp [e2]
  ·have : ((K : Int) == (k : Int)) = false := by simp; omega
   simp [this, e2]
 ·simp [e]
theorem FV.bin (h : FV vs t P K) {k : Nat} (hk : k < 11) : listF vs t P (2 + k) = (if k = K then [0] else [], true) := by
 have hp := h.p4
 unfold listF
 rw [h.bins k hk]
 by_cases e : k = K
 ·rw [if_pos e, if_pos e]
  rw [show (P : Int).toNat + 1 = ((P - 1) + 1) + 1 by omega]
  unfold listL
  rw [if_neg (by omega), if_neg (by simp; omega), if_neg (by have := h.h3 0 (by omega); simpa using this)]
  rw [show ((1 : Int) - 1) = ((0 : Nat) : Int) by rfl, h.h2 0 (by omega)]
  unfold listL
  rw [if_pos rfl]
  rfl
 ·rw [if_neg e, if_neg e]
  unfold listL
  rw [if_pos rfl]
theorem FV.binsT (h : FV vs t P K) : binsF vs t P = true := by
 unfold binsF
 rw [allN_iff]
 intro k hk
 unfold binsB
 rw [h.bin hk]
 simp only [Bool.true_and]
 rw [allN_iff]
 intro q hq
 have hq2 : q < P := by omega
 unfold binsInB
 rw [h.binned hq2]
 by_cases e : k = K
 ·simp only [if_pos e]
  by_cases e2 : q = 0
  ·subst e2; subst e; simp [wantI]
  ·have : List.count (q : Int) [0] = 0 := by rw [List.count_eq_zero]; simp; omega
   rw [this]
   simp [wantI, e2]
 ·simp only [if_neg e]
  simp [wantI, e]
theorem FV.racksT (h : FV vs t P K) : racksF vs t P = true := by
 have hp := h.p4
 unfold racksF
 rw [allN_iff]
 intro k hk
 have hl : listF vs t P (13 + k) = ([], true) := by
  unfold listF
  rw [h.racks k hk]
  unfold listL
  rw [if_pos rfl]
 unfold racksB
 rw [hl]
 simp only [Bool.true_and]
 rw [allN_iff]
 intro q hq
 have hq2 : q < P := by omega
 unfold racksInB rackedB
 rw [h.kind hq2]
 by_cases e : q = 0 <;> simp [e, wantI]
theorem FV.loose (h : FV vs t P K) : looseF vs t P = true := by
 unfold looseF
 rw [allN_iff]
 intro q hq
 have hq2 : q < P := by omega
 unfold looseQ
 rw [h.h2 q hq2, h.h3 q hq2]
 simp
theorem onesN_zero (k : Nat) : onesN 0 k = 0 := by
 induction k with
 | zero => rfl
 | succ k ih => simp [onesN, ih, bitB_zero]
theorem FV.counts (h : FV vs t P K) : countsF vs t P = true := by
 have hp := h.p4
 have hF : ∀ q, q ≤ P → freeN vs t q = if q = 0 then 0 else P := by
  intro q
  induction q with
  | zero => intro _; rfl
  | succ q ih =>
   intro hq
   unfold freeN
   rw [ih (by omega), h.kind (q := q) (by omega)]
   by_cases e : q = 0
   ·subst e
    rw [show ((0 : Nat) : Int) = 0 from rfl, h.first, (iP_info h.p4 h.p64).2.2.1]
    simp
   ·simp [e]
 have hL : ∀ q, q ≤ P → liveN vs t q = 0 := by
  intro q
  induction q with
  | zero => intro _; rfl
  | succ q ih =>
   intro hq
   unfold liveN
   rw [ih (by omega), h.kind (q := q) (by omega), h.h4 q (by omega), onesN_zero]
   by_cases e : q = 0 <;> simp [e]
 unfold countsF
 rw [show (P : Int).toNat = P by omega, hF P (Nat.le_refl _), hL P (Nat.le_refl _), h.c0, h.c1, if_neg (by omega)]
 simp
theorem FV.parts (h : FV vs t P K) : partsF vs t P s = [(1, addrF s 0 0, (P : Int) * pageF s)] := by
 have hp := h.p4
 have hT : ∀ q, q ≤ P → partsL vs t s q = if q = 0 then [] else [(1, addrF s 0 0, (P : Int) * pageF s)] := by
  intro q
  induction q with
  | zero => intro _; rfl
  | succ q ih =>
   intro hq
   unfold partsL
   rw [ih (by omega)]
   have hk := h.kind (q := q) (by omega)
   by_cases e : q = 0
   ·subst e
    unfold partQ
    rw [hk, show ((0 : Nat) : Int) = 0 from rfl, h.first, (iP_info h.p4 h.p64).2.2.1]
    simp
   ·unfold partQ
    rw [hk]
    simp [e]
 unfold partsF
 rw [show (P : Int).toNat = P by omega, hT P (Nat.le_refl _), if_neg (by omega)]
theorem FV.blocks (h : FV vs t P K) : blocksF vs t P s = [] := by
 unfold blocksF
 rw [h.parts]
 rfl
theorem FV.rootsT (h : FV vs t P K) : rootsF vs t P s = true := by
 unfold rootsF
 rw [allN_iff]
 intro i hi
 unfold rootB
 rw [h.roots i hi]
 rfl
theorem FV.check (h : FV vs t P K) : chkF vs t P s = (0, true) := by
 unfold chkF
 rw [h.tiles, h.feet, h.apart, h.slots, h.binsT, h.racksT, h.loose, h.counts, h.rootsT]
 rfl
end

/-- the fresh values are such. -/
theorem refL_get (N i0 i1 K P j : Nat) (h0 : 0 < N) (hK : 2 + K < N) (hi0 : i0 < N) (hi1 : i1 < N) : (refL N i0 i1 K P).getD j 0 = if j = i1 then 1 else if j = i0 then 1 + 16 * (P : Int) else if j = 2 + K then 1 else if j = 0 then (P : Int) else 0 := by
 unfold refL
 rw [List.getD_eq_getElem?_getD]
 by_cases e1 : j = i1
 ·subst e1; rw [List.getElem?_set_self (by simpa using hi1), if_pos rfl]; rfl
 rw [List.getElem?_set_ne (Ne.symm e1), if_neg e1]
 by_cases e2 : j = i0
 ·subst e2; rw [List.getElem?_set_self (by simpa using hi0), if_pos rfl]; rfl
 rw [List.getElem?_set_ne (Ne.symm e2), if_neg e2]
 by_cases e3 : j = 2 + K
 ·subst e3; rw [List.getElem?_set_self (by simpa using hK), if_pos rfl]; rfl
 rw [List.getElem?_set_ne (Ne.symm e3), if_neg e3]
 by_cases e4 : j = 0
 ·subst e4; rw [List.getElem?_set_self (by simpa using h0), if_pos rfl]; rfl
 rw [List.getElem?_set_ne (Ne.symm e4), if_neg e4, List.getElem?_replicate]
 split <;> rfl
theorem fresh_FV {t : Int} {P N i0 i1 K : Nat} (ht : 1 ≤ t) (h4 : 4 ≤ P) (h64 : P ≤ 1024) (hN : (N : Int) = 30 + 4 * t + 6 * P) (e0 : (i0 : Int) = 30 + 4 * t) (e1 : (i1 : Int) = 30 + 4 * t + 6 * (P - 1) + 1) (hK : logF P = K) (hK2 : K < 11) : FV (refL N i0 i1 K P) t P K := by
 have hg : ∀ j, (refL N i0 i1 K P).getD j 0 = if j = i1 then 1 else if j = i0 then 1 + 16 * (P : Int) else if j = 2 + K then 1 else if j = 0 then (P : Int) else 0 := fun j => refL_get N i0 i1 K P j (by omega) (by omega) (by omega) (by omega)
 have hx : ∀ (q part : Nat), q < P → part ≤ 5 → cix t q part = i0 + 6 * q + part := by
  intro q part _ _
  unfold cix
  omega
 have hgv : ∀ (q part : Nat), q < P → part ≤ 5 → gv (refL N i0 i1 K P) t q part = if i0 + 6 * q + part = i1 then 1 else if 6 * q + part = 0 then 1 + 16 * (P : Int) else 0 := by
  intro q part h1 h2
  unfold gv
  rw [hx q part h1 h2, hg]
  by_cases a : i0 + 6 * q + part = i1
  ·rw [if_pos a, if_pos a]
  ·rw [if_neg a, if_neg a]
   by_cases b : 6 * q + part = 0
   ·rw [if_pos (by omega), if_pos b]
   ·rw [if_neg (by omega), if_neg b, if_neg (by omega), if_neg (by omega)]
 refine ⟨h4, h64, ?_, ?_, ?_, ?_, ?_, ?_, ?_, ?_, ?_, hK, hK2, ?_, ?_⟩
 ·intro q hq
  have := hgv q 0 hq (by omega)
  simp only [Nat.add_zero] at this
  rw [show ((0 : Nat) : Int) = 0 from rfl] at this
  rw [this, if_neg (by omega)]
  by_cases e : q = 0
  ·rw [if_pos e, if_pos (by omega)]
  ·rw [if_neg e, if_neg (by omega)]
 ·intro q hq
  have := hgv q 1 hq (by omega)
  rw [show ((1 : Nat) : Int) = 1 from rfl] at this
  rw [this]
  by_cases e : q + 1 = P
  ·rw [if_pos e, if_pos (by omega)]
  ·rw [if_neg e, if_neg (by omega), if_neg (by omega)]
 ·intro q hq
  have := hgv q 2 hq (by omega)
  rw [show ((2 : Nat) : Int) = 2 from rfl] at this
  rw [this, if_neg (by omega), if_neg (by omega)]
 ·intro q hq
  have := hgv q 3 hq (by omega)
  rw [show ((3 : Nat) : Int) = 3 from rfl] at this
  rw [this, if_neg (by omega), if_neg (by omega)]
 ·intro q hq
  have := hgv q 4 hq (by omega)
  rw [show ((4 : Nat) : Int) = 4 from rfl] at this
  rw [this, if_neg (by omega), if_neg (by omega)]
 ·intro q hq
  have := hgv q 5 hq (by omega)
  rw [show ((5 : Nat) : Int) = 5 from rfl] at this
  rw [this, if_neg (by omega), if_neg (by omega)]
 ·rw [hg, if_neg (by omega), if_neg (by omega), if_neg (by omega), if_pos rfl]
 ·rw [hg, if_neg (by omega), if_neg (by omega), if_neg (by omega), if_neg (by omega)]
 ·intro k hk
  rw [hg, if_neg (by omega), if_neg (by omega)]
  by_cases e : k = K
  ·rw [if_pos e, if_pos (by omega)]
  ·rw [if_neg e, if_neg (by omega), if_neg (by omega)]
 ·intro k hk
  rw [hg, if_neg (by omega), if_neg (by omega), if_neg (by omega), if_neg (by omega)]
 ·intro k hk
  rw [hg, if_neg (by omega), if_neg (by omega), if_neg (by omega), if_neg (by omega)]
end Go.Proofs.YtcbikgafdclhaaaGreat
/- open: a new heap's words. -/
set_option linter.unusedSimpArgs false
set_option linter.unusedVariables false
namespace Go.Proofs.YtcbikgafdclhaaaGreat
open Go.RowKit
def xN : Nat := 1 + 4 * 65536 + 10 * 4294967296
def frL : List Int := refL 58 34 53 2 4
def WN : List Int := wordsL 320 (headL xN 320) frL
theorem wn_len : WN.length = 320 := wordsL_len _ _ _
theorem wn_dec : decF WN = some (1, 4, 10) := by decide +kernel
theorem wn_settle : settleF 1 4 10 WN = some frL := by decide +kernel
theorem wn_tip : tipW (WN.getD 8 0) = some (1, 0) := by decide +kernel
theorem wn_u64 : ∀ x ∈ WN, U64 x := by
 have h : (WN.all fun x => decide (0 ≤ x ∧ x ≤ 18446744073709551615)) = true := by decide +kernel
 intro x hx
 have := List.all_eq_true.1 h x hx
 simp at this
 exact ⟨by omega, by omega⟩
end Go.Proofs.YtcbikgafdclhaaaGreat
/- open: strings of bytes; the page's examples. -/
set_option linter.unusedSimpArgs false
set_option linter.unusedVariables false
namespace Go.Proofs.YtcbikgafdclhaaaGreat
open Go.RowKit

theorem conv_rd {W : World} {v : Value} {bs : List Int} (hR : Rd W v 1 bs.length (ubytes bs)) : (convert 23 9 v).run Tryz.prog W = .ok (.string (strOfNums bs)) W := by
 rcases hR.2 with ⟨rfl, h0⟩ | ⟨ad, c, rfl, hc⟩
 ·rw [run_convert_bytes_nil W 23 5 Tryz.underlying23 Tryz.underlying5 0 0 _ Tryz.underlying9]
  rw [List.length_eq_zero_iff.1 h0]
  rfl
 ·have hl : (loadCells ad bs.length).run Tryz.prog W = .ok (bs.map (Value.int .u8)).toArray W := by
   have := run_loadCells_list (P := Tryz.prog) W ad (bs.map (Value.int .u8)) (fun j v hj => hc j v hj)
   simpa using this
  rw [run_convert_bytes_string W 23 9 5 _ bs.length c Tryz.underlying23 Tryz.underlying5 Tryz.underlying9, run_bytesToString W _ bs.length c bs hl, foldl_push_bytes]
  simp [strOfNums, ByteArray.empty, ByteArray.emptyWithCapacity]
  rfl
theorem wordsB_bytes {ws : List Int} (hu : ∀ x ∈ ws, U64 x) (hl : ws.length ≤ 65536) : wordsB (bytesF ws) = some ws := by
 unfold wordsB
 rw [bytesF_len, if_pos (by omega)]
 rw [show 8 * ws.length / 8 = ws.length by omega, chunks_bytes ws hu]
theorem frL_FV : FV frL 1 4 2 := fresh_FV (by omega) (by omega) (by omega) (by decide) (by decide) (by decide) (by decide +kernel) (by omega)
theorem wn_mem : memB 1 4 10 WN = true := by
 unfold memB
 rw [wn_tip, wn_settle, wn_len]
 have h := frL_FV.check (s := 10)
 simp only [Int.cast_ofNat_Int] at h
 simp [h]
 decide
theorem wn_memR : memR (wordsB (bytesF WN)) = some (WN, 1, 4, 10) := by
 rw [wordsB_bytes wn_u64 (by rw [wn_len]; omega)]
 unfold memR
 dsimp only
 rw [wn_dec]
 dsimp only
 rw [wn_mem, if_pos rfl]
theorem wn_vs : vsOf 1 4 10 WN = frL := by unfold vsOf; rw [wn_settle]; rfl
theorem wn_blocks : blocksF (vsOf 1 4 10 WN) 1 4 10 = [] := by rw [wn_vs]; exact frL_FV.blocks
theorem wn_roots (v : Value) : stV v (rootsV (vsOf 1 4 10 WN)) = stV v (fun _ => 0) := by rw [wn_vs]; rfl
theorem wn_any (w : World) : Calls Tryz.prog 22 #[.agg #[.int .i64 1, .int .i64 4, .int .i64 10]] w (WordsP w WN) :=
 rwords25_right 1 4 10 xN 320 58 frL w (by decide) (by decide) (by decide) (by decide) (by decide) (by decide) (fun w => rvals_right 1 10 4 58 34 53 2 w (by decide) (by decide) (by decide) (by decide) (by decide +kernel) (by omega) (by omega) (by omega))
end Go.Proofs.YtcbikgafdclhaaaGreat
/- open: the page's examples. -/
set_option linter.unusedSimpArgs false
set_option linter.unusedVariables false
namespace Go.Proofs.YtcbikgafdclhaaaGreat
open Go.RowKit

theorem open_bv {bs : List Int} {v : Value} {w : World} (h : BV w v bs) (hl : bs.length ≤ 1000000000) : Calls Tryz.prog 12 #[v] w (OpQ w (memR (wordsB bs))) :=
 open_any v _ w (fun _ hb => pwords_any (h.keep hb) hl) (wordsB_u64 h.u8)
theorem pstate_bv {bs : List Int} {v : Value} {w : World} (h : BV w v bs) (hl : bs.length ≤ 1000000000) (hf : ∀ ws t p s, memR (wordsB bs) = some (ws, t, p, s) → p ≤ 1024) : Calls Tryz.prog 13 #[v] w (StQ w (memR (wordsB bs))) :=
 pstate37_any v _ w (fun _ hb => pwords_any (h.keep hb) hl) (wordsB_u64 h.u8) hf
theorem rstate_bv {bs : List Int} {v : Value} {w : World} (h : BV w v bs) (hf : ∀ ws t p s, memR (wordsB bs) = some (ws, t, p, s) → p ≤ 1024) : Calls Tryz.prog 14 #[v] w (StQ w (memR (wordsB bs))) :=
 rstate37_any v _ w (fun _ hb => rwords37_any (h.keep hb)) (wordsB_u64 h.u8) hf
theorem rmem_bv {bs : List Int} {v : Value} {w : World} (h : BV w v bs) : Calls Tryz.prog 15 #[v] w (MmQ w (memR (wordsB bs))) :=
 rmem37_any v _ w (fun _ hb => rwords37_any (h.keep hb)) (wordsB_u64 h.u8)
theorem bv_nil (w : World) : BV w (.slice none 0 0) [] := ⟨⟨rfl, Or.inl ⟨rfl, rfl⟩⟩, by simp, fun a n c h => by cases h; omega⟩
theorem bv_row {w : World} {v : Value} {bs : List Int} (R : w.ownsRow 0 5 1 v bs.length (ubytes bs)) (hu : ∀ x ∈ bs, U8 x) : BV w v bs := by
 refine ⟨Rd.of_row R, hu, fun a n c h => ?_⟩
 subst h
 rcases R.2 with ⟨h0, -⟩ | ⟨g', cap, cur, h0, h1, hg, hnc, -⟩
 ·cases h0; omega
 ·simp only [Value.slice.injEq] at h0
  omega
theorem row_one9 (w : World) (u : Value) (e : TypeId) : (w.alloc (.cells #[u] e)).ownsRow 0 e 1 (.slice (some ⟨w.heap.size, 0, none⟩) 1 1) 1 [u] :=
 ⟨by simp, Or.inr ⟨w.heap.size, 1, #[u], rfl, Nat.zero_le _, heap_alloc_new w _, Nat.le_refl _, by unfold maxLen; omega, by simp, by simp⟩⟩
theorem num37_eq (x : Int) (w : World) : Calls Tryz.prog 16 #[.int .i64 x] w fun e w' => e = .returned (.int .i64 x) ∧ w = w' := by
 go_enter Tryz.func16, Tryz.ntmps16
 go_wp2
 go_ret
 exact ⟨rfl, rfl⟩
theorem lit258 : strOfNums (bytesF [258]) = { data := #[2, 1, 0, 0, 0, 0, 0, 0] } := by decide +kernel
def zeroRt : Nat → Int := fun _ => 0
set_option maxHeartbeats 2000000 in
set_option maxRecDepth 100000 in
theorem live37_any (w : World) : Calls Tryz.prog 5 #[] w fun e w' => e = .returned (.bool true) ∧ Below w.heap.size w w' := by
 have S0 := BS.start w
 have HO := Lib.hid (open_bv (bv_nil w) (by simp))
 rw [show memR (wordsB []) = none by decide +kernel] at HO
 have HWN := Lib.hid wn_any
 have HRB := Lib.hid (fun v (W : World) (R : W.ownsRow 0 61 1 v WN.length (ulongs WN)) => rbytes_any v WN W (Rd.of_row R) wn_u64 (by rw [wn_len]; omega))
 have HST := Lib.hid (fun v (W : World) (R : W.ownsRow 0 5 1 v (bytesF WN).length (ubytes (bytesF WN))) => pstate_bv (bv_row R (bytesF_u8 WN)) (by rw [bytesF_len, wn_len]; omega) (fun ws t p s h => by rw [wn_memR] at h; cases h; omega))
 rw [wn_memR] at HST
 unfold StQ at HST
 dsimp only at HST
 rw [wn_blocks] at HST
 simp only [wn_roots] at HST
 have HPB := Lib.hid (fun v (W : World) (R : W.ownsRow 0 61 1 v [(258 : Int)].length (ulongs [258])) => pbytes_any v [258] W (Rd.of_row R) (by intro x hx; simp at hx; subst hx; exact ⟨by omega, by omega⟩) (by simp))
 have HN := Lib.hid num37_eq
 have HS := Lib.hid (fun va vb (W : World) ha hb => rsame_any (l1 := []) (l2 := []) (va := va) (vb := vb) (f := zeroRt) (g := zeroRt) (w := W) ha hb (by simp) (by simp))
 have HL := Lib.hid lit258
 unfold stV at HST HS
 go_enter Tryz.func5, Tryz.ntmps5
 go_wp2_with fail
 refine HO.out.mono ?_
 rintro e w1 ⟨rfl, b1⟩
 have S1 := S0.below b1
 clear HO S0 b1
 go_wp2_with fail
 refine (HWN.out _).mono ?_
 rintro e w2 ⟨v2, rfl, o2, -, b2⟩
 have S2 := S1.below b2
 clear HWN S1 b2
 go_wp2_with fail
 refine (HRB.out _ _ o2).mono ?_
 rintro e w3 ⟨v3, rfl, o3, -, -, b3⟩
 have S3 := S2.below b3
 clear HRB S2 b3 o2
 go_wp2_with fail
 refine (HST.out _ _ o3).mono ?_
 rintro e w4 ⟨v4, rfl, o4, n4, b4⟩
 obtain ⟨pa, pc, rfl⟩ := row_shape o4
 have S4 := (S3.below b4).alloc (.cells #[.slice pa 0 pc, .int .i64 0, .int .i64 0, .int .i64 0, .int .i64 0, .int .i64 0, .int .i64 0, .int .i64 0, .int .i64 0] 38)
 have o5 := o4.alloc (.cells #[.slice pa 0 pc, .int .i64 0, .int .i64 0, .int .i64 0, .int .i64 0, .int .i64 0, .int .i64 0, .int .i64 0, .int .i64 0] 38)
 have e5 := loc_alloc w4 #[.slice pa 0 pc, .int .i64 0, .int .i64 0, .int .i64 0, .int .i64 0, .int .i64 0, .int .i64 0, .int .i64 0, .int .i64 0] 38
 clear HST S3 b4 o3 o4 n4
 go_wp2_with fail
 have R1 := row_one9 (w4.alloc (.cells #[.slice pa 0 pc, .int .i64 0, .int .i64 0, .int .i64 0, .int .i64 0, .int .i64 0, .int .i64 0, .int .i64 0, .int .i64 0] 38)) (.int .u64 258) 61
 rw [World.size_alloc] at R1
 have S5 := S4.alloc (.cells #[.int .u64 258] 61)
 have o6 := o5.alloc (.cells #[.int .u64 258] 61)
 have e6 := loc_old (.cells #[.int .u64 258] 61) (S4.ls w4.heap.size (by simp)).1 e5
 refine (HPB.out _ _ R1).mono ?_
 rintro e w5 ⟨v5, rfl, o7, -, -, b5⟩
 have S6 := S5.below b5
 have o8 := ((BS.start _).below b5).row o6
 have e8 := ((BS.start _).below b5).oldbox e6 (by have := (S4.ls w4.heap.size (by simp)).1; simp; omega)
 have hcv := conv_rd (bv_row o7 (bytesF_u8 [258])).rd
 rw [HL.out] at hcv
 clear HPB S5 S4 o5 e5 o6 e6 R1 b5 o7 HL
 go_wp2_with fail
 refine (HN.out _ _).mono ?_
 rintro e w6 ⟨rfl, rfl⟩
 clear hcv
 go_wp2_with fail
 refine (HN.out _ _).mono ?_
 rintro e w6 ⟨rfl, rfl⟩
 go_wp2_with fail
 refine (HS.out _ _ _ o8 (World.ownsRow_nil _ _ _ _)).mono ?_
 rintro e w6 ⟨rfl, b6⟩
 have S7 := S6.below b6
 clear HS HN o8 e8 S6 b6
 go_wp2
 go_ret
 exact ⟨rfl, S7.bel⟩
end Go.Proofs.YtcbikgafdclhaaaGreat
/- open: two rows of the same words, that can be read. -/
set_option linter.unusedSimpArgs false
set_option linter.unusedVariables false
namespace Go.Proofs.YtcbikgafdclhaaaGreat
open Go.RowKit

def HwR (w : World) (n : Nat) (i : Value) (wr : World) : Prop := ∃ k : Nat, k ≤ n ∧ i = .int .i64 k ∧ Below w.heap.size w wr
set_option maxHeartbeats 1000000 in
theorem hwords_rd (l : List Int) (va vb : Value) (w : World) (ha : Rd w va 1 l.length (ulongs l)) (hb : Rd w vb 1 l.length (ulongs l)) (hn : l.length ≤ 1000000) :
 Calls Tryz.prog 10 #[va, vb] w fun e w' => e = .returned (.bool true) ∧ Below w.heap.size w w' := by
 obtain ⟨pa, ca, rfl⟩ := ha.len
 obtain ⟨pb, cb, rfl⟩ := hb.len
 have HA := Lib.hid (fun (W : World) (hbw : Below w.heap.size w W) (k : Nat) (hk : k < l.length) => rd_cell (ha.keepBy hbw (Nat.le_refl _)) hk)
 have HB := Lib.hid (fun (W : World) (hbw : Below w.heap.size w W) (k : Nat) (hk : k < l.length) => rd_cell (hb.keepBy hbw (Nat.le_refl _)) hk)
 clear ha hb
 have hlb : ((l.length : Int) != (l.length : Int)) = false := by simp
 go_enter Tryz.func10, Tryz.ntmps10
 go_wp2
 go_loopw [5] (fun i wr => HwR w l.length i wr) (fun i _ => l.length - (intOf i).toNat)
 case atStart => exact ⟨0, by omega, rfl, Below.refl _ _⟩
 case round =>
  obtain ⟨k, hk, rfl, hbw⟩ := hrel
  by_cases hlt : k < l.length
  ·obtain ⟨ad, c, hv, c0⟩ := HA.out _ hbw k hlt
   obtain ⟨ad2, c2, hv2, c1⟩ := HB.out _ hbw k hlt
   simp only [Value.slice.injEq] at hv hv2
   obtain ⟨rfl, -, rfl⟩ := hv
   obtain ⟨rfl, -, rfl⟩ := hv2
   have HB := Lib.hid hbw
   clear hbw
   generalize l.getD k 0 = y at *
   have hb : (y != y) = false := by simp
   go_wp2
   refine wp_region_noPanic ?_
   refine wp_region_held_drew (S := fun w' => w'.cell? (ad.add k) = some (.int .u64 y) ∧ w'.cell? (ad2.add k) = some (.int .u64 y)) (by kernel_rfl) ?_ (fun hHeld => ?_)
   ·exact ⟨c0, c1⟩
   refine wT 0 ?_
   refine wT 1 ?_
   refine wT 2 ?_
   refine wT 3 ?_
   refine wT 4 ?_
   refine wT 5 ?_
   refine wT 6 ?_
   refine wT 7 ?_
   refine wT 8 ?_
   refine wpAnyH_done (by kernel_rfl) (NoPanic.normal ?_) _
   go_wp2
   go_roundw
   case rel => exact ⟨k + 1, by omega, by go_num, HB.out.drew⟩
   case measure => simp [intOf]; omega
  ·go_wp2
   go_ret
   exact ⟨rfl, hbw⟩
end Go.Proofs.YtcbikgafdclhaaaGreat
/- world: its story. -/
set_option linter.unusedSimpArgs false
set_option linter.unusedVariables false
namespace Go.Proofs.YtcbikgafdclhaaaGreat
open Go.RowKit

def EvP (w : World) (e : Ending) (w' : World) : Prop := ∃ g c, e = .returned (.slice (some ⟨g, 0, none⟩) 1 c) ∧ w'.ownsRow 0 59 17 (.slice (some ⟨g, 0, none⟩) 1 c) 1 ev4 ∧ Below w.heap.size w w'
theorem cloneEv (g c : Nat) (w : World) (R : w.ownsRow 0 59 17 (.slice (some ⟨g, 0, none⟩) 1 c) 1 ev4) :
 Calls Tryz.prog 35 #[.slice (some ⟨g, 0, none⟩) 1 c] w (EvP w) := by
 have q22 : ∀ (w : World) (a : Option Addr) (n c n' c' : Nat), (binOp .eql 49 (.slice a n c) (.slice none n' c')).run Tryz.prog w = .ok (.bool a.isNone) w := fun w a n c n' c' => Lib.run_eql_slice_nil w _ _ a n c n' c' Tryz.underlying49
 obtain ⟨i0, hi, hz0, hz1, hz2⟩ := info_parts infoEv
 have hlt : g < w.heap.size := ownsRow_lt R rfl
 have HN := Lib.hid (show ∀ j u, ev4[j]? = some u → (w.alloc (.cells #[] 59)).cell? ((⟨g, 0, none⟩ : Addr).add j) = some u from fun j u hj => by
  rw [show (⟨g, 0, none⟩ : Addr).add j = ⟨g, j, none⟩ by by_cases h0 : j = 0 <;> simp [Addr.add, h0]]
  have hj17 : j < 17 := by
   have := (List.getElem?_eq_some_iff.1 hj).1
   simpa [ev4] using this
  exact (World.cell?_alloc_lt (a := ⟨g, j, none⟩) _ _ hlt).trans ((R.cellAt j (by omega)).trans hj))
 have HI := Lib.hid (And.intro hi (And.intro hz0 (And.intro hz1 hz2)))
 clear R hi hz0 hz1 hz2
 go_enter Tryz.func35, Tryz.ntmps35
 go_wp2_with (at_builtin; go_must (refine wpL_append rfl _ _ rfl 59 i0 _ 17 136 Tryz.underlying49 HI.out.1 HI.out.2.1 HI.out.2.2.1 HI.out.2.2.2 rfl (by decide) (.slice (some ⟨w.heap.size, 0, none⟩) 0 0) 0 [] rfl ?c0 ⟨g, 0, none⟩ 1 c ev4 rfl rfl HN.out ?c1 ?c2 ?c3 ?_); go_must (case c0 => (exact ⟨by simp, Or.inr ⟨w.heap.size, 0, #[], rfl, Nat.zero_le _, heap_alloc_new w _, Nat.le_refl _, by unfold maxLen; omega, by simp, by simp⟩⟩)); go_must (case c1 => exact ev4_one); go_must (case c2 => (unfold maxLen; omega)); go_must (case c3 => (omega)); go_must (intro v' w2 hown2 hg2 hnew2 hnil2); clear hnil2)
 obtain ⟨g2, c2, rfl⟩ := Joins.ownsRow_form hown2 (by omega)
 have hb : Below w.heap.size w w2 := ((Below.refl _ w).alloc (Nat.le_refl _) _).grown hg2 (by simp) (fun k hk => by simp [Value.ownBlock] at hk; omega)
 have HO := Lib.hid hown2
 clear hown2 hg2 hnew2
 go_wp2
 go_ret
 exact ⟨g2, c2, rfl, by simpa using HO.out, hb⟩
theorem wstory_of {w : World} {b : Nat} {ws : List Int} (h : WOx w b ws) : Calls Tryz.prog 18 #[.pointer (some ⟨b, 0, none⟩)] w (EvP w) := by
 have HI := Lib.hid (wis_any h)
 obtain ⟨t, p, s, mb, al, md, ep, g, c, mk, ig, st, mn, S, h1, h2, h3⟩ := h
 have q7 := cell?_of_heap (o := 7) h1
 simp [worldC] at q7
 have HC := Lib.hid (cloneEv g c w h3)
 clear h1 h2 h3
 go_enter Tryz.func18, Tryz.ntmps18
 go_wp2_with fail
 refine HI.out.mono ?_
 rintro e w1 ⟨rfl, rfl⟩
 go_wp2_with fail
 refine HC.out.mono ?_
 rintro e w2 ⟨g2, c2, rfl, o2, b2⟩
 go_wp2
 go_ret
 exact ⟨g2, c2, rfl, o2, b2⟩
end Go.Proofs.YtcbikgafdclhaaaGreat
/- the walk of OpenChecks: bytes that are no heap's memory. -/
set_option linter.unusedSimpArgs false
set_option linter.unusedVariables false
namespace Go.Proofs.YtcbikgafdclhaaaGreat
open Go.RowKit

set_option maxHeartbeats 8000000 in
set_option maxRecDepth 100000 in
theorem openchecks_none (vb : Value) (bs : List Int) (w : World) (hB : BV w vb bs) (hfew : fewB bs = true) (hm : memR (wordsB bs) = none) :
 Calls Tryz.prog 4 #[vb] w fun e W' => e = .returned (.bool true) ∧ Below w.heap.size w W' := by
 have HLv := Lib.hid live37_any
 have hRb := hB.rd
 obtain ⟨ab, cb, rfl⟩ := hRb.len
 obtain ⟨hl, hf⟩ := fewB_le hfew
 have hf2 : ∀ ws t p s, memR (wordsB bs) = some (ws, t, p, s) → p ≤ 1024 := fun ws t p s h => by have := hf ws t p s h; omega
 have HF := Lib.hid (few37_any hB)
 rw [hfew] at HF
 have HCb := Lib.hid (fun (W : World) (hb : Below w.heap.size w W) => conv_rd (hB.keep hb).rd)
 have HO := Lib.hid (fun (W : World) (hb : Below w.heap.size w W) => open_bv (hB.keep hb) (by omega))
 have HSt := Lib.hid (fun (W : World) (hb : Below w.heap.size w W) => pstate_bv (hB.keep hb) (by omega) hf2)
 have HRt := Lib.hid (fun (W : World) (hb : Below w.heap.size w W) => rstate_bv (hB.keep hb) hf2)
 have HM := Lib.hid (fun (W : World) (hb : Below w.heap.size w W) => rmem_bv (hB.keep hb))
 rw [hm] at HO HSt HRt HM
 have HN := Lib.hid num37_eq
 have S0 := BS.start w
 unfold StQ at HSt HRt
 unfold OpQ at HO
 unfold MmQ at HM
 dsimp only at HSt HRt HO HM
 have HS := Lib.hid (fun va vb (W : World) ha hb => rsame_any (l1 := []) (l2 := []) (va := va) (vb := vb) (f := zeroRt) (g := zeroRt) (w := W) ha hb (by simp) (by simp))
 unfold stV at HS
 unfold zeroSt at HSt HRt
 clear hm hfew hf hf2 hRb hB hl
 generalize hsb : strOfNums bs = sb at *
 clear hsb
 go_enter Tryz.func4, Tryz.ntmps4
 go_wp2_with fail
 refine HF.out.mono ?_
 rintro e w1 ⟨rfl, b1⟩
 have S1 := S0.below b1
 have hcv := HCb.out w1 S1.bel
 clear HF S0 b1
 go_wp2_with fail
 refine (HO.out _ S1.bel).mono ?_
 rintro e w2 ⟨rfl, b2⟩
 have S2 := S1.below b2
 clear hcv HO S1 b2
 go_wp2_with fail
 refine (HSt.out _ S2.bel).mono ?_
 rintro e w3 ⟨rfl, b3⟩
 have S3 := (S2.below b3).alloc (.cells #[.slice none 0 0, .int .i64 0, .int .i64 0, .int .i64 0, .int .i64 0, .int .i64 0, .int .i64 0, .int .i64 0, .int .i64 0] 38)
 have e3 := loc_alloc w3 #[.slice none 0 0, .int .i64 0, .int .i64 0, .int .i64 0, .int .i64 0, .int .i64 0, .int .i64 0, .int .i64 0, .int .i64 0] 38
 clear HSt S2 b3 
 go_wp2_with fail
 refine (HRt.out _ S3.bel).mono ?_
 rintro e w4 ⟨rfl, b4⟩
 have S4 := (S3.below b4).alloc (.cells #[.slice none 0 0, .int .i64 0, .int .i64 0, .int .i64 0, .int .i64 0, .int .i64 0, .int .i64 0, .int .i64 0, .int .i64 0] 38)
 have e4 := loc_alloc w4 #[.slice none 0 0, .int .i64 0, .int .i64 0, .int .i64 0, .int .i64 0, .int .i64 0, .int .i64 0, .int .i64 0, .int .i64 0] 38
 have e3b := loc_old (.cells #[.slice none 0 0, .int .i64 0, .int .i64 0, .int .i64 0, .int .i64 0, .int .i64 0, .int .i64 0, .int .i64 0, .int .i64 0] 38) ((S3.below b4).ls w3.heap.size (by simp)).1 (((BS.start _).below b4).oldbox e3 (S3.ls w3.heap.size (by simp)).1)
 clear HRt S3 b4 e3 
 go_wp2_with fail
 refine (HM.out _ S4.bel).mono ?_
 rintro e w5 ⟨rfl, b5⟩
 have S5 := (S4.below b5).alloc (.cells #[.int .i64 0, .int .i64 0, .int .i64 0] 44)
 have e4b := loc_old (.cells #[.int .i64 0, .int .i64 0, .int .i64 0] 44) ((S4.below b5).ls w4.heap.size (by simp)).1 (((BS.start _).below b5).oldbox e4 (S4.ls w4.heap.size (by simp)).1)
 have e3c := loc_old (.cells #[.int .i64 0, .int .i64 0, .int .i64 0] 44) ((S4.below b5).ls w3.heap.size (by simp)).1 (((BS.start _).below b5).oldbox e3b (S4.ls w3.heap.size (by simp)).1)
 clear HM S4 b5 e4 e3b 
 go_wp2_with fail
 refine (HN.out _ _).mono ?_
 rintro e w6 ⟨rfl, rfl⟩
 go_wp2_with fail
 refine (HN.out _ _).mono ?_
 rintro e w6 ⟨rfl, rfl⟩
 go_wp2_with fail
 refine (HS.out _ _ _ (World.ownsRow_nil _ _ _ _) (World.ownsRow_nil _ _ _ _)).mono ?_
 rintro e w6 ⟨rfl, b6⟩
 have S6 := S5.below b6
 have hcv6 := HCb.out w6 S6.bel
 clear HN HS HCb S5 b6 e4b e3c
 go_wp2_with fail
 refine (HLv.out _).mono ?_
 rintro e w7 ⟨rfl, b7⟩
 have S7 := S6.below b7
 go_wp2
 go_ret
 exact ⟨rfl, S7.bel⟩
end Go.Proofs.YtcbikgafdclhaaaGreat
/- the walk of OpenChecks: a heap's memory. -/
set_option linter.unusedSimpArgs false
set_option linter.unusedVariables false
namespace Go.Proofs.YtcbikgafdclhaaaGreat
open Go.RowKit

theorem eq8_self9 (f : Nat → Int) : eq8 f f = true := by simp [eq8]
theorem evcells {w : World} {g c : Nat} (R : w.ownsRow 0 59 17 (.slice (some ⟨g, 0, none⟩) 1 c) 1 ev4) : w.cell? ⟨g, 0, none⟩ = some (.int .i64 4) ∧ w.cell? ⟨g, 1, none⟩ = some (.int .i64 0) ∧ w.cell? ⟨g, 2, none⟩ = some (.int .i64 0) ∧ w.cell? ⟨g, 3, none⟩ = some (.int .i64 0) ∧ w.cell? ⟨g, 4, none⟩ = some (.int .i64 0) ∧ w.cell? ⟨g, 5, none⟩ = some (.int .i64 0) ∧ w.cell? ⟨g, 6, none⟩ = some (.int .i64 0) ∧ w.cell? ⟨g, 7, none⟩ = some (.int .i64 0) ∧ w.cell? ⟨g, 8, none⟩ = some (.int .i64 0) ∧ w.cell? ⟨g, 9, none⟩ = some (.int .i64 0) ∧ w.cell? ⟨g, 10, none⟩ = some (.int .i64 0) ∧ w.cell? ⟨g, 11, none⟩ = some (.int .i64 0) ∧ w.cell? ⟨g, 12, none⟩ = some (.int .i64 0) ∧ w.cell? ⟨g, 13, none⟩ = some (.int .i64 0) ∧ w.cell? ⟨g, 14, none⟩ = some (.int .i64 0) ∧ w.cell? ⟨g, 15, none⟩ = some (.int .i64 0) ∧ w.cell? ⟨g, 16, none⟩ = some (.int .i64 0) :=
 ⟨(R.cellAt 0 (by decide)).trans rfl, (R.cellAt 1 (by decide)).trans rfl, (R.cellAt 2 (by decide)).trans rfl, (R.cellAt 3 (by decide)).trans rfl, (R.cellAt 4 (by decide)).trans rfl, (R.cellAt 5 (by decide)).trans rfl, (R.cellAt 6 (by decide)).trans rfl, (R.cellAt 7 (by decide)).trans rfl, (R.cellAt 8 (by decide)).trans rfl, (R.cellAt 9 (by decide)).trans rfl, (R.cellAt 10 (by decide)).trans rfl, (R.cellAt 11 (by decide)).trans rfl, (R.cellAt 12 (by decide)).trans rfl, (R.cellAt 13 (by decide)).trans rfl, (R.cellAt 14 (by decide)).trans rfl, (R.cellAt 15 (by decide)).trans rfl, (R.cellAt 16 (by decide)).trans rfl⟩
set_option maxHeartbeats 8000000 in
set_option maxRecDepth 100000 in
theorem openchecks_some (vb : Value) (bs : List Int) (w : World) (hB : BV w vb bs) (hfew : fewB bs = true) (ws : List Int) (t p s : Int) (hm : memR (wordsB bs) = some (ws, t, p, s)) (HBL : (blocksF (vsOf t p s ws) t p s).length ≤ 4294967296) :
 Calls Tryz.prog 4 #[vb] w fun e W' => e = .returned (.bool true) ∧ Below w.heap.size w W' := by
 have HLv := Lib.hid live37_any
 have hRb := hB.rd
 obtain ⟨ab, cb, rfl⟩ := hRb.len
 obtain ⟨hl, hf⟩ := fewB_le hfew
 have hf2 : ∀ ws t p s, memR (wordsB bs) = some (ws, t, p, s) → p ≤ 1024 := fun ws t p s h => by have := hf ws t p s h; omega
 have HF := Lib.hid (few37_any hB)
 rw [hfew] at HF
 have HCb := Lib.hid (fun (W : World) (hb : Below w.heap.size w W) => conv_rd (hB.keep hb).rd)
 have HO := Lib.hid (fun (W : World) (hb : Below w.heap.size w W) => open_bv (hB.keep hb) (by omega))
 have HSt := Lib.hid (fun (W : World) (hb : Below w.heap.size w W) => pstate_bv (hB.keep hb) (by omega) hf2)
 have HRt := Lib.hid (fun (W : World) (hb : Below w.heap.size w W) => rstate_bv (hB.keep hb) hf2)
 have HM := Lib.hid (fun (W : World) (hb : Below w.heap.size w W) => rmem_bv (hB.keep hb))
 rw [hm] at HO HSt HRt HM
 have HN := Lib.hid num37_eq
 have S0 := BS.start w
 unfold StQ at HSt HRt
 unfold OpQ at HO
 unfold MmQ at HM
 dsimp only at HSt HRt HO HM
 have hw := (memR_some hm).1
 have hwl := wordsB_len hw
 have HWl := Lib.hid (show ws.length ≤ 1000000 by omega)
 have HWu := Lib.hid (wordsB_u64 hB.u8 ws hw)
 have hbl : (blocksF (vsOf t p s ws) t p s).length ≤ 4294967296 := HBL
 generalize blocksF (vsOf t p s ws) t p s = l at *
 generalize rootsV (vsOf t p s ws) = f at *
 have HS := Lib.hid (fun va vb (W : World) ha hb => rsame_any (l1 := l) (l2 := l) (va := va) (vb := vb) (f := f) (g := f) (w := W) ha hb hbl hbl)
 simp only [decide_true, Bool.true_and, eq8_self9] at HS
 unfold stV at HSt HRt HS
 generalize f 0 = f0, f 1 = f1, f 2 = f2, f 3 = f3, f 4 = f4, f 5 = f5, f 6 = f6, f 7 = f7 at *
 clear f hw hwl hbl hm hfew hf hf2 hRb hB hl
 generalize hsb : strOfNums bs = sb at *
 clear hsb
 go_enter Tryz.func4, Tryz.ntmps4
 go_wp2_with fail
 refine HF.out.mono ?_
 rintro e w1 ⟨rfl, b1⟩
 have S1 := S0.below b1
 have hcv := HCb.out w1 S1.bel
 clear HF S0 b1
 go_wp2_with fail
 refine (HO.out _ S1.bel).mono ?_
 rintro e w2 ⟨b, rfl, hX, b2⟩
 have S2 := S1.below b2
 clear hcv HO S1 b2
 go_wp2_with fail
 refine (HSt.out _ S2.bel).mono ?_
 rintro e w3 ⟨v3, rfl, o3, -, b3⟩
 obtain ⟨p3, c3, rfl⟩ := row_shape o3
 have S3 := (S2.below b3).alloc (.cells #[.slice p3 l.length c3, .int .i64 f0, .int .i64 f1, .int .i64 f2, .int .i64 f3, .int .i64 f4, .int .i64 f5, .int .i64 f6, .int .i64 f7] 38)
 have e3 := loc_alloc w3 #[.slice p3 l.length c3, .int .i64 f0, .int .i64 f1, .int .i64 f2, .int .i64 f3, .int .i64 f4, .int .i64 f5, .int .i64 f6, .int .i64 f7] 38
 have o3a := o3.alloc (.cells #[.slice p3 l.length c3, .int .i64 f0, .int .i64 f1, .int .i64 f2, .int .i64 f3, .int .i64 f4, .int .i64 f5, .int .i64 f6, .int .i64 f7] 38)
 have hX3 := (hX.keep b3).keep ((Below.refl w3.heap.size w3).alloc (Nat.le_refl _) (.cells #[.slice p3 l.length c3, .int .i64 f0, .int .i64 f1, .int .i64 f2, .int .i64 f3, .int .i64 f4, .int .i64 f5, .int .i64 f6, .int .i64 f7] 38))
 clear HSt S2 b3 o3 hX
 go_wp2_with fail
 refine (HRt.out _ S3.bel).mono ?_
 rintro e w4 ⟨v4, rfl, o4, -, b4⟩
 obtain ⟨p4, c4, rfl⟩ := row_shape o4
 have S4 := (S3.below b4).alloc (.cells #[.slice p4 l.length c4, .int .i64 f0, .int .i64 f1, .int .i64 f2, .int .i64 f3, .int .i64 f4, .int .i64 f5, .int .i64 f6, .int .i64 f7] 38)
 have e4 := loc_alloc w4 #[.slice p4 l.length c4, .int .i64 f0, .int .i64 f1, .int .i64 f2, .int .i64 f3, .int .i64 f4, .int .i64 f5, .int .i64 f6, .int .i64 f7] 38
 have e3b := loc_old (.cells #[.slice p4 l.length c4, .int .i64 f0, .int .i64 f1, .int .i64 f2, .int .i64 f3, .int .i64 f4, .int .i64 f5, .int .i64 f6, .int .i64 f7] 38) ((S3.below b4).ls w3.heap.size (by simp)).1 (((BS.start _).below b4).oldbox e3 (S3.ls w3.heap.size (by simp)).1)
 have o4a := o4.alloc (.cells #[.slice p4 l.length c4, .int .i64 f0, .int .i64 f1, .int .i64 f2, .int .i64 f3, .int .i64 f4, .int .i64 f5, .int .i64 f6, .int .i64 f7] 38)
 have o3b := (((BS.start _).below b4).row o3a).alloc (.cells #[.slice p4 l.length c4, .int .i64 f0, .int .i64 f1, .int .i64 f2, .int .i64 f3, .int .i64 f4, .int .i64 f5, .int .i64 f6, .int .i64 f7] 38)
 have hX4 := (hX3.keep b4).keep ((Below.refl w4.heap.size w4).alloc (Nat.le_refl _) (.cells #[.slice p4 l.length c4, .int .i64 f0, .int .i64 f1, .int .i64 f2, .int .i64 f3, .int .i64 f4, .int .i64 f5, .int .i64 f6, .int .i64 f7] 38))
 clear HRt S3 b4 e3 o4 o3a hX3
 go_wp2_with fail
 refine (HM.out _ S4.bel).mono ?_
 rintro e w5 ⟨v5, rfl, o5, b5⟩
 have S5 := (S4.below b5).alloc (.cells #[.int .i64 t, .int .i64 p, .int .i64 s] 44)
 have e4b := loc_old (.cells #[.int .i64 t, .int .i64 p, .int .i64 s] 44) ((S4.below b5).ls w4.heap.size (by simp)).1 (((BS.start _).below b5).oldbox e4 (S4.ls w4.heap.size (by simp)).1)
 have e3c := loc_old (.cells #[.int .i64 t, .int .i64 p, .int .i64 s] 44) ((S4.below b5).ls w3.heap.size (by simp)).1 (((BS.start _).below b5).oldbox e3b (S4.ls w3.heap.size (by simp)).1)
 have o4b := (((BS.start _).below b5).row o4a).alloc (.cells #[.int .i64 t, .int .i64 p, .int .i64 s] 44)
 have o3c := (((BS.start _).below b5).row o3b).alloc (.cells #[.int .i64 t, .int .i64 p, .int .i64 s] 44)
 have o5a := o5.alloc (.cells #[.int .i64 t, .int .i64 p, .int .i64 s] 44)
 have hX5 := (hX4.keep b5).keep ((Below.refl w5.heap.size w5).alloc (Nat.le_refl _) (.cells #[.int .i64 t, .int .i64 p, .int .i64 s] 44))
 clear HM S4 b5 e4 e3b o4a o3b o5 hX4
 go_wp2_with fail
 refine (HN.out _ _).mono ?_
 rintro e w6 ⟨rfl, rfl⟩
 go_wp2_with fail
 refine (HN.out _ _).mono ?_
 rintro e w6 ⟨rfl, rfl⟩
 go_wp2_with fail
 refine (HS.out _ _ _ o3c o4b).mono ?_
 rintro e w6 ⟨rfl, b6⟩
 have S6 := S5.below b6
 have hcv6 := HCb.out w6 S6.bel
 have hX6 := hX5.keep b6
 have o5b := ((BS.start _).below b6).row o5a
 clear HN HS HCb S5 b6 e4b e3c o3c o4b o5a hX5
 go_wp2_with fail
 refine (wstory_of hX6).mono ?_
 rintro e w7 ⟨g, c7, rfl, oE, b7⟩
 have S7 := S6.below b7
 have hX7 := hX6.keep b7
 have o5c := ((BS.start _).below b7).row o5b
 clear hcv6 S6 hX6 b7 o5b
 go_wp2_with fail
 refine (wwords_of hX7).mono ?_
 rintro e w8 ⟨v8, rfl, o8, -, b8⟩
 have S8 := S7.below b8
 have hX8 := hX7.keep b8
 have o5d := ((BS.start _).below b8).row o5c
 have oE8 := ((BS.start _).below b8).row oE
 clear S7 hX7 b8 o5c oE
 go_wp2_with fail
 refine (hwords_rd ws _ _ _ (Rd.of_row o8) (Rd.of_row o5d) HWl.out).mono ?_
 rintro e w9 ⟨rfl, b9⟩
 have S9 := S8.below b9
 have hX9 := hX8.keep b9
 have o5e := ((BS.start _).below b9).row o5d
 have oE9 := ((BS.start _).below b9).row oE8
 clear S8 hX8 b9 o5d oE8 o8
 go_wp2_with fail
 refine (wkept_of hX9).mono ?_
 rintro e w10 ⟨v10, rfl, o10, -, b10⟩
 have S10 := S9.below b10
 have hX10 := hX9.keep b10
 have o5f := ((BS.start _).below b10).row o5e
 have oE10 := ((BS.start _).below b10).row oE9
 clear S9 hX9 b10 o5e oE9
 go_wp2_with fail
 refine (hwords_rd ws _ _ _ (Rd.of_row o10) (Rd.of_row o5f) HWl.out).mono ?_
 rintro e w11 ⟨rfl, b11⟩
 have S11 := S10.below b11
 have hX11 := hX10.keep b11
 have oE11 := ((BS.start _).below b11).row oE10
 clear S10 hX10 b11 o5f oE10 o10
 go_wp2_with fail
 refine (wup_any hX11).mono ?_
 rintro e w12 ⟨rfl, rfl⟩
 obtain ⟨k0, k1, k2, k3, k4, k5, k6, k7, k8, k9, k10, k11, k12, k13, k14, k15, k16⟩ := evcells oE11
 clear oE11
 go_wp2_with fail
 refine (HLv.out _).mono ?_
 rintro e w13 ⟨rfl, b13⟩
 have S13 := S11.below b13
 go_wp2
 go_ret
 exact ⟨rfl, S13.bel⟩
end Go.Proofs.YtcbikgafdclhaaaGreat
/- the walk of OpenChecks. -/
set_option linter.unusedSimpArgs false
set_option linter.unusedVariables false
namespace Go.Proofs.YtcbikgafdclhaaaGreat
open Go.RowKit

theorem blocks_len9 (vs : List Int) (t p s : Int) (hp : p ≤ 64) : (blocksF vs t p s).length ≤ 4294967296 := by
 have h1 := partsL_len vs t s p.toNat
 have h3 := liveL_len (partsF vs t p s)
 have h4 : (partsF vs t p s).length = (partsL vs t s p.toNat).length := rfl
 unfold blocksF
 omega
set_option maxRecDepth 100000 in
theorem openchecks_main (vb : Value) (bs : List Int) (w : World) (hB : BV w vb bs) :
 Calls Tryz.prog 4 #[vb] w fun e W' => e = .returned (.bool true) ∧ Below w.heap.size w W' := by
 cases hfew : fewB bs
 ·have HLv := Lib.hid live37_any
  have HF := Lib.hid (few37_any hB)
  rw [hfew] at HF
  have S0 := BS.start w
  clear hfew hB
  go_enter Tryz.func4, Tryz.ntmps4
  go_wp2_with fail
  refine HF.out.mono ?_
  rintro e w1 ⟨rfl, b1⟩
  have S1 := S0.below b1
  go_wp2_with fail
  refine (HLv.out _).mono ?_
  rintro e w2 ⟨rfl, b2⟩
  have S2 := S1.below b2
  go_wp2
  go_ret
  exact ⟨rfl, S2.bel⟩
 ·cases hm : memR (wordsB bs) with
  | none => exact openchecks_none vb bs w hB hfew hm
  | some x =>
   obtain ⟨ws, t, p, s⟩ := x
   exact openchecks_some vb bs w hB hfew ws t p s hm (blocks_len9 _ t p s ((fewB_le hfew).2 ws t p s hm))
end Go.Proofs.YtcbikgafdclhaaaGreat
/- open: words and bytes among the arguments. -/
set_option linter.unusedSimpArgs false
set_option linter.unusedVariables false
namespace Go.Proofs.YtcbikgafdclhaaaGreat
open Go.ChangeShapes Go.RowKit

section
variable {H : Type} {enc : TypeId × Value → H} {w : World} {base : Nat} {spare : Nat → Bool} {held : Bool}
theorem rd37_u8 {fuel : Nat} {cs : List Value} {x : DataW H × List MemPlace} (h : DataW.trod enc Tryz.prog w base spare held fuel 23 cs = some x) :
 ∃ v bs, cs = [v] ∧ BV w v bs := by
 rcases open_ints Tryz.underlying23 Tryz.underlying5 (by kernel_rfl) h with ⟨rfl, -⟩ | ⟨a, len, cap, zs, rfl, -, hl, -, hz, -, hc, hw⟩
 ·exact ⟨_, [], rfl, ⟨rfl, Or.inl ⟨rfl, rfl⟩⟩, by simp, fun a n c h => by cases h; omega⟩
 ·have hle : len ≤ zs.length := by rw [hz]; split <;> omega
  have e : (zs.take len).length = len := by simp; omega
  refine ⟨_, zs.take len, rfl, ⟨by simp [ubytes], Or.inr ⟨a, cap, by rw [e], ?_⟩⟩, ?_, fun a n c h => by cases h; exact hl⟩
  ·intro j u hj
   have hjl : j < len := by
    have := (List.getElem?_eq_some_iff.1 hj).1
    simp [ubytes] at this; omega
   rw [hc j (by omega), ← hj]
   simp [ubytes, hjl, show j < zs.length by omega]
  ·intro u hu
   have := hw u (List.mem_of_mem_take hu)
   simp [Lit.wf] at this
   have e1 : IntKind.u8.min = 0 := by decide
   have e2 : IntKind.u8.max = 255 := by decide
   exact ⟨by omega, by omega⟩
end
end Go.Proofs.YtcbikgafdclhaaaGreat
