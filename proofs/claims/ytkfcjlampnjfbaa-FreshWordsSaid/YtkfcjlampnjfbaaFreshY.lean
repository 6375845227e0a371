/- fresh: the document's Words. -/
import Derived.Test.YtkfcjlampnjfbaaFreshX
namespace Go.Proofs.Ytkfcjlampnjfbaa
open Go.RowKit

def RwRelA (w : World) (t p s : Int) (N : Nat) (hd : List Int) (g1 gh ch : Nat) (i : Value) (wr : World) : Prop :=
  ∃ k : Nat, k ≤ 8 ∧ i = .int .i64 k ∧ wr.ownsRow 0 100 1 (.slice (some ⟨g1, 0, none⟩) N N) N (ulongs (fillA (List.replicate N 0) hd 0 k)) ∧ wr.ownsRow 0 100 1 (.slice (some ⟨gh, 0, none⟩) 8 ch) 8 (ulongs hd) ∧
    (∀ o : Nat, wr.cell? ⟨w.heap.size, o, none⟩ = (#[.int .i64 t, .int .i64 p, .int .i64 s] : Array Value)[o]?) ∧ BS w [gh, g1, w.heap.size] wr
set_option maxHeartbeats 1000000 in
set_option maxRecDepth 100000 in
theorem rwords25_right (t p s x : Nat) (N C : Nat) (l : List Int) (w : World) (hr : rightB t p s = true) (hx : t + p * 65536 + s * 4294967296 = x) (hn : wordsN t p = (N : Int)) (hc : cellsN t p = (C : Int)) (hl : l.length = C) (hu : ∀ x ∈ l, 0 ≤ x ∧ x < 4294967296)
    (hV : ∀ w, Calls Try.prog 39 #[.agg #[.int .i64 t, .int .i64 p, .int .i64 s]] w (ValsP w l)) :
    Calls Try.prog 43 #[.agg #[.int .i64 t, .int .i64 p, .int .i64 s]] w (WordsP w (wordsL N (headL x N) l)) := by
  obtain ⟨b1, b2, b3, b4, b5, b6⟩ := right_bd hr
  have HW := Lib.hid (fun w => rwords_right t p s w hr)
  rw [hn] at HW
  have HE := Lib.hid (fun w => rencode_right t p s x N w hr hx hn)
  have HV := Lib.hid hV
  have HT := Lib.hid rjoin10
  have HU := Lib.hid hu
  have hNC : C + 16 ≤ N ∧ N ≤ 100000 := by unfold wordsN makersN at hn; unfold cellsN at hn hc; omega
  have hC : 0 < C := by unfold cellsN at hc; omega
  have hhl : (headL x N).length = 8 := rfl
  have hWL : wordsL N (headL x N) l = fillA ((fillA (List.replicate N 0) (headL x N) 0 8).set 8 4294967296) l 16 C := by rw [← hl]; rfl
  rw [hWL]
  generalize hHd : headL x (N : Int) = hd at *
  have hmk : ∀ w : World, (Instr.makeSlice 58 (.int .i64 (N : Int)) (.int .i64 (N : Int))).run Try.prog w = .ok (.slice (some ⟨w.heap.size, 0, none⟩) N N) (w.alloc (.cells (madeCells #[.int .u64 0] N) 100)) := run_make_row' (P := Try.prog) 58 100 (.int .u64 0) 8 Try.underlying58 infoU64 rfl .i64 .i64 N (by omega) (by omega)
  have hnb : ((N : Int) == 0) = false := by simp; omega
  have c0 := loc_alloc w #[.int .i64 t, .int .i64 p, .int .i64 s] 23
  have S0 := ((BS.start w).alloc (.cells #[.int .i64 t, .int .i64 p, .int .i64 s] 23))
  clear hV hr hx hn hc hu hWL hHd
  go_enter Try.func43, Try.ntmps43
  go_wp2_with fail
  refine (calls_b S0 (HW.out _)).mono ?_
  rintro e w1 ⟨rfl, S1, S1l⟩
  have c1 := loc_step S1l (by simp) c0
  clear S1l
  have l1' := (S1.ls w.heap.size (by simp)).1
  have g1 : (w1.alloc (.cells (madeCells #[.int .u64 0] N) 100)).heap[w1.heap.size]? = some (.cells (ulongs (List.replicate N 0)).toArray 100) := by rw [made_rep64]; exact heap_alloc_new w1 _
  have Rm := row_at g1 (show (List.replicate N (0 : Int)).length = N by simp) (by omega)
  have S1a := S1.alloc (.cells (madeCells #[.int .u64 0] N) 100)
  have c1a := loc_old (.cells (madeCells #[.int .u64 0] N) 100) (S1.ls w.heap.size (by simp)).1 c1
  go_wp2_with fail
  refine (HE.out _).mono ?_
  rintro e w2 ⟨v, rfl, R, hf, b2⟩
  rw [hhl] at R
  obtain ⟨gh, ch, rfl⟩ := Joins.ownsRow_form R (by omega)
  have S2 := S1a.below b2
  have c2 := ((BS.start _).below b2).oldbox c1a (S1a.ls w.heap.size (by simp)).1
  have R2 := ((BS.start _).below b2).row Rm
  have hgh : w1.heap.size < gh := by have := hf gh rfl; simp at this; omega
  have S2b : BS w [gh, w1.heap.size, w.heap.size] w2 := ⟨S2.bel, fun L hL => by
    simp at hL
    rcases hL with rfl | rfl | rfl
    · exact ⟨ownsRow_lt R rfl, by omega⟩
    · exact S2.ls _ (by simp)
    · exact S2.ls _ (by simp)⟩
  have HR : RwRelA w t p s N hd w1.heap.size gh ch (.int .i64 0) w2 := ⟨0, by omega, rfl, R2, R, c2, S2b⟩
  have hne : w1.heap.size ≠ w.heap.size := by omega
  have hgw : gh ≠ w1.heap.size := by omega
  have hgw2 : gh ≠ w.heap.size := by omega
  have hg1w : w.heap.size ≤ w1.heap.size := by omega
  clear R2 R c2 S2b S2 b2 hf S1a c1a Rm g1 S1 c1 S0 c0 HW HE hmk l1' hgh
  generalize w1.heap.size = g1 at *
  go_wp2
  go_loopw [5] (fun i wr => RwRelA w t p s N hd g1 gh ch i wr) (fun i _ => 8 - (intOf i).toNat)
  case atStart => exact HR
  case round =>
    clear HR
    obtain ⟨k, hk, rfl, R8, RH8, c8, S8⟩ := hrel
    by_cases hlt : k < 8
    · have q0 := RH8.cellAt k (by omega)
      have hyk : (ulongs hd)[k]? = some (.int .u64 (hd.getD k 0)) := by simp [ulongs, hhl, hlt]
      rw [hyk] at q0
      obtain ⟨z1, q1⟩ := lcell R8 (i := k) (by omega)
      have f1 := R8.frozenAt k
      have hfk : fillA (List.replicate N 0) hd 0 (k + 1) = (fillA (List.replicate N 0) hd 0 k).set k (hd.getD k 0) := by simp [fillA]
      have HFk := Lib.hid hfk
      clear hyk hfk
      generalize hd.getD k 0 = y at *
      have R11 := (R8.stored k (.int .u64 y)).1
      rw [uset] at R11
      have S11 := S8.setCell (L := g1) (by simp) k (.int .u64 y)
      have RH11 := ownsRow_block (w' := wr.setCell ⟨g1, k, none⟩ (.int .u64 y)) RH8 (fun b hb => by simp [Value.ownBlock] at hb; subst hb; exact heap_setCell_other (L := g1) (by omega))
      have c11 : ∀ o : Nat, (wr.setCell ⟨g1, k, none⟩ (.int .u64 y)).cell? ⟨w.heap.size, o, none⟩ = (#[.int .i64 t, .int .i64 p, .int .i64 s] : Array Value)[o]? := fun o => (World.cell?_of_block (a := ⟨w.heap.size, o, none⟩) (heap_setCell_other (L := g1) (M := w.heap.size) (by omega))).trans (c8 o)
      have HRR := Lib.hid (And.intro R11 (And.intro RH11 (And.intro c11 S11)))
      have hkN : (k : Int) < N := by omega
      clear R11 RH11 c11 S11 R8 RH8 S8 c8
      go_wp2
      go_roundw
      case rel => exact ⟨k + 1, by omega, by go_num, by rw [HFk.out]; exact HRR.out.1, HRR.out.2.1, HRR.out.2.2.1, HRR.out.2.2.2⟩
      case measure => simp [intOf]; omega
    · have h32 : k = 8 := by omega
      rw [h32] at R8
      have HK := Lib.hid h32
      generalize hL1 : fillA (List.replicate N 0) hd 0 8 = l1 at *
      have hl1 : l1.length = N := by rw [← hL1, fillA_len]; simp
      clear hL1 RH8 h32
      go_wp2_with fail
      refine (HT.out _).mono ?_
      rintro e w3 ⟨rfl, b3⟩
      have S3 := S8.below b3
      have R3 := ((BS.start _).below b3).row R8
      have c3 := ((BS.start _).below b3).oldbox c8 (S8.ls w.heap.size (by simp)).1
      obtain ⟨z3, q3⟩ := lcell R3 (i := 8) (by omega)
      have f3 := R3.frozenAt 8
      have S4 := S3.setCell (L := g1) (by simp) 8 (.int .u64 4294967296)
      have R4 := (R3.stored 8 (.int .u64 4294967296)).1
      rw [uset] at R4
      have c4 : ∀ o : Nat, (w3.setCell ⟨g1, 8, none⟩ (.int .u64 4294967296)).cell? ⟨w.heap.size, o, none⟩ = (#[.int .i64 t, .int .i64 p, .int .i64 s] : Array Value)[o]? := fun o => (World.cell?_of_block (a := ⟨w.heap.size, o, none⟩) (heap_setCell_other (L := g1) (M := w.heap.size) (by omega))).trans (c3 o)
      clear S8 R8 c8 b3
      go_wp2_with fail
      clear q3 f3 S3 R3 c3
      refine (HV.out _).mono ?_
      rintro e w6 ⟨v, rfl, RV, hfv, b6⟩
      rw [hl] at RV
      obtain ⟨gv, cv, rfl⟩ := Joins.ownsRow_form RV (by omega)
      have S6 := S4.below b6
      have R6 := ((BS.start _).below b6).row R4
      have c6 := ((BS.start _).below b6).oldbox c4 (S4.ls w.heap.size (by simp)).1
      have hgv : g1 < gv := by have := hfv gv rfl; have := (S4.ls g1 (by simp)).1; omega
      have S7 : BS w [gv, g1, w.heap.size] w6 := ⟨S6.bel, fun L hL => by
        simp at hL
        rcases hL with rfl | rfl | rfl
        · exact ⟨ownsRow_lt RV rfl, by have := S4.bel.size; have := hfv _ rfl; omega⟩
        · exact S6.ls _ (by simp)
        · exact S6.ls _ (by simp)⟩
      have HR : FwRel w t p s N C l (l1.set 8 4294967296) g1 gv cv (.int .i64 0) w6 := ⟨0, by omega, rfl, R6, RV, c6, S7⟩
      have hgw3 : gv ≠ g1 := by omega
      have hgw4 : gv ≠ w.heap.size := by omega
      have hll : (l1.set 8 4294967296).length = N := by simp [hl1]
      clear S4 R4 c4 S6 b6 hfv R6 RV c6 S7 HV HT hgv
      generalize l1.set 8 4294967296 = l2 at *
      go_wp2
      go_loopw [7] (fun i wr => FwRel w t p s N C l l2 g1 gv cv i wr) (fun i _ => C - (intOf i).toNat)
      case atStart => exact HR
      case round =>
        clear HR
        obtain ⟨k2, hk2, rfl, R8, RV8, c8, S8⟩ := hrel
        by_cases hlt2 : k2 < C
        · have hy := HU.out (l.getD k2 0) (by rw [List.getD_eq_getElem?_getD, List.getElem?_eq_getElem (by omega)]; exact List.getElem_mem _)
          have v8 : wr.cell? ⟨gv, k2, none⟩ = some (.int .u32 (l.getD k2 0)) := by
            rw [RV8.cellAt k2 (by omega)]
            simp [uints, hl, hlt2]
          have hfk : fillA l2 l 16 (k2 + 1) = (fillA l2 l 16 k2).set (16 + k2) (l.getD k2 0) := rfl
          have HFk := Lib.hid hfk
          have hk16 : (16 : Int) + k2 = ((16 + k2 : Nat) : Int) := by omega
          have hwr : IntKind.i64.wrap ((16 : Int) + k2) = ((16 + k2 : Nat) : Int) := by rw [hk16]; exact IntWalk.i64_in _ (by omega)
          have hkN : 16 + k2 < N := by omega
          have hkN2 : ((16 + k2 : Nat) : Int) < N := by omega
          have hwy : IntKind.u64.wrap (l.getD k2 0) = l.getD k2 0 := wraps_u64 _ (by omega) (by omega)
          clear hfk hy HU
          generalize l.getD k2 0 = y at *
          generalize hf1 : fillA l2 l 16 k2 = f1 at *
          generalize 16 + k2 = k3 at *
          obtain ⟨z1, q1⟩ := lcell R8 hkN
          have f8 := R8.frozenAt k3
          have R11 := (R8.stored k3 (.int .u64 y)).1
          rw [uset] at R11
          have S11 := S8.setCell (L := g1) (by simp) k3 (.int .u64 y)
          have RV11 := ownsRow_block (w' := wr.setCell ⟨g1, k3, none⟩ (.int .u64 y)) RV8 (fun b hb => by simp [Value.ownBlock] at hb; subst hb; exact heap_setCell_other (L := g1) (by omega))
          have c11 : ∀ o : Nat, (wr.setCell ⟨g1, k3, none⟩ (.int .u64 y)).cell? ⟨w.heap.size, o, none⟩ = (#[.int .i64 t, .int .i64 p, .int .i64 s] : Array Value)[o]? := fun o => (World.cell?_of_block (a := ⟨w.heap.size, o, none⟩) (heap_setCell_other (L := g1) (M := w.heap.size) (by omega))).trans (c8 o)
          have HRR := Lib.hid (And.intro R11 (And.intro RV11 (And.intro c11 S11)))
          clear R11 RV11 c11 S11 R8 RV8 S8 c8
          go_wp2
          go_roundw
          case rel => exact ⟨k2 + 1, by omega, by go_num, by rw [HFk.out]; exact HRR.out.1, HRR.out.2.1, HRR.out.2.2.1, HRR.out.2.2.2⟩
          case measure => simp [intOf]; omega
        · obtain rfl : k2 = C := by omega
          go_wp2
          go_ret
          refine ⟨_, rfl, ?_, fun k hk => ?_, S8.bel⟩
          · have : (fillA l2 l 16 k2).length = N := by rw [fillA_len]; exact hll
            rw [this]
            exact R8
          · simp [Value.ownBlock] at hk
            subst hk
            exact (S8.ls g1 (by simp)).2
end Go.Proofs.Ytkfcjlampnjfbaa
