/- fresh: the program's Vals. -/
import Derived.Test.YtcicmljnjdhkjaaGreatVals
import Derived.Test.YtcicmljnjdhkjaaGreatBinAdd
import Derived.Deep.OwnRows
namespace Go.Proofs.YtcicmljnjdhkjaaGreat
open Go.RowKit

theorem made_rep (N : Nat) : madeCells #[.int .u32 0] N = (uints (List.replicate N 0)).toArray := by
  apply Array.ext'
  simp [madeCells, uints, Nat.mod_one]
  exact List.eq_replicate_iff.2 ⟨by simp, by simp⟩
theorem VSt.of_new' {w w1 w2 : World} {b : Nat} {s : VS} {Ls : List Nat} (h : PV w2 b (fun k => w1.heap.size ≤ k ∧ k < w2.heap.size) s) (hb : Below w.heap.size w w2) (h1 : w.heap.size ≤ w1.heap.size) (hL : ∀ L ∈ Ls, L < w1.heap.size ∧ w.heap.size ≤ L) (h2 : w1.heap.size ≤ w2.heap.size) : VSt PV w b (fun _ => False) Ls s w2 :=
  ⟨⟨_, h, fun k hk => Or.inr (by omega), fun L hm x => by have := hL L hm; omega⟩, Fr.of_below hb, fun L hm => by have := hL L hm; omega, fun _ x => x.elim⟩
theorem put_nk (s : VS) (i v : Int) : (s.put i v).n = s.n ∧ (s.put i v).known = s.known := by unfold VS.put; split <;> exact ⟨rfl, rfl⟩
theorem get_nk (s : VS) (i : Int) : (s.get i).2.n = s.n ∧ (s.get i).2.known = s.known := by
  unfold VS.get
  split
  · split
    · exact ⟨rfl, rfl⟩
    · split
      · unfold VS.read1; split <;> exact ⟨rfl, rfl⟩
      · exact ⟨rfl, rfl⟩
  · exact ⟨rfl, rfl⟩
theorem push_nk (t p s h q : Int) (st : VS) : (pushF t p s h q st).n = st.n ∧ (pushF t p s h q st).known = st.known := by
  unfold pushF
  split
  · simp only
    split
    · simp only [put_nk, get_nk, and_self]
    · simp only [put_nk, get_nk, and_self]
  · exact ⟨rfl, rfl⟩
theorem add_nk (t p s : Int) (q n : Nat) (st : VS) : (addF t p s q n st).n = st.n ∧ (addF t p s q n st).known = st.known := by
  unfold addF
  simp only [push_nk, put_nk, and_self]
def freshSt (t p s : Int) : VS := (addF t p s 0 p.toNat (wholeVS (List.replicate (cellsN t p).toNat 0))).put 0 p
def freshL (t p s : Int) : List Int := setN (List.replicate (cellsN t p).toNat 0) (freshSt t p s).writes (freshSt t p s).writes.length
theorem rdRep (w : World) (N : Nat) : Rd (w.alloc (.cells (madeCells #[.int .u32 0] N) 37)) (.slice (some ⟨w.heap.size, 0, none⟩) N N) 1 (List.replicate N (0 : Int)).length (uints (List.replicate N 0)) := by
  refine ⟨by simp [uints], Or.inr ⟨_, _, by rw [List.length_replicate], fun j u hj => ?_⟩⟩
  rw [made_rep]
  have e : (⟨w.heap.size, 0, none⟩ : Addr).add j = ⟨w.heap.size, j, none⟩ := by unfold Addr.add; split <;> simp_all
  rw [e, cell?_of_heap (heap_alloc_new w _)]
  simpa using hj

set_option maxHeartbeats 1000000 in
set_option maxRecDepth 100000 in
theorem fresh_right (t p s : Int) (w : World) (hr : rightB t p s = true) :
    Calls Tryz.prog 11 #[.agg #[.int .i64 t, .int .i64 p, .int .i64 s]] w (ValsP w (freshL t p s)) := by
  obtain ⟨b1, b2, b3, b4, b5, b6⟩ := right_bd hr
  have H1 := fun w => cells_any t p s w
  have hcf : cellsF t p s = cellsN t p := by simp [cellsF, hr]
  rw [hcf] at H1
  have hcb : 58 ≤ cellsN t p ∧ cellsN t p ≤ 10000 := by unfold cellsN; omega
  obtain ⟨N, hN⟩ : ∃ N : Nat, cellsN t p = N := ⟨(cellsN t p).toNat, by omega⟩
  have hNt : (cellsN t p).toNat = N := by omega
  obtain ⟨P, rfl⟩ : ∃ P : Nat, p = P := ⟨p.toNat, by omega⟩
  have hfl : freshL t P s = setN (List.replicate N 0) (freshSt t P s).writes (freshSt t P s).writes.length := by unfold freshL; rw [hNt]
  have hfs : freshSt t P s = (addF t P s 0 P (wholeVS (List.replicate N 0))).put 0 P := by unfold freshSt; rw [hNt]; rfl
  rw [hN] at H1 hcb
  have HH1 := Lib.hid H1
  have hmk : ∀ w : World, (Instr.makeSlice 24 (.int .i64 (N : Int)) (.int .i64 (N : Int))).run Tryz.prog w = .ok (.slice (some ⟨w.heap.size, 0, none⟩) N N) (w.alloc (.cells (madeCells #[.int .u32 0] N) 37)) := run_make_row' (P := Tryz.prog) 24 37 (.int .u32 0) 4 Tryz.underlying24 infoU32 rfl .i64 .i64 N (by omega) (by omega)
  have hRd := Lib.hid (fun w => rdRep w N)
  have hnb : ((N : Int) == 0) = false := by simp; omega
  have c0 := loc_alloc w #[.int .i64 t, .int .i64 P, .int .i64 s] 23
  have S0 := ((BS.start w).alloc (.cells #[.int .i64 t, .int .i64 P, .int .i64 s] 23))
  have hnk : (freshSt t P s).n = N ∧ (freshSt t P s).known = fun i => (List.replicate N (0 : Int))[i]? := by
    rw [hfs]
    simp only [put_nk, add_nk, wholeVS, List.length_replicate, and_self]
  have HNk := Lib.hid hnk
  clear hnk
  have HFl := Lib.hid hfl
  have HFs := Lib.hid hfs
  clear H1 hcf hr hN hNt hfl hfs
  generalize freshL t P s = FL at *
  generalize freshSt t P s = FS at *
  go_enter Tryz.func11, Tryz.ntmps11
  go_wp2_with fail
  refine (calls_b S0 (HH1.out _)).mono ?_
  rintro e w1 ⟨rfl, S1, S1l⟩
  have c1 := loc_step S1l (by simp) c0
  clear S1l
  have S1a := S1.alloc (.cells (madeCells #[.int .u32 0] N) 37)
  have c1a := loc_old (.cells (madeCells #[.int .u32 0] N) 37) (S1.ls w.heap.size (by simp)).1 c1
  go_wp2_with fail
  refine (whole_any _ _ _ (hRd.out _) (by simp; omega) (by intro v hv; rw [List.eq_of_mem_replicate hv]; exact VS.u32_zero)).mono ?_
  rintro e w2 ⟨b, rfl, hP, hB⟩
  have hV : VSt PV w b (fun _ => False) [w.heap.size] (wholeVS (List.replicate N 0)) w2 := VSt.of_new' hP (S1a.bel.trans (hB.mono S1a.bel.size)) S1a.bel.size (fun L hL => S1a.ls L (by simp at hL; simp [hL])) hB.size
  have c2 := ((BS.start _).below hB).oldbox c1a (S1a.ls w.heap.size (by simp)).1
  clear S0 S1 S1a c0 c1 c1a hP hB hmk hRd
  go_wp2_with fail
  refine (calls_st hV (fun S1 h1 => badd_any b t P s 0 P _ S1 _ h1 (by omega) (by omega) (by omega) (by omega))).mono ?_
  rintro e w3 ⟨rfl, hV3, hV3l⟩
  have c3 := loc_step hV3l (by simp) c2
  clear hV3l
  go_wp2_with fail
  refine (calls_st hV3 (fun S1 h1 => put_any b 0 P _ S1 _ h1 ⟨by omega, by omega⟩)).mono ?_
  rintro e w4 ⟨rfl, hV4, hV4l⟩
  have c4 := loc_step hV4l (by simp) c3
  clear hV4l
  rw [← HFs.out] at hV4
  obtain ⟨S1, hp1, -, -⟩ := hV4.ex
  obtain ⟨vals, hvl, hvk, hvc⟩ := vals_any b w4 S1 FS hp1 (by rw [HNk.out.1]; omega) (by rw [HNk.out.1]; omega)
  have hve : vals = List.replicate N 0 := by
    apply List.ext_getElem?
    intro i
    by_cases hi : i < FS.n
    · rw [← hvk i hi, HNk.out.2]
    · rw [List.getElem?_eq_none (by omega), List.getElem?_eq_none (by rw [List.length_replicate, ← HNk.out.1]; omega)]
  rw [hve, ← HFl.out] at hvc
  have HVc := Lib.hid hvc
  have belw : Below w.heap.size w w4 := hV4.fr.below (Nat.le_refl _) (fun _ x => x.elim)
  clear hvc hve hvl hvk hp1 hV4
  go_wp2_with fail
  refine HVc.out.mono ?_
  rintro e w5 ⟨v, rfl, ho, hf, hb⟩
  go_wp2
  go_ret
  exact ⟨v, rfl, ho, fun k hk => Nat.le_trans belw.size (hf k hk), belw.trans (hb.mono belw.size)⟩
theorem fresh_wrong (t p s : Int) (w : World) (hr : rightB t p s = false) :
    Calls Tryz.prog 11 #[.agg #[.int .i64 t, .int .i64 p, .int .i64 s]] w (ValsP w []) := by
  have H1 := fun w => cells_any t p s w
  have hcf : cellsF t p s = 0 := by simp [cellsF, hr]
  rw [hcf] at H1
  have HH1 := Lib.hid H1
  clear H1 hcf hr
  go_enter Tryz.func11, Tryz.ntmps11
  go_wp2_with fail
  refine (HH1.out _).mono ?_
  rintro e w1 ⟨rfl, ha⟩
  obtain ⟨hac, haf⟩ := bcell ha
  go_wp2
  go_ret
  refine ⟨_, rfl, World.ownsRow_nil _ _ _ _, by simp [Value.ownBlock], ?_⟩
  (repeat (first | exact Below.refl _ _ | assumption | refine Below.setCell ?_ (by first | omega | (simp; done) | (simp; omega)) _ | refine Below.alloc ?_ (by first | omega | (simp; done) | (simp; omega)) _ | refine Below.drew ?_ | refine Below.trans ?_ (Below.mono ‹Below _ _ _› (by first | omega | (simp; done) | (simp; omega)))))
end Go.Proofs.YtcicmljnjdhkjaaGreat
