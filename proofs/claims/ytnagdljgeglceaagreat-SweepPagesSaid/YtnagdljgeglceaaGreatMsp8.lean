/- parts of the proof, merged by a program. -/
import Derived.Test.YtnagdljgeglceaaGreatMsp1
import Derived.Test.YtnagdljgeglceaaGreatMsp3
import Derived.Test.YtnagdljgeglceaaGreatMsp6
import Derived.Deep.OwnRows
set_option linter.unusedSimpArgs false
set_option linter.unusedVariables false
/- view: Vals; the document's Vals. -/
set_option linter.unusedSimpArgs false
set_option linter.unusedVariables false
namespace Go.Proofs.YtnagdljgeglceaaGreat
open Go.RowKit

/-- the values behind k writes. -/
def setN (vals : List Int) (ws : List (Nat × Int)) (k : Nat) : List Int := (ws.take k).foldl (fun l x => l.set x.1 x.2) vals
theorem setN_len (vals : List Int) (ws : List (Nat × Int)) (k : Nat) : (setN vals ws k).length = vals.length := by
 unfold setN
 generalize ws.take k = l
 induction l generalizing vals with
 | nil => rfl
 | cons x l ih => simp [ih]
theorem setN_step {vals : List Int} {ws : List (Nat × Int)} {k : Nat} {x : Nat × Int} (h : ws[k]? = some x) : setN vals ws (k + 1) = (setN vals ws k).set x.1 x.2 := by
 unfold setN
 rw [List.take_add_one, h]
 simp [List.foldl_append]

structure VaRel (w : World) (n : Nat) (vals : List Int) (ws : List (Nat × Int)) (v18 : Value) (wr : World) (k : Nat) (g c : Nat) : Prop where
 hk : v18 = .int .i64 k
 le : k ≤ ws.length
 row : wr.ownsRow 0 41 1 (.slice (some ⟨g, 0, none⟩) n c) n (uints (setN vals ws k))
 far : w.heap.size ≤ g
 bel : Below w.heap.size w wr
def VaRelE (w : World) (n : Nat) (vals : List Int) (ws : List (Nat × Int)) (g c : Nat) (v18 : Value) (wr : World) : Prop := ∃ k, VaRel w n vals ws v18 wr k g c

/-- what Vals answers: a row of its own. -/
def ValsP (w : World) (l : List Int) (e : Ending) (w' : World) : Prop :=
 ∃ v, e = .returned v ∧ w'.ownsRow 0 41 1 v l.length (uints l) ∧ (∀ k, v.ownBlock = some k → w.heap.size ≤ k) ∧ Below w.heap.size w w'

set_option maxHeartbeats 1000000 in
set_option maxRecDepth 100000 in
theorem vals_any (b : Nat) (w : World) (S : Nat → Prop) (s : VS) (h : PV w b S s) (hn : 0 < s.n) (hn2 : s.n ≤ 1000000) :
 ∃ vals : List Int, vals.length = s.n ∧ (∀ i, i < s.n → s.known i = vals[i]?) ∧ Calls Tryz.prog 14 #[.pointer (some ⟨b, 0, none⟩)] w (ValsP w (setN vals s.writes s.writes.length)) := by
 obtain ⟨fv, wv, rv, pv, rd, pt, hv⟩ := h
 obtain ⟨sv, vals, rfl, hrow, hkn, -, rfl⟩ := hv.src
 have hlen : vals.length = s.n := by have := hrow.1; simpa using this
 refine ⟨vals, hlen, hkn, ?_⟩
 have h2 := hv.cell 2
 have h6 := hv.cell 6
 simp at h2 h6
 have hwl := hv.inv.writes_le
 have hwlt := hv.inv.wlt
 have HC := Lib.hid (cloneList wv s.n (uints vals) w (Rd.of_row (by simpa [uints] using hrow)) (by intro u hu; obtain ⟨x, -, rfl⟩ := List.mem_map.1 hu; rfl) (by omega))
 have HPr := Lib.hid hv.pr
 have HSl := Lib.hid (setN_len vals s.writes)
 obtain ⟨pa, pc, rfl⟩ := row_shape hv.pr
 have HWl := Lib.hid hwlt
 clear hv hkn hrow hwlt
 go_enter Tryz.func14, Tryz.ntmps14
 go_wp2_with fail
 refine HC.out.mono ?_
 rintro e w1 ⟨sv, rfl, hown, hnew, hb⟩
 obtain ⟨g, cap, rfl⟩ := Joins.ownsRow_form hown hn
 have hg := hnew g rfl
 have HO := Lib.hid hown
 have c2 := (hb.cell (World.block_lt_of_cell? _ _ h2)).trans h2
 have c6 := (hb.cell (World.block_lt_of_cell? _ _ h6)).trans h6
 clear hown hnew h2 h6
 go_wp2_with fail
 go_loopw [5, 18] (fun _ v18 wr => VaRelE w s.n vals s.writes g cap v18 wr) (fun _ v18 _ => s.writes.length - (intOf v18).toNat)
 case atStart => exact ⟨0, rfl, Nat.zero_le _, by simpa [setN] using HO.out, hg, hb⟩
 case round =>
  obtain ⟨k, rfl, hle, hrow, hfar, hbel⟩ := hrel
  have HRow := Lib.hid hrow
  have HBel := Lib.hid hbel
  clear c2 c6 hb HO
  by_cases hlt : k < s.writes.length
  ·obtain ⟨⟨i, u⟩, hx⟩ : ∃ x, s.writes[k]? = some x := ⟨_, List.getElem?_eq_getElem hlt⟩
   have hin := HWl.out _ (List.mem_of_getElem? hx)
   obtain ⟨gp, cp, hgp⟩ := Joins.ownsRow_form HPr.out (by omega)
   simp only [Value.slice.injEq, true_and] at hgp
   obtain ⟨rfl, rfl⟩ := hgp
   obtain ⟨p1, p2⟩ := pair_cell hx
   have q1' := (HPr.out.cellAt (k * 2) (by omega)).trans p1
   have q2' := (HPr.out.cellAt (k * 2 + 1) (by omega)).trans p2
   have q1 := (HBel.out.cell (World.block_lt_of_cell? _ _ q1')).trans q1'
   have q2 := (HBel.out.cell (World.block_lt_of_cell? _ _ q2')).trans q2'
   have hst := setN_step (vals := vals) hx
   have HSt := Lib.hid hst
   have hro := HRow.out.alloc (.cells #[.int .i64 i, .int .u32 u] 84)
   have hsl2 := HSl.out k
   have hci := hro.cellAt i (by omega)
   obtain ⟨z, hz⟩ : ∃ z, (uints (setN vals s.writes k))[i]? = some z := ⟨_, List.getElem?_eq_getElem (by simp [uints, hsl2]; omega)⟩
   rw [hz] at hci
   have hfi := hro.frozenAt i
   simp only at hin
   have HRo := Lib.hid hro
   clear p1 p2 q1' q2' hx hst hro hz
   go_wp2_with fail
   go_roundw
   case rel =>
    have hs := (HRo.out.stored i (.int .u32 u)).1
    refine ⟨k + 1, by go_num, by omega, ?_, hfar, (HBel.out.alloc HBel.out.size _).setCell hfar _⟩
    have e : (uints (setN vals s.writes k)).set i (.int .u32 u) = uints (setN vals s.writes (k + 1)) := by rw [HSt.out]; simp [uints, List.map_set]
    rw [← e]
    exact hs
   case measure => simp [intOf]; omega
  ·obtain rfl : k = s.writes.length := by omega
   go_wp2
   go_ret
   refine ⟨_, rfl, by rw [HSl.out, hlen]; exact HRow.out, fun j hj => ?_, HBel.out⟩
   simp [Value.ownBlock] at hj
   omega
end Go.Proofs.YtnagdljgeglceaaGreat
/- fresh: the program's Vals. -/
set_option linter.unusedSimpArgs false
set_option linter.unusedVariables false
namespace Go.Proofs.YtnagdljgeglceaaGreat
open Go.RowKit

theorem put_nk (s : VS) (i v : Int) : (s.put i v).n = s.n ∧ (s.put i v).known = s.known := by unfold VS.put; split <;> exact ⟨rfl, rfl⟩
theorem get_nk (s : VS) (i : Int) : (s.get i).2.n = s.n ∧ (s.get i).2.known = s.known := by
 unfold VS.get
 split
 ·split
  ·exact ⟨rfl, rfl⟩
  ·split
   ·unfold VS.read1; split <;> exact ⟨rfl, rfl⟩
   ·exact ⟨rfl, rfl⟩
 ·exact ⟨rfl, rfl⟩
theorem push_nk (t p s h q : Int) (st : VS) : (pushF t p s h q st).n = st.n ∧ (pushF t p s h q st).known = st.known := by
 unfold pushF
 split
 ·simp only
  split
  ·simp only [put_nk, get_nk, and_self]
  ·simp only [put_nk, get_nk, and_self]
 ·exact ⟨rfl, rfl⟩
theorem add_nk (t p s : Int) (q n : Nat) (st : VS) : (addF t p s q n st).n = st.n ∧ (addF t p s q n st).known = st.known := by
 unfold addF
 simp only [push_nk, put_nk, and_self]
end Go.Proofs.YtnagdljgeglceaaGreat
/- fresh: the document's Vals. -/
set_option linter.unusedSimpArgs false
set_option linter.unusedVariables false
namespace Go.Proofs.YtnagdljgeglceaaGreat
open Go.RowKit

theorem riright_free (n : Nat) (w : World) (h1 : 1 ≤ n) (h2 : n ≤ 1024) :
 Calls Tryz.prog 128 #[.agg #[.int .i64 1, .int .i64 n, .int .i64 0]] w fun e w' => e = .returned (.bool true) ∧ Below w.heap.size w w' := by
 have := riright_any 1 n 0 w
 rwa [show rightI 1 n 0 = true by simp [rightI]; omega] at this
theorem rput9_free (n : Nat) (w : World) (h1 : 1 ≤ n) (h2 : n ≤ 1024) :
 Calls Tryz.prog 155 #[.agg #[.int .i64 1, .int .i64 n, .int .i64 0]] w fun e w' => e = .returned (.tuple #[.int .u32 (1 + 16 * n), .bool true]) ∧ Below w.heap.size w w' := by
 have H := Lib.hid (fun w => riright_free n w h1 h2)
 have hw : IntKind.u32.wrap (1 + 16 * (n : Int)) = 1 + 16 * n := IntWalk.u32_in _ (by omega)
 go_enter Tryz.func155, Tryz.ntmps155
 go_wp2_with fail
 refine (H.out _).mono ?_
 rintro e w1 ⟨rfl, ha⟩
 obtain ⟨hac, haf⟩ := bcell ha
 have haz0 : w.heap.size < w1.heap.size := by have := ha.size; first | omega | (simp at this; omega)
 go_wp2
 refine bodyPost_ret (v := .tuple #[.int .u32 (1 + 16 * n), .bool true]) (by simp [results, Tryz.results155, go_sem]) rfl ⟨rfl, ?_⟩
 (repeat (first | exact Below.refl _ _ | assumption | refine Below.setCell ?_ (by first | omega | (simp; done) | (simp; omega)) _ | refine Below.alloc ?_ (by first | omega | (simp; done) | (simp; omega)) _ | refine Below.drew ?_ | refine Below.trans ?_ (Below.mono ‹Below _ _ _› (by first | omega | (simp; done) | (simp; omega)))))
theorem rvalue_free (n : Nat) (w : World) (h1 : 1 ≤ n) (h2 : n ≤ 1024) :
 Calls Tryz.prog 130 #[.int .i64 1, .int .i64 n, .int .i64 0] w fun e w' => e = .returned (.int .u32 (1 + 16 * n)) ∧ Below w.heap.size w w' := by
 have H := Lib.hid (fun w => rput9_free n w h1 h2)
 generalize (1 + 16 * (n : Int)) = v at *
 go_enter Tryz.func130, Tryz.ntmps130
 go_wp2_with fail
 refine (H.out _).mono ?_
 rintro e w1 ⟨rfl, b1⟩
 go_wp2
 go_ret
 exact ⟨rfl, b1⟩
theorem rbof_any (n : Nat) (w : World) (h1 : 1 ≤ n) (h2 : n ≤ 1024) :
 Calls Tryz.prog 129 #[.int .i64 n] w fun e w' => e = .returned (.int .i64 (logF n)) ∧ Below w.heap.size w w' := by
 have H := Lib.hid (fun w => rlog_any n w (by omega) (by omega))
 generalize logF n = v at *
 go_enter Tryz.func129, Tryz.ntmps129
 go_wp2_with fail
 refine (H.out _).mono ?_
 rintro e w1 ⟨rfl, b1⟩
 go_wp2
 go_ret
 exact ⟨rfl, b1⟩
theorem log_bd : ∀ n : Nat, n < 1025 → 1 ≤ n → bitsN n ≤ 11 ∧ 1 ≤ bitsN n := by decide +kernel
end Go.Proofs.YtnagdljgeglceaaGreat
/- bin of the document: Info, Drop, Add. -/
set_option linter.unusedSimpArgs false
set_option linter.unusedVariables false
namespace Go.Proofs.YtnagdljgeglceaaGreat
open Go.RowKit

theorem rget_as {b : Nat} {st s1 : VS} {i v : Int} (e : st.get i = (v, s1)) (w : World) (S : Nat → Prop) (h : RV w b S st) :
 Calls Tryz.prog 47 #[.pointer (some ⟨b, 0, none⟩), .int .i64 i] w fun e w' => e = .returned (.int .u32 v) ∧ NowR w b S s1 w' := by
 have := rget_any b i w S st h
 rwa [e] at this

/-- a box of the call's own, beside the others, in a call that turns the document's view. -/
structure VR (w0 : World) (b : Nat) (S : Nat → Prop) (Ls : List Nat) (LA : Nat) (cs : Array Value) (T : TypeId) (st : VS) (w : World) : Prop where
 vs : VSt RV w0 b S (LA :: Ls) st w
 box : w.heap[LA]? = some (.cells cs T)
 ne : ∀ L ∈ Ls, L ≠ LA
section
variable {w0 w w' : World} {b : Nat} {S : Nat → Prop} {Ls : List Nat} {LA : Nat} {cs : Array Value} {T : TypeId} {st st' : VS}
theorem VSt.allocr (h : VSt RV w0 b S Ls st w) (cs : Array Value) (T : TypeId) : VR w0 b S Ls w.heap.size cs T st (w.alloc (.cells cs T)) :=
 ⟨h.alloc keepsRV _, heap_alloc_new w _, fun L hL e => by have := (h.ls L hL).1; omega⟩
theorem VR.step (h : VR w0 b S Ls LA cs T st w) (hV : VSt RV w0 b S (LA :: Ls) st' w') (hl : ∀ L ∈ LA :: Ls, w'.heap[L]? = w.heap[L]?) : VR w0 b S Ls LA cs T st' w' :=
 ⟨hV, (hl _ (by simp)).trans h.box, h.ne⟩
theorem VR.set (h : VR w0 b S Ls LA cs T st w) (o : Nat) (v : Value) : VR w0 b S Ls LA (cs.setIfInBounds o v) T st (w.setCell ⟨LA, o, none⟩ v) :=
 ⟨h.vs.setCell keepsRV (by simp) _ _, heap_setCell_same h.box, h.ne⟩
theorem VR.set3 {y0 y1 y2 : Value} (h : VR w0 b S Ls LA #[y0, y1, y2] T st w) (x0 x1 x2 : Value) : VR w0 b S Ls LA #[x0, x1, x2] T st (((w.setCell ⟨LA, 0, none⟩ x0).setCell ⟨LA, 1, none⟩ x1).setCell ⟨LA, 2, none⟩ x2) := by
 have a0 : VR w0 b S Ls LA #[x0, y1, y2] T st _ := h.set 0 x0
 have a1 : VR w0 b S Ls LA #[x0, x1, y2] T st _ := a0.set 1 x1
 have a2 : VR w0 b S Ls LA #[x0, x1, x2] T st _ := a1.set 2 x2
 exact a2
theorem VR.alloc (h : VR w0 b S Ls LA cs T st w) (o : Obj) : VR w0 b S Ls LA cs T st (w.alloc o) :=
 ⟨(h.vs.alloc keepsRV o).sub _ (fun L hL => List.mem_cons_of_mem _ hL), (heap_alloc_old _ _ (h.vs.ls _ (by simp)).1).trans h.box, h.ne⟩
theorem VR.loc (h : VR w0 b S Ls LA cs T st w) {L : Nat} {ds : Array Value} (hm : L ∈ Ls) (o : Nat) (v : Value) (hc : ∀ i : Nat, w.cell? ⟨L, i, none⟩ = ds[i]?) : ∀ i : Nat, (w.setCell ⟨LA, o, none⟩ v).cell? ⟨L, i, none⟩ = ds[i]? :=
 fun i => (World.cell?_of_block (a := ⟨L, i, none⟩) (heap_setCell_other (h.ne L hm))).trans (hc i)
end

set_option maxRecDepth 100000 in
theorem xinfo_as {b : Nat} {st s1 : VS} {t p s q v : Int} (e : st.get (ofF t p s q 0) = (v, s1)) (w : World) (S : Nat → Prop) (h : RV w b S st) :
 Calls Tryz.prog 46 #[.pointer (some ⟨b, 0, none⟩), .agg #[.int .i64 t, .int .i64 p, .int .i64 s], .int .i64 q] w fun e w' => e = .returned (.agg #[.int .i64 (iK v), .int .i64 (iL v), .int .i64 (iC v)]) ∧ NowR w b S s1 w' := by
 have hA := ((VSt.start keepsRV h).alloc keepsRV (.cells #[.int .i64 t, .int .i64 p, .int .i64 s] 23)).allocr #[.int .i64 0, .int .i64 0, .int .i64 0] 73
 have c0 := loc_old (.cells #[.int .i64 0, .int .i64 0, .int .i64 0] 73) (by simp) (loc_alloc w #[.int .i64 t, .int .i64 p, .int .i64 s] 23)
 simp only [World.size_alloc] at hA c0
 have hu := VS.get_u32 (keepsRV.inv h) (ofF t p s q 0)
 rw [e] at hu
 have HI := Lib.hid (fun w => rget9_any v w hu.1 hu.2)
 have G := Lib.hid (rget_as (b := b) e)
 clear h hu e
 generalize iK v = k at *
 generalize iL v = l at *
 generalize iC v = m at *
 generalize okI v = o at *
 go_enter Tryz.func46, Tryz.ntmps46
 go_wp2_with fail
 refine (calls_bl keepsRV hA.vs (rinfo_any _ _ _ _ _)).mono ?_
 rintro e w1 ⟨rfl, hY, hYl⟩
 replace hA := hA.step hY hYl
 clear hY hYl
 go_wp2_with fail
 refine (calls_st hA.vs (G.out _)).mono ?_
 rintro e w2 ⟨rfl, hY, hYl⟩
 replace hA := hA.step hY hYl
 clear hY hYl
 go_wp2_with fail
 refine (calls_bl keepsRV hA.vs (HI.out _)).mono ?_
 rintro e w3 ⟨rfl, hY, hYl⟩
 replace hA := hA.step hY hYl
 clear hY hYl
 replace hA := hA.alloc (.cells #[.int .i64 k, .int .i64 l, .int .i64 m] 73)
 obtain ⟨⟨k0, k1, k2⟩, f0, f1, f2⟩ := cells3 hA.box
 go_wp2
 have hZ := hA.set3 (.int .i64 k) (.int .i64 l) (.int .i64 m)
 obtain ⟨⟨j0, j1, j2⟩, -⟩ := cells3 hZ.box
 refine bodyPost_ret (v := .agg #[.int .i64 k, .int .i64 l, .int .i64 m]) (by simp [results, Tryz.results46, go_sem, j0, j1, j2]) rfl ⟨rfl, hZ.vs.done keepsRV⟩

theorem rbin_int (n : Nat) (w : World) (h1 : 1 ≤ n) (h2 : n ≤ 1024) :
 Calls Tryz.prog 110 #[.int .i64 (logF n)] w fun e w' => e = .returned (.int .i64 (withinF 2 (logF n) 11)) ∧ Below w.heap.size w w' := by
 have hb := log_bd n (by omega) h1
 have hl : logF n = ((bitsN n - 1 : Nat) : Int) := by simp [logF]; omega
 have := rbin_any (bitsN n - 1) w (by omega)
 have hf : withinF 2 (logF n) 11 = ((2 + (bitsN n - 1) : Nat) : Int) := by unfold withinF; rw [hl, if_neg (by omega)]; omega
 rw [hf, hl]
 exact this

theorem rdrop_out (b : Nat) (t p s q : Int) (w : World) (S : Nat → Prop) (st : VS) (h : RV w b S st) (hq : pageB p q = false) :
 Calls Tryz.prog 97 #[.pointer (some ⟨b, 0, none⟩), .agg #[.int .i64 t, .int .i64 p, .int .i64 s], .int .i64 q] w fun e w' => e = .returned (.int .i64 (dropF t p s q st).1) ∧ NowR w b S (dropF t p s q st).2 w' := by
 have hF : dropF t p s q st = (0, st) := by unfold dropF; rw [hq]; rfl
 rw [hF]
 have hV := (VSt.start keepsRV h).alloc keepsRV (.cells #[.int .i64 t, .int .i64 p, .int .i64 s] 23)
 clear hF h
 by_cases h0 : 0 ≤ q
 ·have h1 : ¬ q < p := by simpa [pageB, h0] using hq
  clear hq
  go_enter Tryz.func97, Tryz.ntmps97
  go_wp2
  go_ret
  exact ⟨rfl, hV.done keepsRV⟩
 ·clear hq
  go_enter Tryz.func97, Tryz.ntmps97
  go_wp2
  go_ret
  exact ⟨rfl, hV.done keepsRV⟩

set_option maxHeartbeats 1000000 in
set_option maxRecDepth 100000 in
theorem rdrop_any (b : Nat) (t p s q : Int) (w : World) (S : Nat → Prop) (st : VS) (h : RV w b S st) :
 Calls Tryz.prog 97 #[.pointer (some ⟨b, 0, none⟩), .agg #[.int .i64 t, .int .i64 p, .int .i64 s], .int .i64 q] w fun e w' => e = .returned (.int .i64 (dropF t p s q st).1) ∧ NowR w b S (dropF t p s q st).2 w' := by
 cases hq : pageB p q with
 | false => exact rdrop_out b t p s q w S st h hq
 | true =>
  have hV := (VSt.start keepsRV h).alloc keepsRV (.cells #[.int .i64 t, .int .i64 p, .int .i64 s] 23)
  have c0 := loc_alloc w #[.int .i64 t, .int .i64 p, .int .i64 s] 23
  have hq2 : 0 ≤ q ∧ q < p := by simpa [pageB] using hq
  obtain ⟨hq0, hq1⟩ := hq2
  have hF : dropF t p s q st = (freeV (st.get (ofF t p s q 0)).1, if freeV (st.get (ofF t p s q 0)).1 = 0 then (st.get (ofF t p s q 0)).2 else pullF t p s (withinF 2 (logF (freeV (st.get (ofF t p s q 0)).1)) 11) q (st.get (ofF t p s q 0)).2) := by unfold dropF freeAt; rw [if_pos hq]
  rw [hF]
  obtain ⟨v, s1, hg⟩ : ∃ v s1, st.get (ofF t p s q 0) = (v, s1) := ⟨_, _, rfl⟩
  have G := Lib.hid (xinfo_as (b := b) hg)
  rw [hg]
  dsimp only
  have hbd := freeV_bd v
  clear h hF hg hq
  by_cases hk : iK v = 1
  ·obtain ⟨b1, b2⟩ := hbd.2.2.1 hk
   have b3 := hbd.2.1
   rw [hk] at G
   rw [b2] at b1 b3 ⊢
   clear b2 hbd hk
   generalize iL v = l at *
   generalize iC v = m at *
   obtain ⟨n, rfl⟩ : ∃ n : Nat, l = n := ⟨l.toNat, by omega⟩
   rw [if_neg (by omega)]
   have HO := Lib.hid (fun w => rbof_any n w (by omega) (by omega))
   have HB := Lib.hid (fun w => rbin_int n w (by omega) (by omega))
   generalize logF n = lg at *
   generalize withinF 2 lg 11 = hd at *
   go_enter Tryz.func97, Tryz.ntmps97
   go_wp2_with fail
   refine (calls_st hV (G.out _)).mono ?_
   rintro e w1 ⟨rfl, hV1, hV1l⟩
   have c1 := loc_step hV1l (by simp) c0
   clear hV1l
   go_wp2_with fail
   have hV2 := (hV1.alloc keepsRV (.cells #[.int .i64 1, .int .i64 n, .int .i64 m] 73)).drew keepsRV
   have d2 : ∀ o : Nat, (w1.alloc (.cells #[.int .i64 1, .int .i64 n, .int .i64 m] 73)).drew.cell? ⟨w1.heap.size, o, none⟩ = (#[.int .i64 1, .int .i64 n, .int .i64 m] : Array Value)[o]? := loc_alloc w1 #[.int .i64 1, .int .i64 n, .int .i64 m] 73
   have c2 : ∀ o : Nat, (w1.alloc (.cells #[.int .i64 1, .int .i64 n, .int .i64 m] 73)).drew.cell? ⟨w.heap.size, o, none⟩ = (#[.int .i64 t, .int .i64 p, .int .i64 s] : Array Value)[o]? := loc_old (.cells #[.int .i64 1, .int .i64 n, .int .i64 m] 73) (hV1.ls _ (by simp)).1 c1
   refine wp_region_noPanic ?_
   refine wp_region_held_drew (S := fun w' => (∀ o : Nat, w'.cell? ⟨w1.heap.size, o, none⟩ = (#[.int .i64 1, .int .i64 n, .int .i64 m] : Array Value)[o]?) ∧ (∀ o : Nat, w'.cell? ⟨w.heap.size, o, none⟩ = (#[.int .i64 t, .int .i64 p, .int .i64 s] : Array Value)[o]?)) (by kernel_rfl) ?_ (fun hHeld => ?_)
   ·exact ⟨d2, c2⟩
   refine wpAnyH_take (i := 0) (oi := _) (v := ?_) rfl (by kernel_rfl) (by kernel_rfl) (by kernel_rfl) (fun _ _ _ h => h) (Or.inl ⟨by rfl, ?_⟩) (by assumption) ?_
   rotate_left
   ·intro w hSw; (try dsimp only at hSw); go_simp; try with_reducible rfl
   try simp only [Act.put, zA, zB, zD, zE, zF]
   refine wpAnyH_take (i := 1) (oi := _) (v := ?_) rfl (by kernel_rfl) (by kernel_rfl) (by kernel_rfl) (fun _ _ _ h => h) (Or.inl ⟨by rfl, ?_⟩) (by assumption) ?_
   rotate_left
   ·intro w hSw; (try dsimp only at hSw); go_simp; try with_reducible rfl
   try simp only [Act.put, zA, zB, zC, zD, zE, zF]
   refine wpAnyH_take (i := 2) (oi := _) (v := ?_) rfl (by kernel_rfl) (by kernel_rfl) (by kernel_rfl) (fun _ _ _ h => h) (Or.inl ⟨by rfl, ?_⟩) (by assumption) ?_
   rotate_left
   ·intro w hSw; (try dsimp only at hSw); go_simp; try with_reducible rfl
   try simp only [Act.put, zA, zB, zC, zD, zE, zF]
   refine wpAnyH_take (i := 3) (oi := _) (v := ?_) rfl (by kernel_rfl) (by kernel_rfl) (by kernel_rfl) (fun _ _ _ h => h) (Or.inl ⟨by rfl, ?_⟩) (by assumption) ?_
   rotate_left
   ·intro w hSw; (try dsimp only at hSw); go_simp; try with_reducible rfl
   try simp only [Act.put, zA, zB, zC, zD, zE, zF]
   refine wpAnyH_take (i := 6) (oi := _) (v := ?_) rfl (by kernel_rfl) (by kernel_rfl) (by kernel_rfl) (fun _ _ _ h => h) (Or.inl ⟨by rfl, ?_⟩) (by assumption) ?_
   rotate_left
   ·intro w hSw; (try dsimp only at hSw); go_simp; try with_reducible rfl
   try simp only [Act.put, zA, zB, zC, zD, zE, zF]
   refine wpAnyH_ready (rs := [4]) (by kernel_rfl) (by simp) ?_
   refine AllReadyH.cons (o := _) rfl (fun K hK => ?_) AllReadyH.nil
   go_simp
   refine (calls_bl keepsRV hV2 (HO.out _)).mono ?_
   rintro e w3 ⟨rfl, hV3, hV3l⟩
   have d3 := loc_step hV3l (by simp) hHeld.1
   have c3 := loc_step hV3l (by simp) hHeld.2
   clear hV3l
   dsimp only
   refine hK.out _ _ ?_ (fun hHeld => ?_)
   ·exact ⟨d3, c3⟩
   clear hK K
   try simp only [Act.put, zA, zB, zC, zD, zE, zF]
   refine wpAnyH_ready (rs := [5]) (by kernel_rfl) (by simp) ?_
   refine AllReadyH.cons (o := _) rfl (fun K hK => ?_) AllReadyH.nil
   go_simp
   refine (calls_bl keepsRV hV3 (HB.out _)).mono ?_
   rintro e w4 ⟨rfl, hV4, hV4l⟩
   have d4 := loc_step hV4l (by simp) d3
   have c4 := loc_step hV4l (by simp) c3
   clear hV4l
   dsimp only
   refine hK.out _ _ ?_ (fun hHeld => ?_)
   ·exact ⟨d4, c4⟩
   clear hK K
   try simp only [Act.put, zA, zB, zC, zD, zE, zF]
   refine wpAnyH_ready (rs := [7]) (by kernel_rfl) (by simp) ?_
   refine AllReadyH.cons (o := _) rfl (fun K hK => ?_) AllReadyH.nil
   go_simp
   refine (calls_st hV4 (fun S1 h1 => rpull_any b t p s _ q _ S1 _ h1)).mono ?_
   rintro e w5 ⟨rfl, hV5, hV5l⟩
   have d5 := loc_step hV5l (by simp) d4
   have c5 := loc_step hV5l (by simp) c4
   clear hV5l
   dsimp only
   refine hK.out _ _ ?_ (fun hHeld => ?_)
   ·exact ⟨d5, c5⟩
   clear hK K
   try simp only [Act.put, zA, zB, zC, zD, zE, zF]
   refine wpAnyH_done (by kernel_rfl) ?_ _
   refine NoPanic.normal ?_
   go_wp2
   go_ret
   exact ⟨rfl, hV5.done keepsRV⟩
  ·rw [hbd.2.2.2 hk, if_pos rfl]
   clear hbd
   generalize iK v = k at *
   generalize iL v = l at *
   generalize iC v = m at *
   go_enter Tryz.func97, Tryz.ntmps97
   go_wp2_with fail
   refine (calls_st hV (G.out _)).mono ?_
   rintro e w1 ⟨rfl, hV1, hV1l⟩
   have c1 := loc_step hV1l (by simp) c0
   clear hV1l
   go_wp2
   go_ret
   exact ⟨rfl, (hV1.alloc keepsRV _).done keepsRV⟩

theorem radd_out (b : Nat) (t p s q n : Int) (w : World) (S : Nat → Prop) (st : VS) (h : RV w b S st) (hp : p ≤ 1024) (hc : ¬ (0 ≤ q ∧ q < p ∧ 1 ≤ n ∧ n ≤ p - q)) :
 Calls Tryz.prog 98 #[.pointer (some ⟨b, 0, none⟩), .agg #[.int .i64 t, .int .i64 p, .int .i64 s], .int .i64 q, .int .i64 n] w fun e w' => e = .returned (.tuple #[]) ∧ NowR w b S st w' := by
 have hV := (VSt.start keepsRV h).alloc keepsRV (.cells #[.int .i64 t, .int .i64 p, .int .i64 s] 23)
 clear h
 by_cases h0 : 0 ≤ q
 ·by_cases h1 : q < p
  ·have hw1 : IntKind.i64.wrap (p - q) = p - q := wrap_in _ (by omega)
   by_cases h2 : 1 ≤ n
   ·have h3 : p - q < n := by omega
    clear hc
    go_enter Tryz.func98, Tryz.ntmps98
    go_wp2
    refine bodyPost_ret (results_none rfl _ _ _) rfl ?_
    exact ⟨rfl, hV.done keepsRV⟩
   ·clear hc
    go_enter Tryz.func98, Tryz.ntmps98
    go_wp2
    refine bodyPost_ret (results_none rfl _ _ _) rfl ?_
    exact ⟨rfl, hV.done keepsRV⟩
  ·clear hc
   go_enter Tryz.func98, Tryz.ntmps98
   go_wp2
   refine bodyPost_ret (results_none rfl _ _ _) rfl ?_
   exact ⟨rfl, hV.done keepsRV⟩
 ·clear hc
  go_enter Tryz.func98, Tryz.ntmps98
  go_wp2
  refine bodyPost_ret (results_none rfl _ _ _) rfl ?_
  exact ⟨rfl, hV.done keepsRV⟩

set_option maxHeartbeats 1000000 in
set_option maxRecDepth 100000 in
theorem radd_in (b : Nat) (t p s : Int) (q n : Nat) (w : World) (S : Nat → Prop) (st : VS) (h : RV w b S st) (hp : p ≤ 1024) (h0 : (q : Int) < p) (h1 : 1 ≤ n) (h2 : (n : Int) ≤ p - q) :
 Calls Tryz.prog 98 #[.pointer (some ⟨b, 0, none⟩), .agg #[.int .i64 t, .int .i64 p, .int .i64 s], .int .i64 q, .int .i64 n] w fun e w' => e = .returned (.tuple #[]) ∧ NowR w b S (addF t p s q n st) w' := by
 have hV := (VSt.start keepsRV h).alloc keepsRV (.cells #[.int .i64 t, .int .i64 p, .int .i64 s] 23)
 have c0 := loc_alloc w #[.int .i64 t, .int .i64 p, .int .i64 s] 23
 have HV := Lib.hid (fun w => rvalue_free n w h1 (by omega))
 have HO := Lib.hid (fun w => rbof_any n w h1 (by omega))
 have HB := Lib.hid (fun w => rbin_int n w h1 (by omega))
 have U1 := Lib.hid (show VS.U32 (1 + 16 * (n : Int)) from ⟨by omega, by omega⟩)
 have U2 := Lib.hid (show VS.U32 ((q : Int) + 1) from ⟨by omega, by omega⟩)
 have hF : addF t p s q n st = pushF t p s (withinF 2 (logF n) 11) q ((st.put (ofF t p s q 0) (1 + 16 * n)).put (ofF t p s ((q : Int) + n - 1) 1) ((q : Int) + 1)) := rfl
 rw [hF]
 have hw1 : IntKind.i64.wrap ((q : Int) + n - 1) = (q : Int) + n - 1 := wrap_in _ (by omega)
 have hw2 : IntKind.u32.wrap ((q : Int) + 1) = (q : Int) + 1 := IntWalk.u32_in _ (by omega)
 have hw3 : IntKind.u32.wrap (q : Int) = (q : Int) := IntWalk.u32_in _ (by omega)
 clear h hF
 generalize logF n = lg at *
 generalize withinF 2 lg 11 = hd at *
 generalize hx : 1 + 16 * (n : Int) = iv at *
 clear hx
 go_enter Tryz.func98, Tryz.ntmps98
 go_wp2_with fail
 refine (calls_bl keepsRV hV (rinfo_any _ _ _ _ _)).mono ?_
 rintro e w1 ⟨rfl, hV1, hV1l⟩
 have c1 := loc_step hV1l (by simp) c0
 clear hV1l
 go_wp2_with fail
 refine (calls_bl keepsRV hV1 (HV.out _)).mono ?_
 rintro e w2 ⟨rfl, hV2, hV2l⟩
 have c2 := loc_step hV2l (by simp) c1
 clear hV2l
 go_wp2_with fail
 refine (calls_st hV2 (fun S1 h1 => rput_any _ _ _ _ _ _ h1 U1.out)).mono ?_
 rintro e w4 ⟨rfl, hV4, hV4l⟩
 have c4 := loc_step hV4l (by simp) c2
 clear hV4l
 go_wp2_with fail
 refine (calls_bl keepsRV hV4 (rfoot_any _ _ _ _ _)).mono ?_
 rintro e w5 ⟨rfl, hV5, hV5l⟩
 have c5 := loc_step hV5l (by simp) c4
 clear hV5l
 go_wp2_with fail
 refine (calls_st hV5 (fun S1 h1 => rput_any _ _ _ _ _ _ h1 U2.out)).mono ?_
 rintro e w6 ⟨rfl, hV6, hV6l⟩
 have c6 := loc_step hV6l (by simp) c5
 clear hV6l
 go_wp2_with fail
 have hV6d := hV6.drew keepsRV
 refine wp_region_noPanic ?_
 refine wp_region_held_drew (S := fun w' => (∀ o : Nat, w'.cell? ⟨w.heap.size, o, none⟩ = (#[.int .i64 t, .int .i64 p, .int .i64 s] : Array Value)[o]?)) (by kernel_rfl) ?_ (fun hHeld => ?_)
 ·exact c6
 refine wpAnyH_take (i := 0) (oi := _) (v := ?_) rfl (by kernel_rfl) (by kernel_rfl) (by kernel_rfl) (fun _ _ _ h => h) (Or.inl ⟨by rfl, ?_⟩) (by assumption) ?_
 rotate_left
 ·intro w hSw; (try dsimp only at hSw); go_simp; try with_reducible rfl
 try simp only [Act.put, zA, zB, zD, zE, zF]
 refine wpAnyH_take (i := 1) (oi := _) (v := ?_) rfl (by kernel_rfl) (by kernel_rfl) (by kernel_rfl) (fun _ _ _ h => h) (Or.inl ⟨by rfl, ?_⟩) (by assumption) ?_
 rotate_left
 ·intro w hSw; (try dsimp only at hSw); go_simp; try with_reducible rfl
 try simp only [Act.put, zA, zB, zC, zD, zE, zF]
 refine wpAnyH_take (i := 2) (oi := _) (v := ?_) rfl (by kernel_rfl) (by kernel_rfl) (by kernel_rfl) (fun _ _ _ h => h) (Or.inl ⟨by rfl, ?_⟩) (by assumption) ?_
 rotate_left
 ·intro w hSw; (try dsimp only at hSw); go_simp; try with_reducible rfl
 try simp only [Act.put, zA, zB, zC, zD, zE, zF]
 refine wpAnyH_take (i := 5) (oi := _) (v := ?_) rfl (by kernel_rfl) (by kernel_rfl) (by kernel_rfl) (fun _ _ _ h => h) (Or.inl ⟨by rfl, ?_⟩) (by assumption) ?_
 rotate_left
 ·intro w hSw; (try dsimp only at hSw); go_simp; try with_reducible rfl
 try simp only [Act.put, zA, zB, zC, zD, zE, zF]
 refine wpAnyH_ready (rs := [3]) (by kernel_rfl) (by simp) ?_
 refine AllReadyH.cons (o := _) rfl (fun K hK => ?_) AllReadyH.nil
 go_simp
 refine (calls_bl keepsRV hV6d (HO.out _)).mono ?_
 rintro e w7 ⟨rfl, hV7, hV7l⟩
 have c7 := loc_step hV7l (by simp) hHeld
 clear hV7l
 dsimp only
 refine hK.out _ _ ?_ (fun hHeld => ?_)
 ·exact c7
 clear hK K
 try simp only [Act.put, zA, zB, zC, zD, zE, zF]
 refine wpAnyH_ready (rs := [4]) (by kernel_rfl) (by simp) ?_
 refine AllReadyH.cons (o := _) rfl (fun K hK => ?_) AllReadyH.nil
 go_simp
 refine (calls_bl keepsRV hV7 (HB.out _)).mono ?_
 rintro e w8 ⟨rfl, hV8, hV8l⟩
 have c8 := loc_step hV8l (by simp) c7
 clear hV8l
 dsimp only
 refine hK.out _ _ ?_ (fun hHeld => ?_)
 ·exact c8
 clear hK K
 try simp only [Act.put, zA, zB, zC, zD, zE, zF]
 refine wpAnyH_ready (rs := [6]) (by kernel_rfl) (by simp) ?_
 refine AllReadyH.cons (o := _) rfl (fun K hK => ?_) AllReadyH.nil
 go_simp
 refine (calls_st hV8 (fun S1 h1 => rpush_any b t p s _ q _ S1 _ h1 hp)).mono ?_
 rintro e w9 ⟨rfl, hV9, hV9l⟩
 have c9 := loc_step hV9l (by simp) c8
 clear hV9l
 dsimp only
 refine hK.out _ _ ?_ (fun hHeld => ?_)
 ·exact c9
 clear hK K
 try simp only [Act.put, zA, zB, zC, zD, zE, zF]
 refine wpAnyH_done (by kernel_rfl) ?_ _
 refine NoPanic.normal ?_
 go_wp2
 go_end0
 exact ⟨rfl, hV9.done keepsRV⟩

theorem radd_all (b : Nat) (t p s q n : Int) (w : World) (S : Nat → Prop) (st : VS) (h : RV w b S st) (hp : p ≤ 1024) :
 Calls Tryz.prog 98 #[.pointer (some ⟨b, 0, none⟩), .agg #[.int .i64 t, .int .i64 p, .int .i64 s], .int .i64 q, .int .i64 n] w fun e w' => e = .returned (.tuple #[]) ∧ NowR w b S (addG t p s q n st) w' := by
 by_cases hc : 0 ≤ q ∧ q < p ∧ 1 ≤ n ∧ n ≤ p - q
 ·have := radd_in b t p s q.toNat n.toNat w S st h hp (by omega) (by omega) (by omega)
  rw [show ((q.toNat : Nat) : Int) = q by omega, show ((n.toNat : Nat) : Int) = n by omega] at this
  unfold addG
  rw [if_pos hc]
  exact this
 ·have hF : addG t p s q n st = st := if_neg hc
  rw [hF]
  exact radd_out b t p s q n w S st h hp hc
end Go.Proofs.YtnagdljgeglceaaGreat
/- span of the document: Release. -/
set_option linter.unusedSimpArgs false
set_option linter.unusedVariables false
namespace Go.Proofs.YtnagdljgeglceaaGreat
open Go.RowKit

theorem dropR_bd (t p s q : Int) (st : VS) : 0 ≤ (dropF t p s q st).1 ∧ (dropF t p s q st).1 ≤ 1024 := by
 have h := freeV_bd (st.get (ofF t p s q 0)).1
 unfold dropF freeAt
 split <;> dsimp only <;> omega
theorem get_neg (st : VS) : st.get (-1) = (0, st) := by unfold VS.get VS.there; simp
theorem ofF_neg (t p s q part : Int) (h : q < 0) : ofF t p s q part = -1 := by unfold ofF; rw [if_neg (by omega)]

set_option maxHeartbeats 4000000 in
set_option maxRecDepth 100000 in
theorem rrelease_any (b : Nat) (t p s q n : Int) (w : World) (S : Nat → Prop) (st : VS) (h : RV w b S st) (hp : p ≤ 1024) (hq0 : 0 ≤ q) (hq1 : q ≤ 1024) (hn0 : 0 ≤ n) (hn1 : n ≤ 1024) :
 Calls Tryz.prog 54 #[.pointer (some ⟨b, 0, none⟩), .agg #[.int .i64 t, .int .i64 p, .int .i64 s], .int .i64 q, .int .i64 n] w fun e w' => e = .returned (.tuple #[]) ∧ NowR w b S (releaseF t p s q n st) w' := by
 have hV := (VSt.start keepsRV h).alloc keepsRV (.cells #[.int .i64 t, .int .i64 p, .int .i64 s] 23)
 have c0 := loc_alloc w #[.int .i64 t, .int .i64 p, .int .i64 s] 23
 have hbk : backF t p s q n st = (if (aheadF t p s q st).1 < 0 then ((q, n), (aheadF t p s q st).2) else if (freeAt t p s (aheadF t p s q st).1 (aheadF t p s q st).2).1 = 0 then ((q, n), (freeAt t p s (aheadF t p s q st).1 (aheadF t p s q st).2).2) else (((aheadF t p s q st).1, n + (joinF t p s (aheadF t p s q st).1 q (freeAt t p s (aheadF t p s q st).1 (aheadF t p s q st).2).2).1), (joinF t p s (aheadF t p s q st).1 q (freeAt t p s (aheadF t p s q st).1 (aheadF t p s q st).2).2).2)) := rfl
 obtain ⟨bk, hb⟩ : ∃ x, backF t p s q n st = x := ⟨_, rfl⟩
 rw [hb] at hbk
 have hR : releaseF t p s q n st = countF n (addG t p s bk.1.1 (foreF t p s (q + n) bk.1.2 bk.2).1 (foreF t p s (q + n) bk.1.2 bk.2).2) := by unfold releaseF; rw [hb]
 rw [hR]
 have hinv := keepsRV.inv h
 clear hR hb h
 have hwr : IntKind.i64.wrap (q + n) = q + n := wrap_in _ (by omega)
 have hwq : IntKind.i64.wrap (q - 1) = q - 1 := wrap_in _ (by omega)
 have hwn : IntKind.u32.wrap n = n := IntWalk.u32_in _ (by omega)
 have hwz : IntKind.i64.wrap (q + n - 1) = q + n - 1 := wrap_in _ (by omega)
 by_cases hz : q = 0
 ·have e0 : backF t p s q n st = ((q, n), st) := by subst hz; rfl
  have e1 : bk = ((q, n), st) := hbk.trans e0
  subst e1; dsimp only; have hz2 : ¬ 0 < q := by omega
  clear hbk e0 hwq hinv hz
  by_cases hr : q + n < p
  ·have hfo : foreF t p s (q + n) (n) st = (if (freeAt t p s (q + n) st).1 = 0 then (n, (freeAt t p s (q + n) st).2) else (n + (joinF t p s (q + n) (q + n) (freeAt t p s (q + n) st).2).1, (joinF t p s (q + n) (q + n) (freeAt t p s (q + n) st).2).2)) := by unfold foreF; rw [if_pos hr]
   rw [hfo]; clear hfo
   obtain ⟨v2, s4, hg2⟩ : ∃ v s4, st.get (ofF t p s (q + n) 0) = (v, s4) := ⟨_, _, rfl⟩
   have HI2 := Lib.hid (xinfo_as (b := b) hg2)
   have hbd2 := freeV_bd v2
   rw [show freeAt t p s (q + n) st = (freeV v2, s4) by unfold freeAt; rw [hg2]]; dsimp only; clear hg2
   by_cases hk2 : iK v2 = 1
   ·rw [if_neg (by have := hbd2.2.2.1 hk2; omega)]
    rw [hk2] at HI2; clear hbd2 hk2
    generalize iL v2 = il2 at *
    generalize iC v2 = ic2 at *
    have hj2 := dropR_bd t p s (q + n) s4
    have HD := fun (w : World) (S1 : Nat → Prop) (h1 : RV w b S1 s4) => rdrop_any b t p s (q + n) w S1 s4 h1
    have hjo : joinF t p s (q + n) (q + n) s4 = ((dropF t p s (q + n) s4).1, ((dropF t p s (q + n) s4).2.put (ofF t p s (q + n) 0) 0).put (ofF t p s (q + n - 1) 1) 0) := rfl
    obtain ⟨j2, s5, hj⟩ : ∃ j s5, dropF t p s (q + n) s4 = (j, s5) := ⟨_, _, rfl⟩
    rw [hj] at hjo HD hj2; rw [hjo]; dsimp only at HD hj2 ⊢; clear hjo hj
    have HD2 := Lib.hid HD; clear HD
    have hw5 : IntKind.i64.wrap (n + j2) = n + j2 := wrap_in _ (by omega)
    obtain ⟨s7, hs7⟩ : ∃ x, (s5.put (ofF t p s (q + n) 0) 0).put (ofF t p s (q + n - 1) 1) 0 = x := ⟨_, rfl⟩
    have HP7 := fun (w : World) (S1 : Nat → Prop) (h1 : RV w b S1 (s5.put (ofF t p s (q + n) 0) 0)) => rput_any b (ofF t p s (q + n - 1) 1) 0 w S1 _ h1 VS.u32_zero
    rw [hs7] at HP7 ⊢; clear hs7; have HQ7 := Lib.hid HP7; clear HP7
    have HAd := Lib.hid (fun (w : World) (S1 : Nat → Prop) (h1 : RV w b S1 s7) => radd_all b t p s q (n + j2) w S1 s7 h1 hp)
    obtain ⟨s8, hs8⟩ : ∃ x, addG t p s q (n + j2) s7 = x := ⟨_, rfl⟩
    rw [hs8] at HAd ⊢; clear hs8
    have hC : countF n s8 = (s8.get 0).2.put 0 (IntKind.u32.wrap ((s8.get 0).1 + n)) := rfl
    obtain ⟨vc, sc, hc⟩ : ∃ v s1, s8.get 0 = (v, s1) := ⟨_, _, rfl⟩
    have HGc := Lib.hid (rget_as (b := b) hc)
    rw [hC, hc]; dsimp only; clear hC hc
    have hU := Lib.hid (show VS.U32 (IntKind.u32.wrap (vc + n)) by unfold VS.U32; rw [IntKind.wrap_u32]; omega)
    obtain ⟨x, hx⟩ : ∃ x, x = IntKind.u32.wrap (vc + n) := ⟨_, rfl⟩
    rw [← hx] at hU ⊢
    have hx2 := hx.symm; clear hx
    go_enter Tryz.func54, Tryz.ntmps54
    go_wp2_with fail
    refine (calls_st hV (HI2.out _)).mono ?_
    rintro e w11 ⟨rfl, hY, hYl⟩
    replace c0 := loc_step hYl (by simp) c0
    replace hV := hY
    clear hY hYl
    replace c0 := loc_old (.cells #[.int .i64 1, .int .i64 il2, .int .i64 ic2] 73) (hV.ls _ (by simp)).1 c0
    replace hV := hV.alloc keepsRV (.cells #[.int .i64 1, .int .i64 il2, .int .i64 ic2] 73)
    go_wp2_with fail
    refine (calls_st hV (HD2.out _)).mono ?_
    rintro e w12 ⟨rfl, hY, hYl⟩
    replace c0 := loc_step hYl (by simp) c0
    replace hV := hY
    clear hY hYl
    go_wp2_with fail
    refine (calls_bl keepsRV hV (rinfo_any _ _ _ _ _)).mono ?_
    rintro e w13 ⟨rfl, hY, hYl⟩
    replace c0 := loc_step hYl (by simp) c0
    replace hV := hY
    clear hY hYl
    go_wp2_with fail
    refine (calls_st hV (fun S1 h1 => rput_any _ _ _ _ _ _ h1 VS.u32_zero)).mono ?_
    rintro e w14 ⟨rfl, hY, hYl⟩
    replace c0 := loc_step hYl (by simp) c0
    replace hV := hY
    clear hY hYl
    go_wp2_with fail
    refine (calls_bl keepsRV hV (rfoot_any _ _ _ _ _)).mono ?_
    rintro e w15 ⟨rfl, hY, hYl⟩
    replace c0 := loc_step hYl (by simp) c0
    replace hV := hY
    clear hY hYl
    go_wp2_with fail
    refine (calls_st hV (HQ7.out _)).mono ?_
    rintro e w16 ⟨rfl, hY, hYl⟩
    replace c0 := loc_step hYl (by simp) c0
    replace hV := hY
    clear hY hYl
    go_wp2_with fail
    refine (calls_st hV (HAd.out _)).mono ?_
    rintro e w21 ⟨rfl, hY, hYl⟩
    replace c0 := loc_step hYl (by simp) c0
    replace hV := hY
    clear hY hYl
    go_wp2_with fail
    refine (calls_st hV (HGc.out _)).mono ?_
    rintro e w22 ⟨rfl, hY, hYl⟩
    replace c0 := loc_step hYl (by simp) c0
    replace hV := hY
    clear hY hYl
    go_wp2_with fail
    refine (calls_st hV (fun S1 h1 => rput_any _ _ _ _ _ _ h1 hU.out)).mono ?_
    rintro e w23 ⟨rfl, hY, hYl⟩
    replace c0 := loc_step hYl (by simp) c0
    replace hV := hY
    clear hY hYl
    go_wp2
    go_end0
    exact ⟨rfl, hV.done keepsRV⟩
   ·rw [if_pos (hbd2.2.2.2 hk2)]; dsimp only; clear hbd2
    generalize iK v2 = ik2 at *
    generalize iL v2 = il2 at *
    generalize iC v2 = ic2 at *
    have HAd := Lib.hid (fun (w : World) (S1 : Nat → Prop) (h1 : RV w b S1 s4) => radd_all b t p s q (n) w S1 s4 h1 hp)
    obtain ⟨s8, hs8⟩ : ∃ x, addG t p s q (n) s4 = x := ⟨_, rfl⟩
    rw [hs8] at HAd ⊢; clear hs8
    have hC : countF n s8 = (s8.get 0).2.put 0 (IntKind.u32.wrap ((s8.get 0).1 + n)) := rfl
    obtain ⟨vc, sc, hc⟩ : ∃ v s1, s8.get 0 = (v, s1) := ⟨_, _, rfl⟩
    have HGc := Lib.hid (rget_as (b := b) hc)
    rw [hC, hc]; dsimp only; clear hC hc
    have hU := Lib.hid (show VS.U32 (IntKind.u32.wrap (vc + n)) by unfold VS.U32; rw [IntKind.wrap_u32]; omega)
    obtain ⟨x, hx⟩ : ∃ x, x = IntKind.u32.wrap (vc + n) := ⟨_, rfl⟩
    rw [← hx] at hU ⊢
    have hx2 := hx.symm; clear hx
    go_enter Tryz.func54, Tryz.ntmps54
    go_wp2_with fail
    refine (calls_st hV (HI2.out _)).mono ?_
    rintro e w11 ⟨rfl, hY, hYl⟩
    replace c0 := loc_step hYl (by simp) c0
    replace hV := hY
    clear hY hYl
    replace c0 := loc_old (.cells #[.int .i64 ik2, .int .i64 il2, .int .i64 ic2] 73) (hV.ls _ (by simp)).1 c0
    replace hV := hV.alloc keepsRV (.cells #[.int .i64 ik2, .int .i64 il2, .int .i64 ic2] 73)
    go_wp2_with fail
    refine (calls_st hV (HAd.out _)).mono ?_
    rintro e w21 ⟨rfl, hY, hYl⟩
    replace c0 := loc_step hYl (by simp) c0
    replace hV := hY
    clear hY hYl
    go_wp2_with fail
    refine (calls_st hV (HGc.out _)).mono ?_
    rintro e w22 ⟨rfl, hY, hYl⟩
    replace c0 := loc_step hYl (by simp) c0
    replace hV := hY
    clear hY hYl
    go_wp2_with fail
    refine (calls_st hV (fun S1 h1 => rput_any _ _ _ _ _ _ h1 hU.out)).mono ?_
    rintro e w23 ⟨rfl, hY, hYl⟩
    replace c0 := loc_step hYl (by simp) c0
    replace hV := hY
    clear hY hYl
    go_wp2
    go_end0
    exact ⟨rfl, hV.done keepsRV⟩
  ·have hfo : foreF t p s (q + n) (n) st = (n, st) := by unfold foreF; rw [if_neg hr]
   rw [hfo]; clear hfo; dsimp only
   have HAd := Lib.hid (fun (w : World) (S1 : Nat → Prop) (h1 : RV w b S1 st) => radd_all b t p s q (n) w S1 st h1 hp)
   obtain ⟨s8, hs8⟩ : ∃ x, addG t p s q (n) st = x := ⟨_, rfl⟩
   rw [hs8] at HAd ⊢; clear hs8
   have hC : countF n s8 = (s8.get 0).2.put 0 (IntKind.u32.wrap ((s8.get 0).1 + n)) := rfl
   obtain ⟨vc, sc, hc⟩ : ∃ v s1, s8.get 0 = (v, s1) := ⟨_, _, rfl⟩
   have HGc := Lib.hid (rget_as (b := b) hc)
   rw [hC, hc]; dsimp only; clear hC hc
   have hU := Lib.hid (show VS.U32 (IntKind.u32.wrap (vc + n)) by unfold VS.U32; rw [IntKind.wrap_u32]; omega)
   obtain ⟨x, hx⟩ : ∃ x, x = IntKind.u32.wrap (vc + n) := ⟨_, rfl⟩
   rw [← hx] at hU ⊢
   have hx2 := hx.symm; clear hx
   go_enter Tryz.func54, Tryz.ntmps54
   go_wp2_with fail
   refine (calls_st hV (HAd.out _)).mono ?_
   rintro e w21 ⟨rfl, hY, hYl⟩
   replace c0 := loc_step hYl (by simp) c0
   replace hV := hY
   clear hY hYl
   go_wp2_with fail
   refine (calls_st hV (HGc.out _)).mono ?_
   rintro e w22 ⟨rfl, hY, hYl⟩
   replace c0 := loc_step hYl (by simp) c0
   replace hV := hY
   clear hY hYl
   go_wp2_with fail
   refine (calls_st hV (fun S1 h1 => rput_any _ _ _ _ _ _ h1 hU.out)).mono ?_
   rintro e w23 ⟨rfl, hY, hYl⟩
   replace c0 := loc_step hYl (by simp) c0
   replace hV := hY
   clear hY hYl
   go_wp2
   go_end0
   exact ⟨rfl, hV.done keepsRV⟩
 ·have hz2 : 0 < q := by omega
  have e0 : aheadF t p s q st = ((st.get (ofF t p s (q - 1) 1)).1 - 1, (st.get (ofF t p s (q - 1) 1)).2) := if_neg hz
  have hu := VS.get_u32 hinv (ofF t p s (q - 1) 1)
  obtain ⟨v, s1, hg⟩ : ∃ v s1, st.get (ofF t p s (q - 1) 1) = (v, s1) := ⟨_, _, rfl⟩
  have HG := Lib.hid (rget_as (b := b) hg)
  rw [hg] at e0 hu; dsimp only at e0 hu; rw [e0] at hbk; dsimp only at hbk
  obtain ⟨hu1, hu2⟩ := hu
  have hwv : IntKind.i64.wrap v = v := wrap_in _ (by omega)
  have hwv1 : IntKind.i64.wrap (v - 1) = v - 1 := wrap_in _ (by omega)
  obtain ⟨vi, s2, hgi⟩ : ∃ y s2, s1.get (ofF t p s (v - 1) 0) = (y, s2) := ⟨_, _, rfl⟩
  have HI := Lib.hid (xinfo_as (b := b) hgi)
  have hbd := freeV_bd vi
  have hfa : freeAt t p s (v - 1) s1 = (freeV vi, s2) := by unfold freeAt; rw [hgi]
  rw [hfa] at hbk; dsimp only at hbk; clear hfa e0 hg hinv hz
  by_cases hk : iK vi = 1
  ·have hv0 : ¬ v - 1 < 0 := by
    intro hx; rw [ofF_neg _ _ _ _ _ hx, get_neg] at hgi; obtain ⟨rfl, -⟩ := Prod.mk.inj hgi; exact absurd hk (by decide)
   rw [if_neg hv0, if_neg (by have := hbd.2.2.1 hk; omega)] at hbk
   rw [hk] at HI; clear hbd hk hgi
   generalize iL vi = il at *
   generalize iC vi = ic at *
   have hj1 := dropR_bd t p s (v - 1) s2
   have HD := fun (w : World) (S1 : Nat → Prop) (h1 : RV w b S1 s2) => rdrop_any b t p s (v - 1) w S1 s2 h1
   have hjo : joinF t p s (v - 1) q s2 = ((dropF t p s (v - 1) s2).1, ((dropF t p s (v - 1) s2).2.put (ofF t p s q 0) 0).put (ofF t p s (q - 1) 1) 0) := rfl
   obtain ⟨j1, s5, hj⟩ : ∃ j s5, dropF t p s (v - 1) s2 = (j, s5) := ⟨_, _, rfl⟩
   rw [hj] at hjo HD hj1; rw [hjo] at hbk; dsimp only at HD hj1 hbk; clear hjo hj
   have HD1 := Lib.hid HD; clear HD
   have hw4 : IntKind.i64.wrap (n + j1) = n + j1 := wrap_in _ (by omega)
   obtain ⟨s3, hs3⟩ : ∃ x, (s5.put (ofF t p s q 0) 0).put (ofF t p s (q - 1) 1) 0 = x := ⟨_, rfl⟩
   have HP3 := fun (w : World) (S1 : Nat → Prop) (h1 : RV w b S1 (s5.put (ofF t p s q 0) 0)) => rput_any b (ofF t p s (q - 1) 1) 0 w S1 _ h1 VS.u32_zero
   rw [hs3] at HP3 hbk; clear hs3; have HQ3 := Lib.hid HP3; clear HP3; subst hbk; dsimp only
   by_cases hr : q + n < p
   ·have hfo : foreF t p s (q + n) (n + j1) s3 = (if (freeAt t p s (q + n) s3).1 = 0 then (n + j1, (freeAt t p s (q + n) s3).2) else (n + j1 + (joinF t p s (q + n) (q + n) (freeAt t p s (q + n) s3).2).1, (joinF t p s (q + n) (q + n) (freeAt t p s (q + n) s3).2).2)) := by unfold foreF; rw [if_pos hr]
    rw [hfo]; clear hfo
    obtain ⟨v2, s4, hg2⟩ : ∃ v s4, s3.get (ofF t p s (q + n) 0) = (v, s4) := ⟨_, _, rfl⟩
    have HI2 := Lib.hid (xinfo_as (b := b) hg2)
    have hbd2 := freeV_bd v2
    rw [show freeAt t p s (q + n) s3 = (freeV v2, s4) by unfold freeAt; rw [hg2]]; dsimp only; clear hg2
    by_cases hk2 : iK v2 = 1
    ·rw [if_neg (by have := hbd2.2.2.1 hk2; omega)]
     rw [hk2] at HI2; clear hbd2 hk2
     generalize iL v2 = il2 at *
     generalize iC v2 = ic2 at *
     have hj2 := dropR_bd t p s (q + n) s4
     have HD := fun (w : World) (S1 : Nat → Prop) (h1 : RV w b S1 s4) => rdrop_any b t p s (q + n) w S1 s4 h1
     have hjo : joinF t p s (q + n) (q + n) s4 = ((dropF t p s (q + n) s4).1, ((dropF t p s (q + n) s4).2.put (ofF t p s (q + n) 0) 0).put (ofF t p s (q + n - 1) 1) 0) := rfl
     obtain ⟨j2, s5, hj⟩ : ∃ j s5, dropF t p s (q + n) s4 = (j, s5) := ⟨_, _, rfl⟩
     rw [hj] at hjo HD hj2; rw [hjo]; dsimp only at HD hj2 ⊢; clear hjo hj
     have HD2 := Lib.hid HD; clear HD
     have hw5 : IntKind.i64.wrap (n + j1 + j2) = n + j1 + j2 := wrap_in _ (by omega)
     obtain ⟨s7, hs7⟩ : ∃ x, (s5.put (ofF t p s (q + n) 0) 0).put (ofF t p s (q + n - 1) 1) 0 = x := ⟨_, rfl⟩
     have HP7 := fun (w : World) (S1 : Nat → Prop) (h1 : RV w b S1 (s5.put (ofF t p s (q + n) 0) 0)) => rput_any b (ofF t p s (q + n - 1) 1) 0 w S1 _ h1 VS.u32_zero
     rw [hs7] at HP7 ⊢; clear hs7; have HQ7 := Lib.hid HP7; clear HP7
     have HAd := Lib.hid (fun (w : World) (S1 : Nat → Prop) (h1 : RV w b S1 s7) => radd_all b t p s (v - 1) (n + j1 + j2) w S1 s7 h1 hp)
     obtain ⟨s8, hs8⟩ : ∃ x, addG t p s (v - 1) (n + j1 + j2) s7 = x := ⟨_, rfl⟩
     rw [hs8] at HAd ⊢; clear hs8
     have hC : countF n s8 = (s8.get 0).2.put 0 (IntKind.u32.wrap ((s8.get 0).1 + n)) := rfl
     obtain ⟨vc, sc, hc⟩ : ∃ v s1, s8.get 0 = (v, s1) := ⟨_, _, rfl⟩
     have HGc := Lib.hid (rget_as (b := b) hc)
     rw [hC, hc]; dsimp only; clear hC hc
     have hU := Lib.hid (show VS.U32 (IntKind.u32.wrap (vc + n)) by unfold VS.U32; rw [IntKind.wrap_u32]; omega)
     obtain ⟨x, hx⟩ : ∃ x, x = IntKind.u32.wrap (vc + n) := ⟨_, rfl⟩
     rw [← hx] at hU ⊢
     have hx2 := hx.symm; clear hx
     go_enter Tryz.func54, Tryz.ntmps54
     go_wp2_with fail
     refine (calls_bl keepsRV hV (rfoot_any _ _ _ _ _)).mono ?_
     rintro e w1 ⟨rfl, hY, hYl⟩
     replace c0 := loc_step hYl (by simp) c0
     replace hV := hY
     clear hY hYl
     go_wp2_with fail
     refine (calls_st hV (HG.out _)).mono ?_
     rintro e w2 ⟨rfl, hY, hYl⟩
     replace c0 := loc_step hYl (by simp) c0
     replace hV := hY
     clear hY hYl
     go_wp2_with fail
     refine (calls_st hV (HI.out _)).mono ?_
     rintro e w3 ⟨rfl, hY, hYl⟩
     replace c0 := loc_step hYl (by simp) c0
     replace hV := hY
     clear hY hYl
     replace c0 := loc_old (.cells #[.int .i64 1, .int .i64 il, .int .i64 ic] 73) (hV.ls _ (by simp)).1 c0
     replace hV := hV.alloc keepsRV (.cells #[.int .i64 1, .int .i64 il, .int .i64 ic] 73)
     go_wp2_with fail
     refine (calls_st hV (HD1.out _)).mono ?_
     rintro e w4 ⟨rfl, hY, hYl⟩
     replace c0 := loc_step hYl (by simp) c0
     replace hV := hY
     clear hY hYl
     go_wp2_with fail
     refine (calls_bl keepsRV hV (rinfo_any _ _ _ _ _)).mono ?_
     rintro e w5 ⟨rfl, hY, hYl⟩
     replace c0 := loc_step hYl (by simp) c0
     replace hV := hY
     clear hY hYl
     go_wp2_with fail
     refine (calls_st hV (fun S1 h1 => rput_any _ _ _ _ _ _ h1 VS.u32_zero)).mono ?_
     rintro e w6 ⟨rfl, hY, hYl⟩
     replace c0 := loc_step hYl (by simp) c0
     replace hV := hY
     clear hY hYl
     go_wp2_with fail
     refine (calls_bl keepsRV hV (rfoot_any _ _ _ _ _)).mono ?_
     rintro e w7 ⟨rfl, hY, hYl⟩
     replace c0 := loc_step hYl (by simp) c0
     replace hV := hY
     clear hY hYl
     go_wp2_with fail
     refine (calls_st hV (HQ3.out _)).mono ?_
     rintro e w8 ⟨rfl, hY, hYl⟩
     replace c0 := loc_step hYl (by simp) c0
     replace hV := hY
     clear hY hYl
     go_wp2_with fail
     refine (calls_st hV (HI2.out _)).mono ?_
     rintro e w11 ⟨rfl, hY, hYl⟩
     replace c0 := loc_step hYl (by simp) c0
     replace hV := hY
     clear hY hYl
     replace c0 := loc_old (.cells #[.int .i64 1, .int .i64 il2, .int .i64 ic2] 73) (hV.ls _ (by simp)).1 c0
     replace hV := hV.alloc keepsRV (.cells #[.int .i64 1, .int .i64 il2, .int .i64 ic2] 73)
     go_wp2_with fail
     refine (calls_st hV (HD2.out _)).mono ?_
     rintro e w12 ⟨rfl, hY, hYl⟩
     replace c0 := loc_step hYl (by simp) c0
     replace hV := hY
     clear hY hYl
     go_wp2_with fail
     refine (calls_bl keepsRV hV (rinfo_any _ _ _ _ _)).mono ?_
     rintro e w13 ⟨rfl, hY, hYl⟩
     replace c0 := loc_step hYl (by simp) c0
     replace hV := hY
     clear hY hYl
     go_wp2_with fail
     refine (calls_st hV (fun S1 h1 => rput_any _ _ _ _ _ _ h1 VS.u32_zero)).mono ?_
     rintro e w14 ⟨rfl, hY, hYl⟩
     replace c0 := loc_step hYl (by simp) c0
     replace hV := hY
     clear hY hYl
     go_wp2_with fail
     refine (calls_bl keepsRV hV (rfoot_any _ _ _ _ _)).mono ?_
     rintro e w15 ⟨rfl, hY, hYl⟩
     replace c0 := loc_step hYl (by simp) c0
     replace hV := hY
     clear hY hYl
     go_wp2_with fail
     refine (calls_st hV (HQ7.out _)).mono ?_
     rintro e w16 ⟨rfl, hY, hYl⟩
     replace c0 := loc_step hYl (by simp) c0
     replace hV := hY
     clear hY hYl
     go_wp2_with fail
     refine (calls_st hV (HAd.out _)).mono ?_
     rintro e w21 ⟨rfl, hY, hYl⟩
     replace c0 := loc_step hYl (by simp) c0
     replace hV := hY
     clear hY hYl
     go_wp2_with fail
     refine (calls_st hV (HGc.out _)).mono ?_
     rintro e w22 ⟨rfl, hY, hYl⟩
     replace c0 := loc_step hYl (by simp) c0
     replace hV := hY
     clear hY hYl
     go_wp2_with fail
     refine (calls_st hV (fun S1 h1 => rput_any _ _ _ _ _ _ h1 hU.out)).mono ?_
     rintro e w23 ⟨rfl, hY, hYl⟩
     replace c0 := loc_step hYl (by simp) c0
     replace hV := hY
     clear hY hYl
     go_wp2
     go_end0
     exact ⟨rfl, hV.done keepsRV⟩
    ·rw [if_pos (hbd2.2.2.2 hk2)]; dsimp only; clear hbd2
     generalize iK v2 = ik2 at *
     generalize iL v2 = il2 at *
     generalize iC v2 = ic2 at *
     have HAd := Lib.hid (fun (w : World) (S1 : Nat → Prop) (h1 : RV w b S1 s4) => radd_all b t p s (v - 1) (n + j1) w S1 s4 h1 hp)
     obtain ⟨s8, hs8⟩ : ∃ x, addG t p s (v - 1) (n + j1) s4 = x := ⟨_, rfl⟩
     rw [hs8] at HAd ⊢; clear hs8
     have hC : countF n s8 = (s8.get 0).2.put 0 (IntKind.u32.wrap ((s8.get 0).1 + n)) := rfl
     obtain ⟨vc, sc, hc⟩ : ∃ v s1, s8.get 0 = (v, s1) := ⟨_, _, rfl⟩
     have HGc := Lib.hid (rget_as (b := b) hc)
     rw [hC, hc]; dsimp only; clear hC hc
     have hU := Lib.hid (show VS.U32 (IntKind.u32.wrap (vc + n)) by unfold VS.U32; rw [IntKind.wrap_u32]; omega)
     obtain ⟨x, hx⟩ : ∃ x, x = IntKind.u32.wrap (vc + n) := ⟨_, rfl⟩
     rw [← hx] at hU ⊢
     have hx2 := hx.symm; clear hx
     go_enter Tryz.func54, Tryz.ntmps54
     go_wp2_with fail
     refine (calls_bl keepsRV hV (rfoot_any _ _ _ _ _)).mono ?_
     rintro e w1 ⟨rfl, hY, hYl⟩
     replace c0 := loc_step hYl (by simp) c0
     replace hV := hY
     clear hY hYl
     go_wp2_with fail
     refine (calls_st hV (HG.out _)).mono ?_
     rintro e w2 ⟨rfl, hY, hYl⟩
     replace c0 := loc_step hYl (by simp) c0
     replace hV := hY
     clear hY hYl
     go_wp2_with fail
     refine (calls_st hV (HI.out _)).mono ?_
     rintro e w3 ⟨rfl, hY, hYl⟩
     replace c0 := loc_step hYl (by simp) c0
     replace hV := hY
     clear hY hYl
     replace c0 := loc_old (.cells #[.int .i64 1, .int .i64 il, .int .i64 ic] 73) (hV.ls _ (by simp)).1 c0
     replace hV := hV.alloc keepsRV (.cells #[.int .i64 1, .int .i64 il, .int .i64 ic] 73)
     go_wp2_with fail
     refine (calls_st hV (HD1.out _)).mono ?_
     rintro e w4 ⟨rfl, hY, hYl⟩
     replace c0 := loc_step hYl (by simp) c0
     replace hV := hY
     clear hY hYl
     go_wp2_with fail
     refine (calls_bl keepsRV hV (rinfo_any _ _ _ _ _)).mono ?_
     rintro e w5 ⟨rfl, hY, hYl⟩
     replace c0 := loc_step hYl (by simp) c0
     replace hV := hY
     clear hY hYl
     go_wp2_with fail
     refine (calls_st hV (fun S1 h1 => rput_any _ _ _ _ _ _ h1 VS.u32_zero)).mono ?_
     rintro e w6 ⟨rfl, hY, hYl⟩
     replace c0 := loc_step hYl (by simp) c0
     replace hV := hY
     clear hY hYl
     go_wp2_with fail
     refine (calls_bl keepsRV hV (rfoot_any _ _ _ _ _)).mono ?_
     rintro e w7 ⟨rfl, hY, hYl⟩
     replace c0 := loc_step hYl (by simp) c0
     replace hV := hY
     clear hY hYl
     go_wp2_with fail
     refine (calls_st hV (HQ3.out _)).mono ?_
     rintro e w8 ⟨rfl, hY, hYl⟩
     replace c0 := loc_step hYl (by simp) c0
     replace hV := hY
     clear hY hYl
     go_wp2_with fail
     refine (calls_st hV (HI2.out _)).mono ?_
     rintro e w11 ⟨rfl, hY, hYl⟩
     replace c0 := loc_step hYl (by simp) c0
     replace hV := hY
     clear hY hYl
     replace c0 := loc_old (.cells #[.int .i64 ik2, .int .i64 il2, .int .i64 ic2] 73) (hV.ls _ (by simp)).1 c0
     replace hV := hV.alloc keepsRV (.cells #[.int .i64 ik2, .int .i64 il2, .int .i64 ic2] 73)
     go_wp2_with fail
     refine (calls_st hV (HAd.out _)).mono ?_
     rintro e w21 ⟨rfl, hY, hYl⟩
     replace c0 := loc_step hYl (by simp) c0
     replace hV := hY
     clear hY hYl
     go_wp2_with fail
     refine (calls_st hV (HGc.out _)).mono ?_
     rintro e w22 ⟨rfl, hY, hYl⟩
     replace c0 := loc_step hYl (by simp) c0
     replace hV := hY
     clear hY hYl
     go_wp2_with fail
     refine (calls_st hV (fun S1 h1 => rput_any _ _ _ _ _ _ h1 hU.out)).mono ?_
     rintro e w23 ⟨rfl, hY, hYl⟩
     replace c0 := loc_step hYl (by simp) c0
     replace hV := hY
     clear hY hYl
     go_wp2
     go_end0
     exact ⟨rfl, hV.done keepsRV⟩
   ·have hfo : foreF t p s (q + n) (n + j1) s3 = (n + j1, s3) := by unfold foreF; rw [if_neg hr]
    rw [hfo]; clear hfo; dsimp only
    have HAd := Lib.hid (fun (w : World) (S1 : Nat → Prop) (h1 : RV w b S1 s3) => radd_all b t p s (v - 1) (n + j1) w S1 s3 h1 hp)
    obtain ⟨s8, hs8⟩ : ∃ x, addG t p s (v - 1) (n + j1) s3 = x := ⟨_, rfl⟩
    rw [hs8] at HAd ⊢; clear hs8
    have hC : countF n s8 = (s8.get 0).2.put 0 (IntKind.u32.wrap ((s8.get 0).1 + n)) := rfl
    obtain ⟨vc, sc, hc⟩ : ∃ v s1, s8.get 0 = (v, s1) := ⟨_, _, rfl⟩
    have HGc := Lib.hid (rget_as (b := b) hc)
    rw [hC, hc]; dsimp only; clear hC hc
    have hU := Lib.hid (show VS.U32 (IntKind.u32.wrap (vc + n)) by unfold VS.U32; rw [IntKind.wrap_u32]; omega)
    obtain ⟨x, hx⟩ : ∃ x, x = IntKind.u32.wrap (vc + n) := ⟨_, rfl⟩
    rw [← hx] at hU ⊢
    have hx2 := hx.symm; clear hx
    go_enter Tryz.func54, Tryz.ntmps54
    go_wp2_with fail
    refine (calls_bl keepsRV hV (rfoot_any _ _ _ _ _)).mono ?_
    rintro e w1 ⟨rfl, hY, hYl⟩
    replace c0 := loc_step hYl (by simp) c0
    replace hV := hY
    clear hY hYl
    go_wp2_with fail
    refine (calls_st hV (HG.out _)).mono ?_
    rintro e w2 ⟨rfl, hY, hYl⟩
    replace c0 := loc_step hYl (by simp) c0
    replace hV := hY
    clear hY hYl
    go_wp2_with fail
    refine (calls_st hV (HI.out _)).mono ?_
    rintro e w3 ⟨rfl, hY, hYl⟩
    replace c0 := loc_step hYl (by simp) c0
    replace hV := hY
    clear hY hYl
    replace c0 := loc_old (.cells #[.int .i64 1, .int .i64 il, .int .i64 ic] 73) (hV.ls _ (by simp)).1 c0
    replace hV := hV.alloc keepsRV (.cells #[.int .i64 1, .int .i64 il, .int .i64 ic] 73)
    go_wp2_with fail
    refine (calls_st hV (HD1.out _)).mono ?_
    rintro e w4 ⟨rfl, hY, hYl⟩
    replace c0 := loc_step hYl (by simp) c0
    replace hV := hY
    clear hY hYl
    go_wp2_with fail
    refine (calls_bl keepsRV hV (rinfo_any _ _ _ _ _)).mono ?_
    rintro e w5 ⟨rfl, hY, hYl⟩
    replace c0 := loc_step hYl (by simp) c0
    replace hV := hY
    clear hY hYl
    go_wp2_with fail
    refine (calls_st hV (fun S1 h1 => rput_any _ _ _ _ _ _ h1 VS.u32_zero)).mono ?_
    rintro e w6 ⟨rfl, hY, hYl⟩
    replace c0 := loc_step hYl (by simp) c0
    replace hV := hY
    clear hY hYl
    go_wp2_with fail
    refine (calls_bl keepsRV hV (rfoot_any _ _ _ _ _)).mono ?_
    rintro e w7 ⟨rfl, hY, hYl⟩
    replace c0 := loc_step hYl (by simp) c0
    replace hV := hY
    clear hY hYl
    go_wp2_with fail
    refine (calls_st hV (HQ3.out _)).mono ?_
    rintro e w8 ⟨rfl, hY, hYl⟩
    replace c0 := loc_step hYl (by simp) c0
    replace hV := hY
    clear hY hYl
    go_wp2_with fail
    refine (calls_st hV (HAd.out _)).mono ?_
    rintro e w21 ⟨rfl, hY, hYl⟩
    replace c0 := loc_step hYl (by simp) c0
    replace hV := hY
    clear hY hYl
    go_wp2_with fail
    refine (calls_st hV (HGc.out _)).mono ?_
    rintro e w22 ⟨rfl, hY, hYl⟩
    replace c0 := loc_step hYl (by simp) c0
    replace hV := hY
    clear hY hYl
    go_wp2_with fail
    refine (calls_st hV (fun S1 h1 => rput_any _ _ _ _ _ _ h1 hU.out)).mono ?_
    rintro e w23 ⟨rfl, hY, hYl⟩
    replace c0 := loc_step hYl (by simp) c0
    replace hV := hY
    clear hY hYl
    go_wp2
    go_end0
    exact ⟨rfl, hV.done keepsRV⟩
  ·have e2 : bk = ((q, n), s2) := by
    by_cases hx : v - 1 < 0
    ·rw [if_pos hx] at hbk; rw [ofF_neg _ _ _ _ _ hx, get_neg] at hgi; obtain ⟨-, rfl⟩ := Prod.mk.inj hgi; exact hbk
    ·rw [if_neg hx, if_pos (hbd.2.2.2 hk)] at hbk; exact hbk
   subst e2; dsimp only; clear hbk hbd hgi
   generalize iK vi = ik at *
   generalize iL vi = il at *
   generalize iC vi = ic at *
   by_cases hr : q + n < p
   ·have hfo : foreF t p s (q + n) (n) s2 = (if (freeAt t p s (q + n) s2).1 = 0 then (n, (freeAt t p s (q + n) s2).2) else (n + (joinF t p s (q + n) (q + n) (freeAt t p s (q + n) s2).2).1, (joinF t p s (q + n) (q + n) (freeAt t p s (q + n) s2).2).2)) := by unfold foreF; rw [if_pos hr]
    rw [hfo]; clear hfo
    obtain ⟨v2, s4, hg2⟩ : ∃ v s4, s2.get (ofF t p s (q + n) 0) = (v, s4) := ⟨_, _, rfl⟩
    have HI2 := Lib.hid (xinfo_as (b := b) hg2)
    have hbd2 := freeV_bd v2
    rw [show freeAt t p s (q + n) s2 = (freeV v2, s4) by unfold freeAt; rw [hg2]]; dsimp only; clear hg2
    by_cases hk2 : iK v2 = 1
    ·rw [if_neg (by have := hbd2.2.2.1 hk2; omega)]
     rw [hk2] at HI2; clear hbd2 hk2
     generalize iL v2 = il2 at *
     generalize iC v2 = ic2 at *
     have hj2 := dropR_bd t p s (q + n) s4
     have HD := fun (w : World) (S1 : Nat → Prop) (h1 : RV w b S1 s4) => rdrop_any b t p s (q + n) w S1 s4 h1
     have hjo : joinF t p s (q + n) (q + n) s4 = ((dropF t p s (q + n) s4).1, ((dropF t p s (q + n) s4).2.put (ofF t p s (q + n) 0) 0).put (ofF t p s (q + n - 1) 1) 0) := rfl
     obtain ⟨j2, s5, hj⟩ : ∃ j s5, dropF t p s (q + n) s4 = (j, s5) := ⟨_, _, rfl⟩
     rw [hj] at hjo HD hj2; rw [hjo]; dsimp only at HD hj2 ⊢; clear hjo hj
     have HD2 := Lib.hid HD; clear HD
     have hw5 : IntKind.i64.wrap (n + j2) = n + j2 := wrap_in _ (by omega)
     obtain ⟨s7, hs7⟩ : ∃ x, (s5.put (ofF t p s (q + n) 0) 0).put (ofF t p s (q + n - 1) 1) 0 = x := ⟨_, rfl⟩
     have HP7 := fun (w : World) (S1 : Nat → Prop) (h1 : RV w b S1 (s5.put (ofF t p s (q + n) 0) 0)) => rput_any b (ofF t p s (q + n - 1) 1) 0 w S1 _ h1 VS.u32_zero
     rw [hs7] at HP7 ⊢; clear hs7; have HQ7 := Lib.hid HP7; clear HP7
     have HAd := Lib.hid (fun (w : World) (S1 : Nat → Prop) (h1 : RV w b S1 s7) => radd_all b t p s q (n + j2) w S1 s7 h1 hp)
     obtain ⟨s8, hs8⟩ : ∃ x, addG t p s q (n + j2) s7 = x := ⟨_, rfl⟩
     rw [hs8] at HAd ⊢; clear hs8
     have hC : countF n s8 = (s8.get 0).2.put 0 (IntKind.u32.wrap ((s8.get 0).1 + n)) := rfl
     obtain ⟨vc, sc, hc⟩ : ∃ v s1, s8.get 0 = (v, s1) := ⟨_, _, rfl⟩
     have HGc := Lib.hid (rget_as (b := b) hc)
     rw [hC, hc]; dsimp only; clear hC hc
     have hU := Lib.hid (show VS.U32 (IntKind.u32.wrap (vc + n)) by unfold VS.U32; rw [IntKind.wrap_u32]; omega)
     obtain ⟨x, hx⟩ : ∃ x, x = IntKind.u32.wrap (vc + n) := ⟨_, rfl⟩
     rw [← hx] at hU ⊢
     have hx2 := hx.symm; clear hx
     go_enter Tryz.func54, Tryz.ntmps54
     go_wp2_with fail
     refine (calls_bl keepsRV hV (rfoot_any _ _ _ _ _)).mono ?_
     rintro e w1 ⟨rfl, hY, hYl⟩
     replace c0 := loc_step hYl (by simp) c0
     replace hV := hY
     clear hY hYl
     go_wp2_with fail
     refine (calls_st hV (HG.out _)).mono ?_
     rintro e w2 ⟨rfl, hY, hYl⟩
     replace c0 := loc_step hYl (by simp) c0
     replace hV := hY
     clear hY hYl
     go_wp2_with fail
     refine (calls_st hV (HI.out _)).mono ?_
     rintro e w3 ⟨rfl, hY, hYl⟩
     replace c0 := loc_step hYl (by simp) c0
     replace hV := hY
     clear hY hYl
     replace c0 := loc_old (.cells #[.int .i64 ik, .int .i64 il, .int .i64 ic] 73) (hV.ls _ (by simp)).1 c0
     replace hV := hV.alloc keepsRV (.cells #[.int .i64 ik, .int .i64 il, .int .i64 ic] 73)
     go_wp2_with fail
     refine (calls_st hV (HI2.out _)).mono ?_
     rintro e w11 ⟨rfl, hY, hYl⟩
     replace c0 := loc_step hYl (by simp) c0
     replace hV := hY
     clear hY hYl
     replace c0 := loc_old (.cells #[.int .i64 1, .int .i64 il2, .int .i64 ic2] 73) (hV.ls _ (by simp)).1 c0
     replace hV := hV.alloc keepsRV (.cells #[.int .i64 1, .int .i64 il2, .int .i64 ic2] 73)
     go_wp2_with fail
     refine (calls_st hV (HD2.out _)).mono ?_
     rintro e w12 ⟨rfl, hY, hYl⟩
     replace c0 := loc_step hYl (by simp) c0
     replace hV := hY
     clear hY hYl
     go_wp2_with fail
     refine (calls_bl keepsRV hV (rinfo_any _ _ _ _ _)).mono ?_
     rintro e w13 ⟨rfl, hY, hYl⟩
     replace c0 := loc_step hYl (by simp) c0
     replace hV := hY
     clear hY hYl
     go_wp2_with fail
     refine (calls_st hV (fun S1 h1 => rput_any _ _ _ _ _ _ h1 VS.u32_zero)).mono ?_
     rintro e w14 ⟨rfl, hY, hYl⟩
     replace c0 := loc_step hYl (by simp) c0
     replace hV := hY
     clear hY hYl
     go_wp2_with fail
     refine (calls_bl keepsRV hV (rfoot_any _ _ _ _ _)).mono ?_
     rintro e w15 ⟨rfl, hY, hYl⟩
     replace c0 := loc_step hYl (by simp) c0
     replace hV := hY
     clear hY hYl
     go_wp2_with fail
     refine (calls_st hV (HQ7.out _)).mono ?_
     rintro e w16 ⟨rfl, hY, hYl⟩
     replace c0 := loc_step hYl (by simp) c0
     replace hV := hY
     clear hY hYl
     go_wp2_with fail
     refine (calls_st hV (HAd.out _)).mono ?_
     rintro e w21 ⟨rfl, hY, hYl⟩
     replace c0 := loc_step hYl (by simp) c0
     replace hV := hY
     clear hY hYl
     go_wp2_with fail
     refine (calls_st hV (HGc.out _)).mono ?_
     rintro e w22 ⟨rfl, hY, hYl⟩
     replace c0 := loc_step hYl (by simp) c0
     replace hV := hY
     clear hY hYl
     go_wp2_with fail
     refine (calls_st hV (fun S1 h1 => rput_any _ _ _ _ _ _ h1 hU.out)).mono ?_
     rintro e w23 ⟨rfl, hY, hYl⟩
     replace c0 := loc_step hYl (by simp) c0
     replace hV := hY
     clear hY hYl
     go_wp2
     go_end0
     exact ⟨rfl, hV.done keepsRV⟩
    ·rw [if_pos (hbd2.2.2.2 hk2)]; dsimp only; clear hbd2
     generalize iK v2 = ik2 at *
     generalize iL v2 = il2 at *
     generalize iC v2 = ic2 at *
     have HAd := Lib.hid (fun (w : World) (S1 : Nat → Prop) (h1 : RV w b S1 s4) => radd_all b t p s q (n) w S1 s4 h1 hp)
     obtain ⟨s8, hs8⟩ : ∃ x, addG t p s q (n) s4 = x := ⟨_, rfl⟩
     rw [hs8] at HAd ⊢; clear hs8
     have hC : countF n s8 = (s8.get 0).2.put 0 (IntKind.u32.wrap ((s8.get 0).1 + n)) := rfl
     obtain ⟨vc, sc, hc⟩ : ∃ v s1, s8.get 0 = (v, s1) := ⟨_, _, rfl⟩
     have HGc := Lib.hid (rget_as (b := b) hc)
     rw [hC, hc]; dsimp only; clear hC hc
     have hU := Lib.hid (show VS.U32 (IntKind.u32.wrap (vc + n)) by unfold VS.U32; rw [IntKind.wrap_u32]; omega)
     obtain ⟨x, hx⟩ : ∃ x, x = IntKind.u32.wrap (vc + n) := ⟨_, rfl⟩
     rw [← hx] at hU ⊢
     have hx2 := hx.symm; clear hx
     go_enter Tryz.func54, Tryz.ntmps54
     go_wp2_with fail
     refine (calls_bl keepsRV hV (rfoot_any _ _ _ _ _)).mono ?_
     rintro e w1 ⟨rfl, hY, hYl⟩
     replace c0 := loc_step hYl (by simp) c0
     replace hV := hY
     clear hY hYl
     go_wp2_with fail
     refine (calls_st hV (HG.out _)).mono ?_
     rintro e w2 ⟨rfl, hY, hYl⟩
     replace c0 := loc_step hYl (by simp) c0
     replace hV := hY
     clear hY hYl
     go_wp2_with fail
     refine (calls_st hV (HI.out _)).mono ?_
     rintro e w3 ⟨rfl, hY, hYl⟩
     replace c0 := loc_step hYl (by simp) c0
     replace hV := hY
     clear hY hYl
     replace c0 := loc_old (.cells #[.int .i64 ik, .int .i64 il, .int .i64 ic] 73) (hV.ls _ (by simp)).1 c0
     replace hV := hV.alloc keepsRV (.cells #[.int .i64 ik, .int .i64 il, .int .i64 ic] 73)
     go_wp2_with fail
     refine (calls_st hV (HI2.out _)).mono ?_
     rintro e w11 ⟨rfl, hY, hYl⟩
     replace c0 := loc_step hYl (by simp) c0
     replace hV := hY
     clear hY hYl
     replace c0 := loc_old (.cells #[.int .i64 ik2, .int .i64 il2, .int .i64 ic2] 73) (hV.ls _ (by simp)).1 c0
     replace hV := hV.alloc keepsRV (.cells #[.int .i64 ik2, .int .i64 il2, .int .i64 ic2] 73)
     go_wp2_with fail
     refine (calls_st hV (HAd.out _)).mono ?_
     rintro e w21 ⟨rfl, hY, hYl⟩
     replace c0 := loc_step hYl (by simp) c0
     replace hV := hY
     clear hY hYl
     go_wp2_with fail
     refine (calls_st hV (HGc.out _)).mono ?_
     rintro e w22 ⟨rfl, hY, hYl⟩
     replace c0 := loc_step hYl (by simp) c0
     replace hV := hY
     clear hY hYl
     go_wp2_with fail
     refine (calls_st hV (fun S1 h1 => rput_any _ _ _ _ _ _ h1 hU.out)).mono ?_
     rintro e w23 ⟨rfl, hY, hYl⟩
     replace c0 := loc_step hYl (by simp) c0
     replace hV := hY
     clear hY hYl
     go_wp2
     go_end0
     exact ⟨rfl, hV.done keepsRV⟩
   ·have hfo : foreF t p s (q + n) (n) s2 = (n, s2) := by unfold foreF; rw [if_neg hr]
    rw [hfo]; clear hfo; dsimp only
    have HAd := Lib.hid (fun (w : World) (S1 : Nat → Prop) (h1 : RV w b S1 s2) => radd_all b t p s q (n) w S1 s2 h1 hp)
    obtain ⟨s8, hs8⟩ : ∃ x, addG t p s q (n) s2 = x := ⟨_, rfl⟩
    rw [hs8] at HAd ⊢; clear hs8
    have hC : countF n s8 = (s8.get 0).2.put 0 (IntKind.u32.wrap ((s8.get 0).1 + n)) := rfl
    obtain ⟨vc, sc, hc⟩ : ∃ v s1, s8.get 0 = (v, s1) := ⟨_, _, rfl⟩
    have HGc := Lib.hid (rget_as (b := b) hc)
    rw [hC, hc]; dsimp only; clear hC hc
    have hU := Lib.hid (show VS.U32 (IntKind.u32.wrap (vc + n)) by unfold VS.U32; rw [IntKind.wrap_u32]; omega)
    obtain ⟨x, hx⟩ : ∃ x, x = IntKind.u32.wrap (vc + n) := ⟨_, rfl⟩
    rw [← hx] at hU ⊢
    have hx2 := hx.symm; clear hx
    go_enter Tryz.func54, Tryz.ntmps54
    go_wp2_with fail
    refine (calls_bl keepsRV hV (rfoot_any _ _ _ _ _)).mono ?_
    rintro e w1 ⟨rfl, hY, hYl⟩
    replace c0 := loc_step hYl (by simp) c0
    replace hV := hY
    clear hY hYl
    go_wp2_with fail
    refine (calls_st hV (HG.out _)).mono ?_
    rintro e w2 ⟨rfl, hY, hYl⟩
    replace c0 := loc_step hYl (by simp) c0
    replace hV := hY
    clear hY hYl
    go_wp2_with fail
    refine (calls_st hV (HI.out _)).mono ?_
    rintro e w3 ⟨rfl, hY, hYl⟩
    replace c0 := loc_step hYl (by simp) c0
    replace hV := hY
    clear hY hYl
    replace c0 := loc_old (.cells #[.int .i64 ik, .int .i64 il, .int .i64 ic] 73) (hV.ls _ (by simp)).1 c0
    replace hV := hV.alloc keepsRV (.cells #[.int .i64 ik, .int .i64 il, .int .i64 ic] 73)
    go_wp2_with fail
    refine (calls_st hV (HAd.out _)).mono ?_
    rintro e w21 ⟨rfl, hY, hYl⟩
    replace c0 := loc_step hYl (by simp) c0
    replace hV := hY
    clear hY hYl
    go_wp2_with fail
    refine (calls_st hV (HGc.out _)).mono ?_
    rintro e w22 ⟨rfl, hY, hYl⟩
    replace c0 := loc_step hYl (by simp) c0
    replace hV := hY
    clear hY hYl
    go_wp2_with fail
    refine (calls_st hV (fun S1 h1 => rput_any _ _ _ _ _ _ h1 hU.out)).mono ?_
    rintro e w23 ⟨rfl, hY, hYl⟩
    replace c0 := loc_step hYl (by simp) c0
    replace hV := hY
    clear hY hYl
    go_wp2
    go_end0
    exact ⟨rfl, hV.done keepsRV⟩
end Go.Proofs.YtnagdljgeglceaaGreat
