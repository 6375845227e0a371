/- view: Vals; the document's Vals. -/
import Derived.Test.YtcicmljnjdhkjaaGreatBSt
namespace Go.Proofs.YtcicmljnjdhkjaaGreat
open Go.RowKit

/-- two rows of values are held against one another. -/
def ValsRel (a b : List Int) (w : World) (i : Value) (wr : World) : Prop := ∃ k : Nat, k ≤ a.length ∧ i = .int .i64 k ∧ (∀ j, j < k → a[j]? = b[j]?) ∧ Below w.heap.size w wr

/-- the values behind k writes. -/
def setN (vals : List Int) (ws : List (Nat × Int)) (k : Nat) : List Int := (ws.take k).foldl (fun l x => l.set x.1 x.2) vals
theorem setN_len (vals : List Int) (ws : List (Nat × Int)) (k : Nat) : (setN vals ws k).length = vals.length := by
  unfold setN
  generalize ws.take k = l
  induction l generalizing vals with
  | nil => rfl
  | cons x l ih => simp [ih]
theorem setN_step {vals : List Int} {ws : List (Nat × Int)} {k : Nat} {x : Nat × Int} (h : ws[k]? = some x) : setN vals ws (k + 1) = (setN vals ws k).set x.1 x.2 := by
  unfold setN
  rw [List.take_add_one, h]
  simp [List.foldl_append]

structure VaRel (w : World) (n : Nat) (vals : List Int) (ws : List (Nat × Int)) (v18 : Value) (wr : World) (k : Nat) (g c : Nat) : Prop where
  hk : v18 = .int .i64 k
  le : k ≤ ws.length
  row : wr.ownsRow 0 37 1 (.slice (some ⟨g, 0, none⟩) n c) n (uints (setN vals ws k))
  far : w.heap.size ≤ g
  bel : Below w.heap.size w wr
def VaRelE (w : World) (n : Nat) (vals : List Int) (ws : List (Nat × Int)) (g c : Nat) (v18 : Value) (wr : World) : Prop := ∃ k, VaRel w n vals ws v18 wr k g c

/-- what Vals answers: a row of its own. -/
def ValsP (w : World) (l : List Int) (e : Ending) (w' : World) : Prop :=
  ∃ v, e = .returned v ∧ w'.ownsRow 0 37 1 v l.length (uints l) ∧ (∀ k, v.ownBlock = some k → w.heap.size ≤ k) ∧ Below w.heap.size w w'

set_option maxHeartbeats 1000000 in
set_option maxRecDepth 100000 in
theorem vals_any (b : Nat) (w : World) (S : Nat → Prop) (s : VS) (h : PV w b S s) (hn : 0 < s.n) (hn2 : s.n ≤ 1000000) :
    ∃ vals : List Int, vals.length = s.n ∧ (∀ i, i < s.n → s.known i = vals[i]?) ∧ Calls Tryz.prog 36 #[.pointer (some ⟨b, 0, none⟩)] w (ValsP w (setN vals s.writes s.writes.length)) := by
  obtain ⟨fv, wv, rv, pv, rd, pt, hv⟩ := h
  obtain ⟨sv, vals, rfl, hrow, hkn, -, rfl⟩ := hv.src
  have hlen : vals.length = s.n := by have := hrow.1; simpa using this
  refine ⟨vals, hlen, hkn, ?_⟩
  have h2 := hv.cell 2
  have h6 := hv.cell 6
  simp at h2 h6
  have hwl := hv.inv.writes_le
  have hwlt := hv.inv.wlt
  have HC := Lib.hid (cloneList wv s.n (uints vals) w (Rd.of_row (by simpa [uints] using hrow)) (by intro u hu; obtain ⟨x, -, rfl⟩ := List.mem_map.1 hu; rfl) (by omega))
  have HPr := Lib.hid hv.pr
  have HSl := Lib.hid (setN_len vals s.writes)
  obtain ⟨pa, pc, rfl⟩ := row_shape hv.pr
  have HWl := Lib.hid hwlt
  clear hv hkn hrow hwlt
  go_enter Tryz.func36, Tryz.ntmps36
  go_wp2_with fail
  refine HC.out.mono ?_
  rintro e w1 ⟨sv, rfl, hown, hnew, hb⟩
  obtain ⟨g, cap, rfl⟩ := Joins.ownsRow_form hown hn
  have hg := hnew g rfl
  have HO := Lib.hid hown
  have c2 := (hb.cell (World.block_lt_of_cell? _ _ h2)).trans h2
  have c6 := (hb.cell (World.block_lt_of_cell? _ _ h6)).trans h6
  clear hown hnew h2 h6
  go_wp2_with fail
  go_loopw [5, 18] (fun _ v18 wr => VaRelE w s.n vals s.writes g cap v18 wr) (fun _ v18 _ => s.writes.length - (intOf v18).toNat)
  case atStart => exact ⟨0, rfl, Nat.zero_le _, by simpa [setN] using HO.out, hg, hb⟩
  case round =>
    obtain ⟨k, rfl, hle, hrow, hfar, hbel⟩ := hrel
    have HRow := Lib.hid hrow
    have HBel := Lib.hid hbel
    clear c2 c6 hb HO
    by_cases hlt : k < s.writes.length
    · obtain ⟨⟨i, u⟩, hx⟩ : ∃ x, s.writes[k]? = some x := ⟨_, List.getElem?_eq_getElem hlt⟩
      have hin := HWl.out _ (List.mem_of_getElem? hx)
      obtain ⟨gp, cp, hgp⟩ := Joins.ownsRow_form HPr.out (by omega)
      simp only [Value.slice.injEq, true_and] at hgp
      obtain ⟨rfl, rfl⟩ := hgp
      obtain ⟨p1, p2⟩ := pair_cell hx
      have q1' := (HPr.out.cellAt (k * 2) (by omega)).trans p1
      have q2' := (HPr.out.cellAt (k * 2 + 1) (by omega)).trans p2
      have q1 := (HBel.out.cell (World.block_lt_of_cell? _ _ q1')).trans q1'
      have q2 := (HBel.out.cell (World.block_lt_of_cell? _ _ q2')).trans q2'
      have hst := setN_step (vals := vals) hx
      have HSt := Lib.hid hst
      have hro := HRow.out.alloc (.cells #[.int .i64 i, .int .u32 u] 119)
      have hsl2 := HSl.out k
      have hci := hro.cellAt i (by omega)
      obtain ⟨z, hz⟩ : ∃ z, (uints (setN vals s.writes k))[i]? = some z := ⟨_, List.getElem?_eq_getElem (by simp [uints, hsl2]; omega)⟩
      rw [hz] at hci
      have hfi := hro.frozenAt i
      simp only at hin
      have HRo := Lib.hid hro
      clear p1 p2 q1' q2' hx hst hro hz
      go_wp2_with fail
      go_roundw
      case rel =>
        have hs := (HRo.out.stored i (.int .u32 u)).1
        refine ⟨k + 1, by go_num, by omega, ?_, hfar, (HBel.out.alloc HBel.out.size _).setCell hfar _⟩
        have e : (uints (setN vals s.writes k)).set i (.int .u32 u) = uints (setN vals s.writes (k + 1)) := by rw [HSt.out]; simp [uints, List.map_set]
        rw [← e]
        exact hs
      case measure => simp [intOf]; omega
    · obtain rfl : k = s.writes.length := by omega
      go_wp2
      go_ret
      refine ⟨_, rfl, by rw [HSl.out, hlen]; exact HRow.out, fun j hj => ?_, HBel.out⟩
      simp [Value.ownBlock] at hj
      omega
end Go.Proofs.YtcicmljnjdhkjaaGreat
