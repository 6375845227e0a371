/- parts of the proof, merged by a program. -/
import Derived.Test.YtnagdljgeglceaaGreatMpf1
import Derived.Test.YtnagdljgeglceaaGreatMpf7
import Derived.ProofKit
import Derived.OpenShut
import Derived.Deep.Slices
import Derived.Laws.AppendOwnNone
import Derived.ChangeMaps
set_option linter.unusedSimpArgs false
set_option linter.unusedVariables false
/- the document's audit: Sound, Live, Parts, State of values that are a heap. -/
set_option linter.unusedSimpArgs false
set_option linter.unusedVariables false
namespace Go.Proofs.YtnagdljgeglceaaGreat
open Go.RowKit
section
variable {t p s : Int} {ad : Addr} {n c : Nat} {vs : List Int}

theorem rsound_any (c : Nat) (w : World) (h : XV w t p s ad n vs) :
 Calls Tryz.prog 8 #[.agg #[.int .i64 t, .int .i64 p, .int .i64 s], .slice (some ad) n c] w fun e w' => e = .returned (.bool (chkF vs t p s).2) ∧ Below w.heap.size w w' := by
 have H := Lib.hid (fun w (h : XV w t p s ad n vs) => rcheck_any c w h)
 have h2 := h.keep ((Below.refl _ _).alloc (Nat.le_refl _) (.cells #[.int .i64 t, .int .i64 p, .int .i64 s] 23))
 have HV := Lib.hid h
 have HV2 := Lib.hid h2
 generalize chkF vs t p s = r at *
 clear h h2
 go_enter Tryz.func8, Tryz.ntmps8
 go_wp2_with fail
 refine (H.out _ (by first | exact HV.out | exact HV2.out)).mono ?_
 rintro e w1 ⟨rfl, hb⟩
 go_wp2
 go_ret
 refine ⟨rfl, ?_⟩
 (repeat (first | exact Below.refl _ _ | assumption | refine Below.setCell ?_ (by first | omega | (simp; done) | (simp; omega)) _ | refine Below.alloc ?_ (by first | omega | (simp; done) | (simp; omega)) _ | refine Below.drew ?_ | refine Below.trans ?_ (Below.mono ‹Below _ _ _› (by first | omega | (simp; done) | (simp; omega)))))

theorem rparts_any (c : Nat) (w : World) (h : XV w t p s ad n vs) (hs : (chkF vs t p s).2 = true) :
 Calls Tryz.prog 40 #[.agg #[.int .i64 t, .int .i64 p, .int .i64 s], .slice (some ad) n c] w fun e w' => ∃ v, e = .returned v ∧ RowQ w (partsF vs t p s) v w' := by
 have H := Lib.hid (fun w (h : XV w t p s ad n vs) => rsound_any c w h)
 rw [hs] at H
 have HB := Lib.hid (fun w (h : XV w t p s ad n vs) => parts_any c w h)
 have h2 := h.keep ((Below.refl _ _).alloc (Nat.le_refl _) (.cells #[.int .i64 t, .int .i64 p, .int .i64 s] 23))
 have HV2 := Lib.hid h2
 generalize partsF vs t p s = l at *
 have c0 := loc_alloc w #[.int .i64 t, .int .i64 p, .int .i64 s] 23
 have S0 := ((BS.start w).alloc (.cells #[.int .i64 t, .int .i64 p, .int .i64 s] 23))
 have HV := Lib.hid h
 clear h hs h2
 go_enter Tryz.func40, Tryz.ntmps40
 go_wp2_with fail
 refine (calls_b S0 (H.out _ HV2.out)).mono ?_
 rintro e w1 ⟨rfl, S1, S1l⟩
 have c1 := loc_step S1l (by simp) c0
 clear S1l
 have HVa := Lib.hid ((HV.out.keep S1.bel).keep ((Below.refl _ _).alloc (Nat.le_refl _) (.cells #[.int .i64 t, .int .i64 p, .int .i64 s, .slice (some ad) n c] 114)))
 have S2 := S1.alloc (.cells #[.int .i64 t, .int .i64 p, .int .i64 s, .slice (some ad) n c] 114)
 go_wp2_with fail
 refine (HB.out _ HVa.out).mono ?_
 rintro e w2 ⟨v, rfl, hr, hf, hb⟩
 go_wp2
 go_ret
 exact ⟨v, rfl, hr, fun k hk => Nat.le_trans S2.bel.size (hf k hk), S2.bel.trans (hb.mono S2.bel.size)⟩


def rootV (vs : List Int) (k i : Nat) : Value := .int .i64 (if i < k then vs.getD (22 + i) 0 else 0)
def stateC (lv : Value) (vs : List Int) (k : Nat) : Array Value := #[lv, rootV vs k 0, rootV vs k 1, rootV vs k 2, rootV vs k 3, rootV vs k 4, rootV vs k 5, rootV vs k 6, rootV vs k 7]
structure StateR (w : World) (l : List (Int × Int)) (v : Value) (vs : List Int) (g : Nat) (wr : World) (k : Nat) : Prop where
 le : k ≤ 8
 box : BA w [w.heap.size + 1, w.heap.size] g (stateC v vs k) 36 wr
 res : wr.heap[w.heap.size + 1]? = some (.cells #[.slice none 0 0, .int .i64 0, .int .i64 0, .int .i64 0, .int .i64 0, .int .i64 0, .int .i64 0, .int .i64 0, .int .i64 0] 36)
 row : wr.ownsRow 0 86 2 v l.length (blockCells l)
 far : ∀ k, v.ownBlock = some k → w.heap.size + 2 ≤ k ∧ k < g
theorem StateR.below {w wr w' : World} {l : List (Int × Int)} {v : Value} {g k : Nat} (h : StateR w l v vs g wr k) (hb : Below wr.heap.size wr w') : StateR w l v vs g w' k := by
 obtain ⟨h1, h2, h3, h4, h5⟩ := h
 refine ⟨h1, ⟨h2.bs.below hb, (hb.block g (h2.bs.ls g (by simp)).1).trans h2.box, h2.ne⟩, (hb.block _ (h2.bs.ls (w.heap.size + 1) (by simp)).1).trans h3, ((BS.start _).below hb).row h4, h5⟩
theorem stateC_step (v : Value) (vs : List Int) (k : Nat) (hk : k < 8) : (stateC v vs k).setIfInBounds (1 + k) (.int .i64 (vs.getD (22 + k) 0)) = stateC v vs (k + 1) := by
 rcases (by omega : k = 0 ∨ k = 1 ∨ k = 2 ∨ k = 3 ∨ k = 4 ∨ k = 5 ∨ k = 6 ∨ k = 7) with rfl | rfl | rfl | rfl | rfl | rfl | rfl | rfl <;> simp [stateC, rootV]
theorem StateR.step {w wr : World} {l : List (Int × Int)} {v : Value} {g k : Nat} (h : StateR w l v vs g wr k) (hk : k < 8) : StateR w l v vs g (wr.setCell ⟨g, 1 + k, none⟩ (.int .i64 (vs.getD (22 + k) 0))) (k + 1) := by
 obtain ⟨h1, h2, h3, h4, h5⟩ := h
 refine ⟨by omega, ?_, h2.hloc (by simp) _ _ h3, ownsRow_block h4 (fun b hb => heap_setCell_other (by have := h5 b hb; omega)), h5⟩
 have := h2.set (1 + k) (.int .i64 (vs.getD (22 + k) 0))
 rwa [stateC_step v vs k hk] at this
end
end Go.Proofs.YtnagdljgeglceaaGreat
/- the plain law of AuditTiles: parts of a heap stand one behind the other. -/
set_option linter.unusedSimpArgs false
set_option linter.unusedVariables false
namespace Go.Proofs.YtnagdljgeglceaaGreat
open Go.RowKit
/-- where parts end that begin at a. -/
def endA (a : Int) : List (Int × Int × Int) → Int
 | [] => a
 | x :: l => endA (a + x.2.2) l
/-- parts stand one behind the other, from a on. -/
def chainA (a : Int) : List (Int × Int × Int) → Prop
 | [] => True
 | x :: l => (x.2.1 = a ∧ 1 ≤ x.2.2 ∧ 1 ≤ x.1 ∧ x.1 ≤ 5) ∧ chainA (a + x.2.2) l
theorem endA_app : ∀ (l m : List (Int × Int × Int)) (a : Int), endA a (l ++ m) = endA (endA a l) m
 | [], _, _ => rfl
 | x :: l, m, a => by
  show endA (a + x.2.2) (l ++ m) = endA (endA (a + x.2.2) l) m
  exact endA_app l m _
theorem chainA_app : ∀ (l m : List (Int × Int × Int)) (a : Int), chainA a l → chainA (endA a l) m → chainA a (l ++ m)
 | [], _, _, _, h => h
 | _ :: l, m, _, h1, h2 => ⟨h1.1, chainA_app l m _ h1.2 h2⟩
section
variable {vs : List Int} {t s : Int} {P : Nat}
theorem inf_slab (v : Int) (h : iK v = 3) : iL v = 1 := by
 unfold iK at h
 split at h
 ·rename_i ho
  have h2 := ho
  unfold okI rightI at h2
  rw [if_neg (by omega), if_neg (by omega), if_pos h] at h2
  simp at h2
  unfold iL
  rw [if_pos ho]
  exact h2.1.1
 ·omega
theorem slab_chain (q k : Int) (hz : 1 ≤ sizeF s k) : ∀ b : Nat, chainA ((q + 1) * pageF s) (slabL vs t s q k b) ∧ endA ((q + 1) * pageF s) (slabL vs t s q k b) = (q + 1) * pageF s + (b : Int) * sizeF s k
 | 0 => ⟨trivial, by simp [slabL, endA]⟩
 | b + 1 => by
  obtain ⟨i1, i2⟩ := slab_chain q k hz b
  have hk : 1 ≤ kindF (bitB (gv vs t q 4) b) (bitB (gv vs t q 5) b) ∧ kindF (bitB (gv vs t q 4) b) (bitB (gv vs t q 5) b) ≤ 5 := by
   unfold kindF; split <;> (try split) <;> omega
  have e : ((b + 1 : Nat) : Int) * sizeF s k = (b : Int) * sizeF s k + sizeF s k := by rw [Int.natCast_add, Int.add_mul]; simp
  refine ⟨chainA_app _ _ _ i1 ?_, ?_⟩
  ·rw [i2]
   exact ⟨⟨rfl, hz, hk.1, hk.2⟩, trivial⟩
  ·show endA _ (slabL vs t s q k b ++ _) = _
   rw [endA_app, i2, e]
   simp [endA]
   omega
theorem slabF_chain (q k : Int) (hs : 10 ≤ s ∧ s ≤ 20) (h0 : 0 ≤ k) (h8 : k ≤ 8) : chainA ((q + 1) * pageF s) (slabF vs t s q k) ∧ endA ((q + 1) * pageF s) (slabF vs t s q k) = (q + 1) * pageF s + pageF s := by
 have hk1 : 1 ≤ slotsF k := by
  rcases (by omega : k = 0 ∨ k = 1 ∨ k = 2 ∨ k = 3 ∨ k = 4 ∨ k = 5 ∨ k = 6 ∨ k = 7 ∨ k = 8) with rfl | rfl | rfl | rfl | rfl | rfl | rfl | rfl | rfl <;> decide
 obtain ⟨z1, z2, z3, z4, -⟩ := size_bd (s := s) (k := k) hs
 have z5 := z4 (by omega)
 obtain ⟨c1, c2⟩ := slab_chain (vs := vs) (t := t) q k z5 (slotsF k).toNat
 have en : (((slotsF k).toNat : Nat) : Int) = slotsF k := by omega
 rw [en] at c2
 have hr : restF s k = pageF s - sizeF s k * slotsF k := rfl
 have hm : slotsF k * sizeF s k = sizeF s k * slotsF k := Int.mul_comm _ _
 unfold slabF
 by_cases h : 0 < restF s k
 ·rw [if_pos h]
  refine ⟨chainA_app _ _ _ c1 ?_, ?_⟩
  ·rw [c2]
   refine ⟨⟨?_, (show (1 : Int) ≤ restF s k by omega), (show (1 : Int) ≤ 5 by decide), (show (5 : Int) ≤ 5 by decide)⟩, trivial⟩
   show addrF s q (pageF s - restF s k) = _
   unfold addrF
   omega
  ·rw [endA_app, c2]
   simp only [endA]
   omega
 ·rw [if_neg h, List.append_nil]
  exact ⟨c1, by rw [c2]; omega⟩
theorem parts_chain (h : allN (pgB vs t P) P = true) (hs : 10 ≤ s ∧ s ≤ 20) : ∀ k, k ≤ P → chainA (pageF s) (partsL vs t s k) ∧ ∃ j : Int, (j = nxN vs t k ∨ k = 0 ∧ j = 0) ∧ endA (pageF s) (partsL vs t s k) = (j + 1) * pageF s
 | 0, _ => ⟨trivial, 0, Or.inr ⟨rfl, rfl⟩, by simp [partsL, endA]⟩
 | k + 1, hk => by
  obtain ⟨i1, j, hj, i2⟩ := parts_chain h hs k (by omega)
  have hj2 : j = nxN vs t k := by
   rcases hj with hj | ⟨rfl, rfl⟩
   ·exact hj
   ·rfl
  have hK := st_kind h (show k < P by omega)
  have hb := inf_bd (gv vs t k 0)
  have hp := pageF_bd hs
  by_cases hst : stB vs t k = true
  ·have hK0 := hK.1 hst
   obtain ⟨s1, s2, s3, s4⟩ := st_at h (by omega) hst
   have hjk : j = k := by omega
   have hq : chainA (((k : Int) + 1) * pageF s) (partQ vs t s k) ∧ endA (((k : Int) + 1) * pageF s) (partQ vs t s k) = ((k : Int) + 1) * pageF s + iL (gv vs t k 0) * pageF s := by
    unfold partQ
    by_cases h12 : iK (gv vs t k 0) = 1 ∨ iK (gv vs t k 0) = 2
    ·rw [if_pos h12]
     have hm := Int.mul_le_mul_of_nonneg_right s2 (show 0 ≤ pageF s by omega)
     rw [Int.one_mul] at hm
     refine ⟨⟨⟨?_, (show (1 : Int) ≤ iL (gv vs t k 0) * pageF s by omega), (show (1 : Int) ≤ iK (gv vs t k 0) by omega), (show iK (gv vs t k 0) ≤ 5 by omega)⟩, trivial⟩, rfl⟩
     show addrF s k 0 = _
     unfold addrF
     omega
    ·rw [if_neg h12, if_pos (by omega), inf_slab _ (by omega)]
     have := slabF_chain (vs := vs) (t := t) (k : Int) (iC (gv vs t k 0)) hs hb.2.2.2.2.1 hb.2.2.2.2.2.1
     refine ⟨this.1, ?_⟩
     rw [this.2]
     omega
   refine ⟨chainA_app _ _ _ i1 (by rw [i2, hjk]; exact hq.1), nxN vs t (k + 1), Or.inl rfl, ?_⟩
   show endA _ (partsL vs t s k ++ partQ vs t s k) = _
   rw [endA_app, i2, hjk, hq.2, s4]
   have : ((k : Int) + iL (gv vs t k 0) + 1) * pageF s = ((k : Int) + 1) * pageF s + iL (gv vs t k 0) * pageF s := by rw [← Int.add_mul]; congr 1; omega
   omega
  ·have hK0 : iK (gv vs t k 0) = 0 := Classical.byContradiction fun hn => hst (hK.2 hn)
   have hQ : partQ vs t s k = [] := by unfold partQ; rw [if_neg (by omega), if_neg (by omega)]
   have en : nxN vs t (k + 1) = nxN vs t k := by rw [nxN, if_pos (by simpa [stB] using hst)]
   refine ⟨?_, j, Or.inl (by rw [en]; exact hj2), ?_⟩
   ·show chainA _ (partsL vs t s k ++ partQ vs t s k)
    rw [hQ, List.append_nil]; exact i1
   ·show endA _ (partsL vs t s k ++ partQ vs t s k) = _
    rw [hQ, List.append_nil]; exact i2
theorem parts_tile (h : tilesF vs t P = true) (hP : 0 < P) (hs : 10 ≤ s ∧ s ≤ 20) : chainA (pageF s) (partsF vs t P s) ∧ endA (pageF s) (partsF vs t P s) = ((P : Int) + 1) * pageF s := by
 obtain ⟨c1, j, hj, c2⟩ := parts_chain (s := s) (tiles_pg h) hs P (Nat.le_refl _)
 have hst := tiles_starts h
 have hend : nxN vs t P = P := by
  unfold tilesF at h
  rw [hst] at h
  simp only [Bool.and_eq_true, beq_iff_eq] at h
  exact h.1
 unfold partsF
 rw [Int.toNat_natCast]
 refine ⟨c1, ?_⟩
 rw [c2]
 rcases hj with hj | ⟨h0, -⟩
 ·rw [hj, hend]
 ·omega
end
end Go.Proofs.YtnagdljgeglceaaGreat
/- pockets that fit a heap: plain law. -/
set_option linter.unusedSimpArgs false
set_option linter.unusedVariables false
namespace Go.Proofs.YtnagdljgeglceaaGreat

def delK (m : List (Int × Int)) (k : Int) : List (Int × Int) := match look m k 0 with
 | some (i, _) => m.eraseIdx i
 | none => m

theorem look_none {k : Int} : ∀ {m : List (Int × Int)} {i : Nat}, (∀ q ∈ m, q.1 ≠ k) → look m k i = none
 | [], _, _ => rfl
 | p :: r, i, h => by
  unfold look
  rw [if_neg (h p (by simp))]
  exact look_none fun q hq => h q (by simp [hq])
theorem look_some {k v : Int} : ∀ {m : List (Int × Int)} {i : Nat}, (m.map (·.1)).Nodup → (k, v) ∈ m → ∃ j, look m k i = some (i + j, v) ∧ m[j]? = some (k, v)
 | [], _, _, h => by simp at h
 | p :: r, i, hn, h => by
  simp only [List.map_cons, List.nodup_cons] at hn
  rcases List.mem_cons.1 h with rfl | h
  ·exact ⟨0, by simp [look], by simp⟩
  ·have hp : p.1 ≠ k := fun e => hn.1 (by rw [e]; exact List.mem_map.2 ⟨_, h, rfl⟩)
   obtain ⟨j, h1, h2⟩ := look_some (i := i + 1) hn.2 h
   refine ⟨j + 1, ?_, by simpa using h2⟩
   unfold look
   rw [if_neg hp, h1]
   simp; omega
theorem assoc_iff {m : List (Int × Int)} (hn : (m.map (·.1)).Nodup) (hp : ∀ q ∈ m, 0 < q.2) {a z : Int} (hz : 0 < z) : (assoc m a).getD 0 = z ↔ (a, z) ∈ m := by
 unfold assoc
 constructor
 ·intro h
  cases hl : look m a 0 with
  | none => rw [hl] at h; simp at h; omega
  | some x =>
   obtain ⟨j, v⟩ := x
   rw [hl] at h
   simp at h
   subst h
   obtain ⟨-, -, h3⟩ := look_lt hl
   exact List.mem_of_getElem? h3
 ·intro h
  obtain ⟨j, h1, -⟩ := look_some (i := 0) hn h
  rw [h1]; rfl
theorem eraseIdx_perm {α : Type} : ∀ {m : List α} {j : Nat} {q : α}, m[j]? = some q → m.Perm (q :: m.eraseIdx j)
 | [], _, _, h => by simp at h
 | p :: r, 0, q, h => by simp at h; subst h; simp
 | p :: r, j + 1, q, h => by
  have := eraseIdx_perm (m := r) (j := j) (q := q) (by simpa using h)
  rw [List.eraseIdx_cons_succ]
  exact (this.cons p).trans (List.Perm.swap _ _ _)
theorem delK_perm {m : List (Int × Int)} (hn : (m.map (·.1)).Nodup) {a z : Int} (h : (a, z) ∈ m) : m.Perm ((a, z) :: delK m a) := by
 obtain ⟨j, h1, h2⟩ := look_some (i := 0) hn h
 unfold delK
 rw [h1, Nat.zero_add]
 exact eraseIdx_perm h2

/-! ### the program's way -/
def takeL (z : Int) : List Int → List (Int × Int) → Option (List (Int × Int))
 | [], m => some m
 | a :: l, m => if (assoc m a).getD 0 = z then takeL z l (delK m a) else none
def takeP (sz : Nat → Int) : Nat → List (List Int) → List (Int × Int) → Option (List (Int × Int))
 | _, [], m => some m
 | k, l :: r, m => if l.length ≤ 4 then (takeL (sz k) l m).bind (takeP sz (k + 1) r) else none
def takeA (sz : Nat → Int) : List (List (List Int)) → List (Int × Int) → Option (List (Int × Int))
 | [], m => some m
 | p :: r, m => (takeP sz 0 p m).bind (takeA sz r)
def tokP (sz : Nat → Int) : Nat → List (List Int) → List (Int × Int)
 | _, [] => []
 | k, l :: r => l.map (fun a => (a, sz k)) ++ tokP sz (k + 1) r
def tokA (sz : Nat → Int) (all : List (List (List Int))) : List (Int × Int) := all.flatMap (tokP sz 0)

/-- what is taken out of what, and what is left. -/
theorem takeL_iff {z : Int} (hz : 0 < z) : ∀ (l : List Int) (m : List (Int × Int)), (m.map (·.1)).Nodup → (∀ q ∈ m, 0 < q.2) →
 (∀ m', takeL z l m = some m' → m.Perm (l.map (fun a => (a, z)) ++ m')) ∧ (∀ r, m.Perm (l.map (fun a => (a, z)) ++ r) → ∃ m', takeL z l m = some m' ∧ m'.Perm r)
 | [], m, _, _ => ⟨fun m' h => by simp [takeL] at h; subst h; simp, fun r h => ⟨m, rfl, by simpa using h⟩⟩
 | a :: l, m, hn, hp => by
  have hrec : (a, z) ∈ m → ((delK m a).map (·.1)).Nodup := fun h => by
   have := (delK_perm hn h).map (·.1)
   exact (List.nodup_cons.1 (this.nodup_iff.1 hn)).2
  have hpos : (a, z) ∈ m → ∀ q ∈ delK m a, 0 < q.2 := fun h q hq => hp q ((delK_perm hn h).mem_iff.2 (List.mem_cons_of_mem _ hq))
  refine ⟨fun m' h => ?_, fun r h => ?_⟩
  ·unfold takeL at h
   split at h
   ·rename_i hz2
    have hm := (assoc_iff hn hp hz).1 hz2
    have := (takeL_iff hz l _ (hrec hm) (hpos hm)).1 m' h
    exact (delK_perm hn hm).trans (this.cons _)
   ·cases h
  ·have hm : (a, z) ∈ m := h.mem_iff.2 (by simp)
   unfold takeL
   rw [if_pos ((assoc_iff hn hp hz).2 hm)]
   refine (takeL_iff hz l _ (hrec hm) (hpos hm)).2 r ?_
   exact List.Perm.cons_inv ((delK_perm hn hm).symm.trans h)
theorem perm_keys {m m' l : List (Int × Int)} (hn : (m.map (·.1)).Nodup) (h : m.Perm (l ++ m')) : (m'.map (·.1)).Nodup := by
 have := (h.map (·.1)).nodup_iff.1 hn
 rw [List.map_append, List.nodup_append] at this
 exact this.2.1
theorem perm_pos {m m' l : List (Int × Int)} (hp : ∀ q ∈ m, 0 < q.2) (h : m.Perm (l ++ m')) : ∀ q ∈ m', 0 < q.2 := fun q hq => hp q (h.mem_iff.2 (List.mem_append_right _ hq))
theorem takeP_iff {sz : Nat → Int} (hz : ∀ k, k < 9 → 0 < sz k) : ∀ (p : List (List Int)) (k : Nat) (m : List (Int × Int)), k + p.length ≤ 9 → (m.map (·.1)).Nodup → (∀ q ∈ m, 0 < q.2) →
 (∀ m', takeP sz k p m = some m' → (∀ l ∈ p, l.length ≤ 4) ∧ m.Perm (tokP sz k p ++ m')) ∧ (∀ r, (∀ l ∈ p, l.length ≤ 4) → m.Perm (tokP sz k p ++ r) → ∃ m', takeP sz k p m = some m' ∧ m'.Perm r)
 | [], _, m, _, _, _ => ⟨fun m' h => by simp [takeP] at h; subst h; simp [tokP], fun r _ h => ⟨m, rfl, by simpa [tokP] using h⟩⟩
 | l :: p, k, m, hk, hn, hp => by
  have hk9 : k < 9 := by simp at hk; omega
  refine ⟨fun m' h => ?_, fun r hl h => ?_⟩
  ·unfold takeP at h
   split at h
   ·rename_i hl
    obtain ⟨m1, h1, h2⟩ := Option.bind_eq_some_iff.1 h
    have q1 := (takeL_iff (hz k hk9) l m hn hp).1 m1 h1
    obtain ⟨q2, q3⟩ := (takeP_iff hz p (k + 1) m1 (by simp at hk; omega) (perm_keys hn q1) (perm_pos hp q1)).1 m' h2
    refine ⟨fun l' hl' => by rcases List.mem_cons.1 hl' with rfl | x; exact hl; exact q2 l' x, ?_⟩
    unfold tokP
    rw [List.append_assoc]
    exact q1.trans (List.Perm.append_left _ q3)
   ·cases h
  ·unfold tokP at h
   rw [List.append_assoc] at h
   obtain ⟨m1, h1, h2⟩ := (takeL_iff (hz k hk9) l m hn hp).2 _ h
   have q1 := (takeL_iff (hz k hk9) l m hn hp).1 m1 h1
   obtain ⟨m2, h3, h4⟩ := (takeP_iff hz p (k + 1) m1 (by simp at hk; omega) (perm_keys hn q1) (perm_pos hp q1)).2 r (fun l' x => hl l' (by simp [x])) h2
   refine ⟨m2, ?_, h4⟩
   unfold takeP
   rw [if_pos (hl l (by simp)), h1]
   exact h3
theorem takeA_iff {sz : Nat → Int} (hz : ∀ k, k < 9 → 0 < sz k) : ∀ (all : List (List (List Int))) (m : List (Int × Int)), (∀ p ∈ all, p.length = 9) → (m.map (·.1)).Nodup → (∀ q ∈ m, 0 < q.2) →
 (∀ m', takeA sz all m = some m' → (∀ p ∈ all, ∀ l ∈ p, l.length ≤ 4) ∧ m.Perm (tokA sz all ++ m')) ∧ (∀ r, (∀ p ∈ all, ∀ l ∈ p, l.length ≤ 4) → m.Perm (tokA sz all ++ r) → ∃ m', takeA sz all m = some m' ∧ m'.Perm r)
 | [], m, _, _, _ => ⟨fun m' h => by simp [takeA] at h; subst h; simp [tokA], fun r _ h => ⟨m, rfl, by simpa [tokA] using h⟩⟩
 | p :: all, m, h9, hn, hp => by
  have hp9 := h9 p (by simp)
  refine ⟨fun m' h => ?_, fun r hl h => ?_⟩
  ·unfold takeA at h
   obtain ⟨m1, h1, h2⟩ := Option.bind_eq_some_iff.1 h
   obtain ⟨q0, q1⟩ := (takeP_iff hz p 0 m (by omega) hn hp).1 m1 h1
   obtain ⟨q2, q3⟩ := (takeA_iff hz all m1 (fun p' x => h9 p' (by simp [x])) (perm_keys hn q1) (perm_pos hp q1)).1 m' h2
   refine ⟨fun p' hp' => by rcases List.mem_cons.1 hp' with rfl | x; exact q0; exact q2 p' x, ?_⟩
   unfold tokA at q3 ⊢
   rw [List.flatMap_cons, List.append_assoc]
   exact q1.trans (List.Perm.append_left _ q3)
  ·have h' : m.Perm (tokP sz 0 p ++ (tokA sz all ++ r)) := by
    unfold tokA at h ⊢
    rw [List.flatMap_cons, List.append_assoc] at h
    exact h
   obtain ⟨m1, h1, h2⟩ := (takeP_iff hz p 0 m (by omega) hn hp).2 _ (hl p (by simp)) h'
   obtain ⟨-, q1⟩ := (takeP_iff hz p 0 m (by omega) hn hp).1 m1 h1
   obtain ⟨m2, h3, h4⟩ := (takeA_iff hz all m1 (fun p' x => h9 p' (by simp [x])) (perm_keys hn q1) (perm_pos hp q1)).2 r (fun p' x => hl p' (by simp [x])) h2
   refine ⟨m2, ?_, h4⟩
   unfold takeA
   rw [h1]
   exact h3
/-- what the program answers. -/
def fitsP (sz : Nat → Int) (all : List (List (List Int))) (m : List (Int × Int)) : Bool := match takeA sz all m with
 | some m' => m'.length == 0
 | none => false
theorem fitsP_iff {sz : Nat → Int} (hz : ∀ k, k < 9 → 0 < sz k) {all : List (List (List Int))} {m : List (Int × Int)} (h9 : ∀ p ∈ all, p.length = 9) (hn : (m.map (·.1)).Nodup) (hp : ∀ q ∈ m, 0 < q.2) :
 fitsP sz all m = true ↔ (∀ p ∈ all, ∀ l ∈ p, l.length ≤ 4) ∧ m.Perm (tokA sz all) := by
 obtain ⟨h1, h2⟩ := takeA_iff hz all m h9 hn hp
 unfold fitsP
 constructor
 ·intro h
  cases ht : takeA sz all m with
  | none => rw [ht] at h; cases h
  | some m' =>
   rw [ht] at h
   obtain ⟨q1, q2⟩ := h1 m' ht
   have : m' = [] := List.eq_nil_of_length_eq_zero (by simpa using h)
   subst this
   exact ⟨q1, by simpa using q2⟩
 ·rintro ⟨q1, q2⟩
  obtain ⟨m', h3, h4⟩ := h2 [] q1 (by simpa using q2)
  rw [h3]
  have := h4.length_eq
  simp at this
  simp [this]
end Go.Proofs.YtnagdljgeglceaaGreat
/- pockets that fit a heap: the document's way, and that it is the program's. -/
set_option linter.unusedSimpArgs false
set_option linter.unusedVariables false
namespace Go.Proofs.YtnagdljgeglceaaGreat

/-- the addresses of all pockets of a class. -/
def haveF (all : List (List (List Int))) (k : Nat) : List Int := all.flatMap fun p => p.getD k []
def dPart (z : Int) (h : List Int) : List (Int × Int × Int) → Int → Option Int
 | [], n => some n
 | x :: l, n => if x.1 = 4 ∧ x.2.2 = z then (if h.count x.2.1 = 1 then dPart z h l (n - 1) else none) else dPart z h l n
def lensB (all : List (List (List Int))) (k : Nat) : Bool := all.all fun p => decide ((p.getD k []).length ≤ 4)
def docR (sz : Nat → Int) (all : List (List (List Int))) (l : List (Int × Int × Int)) : Nat → Option Int
 | 0 => some 0
 | k + 1 => (docR sz all l k).bind fun n => if lensB all k = true then dPart (sz k) (haveF all k) l (n + (haveF all k).length) else none
def fitsD (sz : Nat → Int) (all : List (List (List Int))) (l : List (Int × Int × Int)) : Bool := match docR sz all l 9 with
 | some n => n == 0
 | none => false

def idleL (l : List (Int × Int × Int)) : List (Int × Int) := l.filterMap fun x => if x.1 = 4 then some (x.2.1, x.2.2) else none

theorem dPart_iff (z : Int) (h : List Int) : ∀ (l : List (Int × Int × Int)) (n m : Int), dPart z h l n = some m ↔ (∀ q ∈ idleL l, q.2 = z → h.count q.1 = 1) ∧ m = n - ((idleL l).countP (fun q => q.2 = z) : Nat)
 | [], n, m => by simp [dPart, idleL]; omega
 | x :: l, n, m => by
  unfold dPart
  by_cases h4 : x.1 = 4
  ·have e : idleL (x :: l) = (x.2.1, x.2.2) :: idleL l := by simp [idleL, h4]
   rw [e]
   by_cases hz : x.2.2 = z
   ·rw [if_pos ⟨h4, hz⟩]
    by_cases hc : h.count x.2.1 = 1
    ·rw [if_pos hc, dPart_iff z h l]
     simp only [List.forall_mem_cons, List.countP_cons, hz, decide_true, if_true, hc, implies_true, true_and]
     constructor
     ·rintro ⟨a, b⟩; exact ⟨a, by omega⟩
     ·rintro ⟨a, b⟩; exact ⟨a, by omega⟩
    ·rw [if_neg hc]
     simp [hz, hc]
   ·rw [if_neg (by simp [hz]), dPart_iff z h l]
    simp only [List.forall_mem_cons, List.countP_cons, hz, decide_false, false_implies, true_and]
    simp
  ·have e : idleL (x :: l) = idleL l := by simp [idleL, h4]
   rw [e, if_neg (by simp [h4]), dPart_iff z h l]

def sumN (f : Nat → Int) : Nat → Int
 | 0 => 0
 | k + 1 => sumN f k + f k
theorem docR_iff (sz : Nat → Int) (all : List (List (List Int))) (l : List (Int × Int × Int)) : ∀ (K : Nat) (m : Int), docR sz all l K = some m ↔
 (∀ k, k < K → lensB all k = true ∧ ∀ q ∈ idleL l, q.2 = sz k → (haveF all k).count q.1 = 1) ∧ m = sumN (fun k => ((haveF all k).length : Nat) - ((idleL l).countP (fun q => q.2 = sz k) : Nat)) K
 | 0, m => by simp [docR, sumN]; exact eq_comm
 | K + 1, m => by
  unfold docR
  rw [Option.bind_eq_some_iff]
  constructor
  ·rintro ⟨n, h1, h2⟩
   obtain ⟨a, b⟩ := (docR_iff sz all l K n).1 h1
   split at h2
   ·rename_i hl
    obtain ⟨c, d⟩ := (dPart_iff _ _ _ _ _).1 h2
    refine ⟨fun k hk => ?_, ?_⟩
    ·by_cases e : k = K
     ·subst e; exact ⟨hl, c⟩
     ·exact a k (by omega)
    ·unfold sumN
     omega
   ·cases h2
  ·rintro ⟨a, b⟩
   refine ⟨_, (docR_iff sz all l K _).2 ⟨fun k hk => a k (by omega), rfl⟩, ?_⟩
   obtain ⟨hl, hc⟩ := a K (by omega)
   rw [if_pos hl]
   refine (dPart_iff _ _ _ _ _).2 ⟨hc, ?_⟩
   rw [b, sumN]
   omega

/-! ### how often -/
theorem countP_tok {sz : Nat → Int} (hi : ∀ i j, i < 9 → j < 9 → sz i = sz j → i = j) (a : Int) {k : Nat} (hk : k < 9) : ∀ (p : List (List Int)) (i : Nat), i + p.length ≤ 9 → (tokP sz i p).count (a, sz k) = if i ≤ k ∧ k < i + p.length then (p.getD (k - i) []).count a else 0
 | [], i, _ => by
  rw [if_neg (by rintro ⟨a, b⟩; simp at b; omega)]
  simp [tokP]
 | l :: p, i, h => by
  have hl : i + 1 + p.length ≤ 9 := by simp at h; omega
  unfold tokP
  rw [List.count_append, countP_tok hi a hk p (i + 1) hl]
  have hm : ∀ l : List Int, (l.map fun x => (x, sz i)).count (a, sz k) = if i = k then l.count a else 0 := by
   intro l
   induction l with
   | nil => simp
   | cons y ys ih =>
    rw [List.map_cons, List.count_cons, ih, List.count_cons]
    by_cases e : i = k
    ·subst e
     simp only [if_true]
     by_cases hy : y = a
     ·subst hy; simp
     ·have : ((y, sz i) == (a, sz i)) = false := by simp [hy]
      rw [this]; simp [hy]
    ·have : ((y, sz i) == (a, sz k)) = false := by
      simp
      intro _ he
      exact e (hi _ _ (by simp at h; omega) hk he)
     rw [this]; simp [e]
  rw [hm]
  by_cases e : i = k
  ·subst e
   rw [if_pos rfl, if_neg (by omega), if_pos ⟨Nat.le_refl _, by simp⟩]
   simp
  ·rw [if_neg e]
   by_cases hc : i + 1 ≤ k ∧ k < i + 1 + p.length
   ·rw [if_pos hc, if_pos ⟨by omega, by simp; omega⟩]
    have : k - i = (k - (i + 1)) + 1 := by omega
    rw [this]
    simp
   ·rw [if_neg hc, if_neg (by simp; omega)]
theorem count_tok {sz : Nat → Int} (hi : ∀ i j, i < 9 → j < 9 → sz i = sz j → i = j) (a : Int) {k : Nat} (hk : k < 9) : ∀ (all : List (List (List Int))), (∀ p ∈ all, p.length = 9) → (tokA sz all).count (a, sz k) = (haveF all k).count a
 | [], _ => by simp [tokA, haveF]
 | p :: all, h => by
  have ih := count_tok hi a hk all fun q hq => h q (by simp [hq])
  have h9 := h p (by simp)
  unfold tokA haveF at ih ⊢
  rw [List.flatMap_cons, List.flatMap_cons, List.count_append, List.count_append, ih, countP_tok hi a hk p 0 (by omega), if_pos ⟨by omega, by omega⟩, Nat.sub_zero]

theorem sum_len : ∀ (all : List (List (List Int))) (sz : Nat → Int), (∀ p ∈ all, p.length = 9) → sumN (fun k => ((haveF all k).length : Nat)) 9 = ((tokA sz all).length : Nat)
 | [], _, _ => by simp [haveF, tokA, sumN]
 | p :: all, sz, h => by
  have ih := sum_len all sz fun q hq => h q (by simp [hq])
  have h9 := h p (by simp)
  match p, h9 with
  | [p0, p1, p2, p3, p4, p5, p6, p7, p8], _ =>
   unfold haveF tokA at ih ⊢
   simp only [sumN, List.flatMap_cons, List.length_append, tokP, List.length_map, List.length_nil] at ih ⊢
   simp only [List.getD_cons_zero, List.getD_cons_succ] at ih ⊢
   omega
theorem sum_cls {sz : Nat → Int} (hi : ∀ i j, i < 9 → j < 9 → sz i = sz j → i = j) : ∀ (m : List (Int × Int)), (∀ q ∈ m, ∃ k, k < 9 ∧ q.2 = sz k) → sumN (fun k => (m.countP (fun q => q.2 = sz k) : Nat)) 9 = (m.length : Nat)
 | [], _ => by simp [sumN]
 | q :: m, h => by
  have ih := sum_cls hi m fun x hx => h x (by simp [hx])
  obtain ⟨k, hk, he⟩ := h q (by simp)
  have hc : ∀ j, j < 9 → (if decide (q.2 = sz j) = true then 1 else 0 : Nat) = if j = k then 1 else 0 := by
   intro j hj
   by_cases e : j = k
   ·subst e; simp [he]
   ·have : ¬ q.2 = sz j := fun e2 => e (hi _ _ hj hk (e2.symm.trans he))
    simp [this, e]
  simp only [sumN, List.countP_cons, List.length_cons] at ih ⊢
  rw [hc 0 (by omega), hc 1 (by omega), hc 2 (by omega), hc 3 (by omega), hc 4 (by omega), hc 5 (by omega), hc 6 (by omega), hc 7 (by omega), hc 8 (by omega)]
  have : k = 0 ∨ k = 1 ∨ k = 2 ∨ k = 3 ∨ k = 4 ∨ k = 5 ∨ k = 6 ∨ k = 7 ∨ k = 8 := by omega
  rcases this with rfl | rfl | rfl | rfl | rfl | rfl | rfl | rfl | rfl <;> simp <;> omega
theorem sumN_sub (f g : Nat → Int) : ∀ K, sumN (fun k => f k - g k) K = sumN f K - sumN g K
 | 0 => by simp [sumN]
 | K + 1 => by simp [sumN, sumN_sub f g K]; omega

theorem perm_of_count {m : List (Int × Int)} : ∀ {T : List (Int × Int)}, m.Nodup → (∀ q ∈ m, T.count q = 1) → T.length = m.length → m.Perm T := by
 induction m with
 | nil => intro T _ _ h; simp at h; subst h; exact List.Perm.nil
 | cons q m ih =>
  intro T hn hc hl
  obtain ⟨h1, h2⟩ := List.nodup_cons.1 hn
  have hq : q ∈ T := List.count_pos_iff.1 (by rw [hc q (by simp)]; omega)
  have hp := List.perm_cons_erase hq
  refine ((ih h2 (fun x hx => ?_) ?_).cons q).trans hp.symm
  ·have hne : x ≠ q := fun e => h1 (e ▸ hx)
   rw [List.count_erase_of_ne hne]
   exact hc x (by simp [hx])
  ·have := hp.length_eq
   simp at this hl
   omega

theorem fitsD_iff {sz : Nat → Int} (hi : ∀ i j, i < 9 → j < 9 → sz i = sz j → i = j) {all : List (List (List Int))} {l : List (Int × Int × Int)} (h9 : ∀ p ∈ all, p.length = 9) (hn : (idleL l).Nodup) (hs : ∀ q ∈ idleL l, ∃ k, k < 9 ∧ q.2 = sz k) :
 fitsD sz all l = true ↔ (∀ p ∈ all, ∀ l ∈ p, l.length ≤ 4) ∧ (idleL l).Perm (tokA sz all) := by
 have hlens : (∀ k, k < 9 → lensB all k = true) ↔ ∀ p ∈ all, ∀ l ∈ p, l.length ≤ 4 := by
  constructor
  ·intro h p hp l hl
   obtain ⟨j, hj, he⟩ := List.getElem_of_mem hl
   have h1 := h j (by have := h9 p hp; omega)
   unfold lensB at h1
   have := List.all_eq_true.1 h1 p hp
   simp [hj, he] at this
   exact this
  ·intro h k hk
   unfold lensB
   refine List.all_eq_true.2 fun p hp => ?_
   have hl : k < p.length := by rw [h9 p hp]; exact hk
   simp [hl]
   exact h p hp _ (List.getElem_mem hl)
 have hsum : sumN (fun k => ((haveF all k).length : Nat) - ((idleL l).countP (fun q => q.2 = sz k) : Nat)) 9 = ((tokA sz all).length : Nat) - ((idleL l).length : Nat) := by
  rw [sumN_sub, sum_len all sz h9, sum_cls hi _ hs]
 unfold fitsD
 constructor
 ·intro h
  cases hd : docR sz all l 9 with
  | none => rw [hd] at h; cases h
  | some n =>
   rw [hd] at h
   obtain ⟨a, b⟩ := (docR_iff sz all l 9 n).1 hd
   have hn0 : n = 0 := by simpa using h
   rw [hsum] at b
   refine ⟨hlens.1 fun k hk => (a k hk).1, perm_of_count hn (fun q hq => ?_) (by omega)⟩
   obtain ⟨k, hk, he⟩ := hs q hq
   have := (a k hk).2 q hq he
   rw [show q = (q.1, sz k) from Prod.ext rfl he, count_tok hi _ hk all h9]
   exact this
 ·rintro ⟨a, b⟩
  have hd : docR sz all l 9 = some ((((tokA sz all).length : Nat) : Int) - (((idleL l).length : Nat) : Int)) := (docR_iff sz all l 9 _).2 ⟨fun k hk => ⟨(hlens.2 a) k hk, fun q hq he => ?_⟩, hsum.symm⟩
  ·rw [hd]
   have := b.length_eq
   simp [this]
  ·rw [← count_tok hi _ hk all h9, ← he, ← b.count_eq]
   rw [hn.count, if_pos hq]
end Go.Proofs.YtnagdljgeglceaaGreat
/- the slots of a heap that are taken, and not live. -/
set_option linter.unusedSimpArgs false
set_option linter.unusedVariables false
namespace Go.Proofs.YtnagdljgeglceaaGreat

def idleM (l : List (Int × Int × Int)) (m : List (Int × Int)) : List (Int × Int) := l.foldl (fun m x => if x.1 = 4 then upsert m x.2.1 x.2.2 else m) m
theorem idle_chain : ∀ (l : List (Int × Int × Int)) (a : Int) (m : List (Int × Int)), chainA a l → (∀ q ∈ m, q.1 < a) → idleM l m = m ++ idleL l
 | [], _, m, _, _ => by simp [idleM, idleL]
 | x :: l, a, m, h, hm => by
  obtain ⟨⟨h1, h2, -, -⟩, h3⟩ := h
  show idleM l (if x.1 = 4 then upsert m x.2.1 x.2.2 else m) = _
  by_cases h4 : x.1 = 4
  ·have e : idleL (x :: l) = (x.2.1, x.2.2) :: idleL l := by simp [idleL, h4]
   have hu : upsert m x.2.1 x.2.2 = m ++ [(x.2.1, x.2.2)] := by
    unfold upsert
    rw [look_none fun q hq => by have := hm q hq; omega]
   rw [if_pos h4, hu, idle_chain l _ _ h3, e, List.append_assoc]
   ·rfl
   ·intro q hq
    rcases List.mem_append.1 hq with hq | hq
    ·have := hm q hq; omega
    ·simp at hq; subst hq; show x.2.1 < _; omega
  ·have e : idleL (x :: l) = idleL l := by simp [idleL, h4]
   rw [if_neg h4, idle_chain l _ _ h3, e]
   intro q hq
   have := hm q hq
   omega
theorem idle_keys : ∀ (l : List (Int × Int × Int)) (a : Int), chainA a l → ((idleL l).map (·.1)).Nodup ∧ (∀ q ∈ idleL l, a ≤ q.1) ∧ ∀ q ∈ idleL l, 0 < q.2
 | [], _, _ => by simp [idleL]
 | x :: l, a, h => by
  obtain ⟨⟨h1, h2, -, -⟩, h3⟩ := h
  obtain ⟨i1, i2, i3⟩ := idle_keys l _ h3
  by_cases h4 : x.1 = 4
  ·have e : idleL (x :: l) = (x.2.1, x.2.2) :: idleL l := by simp [idleL, h4]
   rw [e]
   refine ⟨?_, ?_, ?_⟩
   ·rw [List.map_cons, List.nodup_cons]
    refine ⟨fun hm => ?_, i1⟩
    obtain ⟨q, hq, he⟩ := List.mem_map.1 hm
    have := i2 q hq
    have he : q.1 = x.2.1 := he
    omega
   ·intro q hq
    rcases List.mem_cons.1 hq with rfl | hq
    ·show a ≤ x.2.1; omega
    ·have := i2 q hq; omega
   ·intro q hq
    rcases List.mem_cons.1 hq with rfl | hq
    ·show 0 < x.2.2; omega
    ·exact i3 q hq
  ·have e : idleL (x :: l) = idleL l := by simp [idleL, h4]
   rw [e]
   exact ⟨i1, fun q hq => by have := i2 q hq; omega, i3⟩

section
variable {vs : List Int} {t s : Int} {P : Nat}
theorem slab_size (q k : Int) : ∀ (b : Nat), ∀ x ∈ slabL vs t s q k b, x.2.2 = sizeF s k
 | 0, x, h => by simp [slabL] at h
 | b + 1, x, h => by
  unfold slabL at h
  rcases List.mem_append.1 h with h | h
  ·exact slab_size q k b x h
  ·simp at h; subst h; rfl
theorem parts_size : ∀ (q : Nat), ∀ x ∈ partsL vs t s q, x.1 = 4 → ∃ k : Nat, k < 9 ∧ x.2.2 = sizeF s k
 | 0, x, h, _ => by simp [partsL] at h
 | q + 1, x, h, h4 => by
  unfold partsL at h
  rcases List.mem_append.1 h with h | h
  ·exact parts_size q x h h4
  ·unfold partQ at h
   have hb := inf_bd (gv vs t q 0)
   split at h
   ·simp at h; subst h; dsimp only at h4; omega
   ·split at h
    ·unfold slabF at h
     rcases List.mem_append.1 h with h | h
     ·have := slab_size _ _ _ x h
      refine ⟨(iC (gv vs t q 0)).toNat, by omega, ?_⟩
      rw [this]
      congr 1
      omega
     ·split at h
      ·simp at h; subst h; simp at h4
      ·simp at h
    ·simp at h
theorem idle_size (x : Int × Int) (h : x ∈ idleL (partsF vs t P s)) : ∃ k : Nat, k < 9 ∧ x.2 = sizeF s k := by
 unfold idleL at h
 obtain ⟨y, hy, he⟩ := List.mem_filterMap.1 h
 split at he
 ·rename_i h4
  simp at he
  obtain ⟨k, hk, hz⟩ := parts_size _ y hy h4
  exact ⟨k, hk, by rw [← he]; exact hz⟩
 ·cases he
end
theorem size_inj {s : Int} (hs : 10 ≤ s ∧ s ≤ 20) : ∀ i j : Nat, i < 9 → j < 9 → sizeF s i = sizeF s j → i = j := by
 obtain ⟨n, rfl⟩ := Int.eq_ofNat_of_zero_le (show 0 ≤ s by omega)
 have h : n = 10 ∨ n = 11 ∨ n = 12 ∨ n = 13 ∨ n = 14 ∨ n = 15 ∨ n = 16 ∨ n = 17 ∨ n = 18 ∨ n = 19 ∨ n = 20 := by omega
 have key : ∀ n : Nat, n ∈ [10, 11, 12, 13, 14, 15, 16, 17, 18, 19, 20] → ∀ i : Nat, i < 9 → ∀ j : Nat, j < 9 → sizeF (n : Nat) i = sizeF (n : Nat) j → i = j := by decide +kernel
 exact fun i j hi hj => key n (by simp; omega) i hi j hj
theorem size_pos {s : Int} (hs : 10 ≤ s ∧ s ≤ 20) (k : Nat) (hk : k < 9) : 0 < sizeF s k := by
 obtain ⟨-, -, -, z4, -⟩ := size_bd (s := s) (k := (k : Int)) hs
 have hk1 : slotsF k ≠ 0 := by
  rcases (by omega : k = 0 ∨ k = 1 ∨ k = 2 ∨ k = 3 ∨ k = 4 ∨ k = 5 ∨ k = 6 ∨ k = 7 ∨ k = 8) with rfl | rfl | rfl | rfl | rfl | rfl | rfl | rfl | rfl <;> decide
 have := z4 hk1
 omega
theorem fits_alike {vs : List Int} {t s : Int} {P : Nat} (h : tilesF vs t P = true) (hP : 0 < P) (hs : 10 ≤ s ∧ s ≤ 20) {all : List (List (List Int))} (h9 : ∀ p ∈ all, p.length = 9) :
 fitsP (fun k => sizeF s k) all (idleM (partsF vs t P s) []) = fitsD (fun k => sizeF s k) all (partsF vs t P s) := by
 obtain ⟨hc, -⟩ := parts_tile (s := s) h hP hs
 have e := idle_chain _ _ [] hc (by simp)
 obtain ⟨k1, -, k3⟩ := idle_keys _ _ hc
 rw [e, List.nil_append, Bool.eq_iff_iff, fitsP_iff (fun k hk => size_pos hs k hk) h9 k1 k3, fitsD_iff (size_inj hs) h9 (List.Pairwise.of_map _ (fun a b hab e => hab (by rw [e])) k1) fun q hq => idle_size q hq]
end Go.Proofs.YtnagdljgeglceaaGreat
/- slices among the arguments, opened as rows that can be read: any element. -/
set_option linter.unusedSimpArgs false
set_option linter.unusedVariables false
namespace Go.Proofs.YtnagdljgeglceaaGreat
open Go.ChangeShapes Go.RowKit

theorem addr_add_add (a : Addr) (m j : Nat) : (a.add m).add j = a.add (m + j) := by
 by_cases h : m = 0
 ·subst h; simp [Addr.add]
 ·by_cases h2 : j = 0
  ·subst h2; simp [Addr.add]
  ·simp [Addr.add, h, h2]; omega
theorem flat_len {α : Type} (f : α → List Value) (sz : Nat) (hf : ∀ a, (f a).length = sz) (l : List α) : (l.flatMap f).length = l.length * sz := by
 induction l with
 | nil => simp
 | cons y ys ih => simp [ih, hf, Nat.succ_mul]; omega
theorem flat_cell {α : Type} (f : α → List Value) (sz : Nat) (hf : ∀ a, (f a).length = sz) {l : List α} {k : Nat} {a : α} (h : l[k]? = some a) {j : Nat} {u : Value} (hj : (f a)[j]? = some u) : (l.flatMap f)[k * sz + j]? = some u := by
 induction l generalizing k with
 | nil => simp at h
 | cons p r ih =>
  have hjl : j < sz := by have := (List.getElem?_eq_some_iff.1 hj).1; rw [hf] at this; exact this
  cases k with
  | zero =>
   simp at h; subst h
   rw [List.flatMap_cons, List.getElem?_append_left (by rw [hf]; omega), Nat.zero_mul, Nat.zero_add]
   exact hj
  | succ k =>
   rw [List.flatMap_cons, List.getElem?_append_right (by rw [hf, Nat.succ_mul]; omega), hf]
   rw [show (k + 1) * sz + j - sz = k * sz + j by rw [Nat.succ_mul]; omega]
   exact ih (by simpa using h)

section
variable {H : Type} {enc : TypeId × Value → H} {w : World} {base : Nat} {spare : Nat → Bool} {held : Bool}
set_option maxRecDepth 100000 in
theorem rd_list {α : Type} {T E : TypeId} (f : α → List Value) (P : α → Prop) (sz : Nat) (hf : ∀ a, (f a).length = sz) (hT : Tryz.prog.underlying T = some (.slice E)) (hE : Tryz.prog.cellsOf E = sz)
 (hel : ∀ {m : Nat} {cs : List Value} {y : DataW H × List MemPlace}, DataW.trod enc Tryz.prog w base spare held m E cs = some y → ∃ a, P a ∧ cs = f a)
 {fuel : Nat} {cs : List Value} {x : DataW H × List MemPlace} (h : DataW.trod enc Tryz.prog w base spare held fuel T cs = some x) :
 ∃ (v : Value) (l : List α), cs = [v] ∧ Rd w v sz l.length (l.flatMap f) ∧ ∀ a ∈ l, P a := by
 rcases Go.Deep.open_slice hT h with ⟨rfl, -⟩ | ⟨a, len, cap, m, n, D, Pl, rfl, -, hl, -, hm, -, hx⟩
 ·exact ⟨_, [], rfl, ⟨by simp, Or.inl ⟨rfl, rfl⟩⟩, by simp⟩
 ·have hle : len ≤ m := by rw [hm]; split <;> omega
  rw [hE] at hx
  have hq : ∀ k, k ≤ len → ∃ l : List α, l.length = k ∧ (∀ j u, (l.flatMap f)[j]? = some u → w.cell? (a.add j) = some u) ∧ ∀ a ∈ l, P a := by
   intro k
   induction k with
   | zero => intro _; exact ⟨[], rfl, by simp, by simp⟩
   | succ k ih =>
    intro hk
    obtain ⟨l, hll, hlc, hlp⟩ := ih (by omega)
    obtain ⟨cs', h1, h2⟩ := hx k (by omega)
    obtain ⟨b, hb, rfl⟩ := hel h2
    have hsl : (l.flatMap f).length = k * sz := by rw [flat_len f sz hf, hll]
    refine ⟨l ++ [b], by simp [hll], ?_, ?_⟩
    ·intro j u hj
     rw [List.flatMap_append] at hj
     by_cases hjl : j < k * sz
     ·exact hlc j u (by rw [← hj, List.getElem?_append_left (by omega)])
     ·have hju : (f b)[j - k * sz]? = some u := by
       rw [List.getElem?_append_right (by omega), hsl] at hj
       simpa using hj
      have hi : j - k * sz < sz := by have := (List.getElem?_eq_some_iff.1 hju).1; rw [hf] at this; exact this
      have h5 := (World.cells?_some h1).2.2 (j - k * sz) hi
      rw [addr_add_add, hju] at h5
      rw [← h5]
      congr 2
      omega
    ·intro x hx
     rcases List.mem_append.1 hx with hx | hx
     ·exact hlp x hx
     ·simp at hx; subst hx; exact hb
  obtain ⟨l, hs, hc, hp⟩ := hq len (Nat.le_refl _)
  exact ⟨_, l, rfl, ⟨flat_len f sz hf l, Or.inr ⟨a, cap, by rw [hs], hc⟩⟩, hp⟩
end

theorem Rd.keepBy {w w' : World} {v : Value} {sz n : Nat} {xs : List Value} {B : Nat} (hh : Rd w v sz n xs) (hb : Below B w w') (hB : w.heap.size ≤ B) : Rd w' v sz n xs := by
 obtain ⟨hl, hh⟩ := hh
 refine ⟨hl, hh.imp_right ?_⟩
 rintro ⟨ad, c, rfl, hcc⟩
 exact ⟨ad, c, rfl, fun j u hj => (hb.cell (Nat.lt_of_lt_of_le (World.block_lt_of_cell? w _ (hcc j u hj)) hB)).trans (hcc j u hj)⟩
theorem Rd.len {w : World} {v : Value} {sz n : Nat} {xs : List Value} (h : Rd w v sz n xs) : ∃ a c, v = .slice a n c := by
 obtain ⟨hl, ⟨rfl, h0⟩ | ⟨ad, c, rfl, hcc⟩⟩ := h
 ·exact ⟨_, _, by rw [h0]⟩
 ·exact ⟨_, _, rfl⟩
end Go.Proofs.YtnagdljgeglceaaGreat
/- pockets among the arguments: read; often, Few, All. -/
set_option linter.unusedSimpArgs false
set_option linter.unusedVariables false
namespace Go.Proofs.YtnagdljgeglceaaGreat
open Go.ChangeShapes Go.RowKit

def longs (l : List Int) : List Value := l.map (Value.int .i64)
theorem longs_len (l : List Int) : (longs l).length = l.length := by simp [longs]
theorem longs_get {l : List Int} {k : Nat} (h : k < l.length) : (longs l)[k]? = some (.int .i64 (l.getD k 0)) := by simp [longs, h]

/-- pockets: nine slices, and what they read as. -/
structure PkE where
 v0 : Value
 v1 : Value
 v2 : Value
 v3 : Value
 v4 : Value
 v5 : Value
 v6 : Value
 v7 : Value
 v8 : Value
 l0 : List Int
 l1 : List Int
 l2 : List Int
 l3 : List Int
 l4 : List Int
 l5 : List Int
 l6 : List Int
 l7 : List Int
 l8 : List Int
def PkE.vs (e : PkE) : List Value := [e.v0, e.v1, e.v2, e.v3, e.v4, e.v5, e.v6, e.v7, e.v8]
def PkE.ls (e : PkE) : List (List Int) := [e.l0, e.l1, e.l2, e.l3, e.l4, e.l5, e.l6, e.l7, e.l8]
def RdI (w : World) (v : Value) (l : List Int) : Prop := Rd w v 1 l.length (longs l)
structure PkE.Ok (w : World) (e : PkE) : Prop where
 r0 : RdI w e.v0 e.l0
 r1 : RdI w e.v1 e.l1
 r2 : RdI w e.v2 e.l2
 r3 : RdI w e.v3 e.l3
 r4 : RdI w e.v4 e.l4
 r5 : RdI w e.v5 e.l5
 r6 : RdI w e.v6 e.l6
 r7 : RdI w e.v7 e.l7
 r8 : RdI w e.v8 e.l8
theorem nine {k : Nat} (h : k < 9) : k = 0 ∨ k = 1 ∨ k = 2 ∨ k = 3 ∨ k = 4 ∨ k = 5 ∨ k = 6 ∨ k = 7 ∨ k = 8 := by omega
theorem PkE.Ok.at_ {w : World} {e : PkE} (h : e.Ok w) {k : Nat} (hk : k < 9) : RdI w (e.vs.getD k undef) (e.ls.getD k []) := by
 rcases nine hk with rfl | rfl | rfl | rfl | rfl | rfl | rfl | rfl | rfl
 ·exact h.r0
 ·exact h.r1
 ·exact h.r2
 ·exact h.r3
 ·exact h.r4
 ·exact h.r5
 ·exact h.r6
 ·exact h.r7
 ·exact h.r8
theorem PkE.Ok.keep {w w' : World} {B : Nat} {e : PkE} (h : e.Ok w) (hb : Below B w w') (hB : w.heap.size ≤ B) : e.Ok w' :=
 ⟨Rd.keepBy h.r0 hb hB, Rd.keepBy h.r1 hb hB, Rd.keepBy h.r2 hb hB, Rd.keepBy h.r3 hb hB, Rd.keepBy h.r4 hb hB, Rd.keepBy h.r5 hb hB, Rd.keepBy h.r6 hb hB, Rd.keepBy h.r7 hb hB, Rd.keepBy h.r8 hb hB⟩

section
variable {H : Type} {enc : TypeId × Value → H} {w : World} {base : Nat} {spare : Nat → Bool} {held : Bool}
theorem rd_i64 {fuel : Nat} {cs : List Value} {x : DataW H × List MemPlace} (h : DataW.trod enc Tryz.prog w base spare held fuel 56 cs = some x) :
 ∃ v l, cs = [v] ∧ RdI w v l := by
 rcases open_ints Tryz.underlying56 Tryz.underlying2 (by kernel_rfl) h with ⟨rfl, -⟩ | ⟨a, len, cap, zs, rfl, -, hl, -, hz, -, hc, hw⟩
 ·exact ⟨_, [], rfl, rfl, Or.inl ⟨rfl, rfl⟩⟩
 ·have hle : len ≤ zs.length := by rw [hz]; split <;> omega
  have e : (zs.take len).length = len := by simp; omega
  refine ⟨_, zs.take len, rfl, ⟨by simp [longs], Or.inr ⟨a, cap, by rw [e], ?_⟩⟩⟩
  intro j u hj
  have hjl : j < len := by
   have := (List.getElem?_eq_some_iff.1 hj).1
   simp [longs] at this; omega
  rw [hc j (by omega), ← hj]
  simp [longs, hjl, show j < zs.length by omega]
set_option maxRecDepth 100000 in
theorem pk_one {fuel : Nat} {cs : List Value} {x : DataW H × List MemPlace} (h : DataW.trod enc Tryz.prog w base spare held fuel 58 cs = some x) :
 ∃ e : PkE, e.Ok w ∧ cs = e.vs := by
 obtain ⟨xs, m, -, -, hl, hn, hf⟩ := DataW.trod_array Tryz.underlying58 h
 have h3 : cs.length = 9 := hl.trans (by kernel_rfl)
 have ci : Tryz.prog.cellsOf 56 = 1 := by kernel_rfl
 clear hl h
 match cs, h3, xs, hn with
 | [u0, u1, u2, u3, u4, u5, u6, u7, u8], _, [y0, y1, y2, y3, y4, y5, y6, y7, y8], _ =>
  have f0 : DataW.trod enc Tryz.prog w base spare held m 56 [u0] = some y0 := by simpa [ci] using hf 0 (by omega)
  have f1 : DataW.trod enc Tryz.prog w base spare held m 56 [u1] = some y1 := by simpa [ci] using hf 1 (by omega)
  have f2 : DataW.trod enc Tryz.prog w base spare held m 56 [u2] = some y2 := by simpa [ci] using hf 2 (by omega)
  have f3 : DataW.trod enc Tryz.prog w base spare held m 56 [u3] = some y3 := by simpa [ci] using hf 3 (by omega)
  have f4 : DataW.trod enc Tryz.prog w base spare held m 56 [u4] = some y4 := by simpa [ci] using hf 4 (by omega)
  have f5 : DataW.trod enc Tryz.prog w base spare held m 56 [u5] = some y5 := by simpa [ci] using hf 5 (by omega)
  have f6 : DataW.trod enc Tryz.prog w base spare held m 56 [u6] = some y6 := by simpa [ci] using hf 6 (by omega)
  have f7 : DataW.trod enc Tryz.prog w base spare held m 56 [u7] = some y7 := by simpa [ci] using hf 7 (by omega)
  have f8 : DataW.trod enc Tryz.prog w base spare held m 56 [u8] = some y8 := by simpa [ci] using hf 8 (by omega)
  obtain ⟨v0, l0, e0, r0⟩ := rd_i64 f0
  obtain ⟨v1, l1, e1, r1⟩ := rd_i64 f1
  obtain ⟨v2, l2, e2, r2⟩ := rd_i64 f2
  obtain ⟨v3, l3, e3, r3⟩ := rd_i64 f3
  obtain ⟨v4, l4, e4, r4⟩ := rd_i64 f4
  obtain ⟨v5, l5, e5, r5⟩ := rd_i64 f5
  obtain ⟨v6, l6, e6, r6⟩ := rd_i64 f6
  obtain ⟨v7, l7, e7, r7⟩ := rd_i64 f7
  obtain ⟨v8, l8, e8, r8⟩ := rd_i64 f8
  simp at e0 e1 e2 e3 e4 e5 e6 e7 e8
  subst e0 e1 e2 e3 e4 e5 e6 e7 e8
  exact ⟨⟨u0, u1, u2, u3, u4, u5, u6, u7, u8, l0, l1, l2, l3, l4, l5, l6, l7, l8⟩, ⟨r0, r1, r2, r3, r4, r5, r6, r7, r8⟩, rfl⟩
theorem rd_pks {fuel : Nat} {cs : List Value} {x : DataW H × List MemPlace} (h : DataW.trod enc Tryz.prog w base spare held fuel 43 cs = some x) :
 ∃ (v : Value) (l : List PkE), cs = [v] ∧ Rd w v 9 l.length (l.flatMap PkE.vs) ∧ ∀ e ∈ l, e.Ok w :=
 rd_list PkE.vs (fun e => e.Ok w) 9 (fun _ => rfl) Tryz.underlying43 (by kernel_rfl) (fun h => pk_one h) h
end

/-- how often a number is among some. -/
def OfRel (l : List Int) (a : Int) (w : World) (vn vi : Value) (wr : World) : Prop := ∃ k : Nat, k ≤ l.length ∧ vi = .int .i64 k ∧ vn = .int .i64 ((l.take k).count a : Nat) ∧ Below w.heap.size w wr
theorem roften_any (v : Value) (l : List Int) (a : Int) (w : World) (h : RdI w v l) (hn : l.length ≤ 4294967296) :
 Calls Tryz.prog 43 #[v, .int .i64 a] w fun e w' => e = .returned (.int .i64 (l.count a : Nat)) ∧ Below w.heap.size w w' := by
 have H := Lib.hid h
 obtain ⟨p, c, rfl⟩ := h.len
 clear h
 go_enter Tryz.func43, Tryz.ntmps43
 go_wp2
 go_loopw [5, 6] (fun vn vi wr => OfRel l a w vn vi wr) (fun _ vi _ => l.length - (intOf vi).toNat)
 case atStart => exact ⟨0, by omega, rfl, by simp, Below.refl _ _⟩
 case round =>
  obtain ⟨k, hk, rfl, rfl, hb⟩ := hrel
  have HB := Lib.hid hb
  have hcl : (l.take k).count a ≤ k := Nat.le_trans List.count_le_length (by simp; omega)
  by_cases hlt : k < l.length
  ·have hkl : (k : Int) < l.length := by omega
   obtain ⟨hl, ⟨h0, h1⟩ | ⟨ad, c', hv, hc⟩⟩ := H.out
   ·omega
   simp only [Value.slice.injEq, true_and] at hv
   obtain ⟨rfl, rfl⟩ := hv
   have q0 := hc k _ (longs_get hlt)
   have q1 := (hb.cell (World.block_lt_of_cell? w _ q0)).trans q0
   have hs : (l.take (k + 1)).count a = (l.take k).count a + if l.getD k 0 = a then 1 else 0 := by
    rw [List.take_add_one, List.count_append]
    simp [hlt, List.count_cons]
   have HS := Lib.hid hs
   generalize l.getD k 0 = y at *
   generalize (l.take k).count a = d at *
   clear hs hc hb q0
   by_cases hy : y = a
   ·have hyb : (y == a) = true := by simpa using hy
    have HE := Lib.hid (show (l.take (k + 1)).count a = d + 1 by rw [HS.out, if_pos hy])
    clear hy HS
    go_wp2
    go_roundw
    case rel => exact ⟨k + 1, by omega, by go_num, by rw [HE.out]; go_num, HB.out⟩
    case measure => simp [intOf]; omega
   ·have hyb : (y == a) = false := by simpa using hy
    have HE := Lib.hid (show (l.take (k + 1)).count a = d by rw [HS.out, if_neg hy]; rfl)
    clear hy HS
    go_wp2
    go_roundw
    case rel => exact ⟨k + 1, by omega, by go_num, by rw [HE.out], HB.out⟩
    case measure => simp [intOf]; omega
  ·have hke : k = l.length := by omega
   have HK := Lib.hid (show (l.take k).count a = l.count a by rw [hke, List.take_length])
   have hkl : ¬ (k : Int) < l.length := by omega
   clear hb hke
   go_wp2
   go_ret
   refine ⟨?_, HB.out⟩
   rw [← HK.out]
   rfl

/-- are pockets few? -/
def fewB (e : PkE) : Bool := e.ls.all fun l => decide (l.length ≤ 10)
def aggP (e : PkE) : Value := .agg #[e.v0, e.v1, e.v2, e.v3, e.v4, e.v5, e.v6, e.v7, e.v8]
theorem vs_get (e : PkE) {k : Nat} (h : k < 9) : (#[e.v0, e.v1, e.v2, e.v3, e.v4, e.v5, e.v6, e.v7, e.v8] : Array Value)[k]? = some (e.vs.getD k undef) := by
 rcases nine h with rfl | rfl | rfl | rfl | rfl | rfl | rfl | rfl | rfl <;> rfl
theorem fewB_no {e : PkE} {j : Nat} (hj : j < 9) (h : ¬ (e.ls.getD j []).length ≤ 10) : fewB e = false := by
 unfold fewB
 rw [List.all_eq_false]
 refine ⟨e.ls.getD j [], ?_, by simpa using h⟩
 rcases nine hj with rfl | rfl | rfl | rfl | rfl | rfl | rfl | rfl | rfl <;> simp [PkE.ls]
theorem fewB_yes {e : PkE} (h : ∀ j, j < 9 → (e.ls.getD j []).length ≤ 10) : fewB e = true := by
 unfold fewB
 rw [List.all_eq_true]
 intro l hl
 obtain ⟨j, hj, he⟩ := List.getElem_of_mem hl
 have := h j hj
 rw [List.getD_eq_getElem?_getD, List.getElem?_eq_getElem hj, he] at this
 simpa using this
def FwRel (e : PkE) (w0 : World) (vi : Value) (wr : World) : Prop := ∃ k : Nat, k ≤ 9 ∧ vi = .int .i64 k ∧ (∀ j, j < k → (e.ls.getD j []).length ≤ 10) ∧ w0 = wr
theorem rfewp_any (e : PkE) (w : World) (h : e.Ok w) :
 Calls Tryz.prog 25 #[aggP e] w fun x w' => x = .returned (.bool (fewB e)) ∧ Below w.heap.size w w' := by
 obtain ⟨r, hr⟩ : ∃ r, fewB e = r := ⟨_, rfl⟩
 rw [hr]
 have HR := Lib.hid hr
 have c0 := loc_alloc w #[e.v0, e.v1, e.v2, e.v3, e.v4, e.v5, e.v6, e.v7, e.v8] 58
 have HO := Lib.hid h
 have hcell : ∀ k, k < 9 → (w.alloc (.cells #[e.v0, e.v1, e.v2, e.v3, e.v4, e.v5, e.v6, e.v7, e.v8] 58)).cell? ⟨w.heap.size, k, none⟩ = some (e.vs.getD k undef) := fun k hk => (c0 k).trans (vs_get e hk)
 have HC := Lib.hid hcell
 clear hr h c0 hcell
 unfold aggP
 go_enter Tryz.func25, Tryz.ntmps25
 go_wp2
 go_loopw [3] (fun vi wr => FwRel e (w.alloc (.cells #[e.v0, e.v1, e.v2, e.v3, e.v4, e.v5, e.v6, e.v7, e.v8] 58)) vi wr) (fun vi _ => 9 - (intOf vi).toNat)
 case atStart => exact ⟨0, by omega, rfl, by omega, rfl⟩
 case round =>
  obtain ⟨k, hk, rfl, hall, rfl⟩ := hrel
  have HA := Lib.hid hall
  clear hall
  by_cases hlt : k < 9
  ·have hk9 : (k : Int) < 9 := by omega
   have q0 := HC.out k hlt
   obtain ⟨a, c, hv⟩ := (HO.out.at_ hlt).len
   rw [hv] at q0
   have H10 := Lib.hid (show ¬ (e.ls.getD k []).length ≤ 10 → fewB e = false from fewB_no hlt)
   generalize hn : (e.ls.getD k []).length = n at *
   have HN := Lib.hid hn
   clear hn hv
   by_cases h10 : n ≤ 10
   ·have h10i : ¬ (10 : Int) < (n : Int) := by omega
    have HL := Lib.hid h10
    clear h10
    go_wp2
    go_roundw
    case rel => exact ⟨k + 1, by omega, by go_num, fun j hj => by
     by_cases e2 : j = k
     ·subst e2; rw [HN.out]; exact HL.out
     ·exact HA.out j (by omega), rfl⟩
    case measure => simp [intOf]; omega
   ·have h10i : (10 : Int) < (n : Int) := by omega
    have HF := Lib.hid (H10.out h10)
    clear h10
    go_wp2
    go_ret
    exact ⟨ret_bool (HF.out.symm.trans HR.out), (Below.refl _ _).alloc (Nat.le_refl _) _⟩
  ·have hke : k = 9 := by omega
   subst hke
   have HF := Lib.hid (fewB_yes HA.out)
   go_wp2
   go_ret
   exact ⟨ret_bool (HF.out.symm.trans HR.out), (Below.refl _ _).alloc (Nat.le_refl _) _⟩
end Go.Proofs.YtnagdljgeglceaaGreat
/- pockets: All of a class. -/
set_option linter.unusedSimpArgs false
set_option linter.unusedVariables false
namespace Go.Proofs.YtnagdljgeglceaaGreat
open Go.ChangeShapes Go.RowKit

/-- all pockets, read. -/
structure PkR (w : World) (v : Value) (es : List PkE) : Prop where
 rd : Rd w v 9 es.length (es.flatMap PkE.vs)
 ok : ∀ e ∈ es, e.Ok w
theorem PkR.keep {w w' : World} {B : Nat} {v : Value} {es : List PkE} (h : PkR w v es) (hb : Below B w w') (hB : w.heap.size ≤ B) : PkR w' v es :=
 ⟨h.rd.keepBy hb hB, fun e he => (h.ok e he).keep hb hB⟩
theorem PkR.cell {w : World} {v : Value} {es : List PkE} (h : PkR w v es) {j : Nat} {e : PkE} (he : es[j]? = some e) :
 ∃ b off c, v = .slice (some ⟨b, off, none⟩) es.length c ∧ ∀ k, k < 9 → w.cell? ⟨b, off + (j * 9 + k), none⟩ = some (e.vs.getD k undef) := by
 obtain ⟨hl, ⟨-, h0⟩ | ⟨ad, c, rfl, hc⟩⟩ := h.rd
 ·have := (List.getElem?_eq_some_iff.1 he).1; omega
 ·have hv : ∀ k, k < 9 → (e.vs)[k]? = some (e.vs.getD k undef) := fun k hk => by
   rcases nine hk with rfl | rfl | rfl | rfl | rfl | rfl | rfl | rfl | rfl <;> rfl
  have hcell : ∀ k, k < 9 → w.cell? (ad.add (j * 9 + k)) = some (e.vs.getD k undef) := fun k hk => hc _ _ (flat_cell PkE.vs 9 (fun _ => rfl) he (hv k hk))
  obtain ⟨b, off, spot⟩ := ad
  have hl0 : es.length ≠ 0 := by have := (List.getElem?_eq_some_iff.1 he).1; omega
  obtain ⟨e0, he0⟩ : ∃ e0, es[0]? = some e0 := ⟨_, List.getElem?_eq_getElem (by omega)⟩
  have h00 := hc _ _ (flat_cell PkE.vs 9 (fun _ => rfl) he0 (show (e0.vs)[0]? = some e0.v0 from rfl))
  have hs : spot = none := by simpa [Addr.add] using World.cell?_spot h00
  subst hs
  exact ⟨b, off, c, rfl, fun k hk => by rw [← Go.WideShapes.add_plain]; exact hcell k hk⟩

theorem infoI64p : (Tryz.prog.info? 2).map (fun i => (i.zero, i.size, i.bytes)) = some (some (.int .i64 0), 1, 8) := by kernel_rfl
theorem wpL_append_nil {P : Program} {w : World} {ops : Array Oper} {rest : List Oper} {o : Oper} {a : Act} {Q : Exit → Act → World → Prop} {t e : TypeId} {i : TypeInfo} (hgd : o.guard = none) (s x : Operand)
 (ho : o.op = .call { callee := .builtin .append, args := #[s, x], argTypes := #[t, t] }) (size : Nat) (ht : P.underlying t = some (.slice e)) (hi : P.info? e = some i)
 (v : Value) (n : Nat) (xs : List Value) (hs : a.eval s = v) (hown : w.ownsRow 0 e size v n xs) (hx : a.eval x = .slice none 0 0)
 (h : wpList P ops Q rest (a.put o.dst v) w) : wpList P ops Q (o :: rest) a w := by
 refine wpList_plain hgd fun K2 hK2 => ?_
 have hr := run_append_owned_none (P := P) (w := w) 0 t o.type e i size ht hi v n xs hown
 unfold Oper.wp execOp
 simp only [ho, resolve, invoke, builtin, Sem.run_bind, Sem.run_pure, Result.andThen_ok, List.map_toArray, List.map_cons, List.map_nil, hs, hx, hr]
 exact hK2 _ _ h
theorem own_form {w : World} {B e sz n : Nat} {v : Value} {xs : List Value} (h : w.ownsRow B e sz v n xs) (hv : v ≠ .slice none 0 0) : ∃ g c, v = .slice (some ⟨g, 0, none⟩) n c := by
 rcases h.2 with ⟨h1, -⟩ | ⟨g, cap, cur, rfl, -⟩
 ·exact absurd h1 hv
 ·exact ⟨_, _, rfl⟩
structure AlRel (es : List PkE) (q : Nat) (w : World) (vo vi : Value) (wr : World) (k : Nat) : Prop where
 le : k ≤ es.length
 eq : vi = .int .i64 k
 row : wr.ownsRow 0 2 1 vo (haveF ((es.take k).map PkE.ls) q).length (longs (haveF ((es.take k).map PkE.ls) q))
 own : ∀ x, vo.ownBlock = some x → w.heap.size ≤ x
 nn : vo ≠ .slice none 0 0
 bel : Below w.heap.size w wr
def AlRelE (es : List PkE) (q : Nat) (w : World) (vo vi : Value) (wr : World) : Prop := ∃ k, AlRel es q w vo vi wr k
def AllP (w : World) (l : List Int) (e : Ending) (w' : World) : Prop := ∃ v, e = .returned v ∧ w'.ownsRow 0 2 1 v l.length (longs l) ∧ (∀ x, v.ownBlock = some x → w.heap.size ≤ x) ∧ Below w.heap.size w w'
theorem have_succ {es : List PkE} {k q : Nat} {e : PkE} (he : es[k]? = some e) : haveF ((es.take (k + 1)).map PkE.ls) q = haveF ((es.take k).map PkE.ls) q ++ e.ls.getD q [] := by
 rw [List.take_add_one, he]
 simp [haveF]
theorem have_len (es : List PkE) (q : Nat) (hf : ∀ e ∈ es, fewB e = true) (hq : q < 9) : (haveF (es.map PkE.ls) q).length ≤ es.length * 10 := by
 induction es with
 | nil => simp [haveF]
 | cons e es ih =>
  have h1 := ih fun x hx => hf x (by simp [hx])
  have h2 := hf e (by simp)
  unfold fewB at h2
  rw [List.all_eq_true] at h2
  have h3 : (e.ls.getD q []).length ≤ 10 := by
   have := h2 (e.ls.getD q []) (by rcases nine hq with rfl | rfl | rfl | rfl | rfl | rfl | rfl | rfl | rfl <;> simp [PkE.ls])
   simpa using this
  unfold haveF at h1 ⊢
  simp only [List.map_cons, List.flatMap_cons, List.length_append, List.length_cons]
  omega

set_option maxHeartbeats 1000000 in
set_option maxRecDepth 100000 in
theorem rallp_any (v : Value) (es : List PkE) (q : Nat) (w : World) (h : PkR w v es) (hf : ∀ e ∈ es, fewB e = true) (hq : q < 9) (hn : es.length ≤ 20) :
 Calls Tryz.prog 41 #[v, .int .i64 q] w (AllP w (haveF (es.map PkE.ls) q)) := by
 have H := Lib.hid h
 have HF := Lib.hid hf
 obtain ⟨pa, pc, rfl⟩ := h.rd.len
 obtain ⟨i0, hi0, hi1, hi2, hi3⟩ := info_parts infoI64p
 have HT := Lib.hid (And.intro hi0 (And.intro hi1 (And.intro hi2 hi3)))
 have hq9 : (q : Int) < 9 := by omega
 clear h hf hi1 hi2 hi3
 go_enter Tryz.func41, Tryz.ntmps41
 go_wp2
 go_loopw [5, 6] (fun vo vi wr => AlRelE es q w vo vi wr) (fun _ vi _ => es.length - (intOf vi).toNat)
 case atStart => exact ⟨0, by omega, rfl, by simpa [haveF, longs] using row_empty w 2 1, by simp [Value.ownBlock], by simp, (Below.refl _ _).alloc (Nat.le_refl _) _⟩
 case round =>
  obtain ⟨k, hk, rfl, hrow, hown, hnn, hb⟩ := hrel
  by_cases hlt : k < es.length
  ·have hkl : (k : Int) < es.length := by omega
   obtain ⟨e, he⟩ : ∃ e, es[k]? = some e := ⟨_, List.getElem?_eq_getElem hlt⟩
   have hR := H.out.keep hb (Nat.le_refl _)
   obtain ⟨b, off, c, hvs, hcell⟩ := hR.cell he
   simp only [Value.slice.injEq, true_and] at hvs
   obtain ⟨rfl, rfl⟩ := hvs
   have q0 := hcell q hq
   have hrd := (hR.ok e (List.mem_of_getElem? he)).at_ hq
   have hs := have_succ (q := q) he
   obtain ⟨l, hl⟩ : ∃ l, e.ls.getD q [] = l := ⟨_, rfl⟩
   obtain ⟨u, hu⟩ : ∃ u, e.vs.getD q undef = u := ⟨_, rfl⟩
   rw [hl] at hrd hs
   rw [hu] at hrd q0
   have q1 : wr.cell? ⟨b, off + k * 9 + q, none⟩ = some u := by rw [Nat.add_assoc]; exact q0
   obtain ⟨go, co, rfl⟩ := own_form hrow hnn
   clear hnn
   have hln : (haveF ((es.take k).map PkE.ls) q).length ≤ 200 := by
    have h1 := have_len (es.take k) q (fun x hx => HF.out x (List.mem_of_mem_take hx)) hq
    have h2 : (es.take k).length ≤ 20 := by simp; omega
    omega
   have hll : l.length ≤ 10 := by
    have h2 := HF.out e (List.mem_of_getElem? he)
    unfold fewB at h2
    rw [List.all_eq_true] at h2
    have := h2 l (by rw [← hl]; rcases nine hq with rfl | rfl | rfl | rfl | rfl | rfl | rfl | rfl | rfl <;> simp [PkE.ls])
    simpa using this
   have HS := Lib.hid hs
   obtain ⟨out, ho⟩ : ∃ out, haveF ((es.take k).map PkE.ls) q = out := ⟨_, rfl⟩
   rw [ho] at HS hrow hln
   have HO := Lib.hid ho
   have HRow := Lib.hid hrow
   have HOwn := Lib.hid hown
   have HB := Lib.hid hb
   clear hcell hR hs hl hu hown hb he ho
   rw [HO.out] at HOwn ⊢
   obtain ⟨hxl, ⟨hu0, hl0⟩ | ⟨al, cl, hu1, hcl⟩⟩ := hrd
   ·subst hu0
    have hln0 : l = [] := List.eq_nil_of_length_eq_zero hl0
    have HE := Lib.hid (show haveF ((es.take (k + 1)).map PkE.ls) q = out by rw [HS.out, hln0, List.append_nil])
    clear HS hln0 hl0 hxl hll hrow
    go_wp2_with (at_builtin; go_must (refine wpL_append_nil rfl _ _ rfl 1 Tryz.underlying56 hi0 (.slice (some ⟨go, 0, none⟩) out.length co) out.length (longs out) rfl HRow.out rfl ?_))
    go_roundw
    case rel => exact ⟨k + 1, by omega, by go_num, by rw [HE.out]; exact HRow.out, HOwn.out, by simp, HB.out⟩
    case measure => simp [intOf]; omega
   ·subst hu1
    have HC := Lib.hid hcl
    have HL1 := Lib.hid (fun x (hx : x ∈ longs l) => (by obtain ⟨z, -, rfl⟩ := List.mem_map.1 hx; rfl : x.oneCell' = true))
    clear hcl hrow hxl
    go_wp2_with (at_builtin; go_must (refine wpL_append rfl _ _ rfl 2 i0 (.int .i64 0) 1 8 Tryz.underlying56 HT.out.1 HT.out.2.1 HT.out.2.2.1 HT.out.2.2.2 rfl (by decide) (.slice (some ⟨go, 0, none⟩) out.length co) out.length (longs out) rfl HRow.out al l.length cl (longs l) rfl (by rw [longs_len, Nat.mul_one]) HC.out HL1.out ?c2 ?c3 ?_); go_must (case c2 => (unfold maxLen; omega)); go_must (case c3 => (omega)); go_must (intro v' w5 hown5 hg5 hnew5 hnil5); go_must (have hnn5 : v' ≠ .slice none 0 0 := fun e => by have := (hnil5.1 e).1; cases this); clear hnil5)
    have HNN := Lib.hid hnn5
    clear hnn5
    have HE := Lib.hid HS.out
    have hz := HB.out.size
    have B5 := Lib.hid (HB.out.grown hg5 (Nat.le_trans hz (Nat.le_refl _)) (fun x hx => HOwn.out x hx))
    have R5 := Lib.hid (show w5.ownsRow 0 2 1 v' (haveF ((es.take (k + 1)).map PkE.ls) q).length (longs (haveF ((es.take (k + 1)).map PkE.ls) q)) by rw [HE.out, List.length_append]; simpa [longs] using hown5)
    have O5 := Lib.hid (show ∀ x, v'.ownBlock = some x → w.heap.size ≤ x from fun x hx => by
     rcases hnew5 x hx with h1 | h1
     ·exact HOwn.out x h1
     ·omega)
    clear hown5 hg5 hnew5 HS
    go_wp2
    go_roundw
    case rel => exact ⟨k + 1, by omega, by go_num, R5.out, O5.out, HNN.out, B5.out⟩
    case measure => simp [intOf]; omega
  ·have hke : k = es.length := by omega
   have hkl : ¬ (k : Int) < es.length := by omega
   rw [hke, List.take_length] at hrow
   have HRow := Lib.hid hrow
   have HOwn := Lib.hid hown
   have HB := Lib.hid hb
   clear hrow hown hb hke
   go_wp2
   go_ret
   exact ⟨_, rfl, HRow.out, HOwn.out, HB.out⟩
end Go.Proofs.YtnagdljgeglceaaGreat
/- the document's pockets: Fits. -/
set_option linter.unusedSimpArgs false
set_option linter.unusedVariables false
namespace Go.Proofs.YtnagdljgeglceaaGreat
open Go.RowKit
section
variable {w : World} {t s : Int} {P : Nat} {ad : Addr} {n : Nat} {vs : List Int}

theorem partD_cell {l : List (Int × Int × Int)} {j : Nat} {x : Int × Int × Int} (h : l[j]? = some x) : (partCells l)[j * 3]? = some (.int .i64 x.1) ∧ (partCells l)[j * 3 + 1]? = some (.int .i64 x.2.1) ∧ (partCells l)[j * 3 + 2]? = some (.int .i64 x.2.2) := by
 induction l generalizing j with
 | nil => simp at h
 | cons p r ih =>
  cases j with
  | zero => simp at h; subst h; simp [partCells]
  | succ j =>
   have := ih (j := j) (by simpa using h)
   unfold partCells at this ⊢
   simp only [List.flatMap_cons]
   have e1 : (j + 1) * 3 = j * 3 + 3 := by omega
   rw [e1]
   simpa using this

theorem dPart_bd {z : Int} {h : List Int} : ∀ {l : List (Int × Int × Int)} {n m : Int}, dPart z h l n = some m → n - (l.length : Nat) ≤ m ∧ m ≤ n
 | [], n, m, e => by simp [dPart] at e; subst e; simp
 | x :: l, n, m, e => by
  unfold dPart at e
  split at e
  ·split at e
   ·have := dPart_bd e; simp; omega
   ·cases e
  ·have := dPart_bd e; simp; omega
theorem docR_bd {sz : Nat → Int} {all : List (List (List Int))} {l : List (Int × Int × Int)} {B : Nat} (hB : ∀ k, k < 9 → (haveF all k).length ≤ B) : ∀ {K : Nat} {m : Int}, K ≤ 9 → docR sz all l K = some m → -((K * l.length : Nat) : Int) ≤ m ∧ m ≤ ((K * B : Nat) : Int)
 | 0, m, _, e => by simp [docR] at e; subst e; simp
 | K + 1, m, hK, e => by
  unfold docR at e
  obtain ⟨q, h1, h2⟩ := Option.bind_eq_some_iff.1 e
  have i1 := docR_bd hB (by omega) h1
  split at h2
  ·have i2 := dPart_bd h2
   have i3 := hB K (by omega)
   have e1 : (K + 1) * l.length = K * l.length + l.length := Nat.succ_mul _ _
   have e2 : (K + 1) * B = K * B + B := Nat.succ_mul _ _
   rw [e1, e2]
   omega
  ·cases h2
theorem docR_none {sz : Nat → Int} {all : List (List (List Int))} {l : List (Int × Int × Int)} {k : Nat} (h : docR sz all l k = none) : ∀ d, docR sz all l (k + d) = none
 | 0 => h
 | d + 1 => by
  show docR sz all l ((k + d) + 1) = none
  unfold docR
  rw [docR_none h d]
  rfl
theorem fitsD_no {sz : Nat → Int} {all : List (List (List Int))} {l : List (Int × Int × Int)} {k : Nat} (hk : k ≤ 9) (h : docR sz all l k = none) : fitsD sz all l = false := by
 have := docR_none h (9 - k)
 rw [show k + (9 - k) = 9 by omega] at this
 unfold fitsD
 rw [this]
theorem lens_no {es : List PkE} {j k : Nat} {e : PkE} (he : es[j]? = some e) (h : ¬ (e.ls.getD k []).length ≤ 4) : lensB (es.map PkE.ls) k = false := by
 unfold lensB
 rw [List.all_eq_false]
 exact ⟨e.ls, List.mem_map.2 ⟨e, List.mem_of_getElem? he, rfl⟩, by simpa using h⟩
theorem lens_yes {es : List PkE} {k : Nat} (h : ∀ (j : Nat) (e : PkE), es[j]? = some e → (e.ls.getD k []).length ≤ 4) : lensB (es.map PkE.ls) k = true := by
 unfold lensB
 rw [List.all_eq_true]
 intro p hp
 obtain ⟨e, he, rfl⟩ := List.mem_map.1 hp
 obtain ⟨j, hj, hje⟩ := List.getElem_of_mem he
 simpa using h j e (by rw [List.getElem?_eq_getElem hj, hje])

structure FdO (w2 : World) (sz : Nat → Int) (all : List (List (List Int))) (L : List (Int × Int × Int)) (vn vk : Value) (wr : World) (k : Nat) (m : Int) : Prop where
 le : k ≤ 9
 eq : vk = .int .i64 k
 en : vn = .int .i64 m
 dr : docR sz all L k = some m
 bel : Below w2.heap.size w2 wr
def FdOE (w2 : World) (sz : Nat → Int) (all : List (List (List Int))) (L : List (Int × Int × Int)) (vn vk : Value) (wr : World) : Prop := ∃ k m, FdO w2 sz all L vn vk wr k m
structure FdL (w2 : World) (es : List PkE) (k : Nat) (vt : Value) (wr : World) (j : Nat) : Prop where
 le : j ≤ es.length
 eq : vt = .int .i64 j
 al : ∀ (i : Nat) (e : PkE), i < j → es[i]? = some e → (e.ls.getD k []).length ≤ 4
 bel : Below w2.heap.size w2 wr
def FdLE (w2 : World) (es : List PkE) (k : Nat) (vt : Value) (wr : World) : Prop := ∃ j, FdL w2 es k vt wr j
structure FdI (w2 : World) (z : Int) (h : List Int) (L : List (Int × Int × Int)) (n0 : Int) (vn vi : Value) (wr : World) (i : Nat) (m : Int) : Prop where
 le : i ≤ L.length
 eq : vi = .int .i64 i
 en : vn = .int .i64 m
 dp : dPart z h L n0 = dPart z h (L.drop i) m
 lo : n0 - (i : Nat) ≤ m
 hi : m ≤ n0
 bel : Below w2.heap.size w2 wr
def FdIE (w2 : World) (z : Int) (h : List Int) (L : List (Int × Int × Int)) (n0 : Int) (vn vi : Value) (wr : World) : Prop := ∃ i m, FdI w2 z h L n0 vn vi wr i m

theorem drop_get {α : Type} {L : List α} {i : Nat} {x : α} (h : L[i]? = some x) : L.drop i = x :: L.drop (i + 1) := by
 have hl := (List.getElem?_eq_some_iff.1 h).1
 rw [List.drop_eq_getElem_cons hl]
 congr 1
 exact (List.getElem?_eq_some_iff.1 h).2

set_option maxHeartbeats 2000000 in
set_option maxRecDepth 100000 in
theorem rfitsp_yes (av : Value) (es : List PkE) (c : Nat) (w : World) (h : XV w (es.length : Nat) P s ad n vs) (hs : (chkF vs (es.length : Nat) P s).2 = true) (hk : PkR w av es) (hf : ∀ e ∈ es, fewB e = true) (hn : es.length ≤ 20) :
 Calls Tryz.prog 16 #[.agg #[.int .i64 (es.length : Nat), .int .i64 P, .int .i64 s], .slice (some ad) n c, av] w fun e w' => e = .returned (.bool (fitsD (fun k => sizeF s k) (es.map PkE.ls) (partsF vs (es.length : Nat) P s))) ∧ Below w.heap.size w w' := by
 have H := Lib.hid (fun w (h : XV w (es.length : Nat) P s ad n vs) => rsound_any c w h)
 rw [hs] at H
 have HP := Lib.hid (fun w (h : XV w (es.length : Nat) P s ad n vs) => rparts_any c w h hs)
 have hbd := h.bd
 have HSz := Lib.hid (fun (k : Nat) W => rsize_any s k W ⟨hbd.2.2.2.2.1, hbd.2.2.2.2.2.1⟩)
 obtain ⟨L, hL⟩ : ∃ L, partsF vs (es.length : Nat) P s = L := ⟨_, rfl⟩
 have hll : L.length ≤ 33 * 64 := by
  rw [← hL]
  have := partsL_len vs (es.length : Nat) s P
  unfold partsF
  rw [Int.toNat_natCast]
  omega
 rw [hL] at HP ⊢
 obtain ⟨r, hr⟩ : ∃ r, fitsD (fun k => sizeF s k) (es.map PkE.ls) L = r := ⟨_, rfl⟩
 rw [hr]
 have HR := Lib.hid hr
 have c0 := loc_alloc w #[.int .i64 (es.length : Nat), .int .i64 P, .int .i64 s] 23
 have S0 := ((BS.start w).alloc (.cells #[.int .i64 (es.length : Nat), .int .i64 P, .int .i64 s] 23))
 have HV2 := Lib.hid (h.keep S0.bel)
 have HV := Lib.hid h
 have HK := Lib.hid hk
 have HF := Lib.hid hf
 obtain ⟨pa, pc, rfl⟩ := hk.rd.len
 have hhv : ∀ k, k < 9 → (haveF (es.map PkE.ls) k).length ≤ 200 := fun k hk9 => by have := have_len es k hf hk9; omega
 have HHv := Lib.hid hhv
 clear h hs hk hf hr hL hbd hhv
 go_enter Tryz.func16, Tryz.ntmps16
 go_wp2_with fail
 refine (calls_b S0 (H.out _ HV2.out)).mono ?_
 rintro e w1 ⟨rfl, S1, S1l⟩
 have c1 := loc_step S1l (by simp) c0
 clear S1l
 have HVa := Lib.hid (HV.out.keep S1.bel)
 clear S0 c0 HV2
 go_wp2_with fail
 refine (HP.out _ HVa.out).mono ?_
 rintro e w2 ⟨v, rfl, hrow, -, hb⟩
 obtain ⟨pv, cv, rfl⟩ := row_shape hrow
 have z1 := S1.bel.size
 have hz1 : w.heap.size < w1.heap.size := by have := S1.ls w.heap.size (by simp); exact this.1
 have HB2 := Lib.hid (S1.bel.trans (hb.mono z1))
 have HQ := Lib.hid (fun W (hW : Below w2.heap.size w2 W) => (⟨HK.out.keep ((S1.bel.trans (hb.mono z1)).trans (hW.mono (S1.bel.trans (hb.mono z1)).size)) (Nat.le_refl _), ownsRow_block hrow (fun x hx => hW.block x (ownsRow_lt hrow hx)), fun o => ((World.cell?_of_block (a := ⟨w.heap.size, o, none⟩) (hW.block w.heap.size (by have := hb.size; omega))).trans (World.cell?_of_block (a := ⟨w.heap.size, o, none⟩) (hb.block w.heap.size hz1))).trans (c1 o)⟩ : PkR W (.slice pa es.length pc) es ∧ W.ownsRow 0 91 3 (.slice pv L.length cv) L.length (partCells L) ∧ ∀ o : Nat, W.cell? ⟨w.heap.size, o, none⟩ = (#[.int .i64 (es.length : Nat), .int .i64 P, .int .i64 s] : Array Value)[o]?))
 clear hrow hb S1 c1 HP H HVa hz1 z1
 go_wp2
 go_loopw [8, 9] (fun vn vk wr => FdOE w2 (fun k => sizeF s k) (es.map PkE.ls) L vn vk wr) (fun _ vk _ => 9 - (intOf vk).toNat)
 case atStart => exact ⟨0, 0, by omega, rfl, rfl, rfl, Below.refl _ _⟩
 case round =>
  obtain ⟨k, m, hk, rfl, rfl, hdr, hbel⟩ := hrel
  by_cases hlt : k < 9
  ·have hk9 : (k : Int) < 9 := by omega
   have hbd := docR_bd HHv.out hk hdr
   have HDr := Lib.hid hdr
   have HBel := Lib.hid hbel
   have hm1 : -(9 * 33 * 64 : Int) ≤ m ∧ m ≤ 1800 := by
    have h1 := Nat.mul_le_mul (show k ≤ 9 by omega) hll
    have h2 := Nat.mul_le_mul_right 200 (show k ≤ 9 by omega)
    omega
   clear hdr hbel hbd
   go_wp2
   go_loopw [10] (fun vt wr => FdLE w2 es k vt wr) (fun vt _ => es.length - (intOf vt).toNat)
   case atStart => exact ⟨0, by omega, rfl, fun i e hi => absurd hi (by omega), HBel.out⟩
   case round =>
    clear HBel
    obtain ⟨j, hj, rfl, hal, hbel⟩ := hrel
    obtain ⟨hpk, -, hcfg⟩ := HQ.out _ hbel
    by_cases hlj : j < es.length
    ·have hjl : (j : Int) < es.length := by omega
     obtain ⟨e, he⟩ : ∃ e, es[j]? = some e := ⟨_, List.getElem?_eq_getElem hlj⟩
     obtain ⟨b, off, c, hvs, hcell⟩ := hpk.cell he
     simp only [Value.slice.injEq, true_and] at hvs
     obtain ⟨rfl, rfl⟩ := hvs
     have q0 := hcell k hlt
     have hrd := (hpk.ok e (List.mem_of_getElem? he)).at_ hlt
     obtain ⟨ua, uc, hu⟩ := hrd.len
     rw [hu] at q0
     have q1 : wr.cell? ⟨b, off + j * 9 + k, none⟩ = some (.slice ua (e.ls.getD k []).length uc) := by rw [Nat.add_assoc]; exact q0
     have HNo := Lib.hid (fun h : ¬ (e.ls.getD k []).length ≤ 4 => lens_no he h)
     have HAl := Lib.hid hal
     have HBl := Lib.hid hbel
     have HE := Lib.hid he
     obtain ⟨ln, hln⟩ : ∃ ln, (e.ls.getD k []).length = ln := ⟨_, rfl⟩
     rw [hln] at q0 q1 HNo
     have HLn := Lib.hid hln
     clear hpk hcell hrd hu hal hbel he hln hcfg
     by_cases h4 : ln ≤ 4
     ·have h4i : ¬ (4 : Int) < (ln : Int) := by omega
      have H4 := Lib.hid h4
      clear h4 HNo
      go_wp2
      go_roundw
      case rel => exact ⟨j + 1, by omega, by go_num, fun i e' hi he' => by
       by_cases e2 : i = j
       ·subst e2
        have := HE.out.symm.trans he'
        simp at this
        subst this
        rw [HLn.out]; exact H4.out
       ·exact HAl.out i e' (by omega) he', HBl.out⟩
      case measure => simp [intOf]; omega
     ·have h4i : (4 : Int) < (ln : Int) := by omega
      have HN := Lib.hid (show fitsD (fun k => sizeF s k) (es.map PkE.ls) L = false from fitsD_no (k := k + 1) (by omega) (by
       unfold docR
       rw [HDr.out, Option.bind_some, HNo.out h4]
       rfl))
      clear h4 HNo
      go_wp2
      go_ret
      exact ⟨ret_bool (HN.out.symm.trans HR.out), HB2.out.trans (HBl.out.mono HB2.out.size)⟩
    ·have hjl : ¬ (j : Int) < es.length := by omega
     have hje : j = es.length := by omega
     have HLe := Lib.hid (show lensB (es.map PkE.ls) k = true from lens_yes fun i e he => hal i e (by have := (List.getElem?_eq_some_iff.1 he).1; omega) he)
     have HBl := Lib.hid hbel
     have hpkH := Lib.hid hpk
     clear hal hbel hje hpk hcfg
     go_wp2_with fail
     refine (rallp_any _ es k _ hpkH.out HF.out hlt hn).mono ?_
     rintro e w3 ⟨hv, rfl, hrow3, -, hb3⟩
     obtain ⟨hl, hhl⟩ : ∃ hl, haveF (es.map PkE.ls) k = hl := ⟨_, rfl⟩
     have hhn := HHv.out k hlt
     rw [hhl] at hrow3 hhn
     obtain ⟨ph, ch, rfl⟩ := row_shape hrow3
     have z2 := HBl.out.size
     have HB3 := Lib.hid (HBl.out.trans (hb3.mono z2))
     have HH := Lib.hid (fun W (hW : Below w3.heap.size w3 W) => (Rd.of_row (ownsRow_block hrow3 (fun x hx => hW.block x (ownsRow_lt hrow3 hx))) : RdI W (.slice ph hl.length ch) hl))
     have HDk := Lib.hid (show docR (fun k => sizeF s k) (es.map PkE.ls) L (k + 1) = dPart (sizeF s k) hl L (m + (hl.length : Nat)) by
      unfold docR
      rw [HDr.out, Option.bind_some, if_pos HLe.out, hhl])
     clear hrow3 hb3 hhl hpkH HLe HBl
     go_wp2
     go_loopw [8, 12] (fun vn vi wr => FdIE w3 (sizeF s k) hl L (m + (hl.length : Nat)) vn vi wr) (fun _ vi _ => L.length - (intOf vi).toNat)
     case atStart => exact ⟨0, m + (hl.length : Nat), by omega, rfl, by go_num, rfl, by omega, by omega, Below.refl _ _⟩
     case round =>
      obtain ⟨i, q, hi, rfl, rfl, hdp, hlo, hhi, hbel⟩ := hrel
      have HBi := Lib.hid (HB3.out.trans (hbel.mono HB3.out.size))
      have HBj := Lib.hid hbel
      obtain ⟨-, hrowL, hcfg⟩ := HQ.out _ HBi.out
      by_cases hli : i < L.length
      ·have hil : (i : Int) < L.length := by omega
       obtain ⟨⟨x1, x2, x3⟩, hx⟩ : ∃ x, L[i]? = some x := ⟨_, List.getElem?_eq_getElem hli⟩
       obtain ⟨d1, d2, d3⟩ := partD_cell hx
       obtain ⟨g, cg, hgv⟩ := Joins.ownsRow_form hrowL (by omega)
       simp only [Value.slice.injEq, true_and] at hgv
       obtain ⟨rfl, rfl⟩ := hgv
       have r1 := (hrowL.cellAt (i * 3) (by omega)).trans d1
       have r2 := (hrowL.cellAt (i * 3 + 1) (by omega)).trans d2
       have r3 := (hrowL.cellAt (i * 3 + 2) (by omega)).trans d3
       have e2 := (hcfg 2).trans rfl
       have hdr1 := drop_get hx
       have HX := Lib.hid hdp
       have HD1 := Lib.hid hdr1
       clear hdp hdr1 hrowL hcfg d1 d2 d3 hx hbel
       by_cases h4 : x1 = 4
       ·subst h4
        by_cases hz : x3 = sizeF s k
        ·have hzb : (x3 == sizeF s k) = true := by simpa using hz
         have HZ := Lib.hid hz
         clear hz
         obtain ⟨cn, hcn⟩ : ∃ cn, hl.count x2 = cn := ⟨_, rfl⟩
         have HCn := Lib.hid hcn
         have HOf := Lib.hid (fun W (hW : Below w3.heap.size w3 W) => roften_any (.slice ph hl.length ch) hl x2 W (HH.out W hW) (by omega))
         rw [hcn] at HOf
         have HXs := Lib.hid (fun W (hW : Below wr.heap.size wr W) => (⟨hW, (hW.cell (World.block_lt_of_cell? wr _ r1)).trans r1, (hW.cell (World.block_lt_of_cell? wr _ r2)).trans r2, (hW.cell (World.block_lt_of_cell? wr _ r3)).trans r3, (hW.cell (World.block_lt_of_cell? wr _ e2)).trans e2⟩ : Below wr.heap.size wr W ∧ W.cell? ⟨g, i * 3, none⟩ = some (.int .i64 4) ∧ W.cell? ⟨g, i * 3 + 1, none⟩ = some (.int .i64 x2) ∧ W.cell? ⟨g, i * 3 + 2, none⟩ = some (.int .i64 x3) ∧ W.cell? ⟨w.heap.size, 2, none⟩ = some (.int .i64 s)))
         clear hcn r1 r2 r3 e2
         go_wp2
         refine wp_region_noPanic ?_
         refine wp_region_held_drew (S := fun w' => Below wr.heap.size wr w' ∧ w'.cell? ⟨g, i * 3, none⟩ = some (.int .i64 4) ∧ w'.cell? ⟨g, i * 3 + 1, none⟩ = some (.int .i64 x2) ∧ w'.cell? ⟨g, i * 3 + 2, none⟩ = some (.int .i64 x3) ∧ w'.cell? ⟨w.heap.size, 2, none⟩ = some (.int .i64 s)) (by kernel_rfl) ?_ (fun hHeld => ?_)
         ·exact HXs.out _ (Below.refl _ _).drew
         refine wpAnyH_take (i := 0) (oi := _) (v := ?_) rfl (by kernel_rfl) (by kernel_rfl) (by kernel_rfl) (fun _ _ _ h => h) (Or.inl ⟨by rfl, ?_⟩) (by assumption) ?_
         rotate_left
         ·intro w hSw; (try dsimp only at hSw); go_simp; try with_reducible rfl
         try simp only [Act.put, zA, zB, zD, zE, zF]
         refine wpAnyH_take (i := 1) (oi := _) (v := ?_) rfl (by kernel_rfl) (by kernel_rfl) (by kernel_rfl) (fun _ _ _ h => h) (Or.inl ⟨by rfl, ?_⟩) (by assumption) ?_
         rotate_left
         ·intro w hSw; (try dsimp only at hSw); go_simp; try with_reducible rfl
         try simp only [Act.put, zA, zB, zC, zD, zE, zF]
         refine wpAnyH_take (i := 2) (oi := _) (v := ?_) rfl (by kernel_rfl) (by kernel_rfl) (by kernel_rfl) (fun _ _ _ h => h) (Or.inl ⟨by rfl, ?_⟩) (by assumption) ?_
         rotate_left
         ·intro w hSw; (try dsimp only at hSw); go_simp; try with_reducible rfl
         try simp only [Act.put, zA, zB, zC, zD, zE, zF]
         refine wpAnyH_take (i := 3) (oi := _) (v := ?_) rfl (by kernel_rfl) (by kernel_rfl) (by kernel_rfl) (fun _ _ _ h => h) (Or.inl ⟨by rfl, ?_⟩) (by assumption) ?_
         rotate_left
         ·intro w hSw; (try dsimp only at hSw); go_simp; try with_reducible rfl
         try simp only [Act.put, zA, zB, zC, zD, zE, zF]
         refine wpAnyH_take (i := 4) (oi := _) (v := ?_) rfl (by kernel_rfl) (by kernel_rfl) (by kernel_rfl) (fun _ _ _ h => h) (Or.inl ⟨by rfl, ?_⟩) (by assumption) ?_
         rotate_left
         ·intro w hSw; (try dsimp only at hSw); go_simp; try with_reducible rfl
         try simp only [Act.put, zA, zB, zC, zD, zE, zF]
         refine wpAnyH_take (i := 5) (oi := _) (v := ?_) rfl (by kernel_rfl) (by kernel_rfl) (by kernel_rfl) (fun _ _ _ h => h) (Or.inl ⟨by rfl, ?_⟩) (by assumption) ?_
         rotate_left
         ·intro w hSw; (try dsimp only at hSw); go_simp; try with_reducible rfl
         try simp only [Act.put, zA, zB, zC, zD, zE, zF]
         refine wpAnyH_take (i := 6) (oi := _) (v := ?_) rfl (by kernel_rfl) (by kernel_rfl) (by kernel_rfl) (fun _ _ _ h => h) (Or.inl ⟨by rfl, ?_⟩) (by assumption) ?_
         rotate_left
         ·intro w hSw; (try dsimp only at hSw); go_simp; try with_reducible rfl
         try simp only [Act.put, zA, zB, zC, zD, zE, zF]
         refine wpAnyH_take (i := 7) (oi := _) (v := ?_) rfl (by kernel_rfl) (by kernel_rfl) (by kernel_rfl) (fun _ _ _ h => h) (Or.inl ⟨by rfl, ?_⟩) (by assumption) ?_
         rotate_left
         ·intro w hSw; (try dsimp only at hSw); go_simp; try with_reducible rfl
         try simp only [Act.put, zA, zB, zC, zD, zE, zF]
         refine wpAnyH_take (i := 8) (oi := _) (v := ?_) rfl (by kernel_rfl) (by kernel_rfl) (by kernel_rfl) (fun _ _ _ h => h) (Or.inl ⟨by rfl, ?_⟩) (by assumption) ?_
         rotate_left
         ·intro w hSw; (try dsimp only at hSw); go_simp; try with_reducible rfl
         try simp only [Act.put, zA, zB, zC, zD, zE, zF]
         refine wpAnyH_take (i := 9) (oi := _) (v := ?_) rfl (by kernel_rfl) (by kernel_rfl) (by kernel_rfl) (fun _ _ _ h => h) (Or.inl ⟨by rfl, ?_⟩) (by assumption) ?_
         rotate_left
         ·intro w hSw; (try dsimp only at hSw); go_simp; try with_reducible rfl
         try simp only [Act.put, zA, zB, zC, zD, zE, zF]
         refine wpAnyH_take (i := 10) (oi := _) (v := ?_) rfl (by kernel_rfl) (by kernel_rfl) (by kernel_rfl) (fun _ _ _ h => h) (Or.inl ⟨by rfl, ?_⟩) (by assumption) ?_
         rotate_left
         ·intro w hSw; (try dsimp only at hSw); go_simp; try with_reducible rfl
         try simp only [Act.put, zA, zB, zC, zD, zE, zF]
         refine wpAnyH_take (i := 11) (oi := _) (v := ?_) rfl (by kernel_rfl) (by kernel_rfl) (by kernel_rfl) (fun _ _ _ h => h) (Or.inl ⟨by rfl, ?_⟩) (by assumption) ?_
         rotate_left
         ·intro w hSw; (try dsimp only at hSw); go_simp; try with_reducible rfl
         try simp only [Act.put, zA, zB, zC, zD, zE, zF]
         refine wpAnyH_take (i := 12) (oi := _) (v := ?_) rfl (by kernel_rfl) (by kernel_rfl) (by kernel_rfl) (fun _ _ _ h => h) (Or.inl ⟨by rfl, ?_⟩) (by assumption) ?_
         rotate_left
         ·intro w hSw; (try dsimp only at hSw); go_simp; try with_reducible rfl
         try simp only [Act.put, zA, zB, zC, zD, zE, zF]
         refine wpAnyH_take (i := 13) (oi := _) (v := ?_) rfl (by kernel_rfl) (by kernel_rfl) (by kernel_rfl) (fun _ _ _ h => h) (Or.inl ⟨by rfl, ?_⟩) (by assumption) ?_
         rotate_left
         ·intro w hSw; (try dsimp only at hSw); go_simp; try with_reducible rfl
         try simp only [Act.put, zA, zB, zC, zD, zE, zF]
         refine wpAnyH_take (i := 14) (oi := _) (v := ?_) rfl (by kernel_rfl) (by kernel_rfl) (by kernel_rfl) (fun _ _ _ h => h) (Or.inl ⟨by rfl, ?_⟩) (by assumption) ?_
         rotate_left
         ·intro w hSw; (try dsimp only at hSw); go_simp; try with_reducible rfl
         try simp only [Act.put, zA, zB, zC, zD, zE, zF]
         refine wpAnyH_ready (rs := [15]) (by kernel_rfl) (by simp) ?_
         refine AllReadyH.cons (o := _) rfl (fun K hK => ?_) AllReadyH.nil
         go_simp
         refine (HSz.out k _).mono ?_
         rintro e w5 ⟨rfl, b5⟩
         have B5 := hHeld.1.trans (b5.mono hHeld.1.size)
         dsimp only
         refine hK.out _ _ ?_ (fun hHeld => ?_)
         ·exact HXs.out _ B5
         clear hK K
         try simp only [Act.put, zA, zB, zC, zD, zE, zF]
         refine wpAnyH_take (i := 16) (oi := _) (v := ?_) rfl (by kernel_rfl) (by kernel_rfl) (by kernel_rfl) (fun _ _ _ h => h) (Or.inl ⟨by rfl, ?_⟩) (by assumption) ?_
         rotate_left
         ·intro w hSw; (try dsimp only at hSw); go_simp; try with_reducible rfl
         try simp only [Act.put, zA, zB, zC, zD, zE, zF]
         refine wpAnyH_take (i := 17) (oi := _) (v := ?_) rfl (by kernel_rfl) (by kernel_rfl) (by kernel_rfl) (fun _ _ _ h => h) (Or.inl ⟨by rfl, ?_⟩) (by assumption) ?_
         rotate_left
         ·intro w hSw; (try dsimp only at hSw); go_simp; try with_reducible rfl
         try simp only [Act.put, zA, zB, zC, zD, zE, zF]
         refine wpAnyH_done (by kernel_rfl) ?_ _
         refine NoPanic.normal ?_
         obtain ⟨q0, q1, q2, q3, q4⟩ := HXs.out _ B5
         have B6 := Lib.hid (HBj.out.trans (B5.mono HBj.out.size))
         clear hHeld b5 B5
         go_wp2_with fail
         refine (HOf.out _ B6.out).mono ?_
         rintro e w6 ⟨rfl, b6⟩
         have B7 := Lib.hid (B6.out.trans (b6.mono B6.out.size))
         clear b6 q0 q1 q2 q3 q4
         by_cases h1 : cn = 1
         ·subst h1
          have HD2 := Lib.hid (show dPart (sizeF s k) hl (L.drop i) q = dPart (sizeF s k) hl (L.drop (i + 1)) (q - 1) by
           rw [HD1.out]
           rw [dPart, if_pos ⟨rfl, HZ.out⟩, if_pos HCn.out])
          go_wp2
          go_roundw
          case rel => exact ⟨i + 1, q - 1, by omega, by go_num, by go_num, HX.out.trans HD2.out, by omega, by omega, B7.out⟩
          case measure => simp [intOf]; omega
         ·have h1b : ((cn : Int) != 1) = true := by simp; omega
          have HN := Lib.hid (show fitsD (fun k => sizeF s k) (es.map PkE.ls) L = false from fitsD_no (k := k + 1) (by omega) (by
           rw [HDk.out, HX.out, HD1.out]
           unfold dPart
           rw [if_pos ⟨rfl, HZ.out⟩, if_neg (by rw [HCn.out]; exact h1)]))
          have HB7 := Lib.hid (HB2.out.trans ((HB3.out.trans (B7.out.mono HB3.out.size)).mono HB2.out.size))
          clear h1
          go_wp2
          go_ret
          exact ⟨ret_bool (HN.out.symm.trans HR.out), HB7.out⟩
        ·have hzb : (x3 == sizeF s k) = false := by simpa using hz
         have HD2 := Lib.hid (show dPart (sizeF s k) hl (L.drop i) q = dPart (sizeF s k) hl (L.drop (i + 1)) q by
          rw [HD1.out]
          rw [dPart, if_neg (fun h => hz h.2)])
         have HXs := Lib.hid (fun W (hW : Below wr.heap.size wr W) => (⟨hW, (hW.cell (World.block_lt_of_cell? wr _ r1)).trans r1, (hW.cell (World.block_lt_of_cell? wr _ r3)).trans r3, (hW.cell (World.block_lt_of_cell? wr _ e2)).trans e2⟩ : Below wr.heap.size wr W ∧ W.cell? ⟨g, i * 3, none⟩ = some (.int .i64 4) ∧ W.cell? ⟨g, i * 3 + 2, none⟩ = some (.int .i64 x3) ∧ W.cell? ⟨w.heap.size, 2, none⟩ = some (.int .i64 s)))
         clear hz r1 r2 r3 e2
         go_wp2
         refine wp_region_noPanic ?_
         refine wp_region_held_drew (S := fun w' => Below wr.heap.size wr w' ∧ w'.cell? ⟨g, i * 3, none⟩ = some (.int .i64 4) ∧ w'.cell? ⟨g, i * 3 + 2, none⟩ = some (.int .i64 x3) ∧ w'.cell? ⟨w.heap.size, 2, none⟩ = some (.int .i64 s)) (by kernel_rfl) ?_ (fun hHeld => ?_)
         ·exact HXs.out _ (Below.refl _ _).drew
         refine wpAnyH_take (i := 0) (oi := _) (v := ?_) rfl (by kernel_rfl) (by kernel_rfl) (by kernel_rfl) (fun _ _ _ h => h) (Or.inl ⟨by rfl, ?_⟩) (by assumption) ?_
         rotate_left
         ·intro w hSw; (try dsimp only at hSw); go_simp; try with_reducible rfl
         try simp only [Act.put, zA, zB, zD, zE, zF]
         refine wpAnyH_take (i := 1) (oi := _) (v := ?_) rfl (by kernel_rfl) (by kernel_rfl) (by kernel_rfl) (fun _ _ _ h => h) (Or.inl ⟨by rfl, ?_⟩) (by assumption) ?_
         rotate_left
         ·intro w hSw; (try dsimp only at hSw); go_simp; try with_reducible rfl
         try simp only [Act.put, zA, zB, zC, zD, zE, zF]
         refine wpAnyH_take (i := 2) (oi := _) (v := ?_) rfl (by kernel_rfl) (by kernel_rfl) (by kernel_rfl) (fun _ _ _ h => h) (Or.inl ⟨by rfl, ?_⟩) (by assumption) ?_
         rotate_left
         ·intro w hSw; (try dsimp only at hSw); go_simp; try with_reducible rfl
         try simp only [Act.put, zA, zB, zC, zD, zE, zF]
         refine wpAnyH_take (i := 3) (oi := _) (v := ?_) rfl (by kernel_rfl) (by kernel_rfl) (by kernel_rfl) (fun _ _ _ h => h) (Or.inl ⟨by rfl, ?_⟩) (by assumption) ?_
         rotate_left
         ·intro w hSw; (try dsimp only at hSw); go_simp; try with_reducible rfl
         try simp only [Act.put, zA, zB, zC, zD, zE, zF]
         refine wpAnyH_take (i := 4) (oi := _) (v := ?_) rfl (by kernel_rfl) (by kernel_rfl) (by kernel_rfl) (fun _ _ _ h => h) (Or.inl ⟨by rfl, ?_⟩) (by assumption) ?_
         rotate_left
         ·intro w hSw; (try dsimp only at hSw); go_simp; try with_reducible rfl
         try simp only [Act.put, zA, zB, zC, zD, zE, zF]
         refine wpAnyH_take (i := 5) (oi := _) (v := ?_) rfl (by kernel_rfl) (by kernel_rfl) (by kernel_rfl) (fun _ _ _ h => h) (Or.inl ⟨by rfl, ?_⟩) (by assumption) ?_
         rotate_left
         ·intro w hSw; (try dsimp only at hSw); go_simp; try with_reducible rfl
         try simp only [Act.put, zA, zB, zC, zD, zE, zF]
         refine wpAnyH_take (i := 6) (oi := _) (v := ?_) rfl (by kernel_rfl) (by kernel_rfl) (by kernel_rfl) (fun _ _ _ h => h) (Or.inl ⟨by rfl, ?_⟩) (by assumption) ?_
         rotate_left
         ·intro w hSw; (try dsimp only at hSw); go_simp; try with_reducible rfl
         try simp only [Act.put, zA, zB, zC, zD, zE, zF]
         refine wpAnyH_take (i := 7) (oi := _) (v := ?_) rfl (by kernel_rfl) (by kernel_rfl) (by kernel_rfl) (fun _ _ _ h => h) (Or.inl ⟨by rfl, ?_⟩) (by assumption) ?_
         rotate_left
         ·intro w hSw; (try dsimp only at hSw); go_simp; try with_reducible rfl
         try simp only [Act.put, zA, zB, zC, zD, zE, zF]
         refine wpAnyH_take (i := 8) (oi := _) (v := ?_) rfl (by kernel_rfl) (by kernel_rfl) (by kernel_rfl) (fun _ _ _ h => h) (Or.inl ⟨by rfl, ?_⟩) (by assumption) ?_
         rotate_left
         ·intro w hSw; (try dsimp only at hSw); go_simp; try with_reducible rfl
         try simp only [Act.put, zA, zB, zC, zD, zE, zF]
         refine wpAnyH_take (i := 9) (oi := _) (v := ?_) rfl (by kernel_rfl) (by kernel_rfl) (by kernel_rfl) (fun _ _ _ h => h) (Or.inl ⟨by rfl, ?_⟩) (by assumption) ?_
         rotate_left
         ·intro w hSw; (try dsimp only at hSw); go_simp; try with_reducible rfl
         try simp only [Act.put, zA, zB, zC, zD, zE, zF]
         refine wpAnyH_take (i := 10) (oi := _) (v := ?_) rfl (by kernel_rfl) (by kernel_rfl) (by kernel_rfl) (fun _ _ _ h => h) (Or.inl ⟨by rfl, ?_⟩) (by assumption) ?_
         rotate_left
         ·intro w hSw; (try dsimp only at hSw); go_simp; try with_reducible rfl
         try simp only [Act.put, zA, zB, zC, zD, zE, zF]
         refine wpAnyH_take (i := 11) (oi := _) (v := ?_) rfl (by kernel_rfl) (by kernel_rfl) (by kernel_rfl) (fun _ _ _ h => h) (Or.inl ⟨by rfl, ?_⟩) (by assumption) ?_
         rotate_left
         ·intro w hSw; (try dsimp only at hSw); go_simp; try with_reducible rfl
         try simp only [Act.put, zA, zB, zC, zD, zE, zF]
         refine wpAnyH_take (i := 12) (oi := _) (v := ?_) rfl (by kernel_rfl) (by kernel_rfl) (by kernel_rfl) (fun _ _ _ h => h) (Or.inl ⟨by rfl, ?_⟩) (by assumption) ?_
         rotate_left
         ·intro w hSw; (try dsimp only at hSw); go_simp; try with_reducible rfl
         try simp only [Act.put, zA, zB, zC, zD, zE, zF]
         refine wpAnyH_take (i := 13) (oi := _) (v := ?_) rfl (by kernel_rfl) (by kernel_rfl) (by kernel_rfl) (fun _ _ _ h => h) (Or.inl ⟨by rfl, ?_⟩) (by assumption) ?_
         rotate_left
         ·intro w hSw; (try dsimp only at hSw); go_simp; try with_reducible rfl
         try simp only [Act.put, zA, zB, zC, zD, zE, zF]
         refine wpAnyH_take (i := 14) (oi := _) (v := ?_) rfl (by kernel_rfl) (by kernel_rfl) (by kernel_rfl) (fun _ _ _ h => h) (Or.inl ⟨by rfl, ?_⟩) (by assumption) ?_
         rotate_left
         ·intro w hSw; (try dsimp only at hSw); go_simp; try with_reducible rfl
         try simp only [Act.put, zA, zB, zC, zD, zE, zF]
         refine wpAnyH_ready (rs := [15]) (by kernel_rfl) (by simp) ?_
         refine AllReadyH.cons (o := _) rfl (fun K hK => ?_) AllReadyH.nil
         go_simp
         refine (HSz.out k _).mono ?_
         rintro e w5 ⟨rfl, b5⟩
         have B5 := hHeld.1.trans (b5.mono hHeld.1.size)
         dsimp only
         refine hK.out _ _ ?_ (fun hHeld => ?_)
         ·exact HXs.out _ B5
         clear hK K
         try simp only [Act.put, zA, zB, zC, zD, zE, zF]
         refine wpAnyH_take (i := 16) (oi := _) (v := ?_) rfl (by kernel_rfl) (by kernel_rfl) (by kernel_rfl) (fun _ _ _ h => h) (Or.inl ⟨by rfl, ?_⟩) (by assumption) ?_
         rotate_left
         ·intro w hSw; (try dsimp only at hSw); go_simp; try with_reducible rfl
         try simp only [Act.put, zA, zB, zC, zD, zE, zF]
         refine wpAnyH_take (i := 17) (oi := _) (v := ?_) rfl (by kernel_rfl) (by kernel_rfl) (by kernel_rfl) (fun _ _ _ h => h) (Or.inl ⟨by rfl, ?_⟩) (by assumption) ?_
         rotate_left
         ·intro w hSw; (try dsimp only at hSw); go_simp; try with_reducible rfl
         try simp only [Act.put, zA, zB, zC, zD, zE, zF]
         refine wpAnyH_done (by kernel_rfl) ?_ _
         refine NoPanic.normal ?_
         have B6 := Lib.hid (HBj.out.trans (B5.mono HBj.out.size))
         clear hHeld b5 B5
         go_wp2
         go_roundw
         case rel => exact ⟨i + 1, q, by omega, by go_num, rfl, HX.out.trans HD2.out, by omega, by omega, B6.out⟩
         case measure => simp [intOf]; omega
       ·have h4b : (x1 == 4) = false := by simpa using h4
        have HD2 := Lib.hid (show dPart (sizeF s k) hl (L.drop i) q = dPart (sizeF s k) hl (L.drop (i + 1)) q by
         rw [HD1.out]
         rw [dPart, if_neg (fun h => h4 h.1)])
        clear h4
        go_wp2
        refine wp_region_noPanic ?_
        refine wp_region_held_drew (S := fun w' => w'.cell? ⟨g, i * 3, none⟩ = some (.int .i64 x1)) (by kernel_rfl) ?_ (fun hHeld => ?_)
        ·exact r1
        refine wpAnyH_take (i := 0) (oi := _) (v := ?_) rfl (by kernel_rfl) (by kernel_rfl) (by kernel_rfl) (fun _ _ _ h => h) (Or.inl ⟨by rfl, ?_⟩) (by assumption) ?_
        rotate_left
        ·intro w hSw; (try dsimp only at hSw); go_simp; try with_reducible rfl
        try simp only [Act.put, zA, zB, zD, zE, zF]
        refine wpAnyH_take (i := 1) (oi := _) (v := ?_) rfl (by kernel_rfl) (by kernel_rfl) (by kernel_rfl) (fun _ _ _ h => h) (Or.inl ⟨by rfl, ?_⟩) (by assumption) ?_
        rotate_left
        ·intro w hSw; (try dsimp only at hSw); go_simp; try with_reducible rfl
        try simp only [Act.put, zA, zB, zC, zD, zE, zF]
        refine wpAnyH_take (i := 2) (oi := _) (v := ?_) rfl (by kernel_rfl) (by kernel_rfl) (by kernel_rfl) (fun _ _ _ h => h) (Or.inl ⟨by rfl, ?_⟩) (by assumption) ?_
        rotate_left
        ·intro w hSw; (try dsimp only at hSw); go_simp; try with_reducible rfl
        try simp only [Act.put, zA, zB, zC, zD, zE, zF]
        refine wpAnyH_take (i := 3) (oi := _) (v := ?_) rfl (by kernel_rfl) (by kernel_rfl) (by kernel_rfl) (fun _ _ _ h => h) (Or.inl ⟨by rfl, ?_⟩) (by assumption) ?_
        rotate_left
        ·intro w hSw; (try dsimp only at hSw); go_simp; try with_reducible rfl
        try simp only [Act.put, zA, zB, zC, zD, zE, zF]
        refine wpAnyH_take (i := 4) (oi := _) (v := ?_) rfl (by kernel_rfl) (by kernel_rfl) (by kernel_rfl) (fun _ _ _ h => h) (Or.inl ⟨by rfl, ?_⟩) (by assumption) ?_
        rotate_left
        ·intro w hSw; (try dsimp only at hSw); go_simp; try with_reducible rfl
        try simp only [Act.put, zA, zB, zC, zD, zE, zF]
        refine wpAnyH_take (i := 5) (oi := _) (v := ?_) rfl (by kernel_rfl) (by kernel_rfl) (by kernel_rfl) (fun _ _ _ h => h) (Or.inl ⟨by rfl, ?_⟩) (by assumption) ?_
        rotate_left
        ·intro w hSw; (try dsimp only at hSw); go_simp; try with_reducible rfl
        try simp only [Act.put, zA, zB, zC, zD, zE, zF]
        refine wpAnyH_take (i := 6) (oi := _) (v := ?_) rfl (by kernel_rfl) (by kernel_rfl) (by kernel_rfl) (fun _ _ _ h => h) (Or.inl ⟨by rfl, ?_⟩) (by assumption) ?_
        rotate_left
        ·intro w hSw; (try dsimp only at hSw); go_simp; try with_reducible rfl
        try simp only [Act.put, zA, zB, zC, zD, zE, zF]
        refine wpAnyH_take (i := 7) (oi := _) (v := undef) rfl (by kernel_rfl) (by kernel_rfl) (by kernel_rfl) (fun _ _ _ h => h) (Or.inr ⟨by rfl, rfl⟩) (by assumption) ?_
        try simp only [Act.put, zA, zB, zC, zD, zE, zF]
        refine wpAnyH_take (i := 8) (oi := _) (v := undef) rfl (by kernel_rfl) (by kernel_rfl) (by kernel_rfl) (fun _ _ _ h => h) (Or.inr ⟨by rfl, rfl⟩) (by assumption) ?_
        try simp only [Act.put, zA, zB, zC, zD, zE, zF]
        refine wpAnyH_take (i := 9) (oi := _) (v := undef) rfl (by kernel_rfl) (by kernel_rfl) (by kernel_rfl) (fun _ _ _ h => h) (Or.inr ⟨by rfl, rfl⟩) (by assumption) ?_
        try simp only [Act.put, zA, zB, zC, zD, zE, zF]
        refine wpAnyH_take (i := 10) (oi := _) (v := undef) rfl (by kernel_rfl) (by kernel_rfl) (by kernel_rfl) (fun _ _ _ h => h) (Or.inr ⟨by rfl, rfl⟩) (by assumption) ?_
        try simp only [Act.put, zA, zB, zC, zD, zE, zF]
        refine wpAnyH_take (i := 11) (oi := _) (v := undef) rfl (by kernel_rfl) (by kernel_rfl) (by kernel_rfl) (fun _ _ _ h => h) (Or.inr ⟨by rfl, rfl⟩) (by assumption) ?_
        try simp only [Act.put, zA, zB, zC, zD, zE, zF]
        refine wpAnyH_take (i := 12) (oi := _) (v := undef) rfl (by kernel_rfl) (by kernel_rfl) (by kernel_rfl) (fun _ _ _ h => h) (Or.inr ⟨by rfl, rfl⟩) (by assumption) ?_
        try simp only [Act.put, zA, zB, zC, zD, zE, zF]
        refine wpAnyH_take (i := 13) (oi := _) (v := undef) rfl (by kernel_rfl) (by kernel_rfl) (by kernel_rfl) (fun _ _ _ h => h) (Or.inr ⟨by rfl, rfl⟩) (by assumption) ?_
        try simp only [Act.put, zA, zB, zC, zD, zE, zF]
        refine wpAnyH_take (i := 14) (oi := _) (v := undef) rfl (by kernel_rfl) (by kernel_rfl) (by kernel_rfl) (fun _ _ _ h => h) (Or.inr ⟨by rfl, rfl⟩) (by assumption) ?_
        try simp only [Act.put, zA, zB, zC, zD, zE, zF]
        refine wpAnyH_take (i := 15) (oi := _) (v := undef) rfl (by kernel_rfl) (by kernel_rfl) (by kernel_rfl) (fun _ _ _ h => h) (Or.inr ⟨by rfl, rfl⟩) (by assumption) ?_
        try simp only [Act.put, zA, zB, zC, zD, zE, zF]
        refine wpAnyH_take (i := 16) (oi := _) (v := undef) rfl (by kernel_rfl) (by kernel_rfl) (by kernel_rfl) (fun _ _ _ h => h) (Or.inr ⟨by rfl, rfl⟩) (by assumption) ?_
        try simp only [Act.put, zA, zB, zC, zD, zE, zF]
        refine wpAnyH_take (i := 17) (oi := _) (v := ?_) rfl (by kernel_rfl) (by kernel_rfl) (by kernel_rfl) (fun _ _ _ h => h) (Or.inl ⟨by rfl, ?_⟩) (by assumption) ?_
        rotate_left
        ·intro w hSw; (try dsimp only at hSw); go_simp; try with_reducible rfl
        try simp only [Act.put, zA, zB, zC, zD, zE, zF]
        refine wpAnyH_done (by kernel_rfl) ?_ _
        refine NoPanic.normal ?_
        clear hHeld
        go_wp2
        go_roundw
        case rel => exact ⟨i + 1, q, by omega, by go_num, rfl, HX.out.trans HD2.out, by omega, by omega, HBj.out.drew⟩
        case measure => simp [intOf]; omega
      ·have hil : ¬ (i : Int) < L.length := by omega
       have hie : i = L.length := by omega
       have HDn := Lib.hid (show docR (fun k => sizeF s k) (es.map PkE.ls) L (k + 1) = some q by
        rw [HDk.out, hdp, hie, List.drop_length]
        rfl)
       have HBk := Lib.hid ((HB3.out.trans (hbel.mono HB3.out.size)))
       clear hdp hie hbel hrowL hcfg
       go_wp2
       go_roundw
       case rel => exact ⟨k + 1, q, by omega, by go_num, rfl, HDn.out, HBk.out⟩
       case measure => simp [intOf]; omega
  ·have hke : k = 9 := by omega
   have hkl : ¬ (k : Int) < 9 := by omega
   rw [hke] at hdr
   have HB := Lib.hid hbel
   by_cases hm : m = 0
   ·have HN := Lib.hid (show fitsD (fun k => sizeF s k) (es.map PkE.ls) L = true by unfold fitsD; rw [hdr, hm]; rfl)
    have hmb : (m == 0) = true := by simpa using hm
    clear hm hdr hke hbel
    go_wp2
    go_ret
    exact ⟨ret_bool (HN.out.symm.trans HR.out), HB2.out.trans (HB.out.mono HB2.out.size)⟩
   ·have HN := Lib.hid (show fitsD (fun k => sizeF s k) (es.map PkE.ls) L = false by unfold fitsD; rw [hdr]; simpa using hm)
    have hmb : (m == 0) = false := by simpa using hm
    clear hm hdr hke hbel
    go_wp2
    go_ret
    exact ⟨ret_bool (HN.out.symm.trans HR.out), HB2.out.trans (HB.out.mono HB2.out.size)⟩
end
end Go.Proofs.YtnagdljgeglceaaGreat
/- the program's audit: Check, Parts, Live. -/
set_option linter.unusedSimpArgs false
set_option linter.unusedVariables false
namespace Go.Proofs.YtnagdljgeglceaaGreat
open Go.RowKit
theorem chk_eq (vs : List Int) (t p s : Int) : ((chkF vs t p s).1 == 0) = (chkF vs t p s).2 ∧ 0 ≤ (chkF vs t p s).1 ∧ ((chkF vs t p s).2 = false → 0 < (chkF vs t p s).1) ∧ ((chkF vs t p s).2 = true → (chkF vs t p s).1 = 0) := by
 unfold chkF
 repeat' split
 all_goals simp
section
variable {w : World} {t p s : Int}
set_option maxRecDepth 100000 in
theorem psize_no (a : Option Addr) (m c b : Nat) (e0 : w.cell? ⟨b, 0, none⟩ = some (.int .i64 t)) (e1 : w.cell? ⟨b, 1, none⟩ = some (.int .i64 p)) (e2 : w.cell? ⟨b, 2, none⟩ = some (.int .i64 s)) (e3 : w.cell? ⟨b, 3, none⟩ = some (.slice a m c)) (h : rightB t p s = false ∨ (m : Int) ≠ cellsN t p) :
 Calls Tryz.prog 131 #[.pointer (some ⟨b, 0, none⟩)] w fun e W' => e = .returned (.bool false) ∧ Below w.heap.size w W' := by
 cases hr : rightB t p s
 ·have HC := Lib.hid (fun w => check_wrong t p s w hr)
  clear h hr
  go_enter Tryz.func131, Tryz.ntmps131
  go_wp2_with fail
  refine wp_region_noPanic ?_
  refine wp_region_held_drew (S := fun w' => w'.cell? ⟨b, 0, none⟩ = some (.int .i64 t) ∧ w'.cell? ⟨b, 1, none⟩ = some (.int .i64 p) ∧ w'.cell? ⟨b, 2, none⟩ = some (.int .i64 s) ∧ w'.cell? ⟨b, 3, none⟩ = some (.slice a m c)) (by kernel_rfl) ?_ (fun hHeld => ?_)
  ·exact ⟨e0, e1, e2, e3⟩
  refine wpAnyH_take (i := 0) (oi := _) (v := ?_) rfl (by kernel_rfl) (by kernel_rfl) (by kernel_rfl) (fun _ _ _ h => h) (Or.inl ⟨by rfl, ?_⟩) (by assumption) ?_
  rotate_left
  ·intro w hSw; (try dsimp only at hSw); go_simp; try with_reducible rfl
  try simp only [Act.put, zA, zB, zD, zE, zF]
  refine wpAnyH_take (i := 1) (oi := _) (v := ?_) rfl (by kernel_rfl) (by kernel_rfl) (by kernel_rfl) (fun _ _ _ h => h) (Or.inl ⟨by rfl, ?_⟩) (by assumption) ?_
  rotate_left
  ·intro w hSw; (try dsimp only at hSw); go_simp; try with_reducible rfl
  try simp only [Act.put, zA, zB, zC, zD, zE, zF]
  refine wpAnyH_take (i := 2) (oi := _) (v := ?_) rfl (by kernel_rfl) (by kernel_rfl) (by kernel_rfl) (fun _ _ _ h => h) (Or.inl ⟨by rfl, ?_⟩) (by assumption) ?_
  rotate_left
  ·intro w hSw; (try dsimp only at hSw); go_simp; try with_reducible rfl
  try simp only [Act.put, zA, zB, zC, zD, zE, zF]
  refine wpAnyH_take (i := 3) (oi := _) (v := ?_) rfl (by kernel_rfl) (by kernel_rfl) (by kernel_rfl) (fun _ _ _ h => h) (Or.inl ⟨by rfl, ?_⟩) (by assumption) ?_
  rotate_left
  ·intro w hSw; (try dsimp only at hSw); go_simp; try with_reducible rfl
  try simp only [Act.put, zA, zB, zC, zD, zE, zF]
  refine wpAnyH_ready (rs := [4]) (by kernel_rfl) (by simp) ?_
  refine AllReadyH.cons (o := _) rfl (fun K hK => ?_) AllReadyH.nil
  go_simp
  refine (HC.out _).mono ?_
  rintro e w1 ⟨rfl, r1⟩
  have k1 := held4g r1 hHeld
  refine hK.out _ _ ?_ (fun hHeld => ?_)
  ·exact k1
  clear hK K
  try simp only [Act.put, zA, zB, zC, zD, zE, zF]
  refine wpAnyH_take (i := 5) (oi := _) (v := ?_) rfl (by kernel_rfl) (by kernel_rfl) (by kernel_rfl) (fun _ _ _ h => h) (Or.inl ⟨by rfl, ?_⟩) (by assumption) ?_
  rotate_left
  ·intro w hSw; (try dsimp only at hSw); go_simp; try with_reducible rfl
  try simp only [Act.put, zA, zB, zC, zD, zE, zF]
  refine wpAnyH_take (i := 6) (oi := _) (v := ?_) rfl (by kernel_rfl) (by kernel_rfl) (by kernel_rfl) (fun _ _ _ h => h) (Or.inl ⟨by rfl, ?_⟩) (by assumption) ?_
  rotate_left
  ·intro w hSw; (try dsimp only at hSw); go_simp; try with_reducible rfl
  try simp only [Act.put, zA, zB, zC, zD, zE, zF]
  refine wpAnyH_take (i := 7) (oi := _) (v := undef) rfl (by kernel_rfl) (by kernel_rfl) (by kernel_rfl) (fun _ _ _ h => h) (Or.inr ⟨by rfl, rfl⟩) (by assumption) ?_
  try simp only [Act.put, zA, zB, zC, zD, zE, zF]
  refine wpAnyH_take (i := 8) (oi := _) (v := undef) rfl (by kernel_rfl) (by kernel_rfl) (by kernel_rfl) (fun _ _ _ h => h) (Or.inr ⟨by rfl, rfl⟩) (by assumption) ?_
  try simp only [Act.put, zA, zB, zC, zD, zE, zF]
  refine wpAnyH_take (i := 9) (oi := _) (v := undef) rfl (by kernel_rfl) (by kernel_rfl) (by kernel_rfl) (fun _ _ _ h => h) (Or.inr ⟨by rfl, rfl⟩) (by assumption) ?_
  try simp only [Act.put, zA, zB, zC, zD, zE, zF]
  refine wpAnyH_take (i := 10) (oi := _) (v := undef) rfl (by kernel_rfl) (by kernel_rfl) (by kernel_rfl) (fun _ _ _ h => h) (Or.inr ⟨by rfl, rfl⟩) (by assumption) ?_
  try simp only [Act.put, zA, zB, zC, zD, zE, zF]
  refine wpAnyH_take (i := 11) (oi := _) (v := undef) rfl (by kernel_rfl) (by kernel_rfl) (by kernel_rfl) (fun _ _ _ h => h) (Or.inr ⟨by rfl, rfl⟩) (by assumption) ?_
  try simp only [Act.put, zA, zB, zC, zD, zE, zF]
  refine wpAnyH_take (i := 12) (oi := _) (v := undef) rfl (by kernel_rfl) (by kernel_rfl) (by kernel_rfl) (fun _ _ _ h => h) (Or.inr ⟨by rfl, rfl⟩) (by assumption) ?_
  try simp only [Act.put, zA, zB, zC, zD, zE, zF]
  refine wpAnyH_take (i := 13) (oi := _) (v := undef) rfl (by kernel_rfl) (by kernel_rfl) (by kernel_rfl) (fun _ _ _ h => h) (Or.inr ⟨by rfl, rfl⟩) (by assumption) ?_
  try simp only [Act.put, zA, zB, zC, zD, zE, zF]
  refine wpAnyH_take (i := 14) (oi := _) (v := undef) rfl (by kernel_rfl) (by kernel_rfl) (by kernel_rfl) (fun _ _ _ h => h) (Or.inr ⟨by rfl, rfl⟩) (by assumption) ?_
  try simp only [Act.put, zA, zB, zC, zD, zE, zF]
  refine wpAnyH_take (i := 15) (oi := _) (v := undef) rfl (by kernel_rfl) (by kernel_rfl) (by kernel_rfl) (fun _ _ _ h => h) (Or.inr ⟨by rfl, rfl⟩) (by assumption) ?_
  try simp only [Act.put, zA, zB, zC, zD, zE, zF]
  refine wpAnyH_take (i := 16) (oi := _) (v := undef) rfl (by kernel_rfl) (by kernel_rfl) (by kernel_rfl) (fun _ _ _ h => h) (Or.inr ⟨by rfl, rfl⟩) (by assumption) ?_
  try simp only [Act.put, zA, zB, zC, zD, zE, zF]
  refine wpAnyH_take (i := 17) (oi := _) (v := undef) rfl (by kernel_rfl) (by kernel_rfl) (by kernel_rfl) (fun _ _ _ h => h) (Or.inr ⟨by rfl, rfl⟩) (by assumption) ?_
  try simp only [Act.put, zA, zB, zC, zD, zE, zF]
  refine wpAnyH_take (i := 18) (oi := _) (v := ?_) rfl (by kernel_rfl) (by kernel_rfl) (by kernel_rfl) (fun _ _ _ h => h) (Or.inl ⟨by rfl, ?_⟩) (by assumption) ?_
  rotate_left
  ·intro w hSw; (try dsimp only at hSw); go_simp; try with_reducible rfl
  try simp only [Act.put, zA, zB, zC, zD, zE, zF]
  refine wpAnyH_take (i := 19) (oi := _) (v := ?_) rfl (by kernel_rfl) (by kernel_rfl) (by kernel_rfl) (fun _ _ _ h => h) (Or.inl ⟨by rfl, ?_⟩) (by assumption) ?_
  rotate_left
  ·intro w hSw; (try dsimp only at hSw); go_simp; try with_reducible rfl
  try simp only [Act.put, zA, zB, zC, zD, zE, zF]
  refine wpAnyH_done (by kernel_rfl) ?_ _
  refine NoPanic.normal ?_
  go_wp2
  go_ret
  exact ⟨rfl, (Below.refl _ _).drew.trans r1⟩
 ·have HC := Lib.hid (fun w => check_right t p s w hr)
  have hcf : cellsF t p s = cellsN t p := by simp [cellsF, hr]
  have HN := Lib.hid (fun w => cells_any t p s w)
  rw [hcf] at HN
  have hm : (m : Int) ≠ cellsN t p := h.resolve_left (by rw [hr]; simp)
  generalize cellsN t p = z at *
  have hmb : ((m : Int) == z) = false := by simpa using hm
  clear h hr hcf hm
  go_enter Tryz.func131, Tryz.ntmps131
  go_wp2_with fail
  refine wp_region_noPanic ?_
  refine wp_region_held_drew (S := fun w' => w'.cell? ⟨b, 0, none⟩ = some (.int .i64 t) ∧ w'.cell? ⟨b, 1, none⟩ = some (.int .i64 p) ∧ w'.cell? ⟨b, 2, none⟩ = some (.int .i64 s) ∧ w'.cell? ⟨b, 3, none⟩ = some (.slice a m c)) (by kernel_rfl) ?_ (fun hHeld => ?_)
  ·exact ⟨e0, e1, e2, e3⟩
  refine wpAnyH_take (i := 0) (oi := _) (v := ?_) rfl (by kernel_rfl) (by kernel_rfl) (by kernel_rfl) (fun _ _ _ h => h) (Or.inl ⟨by rfl, ?_⟩) (by assumption) ?_
  rotate_left
  ·intro w hSw; (try dsimp only at hSw); go_simp; try with_reducible rfl
  try simp only [Act.put, zA, zB, zD, zE, zF]
  refine wpAnyH_take (i := 1) (oi := _) (v := ?_) rfl (by kernel_rfl) (by kernel_rfl) (by kernel_rfl) (fun _ _ _ h => h) (Or.inl ⟨by rfl, ?_⟩) (by assumption) ?_
  rotate_left
  ·intro w hSw; (try dsimp only at hSw); go_simp; try with_reducible rfl
  try simp only [Act.put, zA, zB, zC, zD, zE, zF]
  refine wpAnyH_take (i := 2) (oi := _) (v := ?_) rfl (by kernel_rfl) (by kernel_rfl) (by kernel_rfl) (fun _ _ _ h => h) (Or.inl ⟨by rfl, ?_⟩) (by assumption) ?_
  rotate_left
  ·intro w hSw; (try dsimp only at hSw); go_simp; try with_reducible rfl
  try simp only [Act.put, zA, zB, zC, zD, zE, zF]
  refine wpAnyH_take (i := 3) (oi := _) (v := ?_) rfl (by kernel_rfl) (by kernel_rfl) (by kernel_rfl) (fun _ _ _ h => h) (Or.inl ⟨by rfl, ?_⟩) (by assumption) ?_
  rotate_left
  ·intro w hSw; (try dsimp only at hSw); go_simp; try with_reducible rfl
  try simp only [Act.put, zA, zB, zC, zD, zE, zF]
  refine wpAnyH_ready (rs := [4]) (by kernel_rfl) (by simp) ?_
  refine AllReadyH.cons (o := _) rfl (fun K hK => ?_) AllReadyH.nil
  go_simp
  refine (HC.out _).mono ?_
  rintro e w1 ⟨rfl, r1⟩
  have k1 := held4g r1 hHeld
  refine hK.out _ _ ?_ (fun hHeld => ?_)
  ·exact k1
  clear hK K
  try simp only [Act.put, zA, zB, zC, zD, zE, zF]
  refine wpAnyH_take (i := 5) (oi := _) (v := ?_) rfl (by kernel_rfl) (by kernel_rfl) (by kernel_rfl) (fun _ _ _ h => h) (Or.inl ⟨by rfl, ?_⟩) (by assumption) ?_
  rotate_left
  ·intro w hSw; (try dsimp only at hSw); go_simp; try with_reducible rfl
  try simp only [Act.put, zA, zB, zC, zD, zE, zF]
  refine wpAnyH_take (i := 6) (oi := _) (v := ?_) rfl (by kernel_rfl) (by kernel_rfl) (by kernel_rfl) (fun _ _ _ h => h) (Or.inl ⟨by rfl, ?_⟩) (by assumption) ?_
  rotate_left
  ·intro w hSw; (try dsimp only at hSw); go_simp; try with_reducible rfl
  try simp only [Act.put, zA, zB, zC, zD, zE, zF]
  refine wpAnyH_take (i := 7) (oi := _) (v := ?_) rfl (by kernel_rfl) (by kernel_rfl) (by kernel_rfl) (fun _ _ _ h => h) (Or.inl ⟨by rfl, ?_⟩) (by assumption) ?_
  rotate_left
  ·intro w hSw; (try dsimp only at hSw); go_simp; try with_reducible rfl
  try simp only [Act.put, zA, zB, zC, zD, zE, zF]
  refine wpAnyH_take (i := 8) (oi := _) (v := ?_) rfl (by kernel_rfl) (by kernel_rfl) (by kernel_rfl) (fun _ _ _ h => h) (Or.inl ⟨by rfl, ?_⟩) (by assumption) ?_
  rotate_left
  ·intro w hSw; (try dsimp only at hSw); go_simp; try with_reducible rfl
  try simp only [Act.put, zA, zB, zC, zD, zE, zF]
  refine wpAnyH_take (i := 9) (oi := _) (v := ?_) rfl (by kernel_rfl) (by kernel_rfl) (by kernel_rfl) (fun _ _ _ h => h) (Or.inl ⟨by rfl, ?_⟩) (by assumption) ?_
  rotate_left
  ·intro w hSw; (try dsimp only at hSw); go_simp; try with_reducible rfl
  try simp only [Act.put, zA, zB, zC, zD, zE, zF]
  refine wpAnyH_take (i := 10) (oi := _) (v := ?_) rfl (by kernel_rfl) (by kernel_rfl) (by kernel_rfl) (fun _ _ _ h => h) (Or.inl ⟨by rfl, ?_⟩) (by assumption) ?_
  rotate_left
  ·intro w hSw; (try dsimp only at hSw); go_simp; try with_reducible rfl
  try simp only [Act.put, zA, zB, zC, zD, zE, zF]
  refine wpAnyH_take (i := 11) (oi := _) (v := ?_) rfl (by kernel_rfl) (by kernel_rfl) (by kernel_rfl) (fun _ _ _ h => h) (Or.inl ⟨by rfl, ?_⟩) (by assumption) ?_
  rotate_left
  ·intro w hSw; (try dsimp only at hSw); go_simp; try with_reducible rfl
  try simp only [Act.put, zA, zB, zC, zD, zE, zF]
  refine wpAnyH_take (i := 12) (oi := _) (v := ?_) rfl (by kernel_rfl) (by kernel_rfl) (by kernel_rfl) (fun _ _ _ h => h) (Or.inl ⟨by rfl, ?_⟩) (by assumption) ?_
  rotate_left
  ·intro w hSw; (try dsimp only at hSw); go_simp; try with_reducible rfl
  try simp only [Act.put, zA, zB, zC, zD, zE, zF]
  refine wpAnyH_take (i := 13) (oi := _) (v := ?_) rfl (by kernel_rfl) (by kernel_rfl) (by kernel_rfl) (fun _ _ _ h => h) (Or.inl ⟨by rfl, ?_⟩) (by assumption) ?_
  rotate_left
  ·intro w hSw; (try dsimp only at hSw); go_simp; try with_reducible rfl
  try simp only [Act.put, zA, zB, zC, zD, zE, zF]
  refine wpAnyH_take (i := 14) (oi := _) (v := ?_) rfl (by kernel_rfl) (by kernel_rfl) (by kernel_rfl) (fun _ _ _ h => h) (Or.inl ⟨by rfl, ?_⟩) (by assumption) ?_
  rotate_left
  ·intro w hSw; (try dsimp only at hSw); go_simp; try with_reducible rfl
  try simp only [Act.put, zA, zB, zC, zD, zE, zF]
  refine wpAnyH_take (i := 15) (oi := _) (v := ?_) rfl (by kernel_rfl) (by kernel_rfl) (by kernel_rfl) (fun _ _ _ h => h) (Or.inl ⟨by rfl, ?_⟩) (by assumption) ?_
  rotate_left
  ·intro w hSw; (try dsimp only at hSw); go_simp; try with_reducible rfl
  try simp only [Act.put, zA, zB, zC, zD, zE, zF]
  refine wpAnyH_ready (rs := [16]) (by kernel_rfl) (by simp) ?_
  refine AllReadyH.cons (o := _) rfl (fun K hK => ?_) AllReadyH.nil
  go_simp
  refine (HN.out _).mono ?_
  rintro e w2 ⟨rfl, r2⟩
  have k2 := held4g r2 hHeld
  refine hK.out _ _ ?_ (fun hHeld => ?_)
  ·exact k2
  clear hK K
  try simp only [Act.put, zA, zB, zC, zD, zE, zF]
  refine wpAnyH_take (i := 17) (oi := _) (v := ?_) rfl (by kernel_rfl) (by kernel_rfl) (by kernel_rfl) (fun _ _ _ h => h) (Or.inl ⟨by rfl, ?_⟩) (by assumption) ?_
  rotate_left
  ·intro w hSw; (try dsimp only at hSw); go_simp; try with_reducible rfl
  try simp only [Act.put, zA, zB, zC, zD, zE, zF]
  refine wpAnyH_take (i := 18) (oi := _) (v := ?_) rfl (by kernel_rfl) (by kernel_rfl) (by kernel_rfl) (fun _ _ _ h => h) (Or.inl ⟨by rfl, ?_⟩) (by assumption) ?_
  rotate_left
  ·intro w hSw; (try dsimp only at hSw); go_simp; try with_reducible rfl
  try simp only [Act.put, zA, zB, zC, zD, zE, zF]
  refine wpAnyH_take (i := 19) (oi := _) (v := ?_) rfl (by kernel_rfl) (by kernel_rfl) (by kernel_rfl) (fun _ _ _ h => h) (Or.inl ⟨by rfl, ?_⟩) (by assumption) ?_
  rotate_left
  ·intro w hSw; (try dsimp only at hSw); go_simp; try with_reducible rfl
  try simp only [Act.put, zA, zB, zC, zD, zE, zF]
  refine wpAnyH_done (by kernel_rfl) ?_ _
  refine NoPanic.normal ?_
  go_wp2
  go_ret
  exact ⟨rfl, (Below.refl _ _).drew.trans (r1.trans (r2.mono r1.size))⟩
def SeeNo (w : World) (b R : Nat) (t p s : Int) (a : Option Addr) (m c : Nat) (v : Value) (wr : World) : Prop :=
 v = .int .i64 0 ∧ ((wr.cell? ⟨b, 0, none⟩ = some (.int .i64 t) ∧ wr.cell? ⟨b, 1, none⟩ = some (.int .i64 p)) ∧ wr.cell? ⟨b, 2, none⟩ = some (.int .i64 s) ∧ wr.cell? ⟨b, 3, none⟩ = some (.slice a m c)) ∧ wr.heap[R]? = some (.cells (fnC b) 28) ∧ Below w.heap.size w wr
set_option maxHeartbeats 4000000 in
set_option maxRecDepth 100000 in
theorem psee_no (a : Option Addr) (m c : Nat) (h : rightB t p s = false ∨ (m : Int) ≠ cellsN t p) : Calls Tryz.prog 101 #[.agg #[.int .i64 t, .int .i64 p, .int .i64 s], .slice a m c] w fun e W' => (∃ b : Nat, e = .returned (.tuple #[.pointer (some ⟨b, 0, none⟩), .int .i64 1])) ∧ Below w.heap.size w W' := by
 have h0 : SeeNo w (w.heap.size + 1 + 1) (w.heap.size + 1 + 1 + 1) t p s a m c (.int .i64 0) ((((w.alloc (.cells #[.int .i64 t, .int .i64 p, .int .i64 s] 23)).alloc (.map #[] 0)).alloc (.cells #[.int .i64 t, .int .i64 p, .int .i64 s, .slice a m c, .slice none 0 0, .map (some (w.heap.size + 1))] 153)).alloc (.cells (fnC (w.heap.size + 1 + 1)) 28)) := by
  have S := (((BS.start w).alloc (.cells #[.int .i64 t, .int .i64 p, .int .i64 s] 23)).alloc (.map #[] 0)).alloc (.cells #[.int .i64 t, .int .i64 p, .int .i64 s, .slice a m c, .slice none 0 0, .map (some (w.heap.size + 1))] 153)
  have S2 := S.alloc (.cells (fnC (w.heap.size + 1 + 1)) 28)
  have hb : ((((w.alloc (.cells #[.int .i64 t, .int .i64 p, .int .i64 s] 23)).alloc (.map #[] 0)).alloc (.cells #[.int .i64 t, .int .i64 p, .int .i64 s, .slice a m c, .slice none 0 0, .map (some (w.heap.size + 1))] 153)).alloc (.cells (fnC (w.heap.size + 1 + 1)) 28)).heap[w.heap.size + 1 + 1]? = some (.cells #[.int .i64 t, .int .i64 p, .int .i64 s, .slice a m c, .slice none 0 0, .map (some (w.heap.size + 1))] 153) := (heap_alloc_old _ _ (by simp)).trans (hb_alloc _ _ _ (by simp))
  exact ⟨rfl, ⟨⟨cell?_of_heap hb, cell?_of_heap hb⟩, cell?_of_heap hb, cell?_of_heap hb⟩, hb_alloc _ _ _ (by simp), S2.bel⟩
 have hmm := @run_makeMap Tryz.prog
 have H0 := Lib.hid h0
 clear h0
 go_enter Tryz.func101, Tryz.ntmps101
 go_wp2_with fail
 go_loopw [7, 8, 36] (fun _ _ v36 wr => SeeNo w (w.heap.size + 1 + 1) (w.heap.size + 1 + 1 + 1) t p s a m c v36 wr) (fun _ _ v36 _ => 10 - (intOf v36).toNat)
 case atStart => exact H0.out
 case round =>
  obtain ⟨rfl, ⟨⟨e0, e1⟩, e2, e3⟩, hfn, hb⟩ := hrel
  have cf : wr.cell? ⟨w.heap.size + 1 + 1 + 1, 0, none⟩ = some (.func (.func 131) #[.pointer (some ⟨w.heap.size + 1 + 1, 0, none⟩)] #[]) := cell?_of_heap hfn
  have HR := Lib.hid (psize_no a m c _ e0 e1 e2 e3 h)
  have HB := Lib.hid hb
  clear H0 hfn e0 e1 e2 e3 hb h
  go_wp2_with fail
  refine HR.out.mono ?_
  rintro e w2 ⟨rfl, r2⟩
  go_wp2
  refine bodyPost_ret (v := .tuple #[.pointer (some ⟨w.heap.size + 1 + 1, 0, none⟩), .int .i64 1]) (by simp [results, Tryz.results101, go_sem]) rfl ?_
  exact ⟨⟨_, rfl⟩, HB.out.trans (r2.mono HB.out.size)⟩
theorem pcheck_no (a : Option Addr) (m c : Nat) (h : rightB t p s = false ∨ (m : Int) ≠ cellsN t p) : Calls Tryz.prog 62 #[.agg #[.int .i64 t, .int .i64 p, .int .i64 s], .slice a m c] w fun e W' => e = .returned (.tuple #[.int .i64 1, .bool false]) ∧ Below w.heap.size w W' := by
 have H := Lib.hid (fun w => psee_no (w := w) a m c h)
 clear h
 go_enter Tryz.func62, Tryz.ntmps62
 go_wp2_with fail
 refine (H.out _).mono ?_
 rintro e w1 ⟨⟨b, rfl⟩, r1⟩
 go_wp2
 refine bodyPost_ret (v := .tuple #[.int .i64 1, .bool false]) (by simp [results, Tryz.results62, go_sem]) rfl ⟨rfl, ?_⟩
 exact ((Below.refl _ _).alloc (Nat.le_refl _) _).trans (r1.mono (by simp))
end
section
variable {w : World} {t s : Int} {P : Nat} {ad : Addr} {n : Nat} {vs : List Int}
theorem XV.old (h : XV w t P s ad n vs) : ad.block < w.heap.size := by
 have hn := h.bd
 have := World.block_lt_of_cell? _ _ (h.cells 0 (by omega))
 rwa [add_block] at this
theorem pcheck_any (h : XV w t P s ad n vs) (c : Nat) : Calls Tryz.prog 62 #[.agg #[.int .i64 t, .int .i64 P, .int .i64 s], .slice (some ad) n c] w fun e W' => e = .returned (.tuple #[.int .i64 (chkF vs t P s).1, .bool (chkF vs t P s).2]) ∧ Below w.heap.size w W' := by
 have hb := (Below.refl w.heap.size w).alloc (Nat.le_refl _) (.cells #[.int .i64 t, .int .i64 P, .int .i64 s] 23)
 have H := Lib.hid (psee_any (h.keep hb) c (h.keep hb).old)
 have HE := Lib.hid (chk_eq vs t P s).1
 unfold SeeP at H
 clear h
 generalize chkF vs t P s = r at *
 go_enter Tryz.func62, Tryz.ntmps62
 go_wp2_with fail
 refine H.out.mono ?_
 rintro e w1 ⟨b, mb, rfl, r1, -⟩
 go_wp2
 refine bodyPost_ret (v := .tuple #[.int .i64 r.1, .bool (r.1 == 0)]) (by simp [results, Tryz.results62, go_sem]) rfl ⟨by rw [HE.out], ?_⟩
 exact hb.trans (r1.mono hb.size)
theorem chk_tiles (hs : (chkF vs t P s).2 = true) : tilesF vs t P = true := by
 unfold chkF at hs
 split at hs
 ·simp at hs
 ·rename_i h
  simpa using h
theorem pparts_heap (h : XV w t P s ad n vs) (c : Nat) (hs : (chkF vs t P s).2 = true) : Calls Tryz.prog 102 #[.agg #[.int .i64 t, .int .i64 P, .int .i64 s], .slice (some ad) n c] w fun e W' => ∃ v, e = .returned v ∧ RowQ w (partsF vs t P s) v W' := by
 have hb := (Below.refl w.heap.size w).alloc (Nat.le_refl _) (.cells #[.int .i64 t, .int .i64 P, .int .i64 s] 23)
 have H := Lib.hid (psee_any (h.keep hb) c (h.keep hb).old)
 have hp := (chk_eq vs t P s).2.2.2 hs
 have ht := chk_tiles hs
 have HPl := Lib.hid (parts_law (s := s) ht)
 unfold SeeP at H
 rw [hp, hs] at H
 have HSp := Lib.hid (sp_in ht)
 clear h hs hp ht
 go_enter Tryz.func102, Tryz.ntmps102
 go_wp2_with fail
 refine H.out.mono ?_
 rintro e w1 ⟨b, mb, rfl, r1, hx⟩
 have HX := Lib.hid (hx trivial)
 clear hx
 go_wp2_with fail
 obtain ⟨g, ml, h1, h2⟩ := HX.out
 have HP := Lib.hid (pparts_any _ w1 ml g P _ h1 h2 HSp.out)
 rw [HPl.out] at HP
 clear h1 h2
 refine HP.out.mono ?_
 rintro e w2 ⟨v, rfl, q1, q2, q3⟩
 have hb2 := hb.trans (r1.mono hb.size)
 have HQ := Lib.hid (And.intro q1 (And.intro q2 q3))
 clear q1 q2 q3
 go_wp2
 go_ret
 exact ⟨v, rfl, HQ.out.1, fun k hk => Nat.le_trans hb2.size (HQ.out.2.1 k hk), hb2.trans (HQ.out.2.2.mono hb2.size)⟩
end
end Go.Proofs.YtnagdljgeglceaaGreat
/- maps from number to number: delete. -/
set_option linter.unusedSimpArgs false
set_option linter.unusedVariables false
namespace Go.Proofs.YtnagdljgeglceaaGreat
open Go.RowKit

section
variable {P : Program} {w : World} {t K E : TypeId}
theorem run_mdelete {b : Nat} {l : List (Int × Int)} (h : MapIs w b l) (ht : P.underlying t = some (.map K E)) (hK : P.underlying K = some (.int .i64)) (k : Int) (ty : TypeId) :
 ∃ w', (Builtin.delete_ #[t, K] ty #[.map (some b), .int .i64 k]).run P w = .ok (.tuple #[]) w' ∧ MapIs w' b (delK l k) ∧ w.grownBy w' (some b) := by
 obtain ⟨es, clk, hb, hes⟩ := h
 have hf := findNow_look k es.toList l 0 hes
 have hck : ∀ e, (Instr.checkKey e 10000 K (.int .i64 k)).run P w = .ok () w := fun e => MapKept.run_checkKey hK (isKey_int k) e 9999
 have hfk : (Instr.findKey K (.int .i64 k) es.toList).run P w = .ok ((look l k 0).map fun x => (x.1, .int .i64 x.2)) w := by
  simp [Instr.findKey, run_underlying hK, hf]
 have hlt : b < w.heap.size := (Array.getElem?_eq_some_iff.1 hb).1
 have gr : ∀ o, w.grownBy { w with heap := w.heap.setIfInBounds b o } (some b) := fun o =>
  ⟨rfl, rfl, rfl, by simp, fun i _ hi => by simp only [Array.getElem?_setIfInBounds]; rw [if_neg (fun e => hi (by rw [e]))]⟩
 have at_ : ∀ o : Obj, ({ w with heap := w.heap.setIfInBounds b o } : World).heap[b]? = some o := fun o => by simp [hlt]
 cases hl : look l k 0 with
 | none =>
  simp [hl] at hfk
  refine ⟨_, ?_, ⟨es, clk, at_ _, by simpa [delK, hl] using hes⟩, gr _⟩
  simp [Builtin.delete_, run_underlying ht, hck, hfk, MapKept.run_getObj_map hb, MapKept.run_setObj_map _ hb, Result.andThen]
 | some x =>
  obtain ⟨j, u⟩ := x
  simp [hl] at hfk
  obtain ⟨_, hj, hg⟩ := look_lt hl
  simp only [Nat.sub_zero, Nat.zero_add] at hg hj
  have hsz : es.size = l.length := by
   have := congrArg List.length hes
   simpa [rowsOf] using this
  have htl : (es.eraseIdxIfInBounds j).toList = es.toList.eraseIdx j := by
   simp [Array.eraseIdxIfInBounds, hsz, hj]
  refine ⟨_, ?_, ⟨es.eraseIdxIfInBounds j, clk, at_ _, ?_⟩, gr _⟩
  ·simp [Builtin.delete_, run_underlying ht, hck, hfk, MapKept.run_getObj_map hb, MapKept.run_setObj_map _ hb, Result.andThen]
  ·unfold delK
   rw [hl, htl, Go.ChangeMaps.map_eraseIdx, hes]
   unfold rowsOf
   rw [Go.ChangeMaps.map_eraseIdx]
/-- 'delete(m, k)', at the operation. -/
theorem wpL_mdelete {ops : Array Oper} {rest : List Oper} {o : Oper} {a : Act} {Q : Exit → Act → World → Prop} (hg : o.guard = none) (m x : Operand) (hop : o.op = Op.call { callee := Callee.builtin Builtin.delete, args := #[m, x], argTypes := #[t, K] })
 (ht : P.underlying t = some (.map K E)) (hK : P.underlying K = some (.int .i64)) (b : Nat) (l : List (Int × Int)) (k : Int)
 (hm : a.eval m = .map (some b)) (h : MapIs w b l) (hx : a.eval x = .int .i64 k)
 (hK' : ∀ w', MapIs w' b (delK l k) → w.grownBy w' (some b) → wpList P ops Q rest (a.put o.dst (.tuple #[])) w') :
 wpList P ops Q (o :: rest) a w := by
 refine wpList_plain hg fun K2 hK2 => ?_
 obtain ⟨w', hrun, h1, h2⟩ := run_mdelete (P := P) h ht hK k o.type
 unfold Oper.wp
 simp [execOp, hop, resolve, invoke, builtin, hm, hx, hrun, Result.andThen]
 exact hK2 _ _ (hK' w' h1 h2)
theorem MapIs.len {w : World} {b : Nat} {l : List (Int × Int)} (h : MapIs w b l) : ∃ es clk, w.heap[b]? = some (.map es clk) ∧ es.size = l.length := by
 obtain ⟨es, clk, hb, hes⟩ := h
 refine ⟨es, clk, hb, ?_⟩
 have := congrArg List.length hes
 simpa [rowsOf] using this
end
end Go.Proofs.YtnagdljgeglceaaGreat
/- the program's pockets: idle. -/
set_option linter.unusedSimpArgs false
set_option linter.unusedVariables false
namespace Go.Proofs.YtnagdljgeglceaaGreat
open Go.RowKit
section
variable {w : World} {t s : Int} {P : Nat} {ad : Addr} {n : Nat} {vs : List Int}

theorem uMap64 : Tryz.prog.underlying 110 = some (.map 2 2) := by kernel_rfl
theorem ownsRow_nomap {w : World} {B e sz n g : Nat} {v : Value} {xs : List Value} {es : Array MapEntry} {clk : Nat} (h : w.ownsRow B e sz v n xs) (hg : w.heap[g]? = some (.map es clk)) : v.ownBlock ≠ some g := by
 rcases h.2 with ⟨rfl, -⟩ | ⟨g', cap, cur, rfl, -, hg', -⟩
 ·simp [Value.ownBlock]
 ·intro e1
  have : g' = g := by simpa [Value.ownBlock] using e1
  subst this
  rw [hg] at hg'
  cases hg'
structure IdRel (w : World) (L : List (Int × Int × Int)) (v : Value) (b : Nat) (vi : Value) (wr : World) (k : Nat) : Prop where
 le : k ≤ L.length
 eq : vi = .int .i64 k
 row : wr.ownsRow 0 91 3 v L.length (partCells L)
 mp : MapIs wr b (idleM (L.take k) [])
 bel : Below w.heap.size w wr
def IdRelE (w : World) (L : List (Int × Int × Int)) (v : Value) (b : Nat) (vi : Value) (wr : World) : Prop := ∃ k, IdRel w L v b vi wr k
def IdleP (w : World) (m : List (Int × Int)) (e : Ending) (w' : World) : Prop := ∃ b, e = .returned (.map (some b)) ∧ w.heap.size ≤ b ∧ b < w'.heap.size ∧ MapIs w' b m ∧ Below w.heap.size w w'
theorem idleM_succ {L : List (Int × Int × Int)} {k : Nat} {x : Int × Int × Int} (h : L[k]? = some x) : idleM (L.take (k + 1)) [] = if x.1 = 4 then upsert (idleM (L.take k) []) x.2.1 x.2.2 else idleM (L.take k) [] := by
 rw [List.take_add_one, h]
 simp [idleM, List.foldl_append]
set_option maxHeartbeats 1000000 in
theorem pidle_any (h : XV w t P s ad n vs) (c : Nat) (hs : (chkF vs t P s).2 = true) :
 Calls Tryz.prog 63 #[.agg #[.int .i64 t, .int .i64 P, .int .i64 s], .slice (some ad) n c] w (IdleP w (idleM (partsF vs t P s) [])) := by
 have H := Lib.hid (fun (W : World) (h : XV W t P s ad n vs) => pparts_heap h c hs)
 have HV := Lib.hid h
 have hb := h.bd
 obtain ⟨L, hL⟩ : ∃ L, partsF vs t P s = L := ⟨_, rfl⟩
 have hll : L.length ≤ 33 * 64 := by
  rw [← hL]
  have := partsL_len vs t s P
  unfold partsF
  rw [Int.toNat_natCast]
  omega
 rw [hL] at H ⊢
 clear h hs hL hb
 have hmk : ∀ W : World, (Instr.makeMap 110 none).run Tryz.prog W = .ok (.map (some W.heap.size)) (W.alloc (.map #[] 0)) := fun W => run_makeMap _ W
 go_enter Tryz.func63, Tryz.ntmps63
 go_wp2_with fail
 refine (H.out _ (HV.out.keep (((Below.refl _ _).alloc (Nat.le_refl _) _).alloc (by simp) _))).mono ?_
 rintro e w1 ⟨v, rfl, hrow, -, hb⟩
 obtain ⟨pv, cv, rfl⟩ := row_shape hrow
 have hmap : MapIs w1 (w.heap.size + 1) [] := ⟨#[], 0, by
  rw [hb.block (w.heap.size + 1) (by simp)]
  have := heap_alloc_new (w.alloc (.cells #[.int .i64 t, .int .i64 P, .int .i64 s] 23)) (.map #[] 0)
  rw [World.size_alloc] at this
  exact this, rfl⟩
 have hrowlt : ∀ x, (Value.slice pv L.length cv).ownBlock = some x → x ≠ w.heap.size + 1 := fun x hx e => by
  subst e
  obtain ⟨es, clk, h1, -⟩ := hmap
  exact ownsRow_nomap hrow h1 hx
 have HRl := Lib.hid hrowlt
 have B1 := Lib.hid ((((Below.refl w.heap.size w).alloc (Nat.le_refl _) (.cells #[.int .i64 t, .int .i64 P, .int .i64 s] 23)).alloc (by simp) (.map #[] 0)).trans (hb.mono (by simp; omega)))
 have HRow := Lib.hid hrow
 have HMap := Lib.hid hmap
 have hsz := hb.size
 simp only [World.size_alloc] at hsz
 clear hrow hmap hb hrowlt H HV hmk
 go_wp2
 go_loopw [13] (fun vi wr => IdRelE w L (.slice pv L.length cv) (w.heap.size + 1) vi wr) (fun vi _ => L.length - (intOf vi).toNat)
 case atStart => exact ⟨0, by omega, rfl, HRow.out, by simpa [idleM] using HMap.out, B1.out⟩
 case round =>
  clear HMap HRow B1
  obtain ⟨k, hk, rfl, hrow, hmap, hb⟩ := hrel
  by_cases hlt : k < L.length
  ·have hkl : (k : Int) < L.length := by omega
   obtain ⟨⟨x1, x2, x3⟩, hx⟩ : ∃ x, L[k]? = some x := ⟨_, List.getElem?_eq_getElem hlt⟩
   obtain ⟨d1, d2, d3⟩ := part_cell hx
   obtain ⟨g, cg, hgv⟩ := Joins.ownsRow_form hrow (by omega)
   simp only [Value.slice.injEq, true_and] at hgv
   obtain ⟨rfl, rfl⟩ := hgv
   have r1 := (hrow.cellAt (k * 3) (by omega)).trans d1
   have r2 := (hrow.cellAt (k * 3 + 1) (by omega)).trans d2
   have r3 := (hrow.cellAt (k * 3 + 2) (by omega)).trans d3
   dsimp only at r1 r2 r3
   have hgl := ownsRow_lt hrow (show (Value.slice (some ⟨g, 0, none⟩) L.length cv).ownBlock = some g from rfl)
   have hS := idleM_succ hx
   have HRow := Lib.hid hrow
   have HMap := Lib.hid hmap
   have HB := Lib.hid hb
   have hml : w.heap.size + 1 < wr.heap.size := by
    obtain ⟨es, clk, h1, -⟩ := hmap
    exact (Array.getElem?_eq_some_iff.1 h1).1
   clear hrow hmap hb hx d1 d2 d3
   by_cases h4 : x1 = 4
   ·subst h4
    rw [if_pos rfl] at hS
    have HS := Lib.hid hS
    clear hS
    have HM2 := Lib.hid (show ∀ o, MapIs (wr.alloc o) (w.heap.size + 1) (idleM (L.take k) []) from fun o => by
     obtain ⟨es, clk, h1, h2⟩ := HMap.out
     exact ⟨es, clk, (Below.heap_alloc _ _ _ hml).trans h1, h2⟩)
    go_wp2_with (at_mapUpdate; go_must (refine wpL_update rfl _ _ _ rfl uMap64 Tryz.underlying2 (w.heap.size + 1) (idleM (L.take k) []) x2 x3 rfl (HM2.out _) rfl rfl ?_); go_must (intro w2 hm2 hg2))
    have R2 := Lib.hid (ownsRow_block HRow.out (fun x hx => (hg2.block x (by have := ownsRow_lt HRow.out hx; simp; omega) (fun e => HRl.out x hx (by simpa using e))).trans (Below.heap_alloc _ _ _ (ownsRow_lt HRow.out hx))))
    have B2 := Lib.hid ((HB.out.alloc HB.out.size _).grown hg2 (by have := HB.out.size; simp; omega) (fun x hx => by simp at hx; omega))
    have M2 := Lib.hid hm2
    clear hm2 hg2
    go_wp2
    go_roundw
    case rel => exact ⟨k + 1, by omega, by go_num, R2.out, by rw [HS.out]; exact M2.out, B2.out⟩
    case measure => simp [intOf]; omega
   ·rw [if_neg h4] at hS
    have HS := Lib.hid hS
    have h4b : (x1 == 4) = false := by simpa using h4
    clear hS h4
    go_wp2
    go_roundw
    case rel =>
     refine ⟨k + 1, by omega, by go_num, ?_, ?_, HB.out.alloc HB.out.size _⟩
     ·exact ownsRow_block HRow.out (fun x hx => Below.heap_alloc _ _ _ (ownsRow_lt HRow.out hx))
     ·rw [HS.out]
      obtain ⟨es, clk, h1, h2⟩ := HMap.out
      exact ⟨es, clk, (Below.heap_alloc _ _ _ hml).trans h1, h2⟩
    case measure => simp [intOf]; omega
  ·have hke : k = L.length := by omega
   have hkl : ¬ (k : Int) < L.length := by omega
   rw [hke, List.take_length] at hmap
   have HMap := Lib.hid hmap
   have HB := Lib.hid hb
   clear hrow hmap hb hke
   go_wp2
   go_ret
   obtain ⟨es, clk, h1, h2⟩ := HMap.out
   exact ⟨_, rfl, by omega, (Array.getElem?_eq_some_iff.1 h1).1, HMap.out, HB.out⟩
end
end Go.Proofs.YtnagdljgeglceaaGreat
/- the program's pockets: Fits. -/
set_option linter.unusedSimpArgs false
set_option linter.unusedVariables false
namespace Go.Proofs.YtnagdljgeglceaaGreat
open Go.RowKit
section
variable {w : World} {t s : Int} {P : Nat} {ad : Addr} {n : Nat} {vs : List Int}

theorem zI64 (w : World) : (zeroValue 2).run Tryz.prog w = .ok (.int .i64 0) w := by kernel_rfl
theorem idx_pk (e : PkE) {k : Nat} (hk : k < 9) (W : World) : (Instr.index 58 (.agg #[e.v0, e.v1, e.v2, e.v3, e.v4, e.v5, e.v6, e.v7, e.v8]) (.int .i64 (k : Int))).run Tryz.prog W = .ok (e.vs.getD k undef) W := by
 rcases nine hk with rfl | rfl | rfl | rfl | rfl | rfl | rfl | rfl | rfl
 all_goals
  simp [Instr.index, run_underlying Tryz.underlying58, go_sem, Result.andThen, PkE.vs]
structure FpO (w2 : World) (b : Nat) (sz : Nat → Int) (all : List (List (List Int))) (m0 : List (Int × Int)) (vi : Value) (wr : World) (j : Nat) (m : List (Int × Int)) : Prop where
 le : j ≤ all.length
 eq : vi = .int .i64 j
 mp : MapIs wr b m
 tk : takeA sz all m0 = takeA sz (all.drop j) m
 fr : Fr (fun x => x = b) w2 wr
def FpOE (w2 : World) (b : Nat) (sz : Nat → Int) (all : List (List (List Int))) (m0 : List (Int × Int)) (vi : Value) (wr : World) : Prop := ∃ j m, FpO w2 b sz all m0 vi wr j m
structure FpM (w2 : World) (b : Nat) (sz : Nat → Int) (p : List (List Int)) (R : Option (List (Int × Int))) (F : List (Int × Int) → Option (List (Int × Int))) (vi : Value) (wr : World) (k : Nat) (m : List (Int × Int)) : Prop where
 le : k ≤ 9
 eq : vi = .int .i64 k
 mp : MapIs wr b m
 tk : R = (takeP sz k (p.drop k) m).bind F
 fr : Fr (fun x => x = b) w2 wr
def FpME (w2 : World) (b : Nat) (sz : Nat → Int) (p : List (List Int)) (R : Option (List (Int × Int))) (F : List (Int × Int) → Option (List (Int × Int))) (vi : Value) (wr : World) : Prop := ∃ k m, FpM w2 b sz p R F vi wr k m
structure FpI (w2 : World) (b : Nat) (z : Int) (l : List Int) (R : Option (List (Int × Int))) (F : List (Int × Int) → Option (List (Int × Int))) (vi : Value) (wr : World) (i : Nat) (m : List (Int × Int)) : Prop where
 le : i ≤ l.length
 eq : vi = .int .i64 i
 mp : MapIs wr b m
 tk : R = (takeL z (l.drop i) m).bind F
 fr : Fr (fun x => x = b) w2 wr
def FpIE (w2 : World) (b : Nat) (z : Int) (l : List Int) (R : Option (List (Int × Int))) (F : List (Int × Int) → Option (List (Int × Int))) (vi : Value) (wr : World) : Prop := ∃ i m, FpI w2 b z l R F vi wr i m
theorem fitsP_none {sz : Nat → Int} {all : List (List (List Int))} {m0 : List (Int × Int)} (h : takeA sz all m0 = none) : fitsP sz all m0 = false := by
 unfold fitsP; rw [h]
theorem gdrop {α : Type} {L : List α} {i : Nat} {x : α} (h : L[i]? = some x) : L.drop i = x :: L.drop (i + 1) := by
 have hl := (List.getElem?_eq_some_iff.1 h).1
 rw [List.drop_eq_getElem_cons hl]
 congr 1
 exact (List.getElem?_eq_some_iff.1 h).2
set_option maxHeartbeats 2000000 in
set_option maxRecDepth 100000 in
theorem pfitsp_yes (av : Value) (es : List PkE) (c : Nat) (w : World) (h : XV w (es.length : Nat) P s ad n vs) (hs : (chkF vs (es.length : Nat) P s).2 = true) (hk : PkR w av es) (hf : ∀ e ∈ es, fewB e = true) (hn20 : es.length ≤ 20) :
 Calls Tryz.prog 26 #[.agg #[.int .i64 (es.length : Nat), .int .i64 P, .int .i64 s], .slice (some ad) n c, av] w fun e w' => e = .returned (.bool (fitsP (fun k => sizeF s k) (es.map PkE.ls) (idleM (partsF vs (es.length : Nat) P s) []))) ∧ Below w.heap.size w w' := by
 have H := Lib.hid (fun w (h : XV w (es.length : Nat) P s ad n vs) => pcheck_any h c)
 rw [hs] at H
 have HP := Lib.hid (fun w (h : XV w (es.length : Nat) P s ad n vs) => pidle_any h c hs)
 have hbd := h.bd
 have HSz := Lib.hid (fun (k : Nat) W => psize_any s k W ⟨hbd.2.2.2.2.1, hbd.2.2.2.2.2.1⟩)
 obtain ⟨m0, hm0⟩ : ∃ m0, idleM (partsF vs (es.length : Nat) P s) [] = m0 := ⟨_, rfl⟩
 rw [hm0] at HP ⊢
 obtain ⟨r, hr⟩ : ∃ r, fitsP (fun k => sizeF s k) (es.map PkE.ls) m0 = r := ⟨_, rfl⟩
 rw [hr]
 have HR := Lib.hid hr
 obtain ⟨e1, he1⟩ : ∃ e1, (chkF vs (es.length : Nat) P s).1 = e1 := ⟨_, rfl⟩
 rw [he1] at H
 have c0 := loc_alloc w #[.int .i64 (es.length : Nat), .int .i64 P, .int .i64 s] 23
 have S0 := ((BS.start w).alloc (.cells #[.int .i64 (es.length : Nat), .int .i64 P, .int .i64 s] 23))
 have HV2 := Lib.hid (h.keep S0.bel)
 have HV := Lib.hid h
 have HK := Lib.hid hk
 have HF := Lib.hid hf
 obtain ⟨pa, pc, rfl⟩ := hk.rd.len
 clear h hs hk hf hr hbd hm0 he1
 go_enter Tryz.func26, Tryz.ntmps26
 go_wp2_with fail
 refine (calls_b S0 (H.out _ HV2.out)).mono ?_
 rintro e w1 ⟨rfl, S1, S1l⟩
 have c1 := loc_step S1l (by simp) c0
 clear S1l
 have HVa := Lib.hid (HV.out.keep S1.bel)
 clear S0 c0 HV2
 go_wp2_with fail
 refine (HP.out _ HVa.out).mono ?_
 rintro e w2 ⟨b, rfl, hb1, hb2, hmap, hb⟩
 have z1 := S1.bel.size
 have hz1 : w.heap.size < w1.heap.size := (S1.ls w.heap.size (by simp)).1
 have HB2 := Lib.hid (S1.bel.trans (hb.mono z1))
 have HQ := Lib.hid (fun W (F : Fr (fun x => x = b) w2 W) => (⟨HK.out.keep ((S1.bel.trans (hb.mono z1)).trans (F.below (S1.bel.trans (hb.mono z1)).size (fun x hx => by omega))) (Nat.le_refl _), fun o => ((F.cell (k := w.heap.size) (by have := hb.size; omega) (by omega) o).trans (World.cell?_of_block (a := ⟨w.heap.size, o, none⟩) (hb.block w.heap.size hz1))).trans (c1 o), (S1.bel.trans (hb.mono z1)).trans (F.below (S1.bel.trans (hb.mono z1)).size (fun x hx => by omega))⟩ : PkR W (.slice pa es.length pc) es ∧ (∀ o : Nat, W.cell? ⟨w.heap.size, o, none⟩ = (#[.int .i64 (es.length : Nat), .int .i64 P, .int .i64 s] : Array Value)[o]?) ∧ Below w.heap.size w W))
 have HMap := Lib.hid hmap
 have hls : (es.map PkE.ls).length = es.length := by simp
 obtain ⟨all, hall⟩ : ∃ all, es.map PkE.ls = all := ⟨_, rfl⟩
 rw [hall] at HR hls
 have HAll := Lib.hid hall
 have HLs := Lib.hid hls
 have hbw : w.heap.size < b := by omega
 clear hmap hb S1 c1 HP H HVa hz1 z1 hb1 hb2 hall hls
 go_wp2
 go_loopw [36] (fun vi wr => FpOE w2 b (fun k => sizeF s k) all m0 vi wr) (fun vi _ => es.length - (intOf vi).toNat)
 case atStart => exact ⟨0, m0, by omega, rfl, HMap.out, rfl, Fr.refl _ _⟩
 case round =>
  obtain ⟨j, m, hj, rfl, hmp, htk, hfr⟩ := hrel
  rw [HLs.out] at hj
  obtain ⟨hpk, hcfg, -⟩ := HQ.out _ hfr
  by_cases hlj : j < es.length
  ·have hjl : (j : Int) < es.length := by omega
   obtain ⟨e, he⟩ : ∃ e, es[j]? = some e := ⟨_, List.getElem?_eq_getElem hlj⟩
   obtain ⟨b1, off, c', hvs, hcell⟩ := hpk.cell he
   simp only [Value.slice.injEq, true_and] at hvs
   obtain ⟨rfl, rfl⟩ := hvs
   have k0 := hcell 0 (by omega)
   have k1 := hcell 1 (by omega)
   have k2 := hcell 2 (by omega)
   have k3 := hcell 3 (by omega)
   have k4 := hcell 4 (by omega)
   have k5 := hcell 5 (by omega)
   have k6 := hcell 6 (by omega)
   have k7 := hcell 7 (by omega)
   have k8 := hcell 8 (by omega)
   simp only [Nat.add_zero, ← Nat.add_assoc, PkE.vs, List.getD_cons_zero, List.getD_cons_succ] at k0 k1 k2 k3 k4 k5 k6 k7 k8
   have hok := HK.out.ok e (List.mem_of_getElem? he)
   obtain ⟨a0, cc0, h0⟩ := (show RdI w e.v0 e.l0 from hok.r0).len
   obtain ⟨a1, cc1, h1⟩ := (show RdI w e.v1 e.l1 from hok.r1).len
   obtain ⟨a2, cc2, h2⟩ := (show RdI w e.v2 e.l2 from hok.r2).len
   obtain ⟨a3, cc3, h3⟩ := (show RdI w e.v3 e.l3 from hok.r3).len
   obtain ⟨a4, cc4, h4⟩ := (show RdI w e.v4 e.l4 from hok.r4).len
   obtain ⟨a5, cc5, h5⟩ := (show RdI w e.v5 e.l5 from hok.r5).len
   obtain ⟨a6, cc6, h6⟩ := (show RdI w e.v6 e.l6 from hok.r6).len
   obtain ⟨a7, cc7, h7⟩ := (show RdI w e.v7 e.l7 from hok.r7).len
   obtain ⟨a8, cc8, h8⟩ := (show RdI w e.v8 e.l8 from hok.r8).len
   rw [h0] at k0
   rw [h1] at k1
   rw [h2] at k2
   rw [h3] at k3
   rw [h4] at k4
   rw [h5] at k5
   rw [h6] at k6
   rw [h7] at k7
   rw [h8] at k8
   have HIx := Lib.hid (fun (k : Nat) (hk : k < 9) W => idx_pk e hk W)
   rw [h0, h1, h2, h3, h4, h5, h6, h7, h8] at HIx
   obtain ⟨n0, hn0⟩ : ∃ n, e.l0.length = n := ⟨_, rfl⟩
   obtain ⟨n1, hn1⟩ : ∃ n, e.l1.length = n := ⟨_, rfl⟩
   obtain ⟨n2, hn2⟩ : ∃ n, e.l2.length = n := ⟨_, rfl⟩
   obtain ⟨n3, hn3⟩ : ∃ n, e.l3.length = n := ⟨_, rfl⟩
   obtain ⟨n4, hn4⟩ : ∃ n, e.l4.length = n := ⟨_, rfl⟩
   obtain ⟨n5, hn5⟩ : ∃ n, e.l5.length = n := ⟨_, rfl⟩
   obtain ⟨n6, hn6⟩ : ∃ n, e.l6.length = n := ⟨_, rfl⟩
   obtain ⟨n7, hn7⟩ : ∃ n, e.l7.length = n := ⟨_, rfl⟩
   obtain ⟨n8, hn8⟩ : ∃ n, e.l8.length = n := ⟨_, rfl⟩
   rw [hn0] at k0
   rw [hn1] at k1
   rw [hn2] at k2
   rw [hn3] at k3
   rw [hn4] at k4
   rw [hn5] at k5
   rw [hn6] at k6
   rw [hn7] at k7
   rw [hn8] at k8
   rw [hn0, hn1, hn2, hn3, hn4, hn5, hn6, hn7, hn8] at HIx
   clear hok h3 h4 h5 h6 h7 h8 hn0 hn1 hn2 hn3 hn4 hn5 hn6 hn7 hn8
   have hag : all[j]? = some e.ls := by rw [← HAll.out, List.getElem?_map, he]; rfl
   have HTk := Lib.hid (show takeA (fun k => sizeF s k) all m0 = (takeP (fun k => sizeF s k) 0 (e.ls.drop 0) m).bind (takeA (fun k => sizeF s k) (all.drop (j + 1))) by rw [htk, gdrop hag]; rfl)
   have HMp := Lib.hid hmp
   have HFr := Lib.hid hfr
   have HOk := Lib.hid (show e ∈ es from List.mem_of_getElem? he)
   clear hcell hpk hcfg hmp htk hfr he hag
   have HFr2 := Lib.hid (fun o => HFr.out.alloc o)
   have HMp2 := Lib.hid (fun o => HMp.out.block (w' := wr.alloc o) (Below.heap_alloc _ _ _ HMp.out.lt))
   clear HMp HFr
   obtain ⟨R, hR⟩ : ∃ R, takeA (fun k => sizeF s k) all m0 = R := ⟨_, rfl⟩
   obtain ⟨F, hF⟩ : ∃ F, takeA (fun k => sizeF s k) (all.drop (j + 1)) = F := ⟨_, rfl⟩
   rw [hR, hF] at HTk
   have HRR := Lib.hid hR
   have HFF := Lib.hid hF
   clear hR hF
   go_wp2
   clear k0 k1 k2 k3 k4 k5 k6 k7 k8
   go_loopw [41] (fun vi wr => FpME w2 b (fun k => sizeF s k) e.ls R F vi wr) (fun vi _ => 9 - (intOf vi).toNat)
   case atStart => exact ⟨0, m, by omega, rfl, HMp2.out _, HTk.out, HFr2.out _⟩
   case round =>
    clear HMp2 HFr2 HTk
    obtain ⟨k, m, hk, rfl, hmp, htk, hfr⟩ := hrel
    by_cases hlt : k < 9
    ·have hk9 : (k : Int) < 9 := by omega
     have hix := HIx.out k hlt
     obtain ⟨hpk, hcfg, -⟩ := HQ.out _ hfr
     have hrd := (hpk.ok e HOk.out).at_ hlt
     obtain ⟨u, hu⟩ : ∃ u, e.vs.getD k undef = u := ⟨_, rfl⟩
     obtain ⟨l, hl⟩ : ∃ l, e.ls.getD k [] = l := ⟨_, rfl⟩
     rw [hu] at hix hrd
     rw [hl] at hrd
     have hlk : e.ls[k]? = some l := by
      rw [← hl]
      rcases nine hlt with rfl | rfl | rfl | rfl | rfl | rfl | rfl | rfl | rfl <;> rfl
     obtain ⟨ua, uc, rfl⟩ := hrd.len
     have HU := Lib.hid hu
     have HLk := Lib.hid hl
     have hdp := gdrop hlk
     have HMp := Lib.hid hmp
     have HFr := Lib.hid hfr
     have HTk := Lib.hid htk
     have HDp := Lib.hid hdp
     clear hpk hcfg hrd hu hl hlk hdp hmp hfr htk
     by_cases h4 : l.length ≤ 4
     ·have h4i : ¬ (4 : Int) < (l.length : Int) := by omega
      have HTl := Lib.hid (show R = (takeL (sizeF s k) (l.drop 0) m).bind (fun m' => (takeP (fun k => sizeF s k) (k + 1) (e.ls.drop (k + 1)) m').bind F) by
       rw [HTk.out, HDp.out]
       rw [takeP, if_pos h4, Option.bind_assoc]
       rfl)
      clear HTk HDp
      go_wp2
      go_loopw [50] (fun vi wr => FpIE w2 b (sizeF s k) l R (fun m' => (takeP (fun k => sizeF s k) (k + 1) (e.ls.drop (k + 1)) m').bind F) vi wr) (fun vi _ => l.length - (intOf vi).toNat)
      case atStart => exact ⟨0, m, by omega, rfl, HMp.out, HTl.out, HFr.out⟩
      case round =>
       clear HMp HFr HTl
       obtain ⟨i, m, hi, rfl, hmp, htk, hfr⟩ := hrel
       obtain ⟨hpk, hcfg, hbw2⟩ := HQ.out _ hfr
       by_cases hli : i < l.length
       ·have hil : (i : Int) < l.length := by omega
        obtain ⟨a, ha⟩ : ∃ a, l[i]? = some a := ⟨_, List.getElem?_eq_getElem hli⟩
        have hrd := (hpk.ok e HOk.out).at_ hlt
        rw [HU.out, HLk.out] at hrd
        obtain ⟨hrl, ⟨-, h0⟩ | ⟨al, cl, hv, hcl⟩⟩ := hrd
        ·omega
        simp only [Value.slice.injEq, true_and] at hv
        obtain ⟨rfl, rfl⟩ := hv
        have r1 := hcl i _ (longs_get hli)
        have hga : l.getD i 0 = a := by simp [ha]
        rw [hga] at r1
        have e2 := (hcfg 2).trans rfl
        have hdi := gdrop ha
        have HTk := Lib.hid htk
        have HDi := Lib.hid hdi
        have HFr := Lib.hid hfr
        have HXs := Lib.hid (fun W (hW : Below wr.heap.size wr W) => (⟨hW, hmp.block (hW.block b hmp.lt), (hW.cell (World.block_lt_of_cell? wr _ e2)).trans e2⟩ : Below wr.heap.size wr W ∧ MapIs W b m ∧ W.cell? ⟨w.heap.size, 2, none⟩ = some (.int .i64 s)))
        obtain ⟨z, hz⟩ : ∃ z, sizeF s k = z := ⟨_, rfl⟩
        obtain ⟨v, hv⟩ : ∃ v, (assoc m a).getD 0 = v := ⟨_, rfl⟩
        have HSk := Lib.hid (fun W => HSz.out k W)
        rw [hz] at HSk
        have HZ := Lib.hid hz
        have HVv := Lib.hid hv
        clear hpk hcfg hrl hcl ha hga hdi htk hfr hmp e2 hz hv
        go_wp2
        refine wp_region_noPanic ?_
        refine wp_region_held_drew (S := fun w' => Below wr.heap.size wr w' ∧ MapIs w' b m ∧ w'.cell? ⟨w.heap.size, 2, none⟩ = some (.int .i64 s)) (by kernel_rfl) ?_ (fun hHeld => ?_)
        ·exact HXs.out _ (Below.refl _ _).drew
        refine wpAnyH_take (i := 0) (oi := _) (v := ?_) rfl (by kernel_rfl) (by kernel_rfl) (by kernel_rfl) (fun _ _ _ h => h) (Or.inl ⟨by rfl, ?_⟩) (by assumption) ?_
        rotate_left
        ·intro w hSw; (try dsimp only at hSw); go_simp; try with_reducible rfl
        try simp only [Act.put, zA, zB, zD, zE, zF]
        refine wpAnyH_take (i := 1) (oi := _) (v := ?_) rfl (by kernel_rfl) (by kernel_rfl) (by kernel_rfl) (fun _ _ _ h => h) (Or.inl ⟨by rfl, ?_⟩) (by assumption) ?_
        rotate_left
        ·intro w hSw; (try dsimp only at hSw); go_simp; try with_reducible rfl
        try simp only [Act.put, zA, zB, zC, zD, zE, zF]
        refine wpAnyH_take (i := 3) (oi := _) (v := ?_) rfl (by kernel_rfl) (by kernel_rfl) (by kernel_rfl) (fun _ _ _ h => h) (Or.inl ⟨by rfl, ?_⟩) (by assumption) ?_
        rotate_left
        ·intro w hSw; (try dsimp only at hSw); go_simp; try with_reducible rfl
        try simp only [Act.put, zA, zB, zC, zD, zE, zF]
        refine wpAnyH_take (i := 4) (oi := _) (v := ?_) rfl (by kernel_rfl) (by kernel_rfl) (by kernel_rfl) (fun _ _ _ h => h) (Or.inl ⟨by rfl, ?_⟩) (by assumption) ?_
        rotate_left
        ·intro w hSw; (try dsimp only at hSw); go_simp; try with_reducible rfl
        try simp only [Act.put, zA, zB, zC, zD, zE, zF]
        refine wpAnyH_take (i := 5) (oi := _) (v := ?_) rfl (by kernel_rfl) (by kernel_rfl) (by kernel_rfl) (fun _ _ _ h => h) (Or.inl ⟨by rfl, ?_⟩) (by assumption) ?_
        rotate_left
        ·intro w hSw; (try dsimp only at hSw); go_simp; try with_reducible rfl
        try simp only [Act.put, zA, zB, zC, zD, zE, zF]
        refine wpAnyH_ready (rs := [2, 6]) (by kernel_rfl) (by simp) ?_
        refine AllReadyH.cons (o := _) rfl (fun K hK => ?_) (AllReadyH.cons (o := _) rfl (fun K hK => ?_) AllReadyH.nil)
        ·have hlk := run_lookup_ok (P := Tryz.prog) hHeld.2.1 uMap64 Tryz.underlying2 (zI64 _) a false
         rw [HVv.out] at hlk
         go_simp
         clear hlk
         refine hK.out _ _ ?_ (fun hHeld => ?_)
         ·exact hHeld
         clear hK K
         try simp only [Act.put, zA, zB, zC, zD, zE, zF]
         refine wpAnyH_ready (rs := [6]) (by kernel_rfl) (by simp) ?_
         refine AllReadyH.cons (o := _) rfl (fun K hK => ?_) AllReadyH.nil
         go_simp
         refine (HSk.out _).mono ?_
         rintro e5 w5 ⟨rfl, b5⟩
         have B5 := hHeld.1.trans (b5.mono hHeld.1.size)
         dsimp only
         refine hK.out _ _ ?_ (fun hHeld => ?_)
         ·exact HXs.out _ B5
         clear hK K
         try simp only [Act.put, zA, zB, zC, zD, zE, zF]
         refine wpAnyH_take (i := 7) (oi := _) (v := ?_) rfl (by kernel_rfl) (by kernel_rfl) (by kernel_rfl) (fun _ _ _ h => h) (Or.inl ⟨by rfl, ?_⟩) (by assumption) ?_
         rotate_left
         ·intro w hSw; (try dsimp only at hSw); go_simp; try with_reducible rfl
         try simp only [Act.put, zA, zB, zC, zD, zE, zF]
         refine wpAnyH_done (by kernel_rfl) ?_ _
         refine NoPanic.normal ?_
         have HM := Lib.hid hHeld.2.1
         have HF5 := Lib.hid (HFr.out.trans (S1 := fun _ => False) (Fr.of_below hHeld.1) (fun _ x => x.elim))
         clear hHeld B5 b5
         by_cases hvz : v = z
         ·have hvb : (v != z) = false := by simpa using hvz
          have HT2 := Lib.hid (show takeL z (l.drop i) m = takeL z (l.drop (i + 1)) (delK m a) by
           rw [HDi.out]
           rw [takeL, if_pos (by rw [HVv.out]; exact hvz)])
          clear hvz
          go_wp2_with (refine wpL_mdelete rfl _ _ rfl uMap64 Tryz.underlying2 b m a rfl HM.out rfl ?_; intro w7 hm7 hg7)
          have HM7 := Lib.hid hm7
          have HF7 := Lib.hid (HF5.out.grown hg7 (fun x hx => Or.inl (by simpa using hx.symm)))
          clear hm7 hg7
          go_wp2
          go_roundw
          case rel => exact ⟨i + 1, delK m a, by omega, by go_num, HM7.out, by rw [HTk.out, HZ.out, HT2.out], HF7.out⟩
          case measure => simp [intOf]; omega
         ·have hvb : (v != z) = true := by simpa using hvz
          have HN := Lib.hid (show fitsP (fun k => sizeF s k) all m0 = false from fitsP_none (by
           rw [HRR.out, HTk.out, HZ.out, HDi.out]
           rw [takeL, if_neg (by rw [HVv.out]; exact hvz)]
           rfl))
          have HB := Lib.hid (HQ.out _ HF5.out).2.2
          clear hvz
          go_wp2
          go_ret
          exact ⟨ret_bool (HN.out.symm.trans HR.out), HB.out⟩
        ·go_simp
         refine (HSk.out _).mono ?_
         rintro e5 w5 ⟨rfl, b5⟩
         have B5 := hHeld.1.trans (b5.mono hHeld.1.size)
         dsimp only
         refine hK.out _ _ ?_ (fun hHeld => ?_)
         ·exact HXs.out _ B5
         clear hK K
         try simp only [Act.put, zA, zB, zC, zD, zE, zF]
         refine wpAnyH_ready (rs := [2]) (by kernel_rfl) (by simp) ?_
         refine AllReadyH.cons (o := _) rfl (fun K hK => ?_) AllReadyH.nil
         have hlk := run_lookup_ok (P := Tryz.prog) hHeld.2.1 uMap64 Tryz.underlying2 (zI64 _) a false
         rw [HVv.out] at hlk
         go_simp
         clear hlk
         refine hK.out _ _ ?_ (fun hHeld => ?_)
         ·exact hHeld
         clear hK K
         try simp only [Act.put, zA, zB, zC, zD, zE, zF]
         refine wpAnyH_take (i := 7) (oi := _) (v := ?_) rfl (by kernel_rfl) (by kernel_rfl) (by kernel_rfl) (fun _ _ _ h => h) (Or.inl ⟨by rfl, ?_⟩) (by assumption) ?_
         rotate_left
         ·intro w hSw; (try dsimp only at hSw); go_simp; try with_reducible rfl
         try simp only [Act.put, zA, zB, zC, zD, zE, zF]
         refine wpAnyH_done (by kernel_rfl) ?_ _
         refine NoPanic.normal ?_
         have HM := Lib.hid hHeld.2.1
         have HF5 := Lib.hid (HFr.out.trans (S1 := fun _ => False) (Fr.of_below hHeld.1) (fun _ x => x.elim))
         clear hHeld B5 b5
         by_cases hvz : v = z
         ·have hvb : (v != z) = false := by simpa using hvz
          have HT2 := Lib.hid (show takeL z (l.drop i) m = takeL z (l.drop (i + 1)) (delK m a) by
           rw [HDi.out]
           rw [takeL, if_pos (by rw [HVv.out]; exact hvz)])
          clear hvz
          go_wp2_with (refine wpL_mdelete rfl _ _ rfl uMap64 Tryz.underlying2 b m a rfl HM.out rfl ?_; intro w7 hm7 hg7)
          have HM7 := Lib.hid hm7
          have HF7 := Lib.hid (HF5.out.grown hg7 (fun x hx => Or.inl (by simpa using hx.symm)))
          clear hm7 hg7
          go_wp2
          go_roundw
          case rel => exact ⟨i + 1, delK m a, by omega, by go_num, HM7.out, by rw [HTk.out, HZ.out, HT2.out], HF7.out⟩
          case measure => simp [intOf]; omega
         ·have hvb : (v != z) = true := by simpa using hvz
          have HN := Lib.hid (show fitsP (fun k => sizeF s k) all m0 = false from fitsP_none (by
           rw [HRR.out, HTk.out, HZ.out, HDi.out]
           rw [takeL, if_neg (by rw [HVv.out]; exact hvz)]
           rfl))
          have HB := Lib.hid (HQ.out _ HF5.out).2.2
          clear hvz
          go_wp2
          go_ret
          exact ⟨ret_bool (HN.out.symm.trans HR.out), HB.out⟩
       ·have hil : ¬ (i : Int) < l.length := by omega
        have hie : i = l.length := by omega
        rw [hie, List.drop_length] at htk
        have HMp := Lib.hid hmp
        have HFr := Lib.hid hfr
        have HTk := Lib.hid htk
        clear hmp hfr htk hie hpk hcfg
        go_wp2
        go_roundw
        case rel => exact ⟨k + 1, m, by omega, by go_num, HMp.out, HTk.out, HFr.out⟩
        case measure => simp [intOf]; omega
     ·have h4i : (4 : Int) < (l.length : Int) := by omega
      have HN := Lib.hid (show fitsP (fun k => sizeF s k) all m0 = false from fitsP_none (by
       rw [HRR.out, HTk.out, HDp.out]
       rw [takeP, if_neg h4]
       rfl))
      have HB := Lib.hid (HQ.out _ HFr.out).2.2
      clear h4
      go_wp2
      go_ret
      exact ⟨ret_bool (HN.out.symm.trans HR.out), HB.out⟩
    ·have hke : k = 9 := by omega
     have hkl : ¬ (k : Int) < 9 := by omega
     have HMp := Lib.hid hmp
     have HFr := Lib.hid hfr
     have HTk := Lib.hid (show takeA (fun k => sizeF s k) all m0 = takeA (fun k => sizeF s k) (all.drop (j + 1)) m by
      rw [HRR.out, htk, hke, HFF.out]
      rfl)
     clear hmp hfr htk hke
     go_wp2
     go_roundw
     case rel => exact ⟨j + 1, m, by rw [HLs.out]; omega, by go_num, HMp.out, HTk.out, HFr.out⟩
     case measure => simp [intOf]; omega
  ·have hje : j = es.length := by omega
   have hjl : ¬ (j : Int) < es.length := by omega
   have hnil : all.drop j = [] := List.drop_eq_nil_of_le (by rw [HLs.out]; omega)
   rw [hnil] at htk
   have htk2 : takeA (fun k => sizeF s k) all m0 = some m := htk
   obtain ⟨es1, clk, hbm, hsz⟩ := hmp.len
   have hB := (HQ.out _ hfr).2.2
   have HB := Lib.hid hB
   have hlm := fun ty => run_len_map (P := Tryz.prog) wr 110 ty b es1 clk (by kernel_rfl) hbm
   obtain ⟨q, hq⟩ : ∃ q, m.length = q := ⟨_, rfl⟩
   rw [hq] at hsz
   by_cases hm : q = 0
   ·have HN := Lib.hid (show fitsP (fun k => sizeF s k) all m0 = true by unfold fitsP; rw [htk2]; simp [hq, hm])
    subst hm
    have hszi : (es1.size : Int) = 0 := by omega
    clear htk htk2 hmp hfr hpk hcfg hnil hje hq hB
    go_wp2
    go_ret
    exact ⟨ret_bool (HN.out.symm.trans HR.out), HB.out⟩
   ·have HN := Lib.hid (show fitsP (fun k => sizeF s k) all m0 = false by unfold fitsP; rw [htk2]; simp [hq, hm])
    have hszb : ((q : Int) == 0) = false := by rw [beq_eq_false_iff_ne]; omega
    clear htk htk2 hmp hfr hpk hcfg hnil hje hq hB hm
    go_wp2
    go_ret
    exact ⟨ret_bool (HN.out.symm.trans HR.out), HB.out⟩
end
end Go.Proofs.YtnagdljgeglceaaGreat
