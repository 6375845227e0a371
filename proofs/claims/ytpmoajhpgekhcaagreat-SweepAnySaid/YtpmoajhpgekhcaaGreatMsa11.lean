/- parts of the proof, merged by a program. -/
import Derived.Test.YtpmoajhpgekhcaaGreatMsa1
import Derived.Test.YtpmoajhpgekhcaaGreatMsa2
import Derived.Test.YtpmoajhpgekhcaaGreatMsa3
import Derived.Test.YtpmoajhpgekhcaaGreatMsa5
import Derived.Test.YtpmoajhpgekhcaaGreatMsa8
import Derived.Test.YtpmoajhpgekhcaaGreatMsa9
import Derived.Test.YtpmoajhpgekhcaaGreatMsa10
import Derived.Deep.OwnRows
import Derived.Deep.RegionHeld3
import Derived.ProofKit
import Derived.OpenShut
import Derived.Deep.Slices
import Derived.Deep.RegionLaw
set_option linter.unusedSimpArgs false
set_option linter.unusedVariables false
/- lists of pages in a heap, as plain data: what Pull, Push and Walk make of them. -/
set_option linter.unusedSimpArgs false
set_option linter.unusedVariables false
namespace Go.Proofs.YtpmoajhpgekhcaaGreat
open Go.RowKit

def upI (f : Int → Int) (a v : Int) : Int → Int := fun x => if x = a then v else f x
theorem upI_same (f : Int → Int) (a v : Int) : upI f a v a = v := by simp [upI]
theorem upI_other {f : Int → Int} {a x : Int} (v : Int) (h : x ≠ a) : upI f a v x = f x := by simp [upI, h]

/-- from q, behind which ah stands ahead, through l to r, behind which e stands. -/
def seg (nx pv : Int → Int) (q ah : Int) : List Int → Int → Int → Prop
  | [], r, e => r = q ∧ e = ah
  | x :: l, r, e => q = x + 1 ∧ pv x = ah ∧ seg nx pv (nx x) (x + 1) l r e

theorem seg_app {nx pv : Int → Int} : ∀ (A B : List Int) (q ah r e : Int), seg nx pv q ah (A ++ B) r e ↔ ∃ m am, seg nx pv q ah A m am ∧ seg nx pv m am B r e
  | [], B, q, ah, r, e => ⟨fun h => ⟨q, ah, ⟨rfl, rfl⟩, h⟩, fun ⟨_, _, h1, h⟩ => by obtain ⟨rfl, rfl⟩ := h1; exact h⟩
  | x :: A, B, q, ah, r, e => by
    simp only [List.cons_append, seg]
    rw [seg_app A B]
    constructor
    · rintro ⟨h1, h2, m, am, h3, h4⟩; exact ⟨m, am, ⟨h1, h2, h3⟩, h4⟩
    · rintro ⟨m, am, ⟨h1, h2, h3⟩, h4⟩; exact ⟨h1, h2, m, am, h3, h4⟩
theorem seg_congr {nx pv nx' pv' : Int → Int} : ∀ (l : List Int) (q ah r e : Int), (∀ x ∈ l, nx' x = nx x ∧ pv' x = pv x) → seg nx pv q ah l r e → seg nx' pv' q ah l r e
  | [], _, _, _, _, _, h => h
  | x :: l, q, ah, r, e, hc, h => by
    obtain ⟨h1, h2, h3⟩ := h
    obtain ⟨c1, c2⟩ := hc x (by simp)
    refine ⟨h1, by rw [c2]; exact h2, ?_⟩
    rw [c1]
    exact seg_congr l _ _ _ _ (fun y hy => hc y (by simp [hy])) h3
/-- what stands ahead behind A: its last page, or what stood ahead of it. -/
theorem seg_last {nx pv : Int → Int} : ∀ (A : List Int) (q ah m am : Int), seg nx pv q ah A m am → (A = [] ∧ m = q ∧ am = ah) ∨ ∃ A' z, A = A' ++ [z] ∧ am = z + 1 ∧ m = nx z
  | [], q, ah, m, am, h => Or.inl ⟨rfl, h.1, h.2⟩
  | x :: A, q, ah, m, am, h => by
    obtain ⟨h1, h2, h3⟩ := h
    rcases seg_last A _ _ _ _ h3 with ⟨e, h4, h5⟩ | ⟨A', z, e, h4, h5⟩
    · subst e; exact Or.inr ⟨[], x, rfl, h5, h4⟩
    · subst e; exact Or.inr ⟨x :: A', z, rfl, h4, h5⟩

/-- a list of a head: its first link leads through l, to 0. -/
def LsOK (p : Int) (hd : Int → Int) (nx pv : Int → Int) (h : Int) (l : List Int) : Prop :=
  (∃ e, seg nx pv (hd h) 0 l 0 e) ∧ l.Nodup ∧ ∀ x ∈ l, 0 ≤ x ∧ x < p

def pullHd (hd nx pv : Int → Int) (h q : Int) : Int → Int := if pv q = 0 then upI hd h (nx q) else hd
def pullNx (nx pv : Int → Int) (q : Int) : Int → Int := upI (if pv q = 0 then nx else upI nx (pv q - 1) (nx q)) q 0
def pullPv (nx pv : Int → Int) (q : Int) : Int → Int := upI (if nx q = 0 then pv else upI pv (nx q - 1) (pv q)) q 0

/-- where the links at a page of a list lead. -/
theorem at_page {p : Int} {hd nx pv : Int → Int} {h q : Int} {A B : List Int} (hl : LsOK p hd nx pv h (A ++ q :: B)) :
    ((A = [] ∧ pv q = 0 ∧ hd h = q + 1) ∨ ∃ A' z, A = A' ++ [z] ∧ pv q = z + 1 ∧ nx z = q + 1 ∧ 0 ≤ z ∧ z < p) ∧
    ((B = [] ∧ nx q = 0) ∨ ∃ y B', B = y :: B' ∧ nx q = y + 1 ∧ 0 ≤ y ∧ y < p) := by
  obtain ⟨⟨e, hs⟩, hn, hb⟩ := hl
  obtain ⟨m, am, h1, h2⟩ := (seg_app _ _ _ _ _ _).1 hs
  obtain ⟨h3, h4, h5⟩ := h2
  constructor
  · rcases seg_last _ _ _ _ _ h1 with ⟨e1, e2, e3⟩ | ⟨A', z, e1, e2, e3⟩
    · exact Or.inl ⟨e1, by omega, by omega⟩
    · subst e1
      have := hb z (by simp)
      exact Or.inr ⟨A', z, rfl, by omega, by omega, this⟩
  · cases B with
    | nil => exact Or.inl ⟨rfl, h5.1.symm⟩
    | cons y B' =>
      have := hb y (by simp)
      exact Or.inr ⟨y, B', rfl, h5.1, this⟩

theorem pull_law {p : Int} {hd nx pv : Int → Int} {h q : Int} {A B : List Int} (hl : LsOK p hd nx pv h (A ++ q :: B)) :
    LsOK p (pullHd hd nx pv h q) (pullNx nx pv q) (pullPv nx pv q) h (A ++ B) := by
  obtain ⟨⟨e, hs⟩, hn, hb⟩ := hl
  have hn2 : (A ++ B).Nodup := by
    simp only [List.nodup_append, List.nodup_cons, List.mem_cons] at hn ⊢
    exact ⟨hn.1, hn.2.1.2, fun a ha b hb => hn.2.2 a ha b (Or.inr hb)⟩
  refine ⟨?_, hn2, fun x hx => hb x (by simp only [List.mem_append, List.mem_cons] at hx ⊢; rcases hx with h | h <;> simp [h])⟩
  obtain ⟨m, am, h1, h3, h4, h5⟩ := (seg_app _ _ _ _ _ _).1 hs
  have hqA : q ∉ A := by
    simp only [List.nodup_append, List.mem_cons] at hn
    exact fun hq => hn.2.2 q hq q (Or.inl rfl) rfl
  have hqB : q ∉ B := by
    simp only [List.nodup_append, List.nodup_cons] at hn
    exact hn.2.1.1
  have hAB : ∀ a ∈ A, ∀ b ∈ B, a ≠ b := by
    simp only [List.nodup_append] at hn2
    exact hn2.2.2
  -- behind A stands n, with am ahead
  have key : seg (pullNx nx pv q) (pullPv nx pv q) (pullHd hd nx pv h q h) 0 A (nx q) am := by
    rcases seg_last _ _ _ _ _ h1 with ⟨e1, e2, e3⟩ | ⟨A', z, e1, e2, e3⟩
    · subst e1
      have hp0 : pv q = 0 := by omega
      simp [seg, pullHd, hp0, upI_same]
      omega
    · subst e1
      have hzq : z ≠ q := fun e => hqA (by simp [e])
      have hz := hb z (by simp)
      have hp0 : pv q ≠ 0 := by omega
      have hpz : pv q - 1 = z := by omega
      obtain ⟨m2, am2, g1, g2, g3, g4, g5⟩ := (seg_app _ _ _ _ _ _).1 h1
      have hzA : z ∉ A' := by
        have : (A' ++ [z]).Nodup := by simp only [List.nodup_append] at hn2 ⊢; exact hn2.1
        simp only [List.nodup_append, List.mem_singleton] at this
        exact fun hz => this.2.2 z hz z rfl rfl
      have hnp : ∀ x ∈ A' ++ [z], pullPv nx pv q x = pv x := by
        intro x hx
        have hxq : x ≠ q := fun e => hqA (e ▸ hx)
        unfold pullPv
        rw [upI_other _ hxq]
        split
        · rfl
        · refine upI_other _ fun e => ?_
          cases B with
          | nil => have := h5.1; omega
          | cons y B' => have := h5.1; exact hAB x hx y (by simp) (by omega)
      rw [show pullHd hd nx pv h q h = hd h by unfold pullHd; rw [if_neg hp0]]
      refine (seg_app _ _ _ _ _ _).2 ⟨m2, am2, seg_congr _ _ _ _ _ (fun x hx => ⟨?_, hnp x (by simp [hx])⟩) g1, g2, by rw [hnp z (by simp)]; exact g3, ?_, e2⟩
      · have hxq : x ≠ q := fun e => hqA (by simp [← e, hx])
        have hxz : x ≠ pv q - 1 := fun e => hzA (by rw [← hpz, ← e]; exact hx)
        unfold pullNx
        rw [upI_other _ hxq, if_neg hp0, upI_other _ hxz]
      · unfold pullNx
        rw [upI_other _ hzq, if_neg hp0, hpz, upI_same]
  -- B, with am ahead
  have hBn : ∀ x ∈ B, pullNx nx pv q x = nx x := by
    intro x hx
    have hxq : x ≠ q := fun e => hqB (e ▸ hx)
    unfold pullNx
    rw [upI_other _ hxq]
    split
    · rfl
    · refine upI_other _ fun e => ?_
      rcases seg_last _ _ _ _ _ h1 with ⟨e1, e2, e3⟩ | ⟨A', z, e1, e2, e3⟩
      · omega
      · exact hAB z (by rw [e1]; simp) x hx (by omega)
  have hpam : pv q = am := by omega
  cases B with
  | nil =>
    refine ⟨am, (seg_app _ _ _ _ _ _).2 ⟨nx q, am, key, ?_⟩⟩
    exact ⟨h5.1, rfl⟩
  | cons y B' =>
    obtain ⟨g1, g2, g3⟩ := h5
    have hy := hb y (by simp)
    have hyq : y ≠ q := fun e => hqB (by simp [e])
    have hyB : y ∉ B' := by
      simp only [List.nodup_append, List.nodup_cons] at hn2
      exact hn2.2.1.1
    refine ⟨e, (seg_app _ _ _ _ _ _).2 ⟨nx q, am, key, g1, ?_, ?_⟩⟩
    · unfold pullPv
      rw [upI_other _ hyq, if_neg (by omega), show nx q - 1 = y by omega, upI_same, hpam]
    · rw [hBn y (by simp)]
      refine seg_congr _ _ _ _ _ (fun x hx => ⟨hBn x (by simp [hx]), ?_⟩) g3
      have hxq : x ≠ q := fun e => hqB (by simp [← e, hx])
      unfold pullPv
      rw [upI_other _ hxq, if_neg (by omega), upI_other _ (fun e => hyB (by rw [show y = x by omega]; exact hx))]

/-- the list of another head, none of whose pages is in this one. -/
theorem pull_other {p : Int} {hd nx pv : Int → Int} {h h' q : Int} {A B l : List Int} (hl : LsOK p hd nx pv h (A ++ q :: B)) (hl' : LsOK p hd nx pv h' l) (hh : h' ≠ h) (hd' : ∀ x ∈ l, x ∉ A ++ q :: B) :
    LsOK p (pullHd hd nx pv h q) (pullNx nx pv q) (pullPv nx pv q) h' l := by
  obtain ⟨c1, c2⟩ := at_page hl
  obtain ⟨⟨e, hs⟩, hn, hb⟩ := hl'
  have e1 : pullHd hd nx pv h q h' = hd h' := by unfold pullHd; split; · exact upI_other _ hh
                                                 · rfl
  refine ⟨⟨e, ?_⟩, hn, hb⟩
  rw [e1]
  refine seg_congr _ _ _ _ _ (fun x hx => ?_) hs
  have hx2 := hd' x hx
  have hxq : x ≠ q := fun e => hx2 (by simp [e])
  constructor
  · unfold pullNx
    rw [upI_other _ hxq]
    split
    · rfl
    · rename_i h0
      refine upI_other _ fun e => hx2 ?_
      rcases c1 with ⟨_, h3, _⟩ | ⟨A', z, h3, h4, _⟩
      · exact absurd h3 h0
      · rw [h3, show x = z by omega]; simp
  · unfold pullPv
    rw [upI_other _ hxq]
    split
    · rfl
    · rename_i h0
      refine upI_other _ fun e => hx2 ?_
      rcases c2 with ⟨_, h3⟩ | ⟨y, B', h3, h4, _⟩
      · exact absurd h3 h0
      · rw [h3, show x = y by omega]; simp

def pushNx (hd nx : Int → Int) (h q : Int) : Int → Int := upI nx q (hd h)
def pushPv (hd pv : Int → Int) (h q : Int) : Int → Int := if hd h = 0 then upI pv q 0 else upI (upI pv q 0) (hd h - 1) (q + 1)
theorem push_law {p : Int} {hd nx pv : Int → Int} {h q : Int} {l : List Int} (hl : LsOK p hd nx pv h l) (hq : q ∉ l) (h0 : 0 ≤ q) (h1 : q < p) :
    LsOK p (upI hd h (q + 1)) (pushNx hd nx h q) (pushPv hd pv h q) h (q :: l) := by
  obtain ⟨⟨e, hs⟩, hn, hb⟩ := hl
  refine ⟨?_, List.nodup_cons.2 ⟨hq, hn⟩, fun x hx => ?_⟩
  · cases l with
    | nil =>
      have h2 : hd h = 0 := hs.1.symm
      refine ⟨q + 1, by simp [upI_same], ?_, ?_, rfl⟩
      · simp [pushPv, h2, upI_same]
      · simp [pushNx, upI_same, h2]
    | cons y l =>
      obtain ⟨g1, g2, g3⟩ := hs
      have hy := hb y (by simp)
      have hyq : y ≠ q := fun e => hq (by simp [e])
      have hyl : y ∉ l := (List.nodup_cons.1 hn).1
      refine ⟨e, by simp [upI_same], ?_, ?_⟩
      · unfold pushPv
        rw [if_neg (by omega), upI_other _ (by omega), upI_same]
      · refine ⟨by simp [pushNx, upI_same]; omega, ?_, ?_⟩
        · unfold pushPv
          rw [if_neg (by omega), show hd h - 1 = y by omega, upI_same]
        · have e1 : pushNx hd nx h q y = nx y := upI_other _ hyq
          rw [e1]
          refine seg_congr _ _ _ _ _ (fun x hx => ?_) g3
          have hxq : x ≠ q := fun e => hq (by simp [← e, hx])
          refine ⟨upI_other _ hxq, ?_⟩
          unfold pushPv
          rw [if_neg (by omega), upI_other _ (fun e => hyl (by rw [show y = x by omega]; exact hx)), upI_other _ hxq]
  · simp at hx
    rcases hx with rfl | hx
    · exact ⟨h0, h1⟩
    · exact hb x hx

end Go.Proofs.YtpmoajhpgekhcaaGreat
/- lists of pages in a view's values: what Pull, Push and Walk make of them. -/
set_option linter.unusedSimpArgs false
set_option linter.unusedVariables false
namespace Go.Proofs.YtpmoajhpgekhcaaGreat
open Go.RowKit

def wl (l : List (Nat × Int)) (i : Nat) : Option Int := (wix l i).bind fun j => l[j]?.map (·.2)
theorem wl_cons (x : Nat × Int) (l : List (Nat × Int)) (i : Nat) : wl (x :: l) i = if x.1 = i then some x.2 else wl l i := by
  unfold wl
  by_cases h : x.1 = i
  · simp [wix, h]
  · simp only [wix, h, if_false]
    cases wix l i <;> simp
theorem setW_cons (x : Nat × Int) (l : List (Nat × Int)) (i : Nat) (v : Int) : VS.setW (x :: l) i v = if x.1 = i then (i, v) :: l else x :: VS.setW l i v := by
  unfold VS.setW
  by_cases h : x.1 = i
  · simp [wix, h]
  · simp only [wix, h, if_false]
    cases wix l i <;> simp
theorem wlk_setW (i : Nat) (v : Int) (j : Nat) : ∀ l : List (Nat × Int), wl (VS.setW l i v) j = if j = i then some v else wl l j
  | [] => by
    have : VS.setW [] i v = [(i, v)] := rfl
    rw [this, wl_cons]
    by_cases h : j = i
    · simp [h]
    · rw [if_neg (fun e => h e.symm), if_neg h]
  | x :: l => by
    rw [setW_cons]
    by_cases h : x.1 = i
    · rw [if_pos h, wl_cons, wl_cons]
      by_cases h2 : j = i
      · simp [h2]
      · rw [if_neg (fun e => h2 e.symm), if_neg h2, if_neg (fun e => h2 (by rw [← e, h]))]
    · rw [if_neg h, wl_cons, wl_cons, wlk_setW i v j l]
      by_cases h2 : j = i
      · subst h2; simp [h]
      · by_cases h3 : x.1 = j
        · simp [h3, h2]
        · simp [h3, h2]

/-- the value of a cell, in a view. -/
def vat (s : VS) (i : Nat) : Option Int := match wl s.writes i with | some v => some v | none => s.known i
theorem vat_get {s : VS} {i : Int} {v : Int} (h0 : 0 ≤ i) (h1 : i < s.n) (hm : s.miss = none) (hv : vat s i.toNat = some v) :
    (s.get i).1 = v ∧ (∀ j, vat (s.get i).2 j = vat s j) ∧ (s.get i).2.n = s.n ∧ (s.get i).2.miss = none := by
  have ht : s.there i = true := VS.there_iff.2 ⟨h0, h1, hm⟩
  unfold VS.get
  rw [if_pos ht]
  have hw : s.wr i.toNat = wl s.writes i.toNat := rfl
  rw [hw]
  unfold vat at hv
  cases hx : wl s.writes i.toNat with
  | some u => rw [hx] at hv; simp at hv; subst hv; exact ⟨rfl, fun _ => rfl, rfl, hm⟩
  | none =>
    rw [hx] at hv
    simp only at hv
    simp only [hv]
    refine ⟨trivial, fun j => ?_, ?_, ?_⟩
    all_goals
      unfold VS.read1
      split
      · first | rfl | exact hm
      · first | rfl | exact hm
theorem vat_put {s : VS} {i : Int} (v : Int) (h0 : 0 ≤ i) (h1 : i < s.n) (hm : s.miss = none) :
    (∀ j, vat (s.put i v) j = if j = i.toNat then some v else vat s j) ∧ (s.put i v).n = s.n ∧ (s.put i v).miss = none := by
  have ht : s.there i = true := VS.there_iff.2 ⟨h0, h1, hm⟩
  unfold VS.put
  rw [if_pos ht]
  refine ⟨fun j => ?_, rfl, hm⟩
  unfold vat
  simp only [wlk_setW]
  by_cases h : j = i.toNat
  · simp [h]
  · simp [h]

/-- a heap's lists in a view. -/
structure HV (t p s : Int) (hd nx pv : Int → Int) (st : VS) : Prop where
  right : rightB t p s = true
  num : (st.n : Int) = 30 + 4 * t + 6 * p
  miss : st.miss = none
  hd : ∀ h, 2 ≤ h → h ≤ 21 → vat st h.toNat = some (hd h)
  nx : ∀ q, 0 ≤ q → q < p → vat st (30 + 4 * t + 6 * q + 2).toNat = some (nx q)
  pv : ∀ q, 0 ≤ q → q < p → vat st (30 + 4 * t + 6 * q + 3).toNat = some (pv q)

section
variable {t p s : Int} {hd nx pv : Int → Int} {st : VS}
theorem HV.of (h : HV t p s hd nx pv st) {q part : Int} (h0 : 0 ≤ q) (h1 : q < p) : ofF t p s q part = 30 + 4 * t + 6 * q + part := by
  simp [ofF, h.right, h0, h1]
theorem HV.tk (h : HV t p s hd nx pv st) {i v : Int} (h0 : 0 ≤ i) (h1 : i < st.n) (hv : vat st i.toNat = some v) : (st.get i).1 = v ∧ HV t p s hd nx pv (st.get i).2 := by
  obtain ⟨e1, e2, e3, e4⟩ := vat_get h0 h1 h.miss hv
  exact ⟨e1, h.right, by rw [e3]; exact h.num, e4, fun a b c => by rw [e2]; exact h.hd a b c, fun a b c => by rw [e2]; exact h.nx a b c, fun a b c => by rw [e2]; exact h.pv a b c⟩
theorem HV.get_hd (h : HV t p s hd nx pv st) {a : Int} (h2 : 2 ≤ a) (h21 : a ≤ 21) : (st.get a).1 = hd a ∧ HV t p s hd nx pv (st.get a).2 := by
  have := h.num
  have := right_bd h.right
  exact h.tk (by omega) (by omega) (h.hd a h2 h21)
theorem HV.get_nx (h : HV t p s hd nx pv st) {q : Int} (h0 : 0 ≤ q) (h1 : q < p) : (st.get (ofF t p s q 2)).1 = nx q ∧ HV t p s hd nx pv (st.get (ofF t p s q 2)).2 := by
  have := h.num
  have := right_bd h.right
  rw [h.of h0 h1]
  exact h.tk (by omega) (by omega) (h.nx q h0 h1)
theorem HV.get_pv (h : HV t p s hd nx pv st) {q : Int} (h0 : 0 ≤ q) (h1 : q < p) : (st.get (ofF t p s q 3)).1 = pv q ∧ HV t p s hd nx pv (st.get (ofF t p s q 3)).2 := by
  have := h.num
  have := right_bd h.right
  rw [h.of h0 h1]
  exact h.tk (by omega) (by omega) (h.pv q h0 h1)
theorem HV.put_hd (h : HV t p s hd nx pv st) {a : Int} (v : Int) (h2 : 2 ≤ a) (h21 : a ≤ 21) : HV t p s (upI hd a v) nx pv (st.put a v) := by
  have hn := h.num
  have hr := right_bd h.right
  obtain ⟨e1, e2, e3⟩ := vat_put (s := st) (i := a) v (by omega) (by omega) h.miss
  refine ⟨h.right, by rw [e2]; exact hn, e3, fun b c d => ?_, fun b c d => ?_, fun b c d => ?_⟩
  · rw [e1]
    by_cases e : b = a
    · subst e; rw [if_pos rfl, upI_same]
    · rw [if_neg (by omega), upI_other _ e]; exact h.hd b c d
  · rw [e1, if_neg (by omega)]; exact h.nx b c d
  · rw [e1, if_neg (by omega)]; exact h.pv b c d
theorem HV.put_nx (h : HV t p s hd nx pv st) {q : Int} (v : Int) (h0 : 0 ≤ q) (h1 : q < p) : HV t p s hd (upI nx q v) pv (st.put (ofF t p s q 2) v) := by
  have hn := h.num
  have hr := right_bd h.right
  rw [h.of h0 h1]
  obtain ⟨e1, e2, e3⟩ := vat_put (s := st) (i := 30 + 4 * t + 6 * q + 2) v (by omega) (by omega) h.miss
  refine ⟨h.right, by rw [e2]; exact hn, e3, fun b c d => ?_, fun b c d => ?_, fun b c d => ?_⟩
  · rw [e1, if_neg (by omega)]; exact h.hd b c d
  · rw [e1]
    by_cases e : b = q
    · subst e; rw [if_pos rfl, upI_same]
    · rw [if_neg (by omega), upI_other _ e]; exact h.nx b c d
  · rw [e1, if_neg (by omega)]; exact h.pv b c d
theorem HV.put_pv (h : HV t p s hd nx pv st) {q : Int} (v : Int) (h0 : 0 ≤ q) (h1 : q < p) : HV t p s hd nx (upI pv q v) (st.put (ofF t p s q 3) v) := by
  have hn := h.num
  have hr := right_bd h.right
  rw [h.of h0 h1]
  obtain ⟨e1, e2, e3⟩ := vat_put (s := st) (i := 30 + 4 * t + 6 * q + 3) v (by omega) (by omega) h.miss
  refine ⟨h.right, by rw [e2]; exact hn, e3, fun b c d => ?_, fun b c d => ?_, fun b c d => ?_⟩
  · rw [e1, if_neg (by omega)]; exact h.hd b c d
  · rw [e1, if_neg (by omega)]; exact h.nx b c d
  · rw [e1]
    by_cases e : b = q
    · subst e; rw [if_pos rfl, upI_same]
    · rw [if_neg (by omega), upI_other _ e]; exact h.pv b c d

theorem pageB_t {q : Int} (h0 : 0 ≤ q) (h1 : q < p) : pageB p q = true := by simp [pageB, h0, h1]

theorem HV.pull (h : HV t p s hd nx pv st) {a q : Int} {A B : List Int} (h2 : 2 ≤ a) (h21 : a ≤ 21) (hl : LsOK p hd nx pv a (A ++ q :: B)) :
    HV t p s (pullHd hd nx pv a q) (pullNx nx pv q) (pullPv nx pv q) (pullF t p s a q st) := by
  obtain ⟨c1, c2⟩ := at_page hl
  have hq := hl.2.2 q (by simp)
  unfold pullF
  rw [if_pos (pageB_t hq.1 hq.2)]
  obtain ⟨g1, g2⟩ := h.get_nx hq.1 hq.2
  obtain ⟨f1, f2⟩ := g2.get_pv hq.1 hq.2
  simp only [g1, f1]
  unfold pullHd pullNx pullPv
  by_cases hb : pv q = 0
  · have k1 := f2.put_hd (nx q) h2 h21
    by_cases hn : nx q = 0
    · simp only [hb, hn, if_true] at k1 ⊢
      exact (k1.put_nx 0 hq.1 hq.2).put_pv 0 hq.1 hq.2
    · have hy : 0 ≤ nx q - 1 ∧ nx q - 1 < p := by
        rcases c2 with ⟨_, h3⟩ | ⟨y, B', h3, h4, h5⟩
        · exact absurd h3 hn
        · omega
      simp only [hb, hn, if_true, if_false] at k1 ⊢
      exact ((k1.put_pv 0 hy.1 hy.2).put_nx 0 hq.1 hq.2).put_pv 0 hq.1 hq.2
  · have hz : 0 ≤ pv q - 1 ∧ pv q - 1 < p := by
      rcases c1 with ⟨_, h3, _⟩ | ⟨A', z, h3, h4, h5, h6⟩
      · exact absurd h3 hb
      · omega
    have k1 := f2.put_nx (nx q) hz.1 hz.2
    by_cases hn : nx q = 0
    · simp only [hb, hn, if_true, if_false] at k1 ⊢
      exact (k1.put_nx 0 hq.1 hq.2).put_pv 0 hq.1 hq.2
    · have hy : 0 ≤ nx q - 1 ∧ nx q - 1 < p := by
        rcases c2 with ⟨_, h3⟩ | ⟨y, B', h3, h4, h5⟩
        · exact absurd h3 hn
        · omega
      simp only [hb, hn, if_false] at k1 ⊢
      exact ((k1.put_pv (pv q) hy.1 hy.2).put_nx 0 hq.1 hq.2).put_pv 0 hq.1 hq.2

theorem HV.push (h : HV t p s hd nx pv st) {a q : Int} {l : List Int} (h2 : 2 ≤ a) (h21 : a ≤ 21) (hl : LsOK p hd nx pv a l) (h0 : 0 ≤ q) (h1 : q < p) :
    HV t p s (upI hd a (q + 1)) (pushNx hd nx a q) (pushPv hd pv a q) (pushF t p s a q st) := by
  unfold pushF
  rw [if_pos (pageB_t h0 h1)]
  obtain ⟨g1, g2⟩ := h.get_hd h2 h21
  simp only [g1]
  have k2 := (g2.put_nx (hd a) h0 h1).put_pv 0 h0 h1
  unfold pushNx pushPv
  by_cases hz : hd a = 0
  · simp only [hz, if_true] at k2 ⊢
    exact k2.put_hd (q + 1) h2 h21
  · have hy : 0 ≤ hd a - 1 ∧ hd a - 1 < p := by
      obtain ⟨⟨e, hs⟩, -, hb⟩ := hl
      cases l with
      | nil => exact absurd hs.1.symm hz
      | cons y l => have := hb y (by simp); have := hs.1; omega
    simp only [hz, if_false]
    exact (k2.put_pv (q + 1) hy.1 hy.2).put_hd (q + 1) h2 h21

end
end Go.Proofs.YtpmoajhpgekhcaaGreat
/- what the document's audit tells of the lists of a heap. -/
set_option linter.unusedSimpArgs false
set_option linter.unusedVariables false
namespace Go.Proofs.YtpmoajhpgekhcaaGreat
open Go.RowKit

theorem listL_seg {vs : List Int} {t p : Int} (hu : ∀ v ∈ vs, VS.U32 v) : ∀ (f : Nat) (q ah : Int) (out : List Int), 0 ≤ q → (listL vs t p f q ah out).2 = true →
    ∃ l e, (listL vs t p f q ah out).1 = out ++ l ∧ seg (fun x => gv vs t x 2) (fun x => gv vs t x 3) q ah l 0 e ∧ ∀ x ∈ l, 0 ≤ x ∧ x < p := by
  intro f
  induction f with
  | zero => intro q ah out _ h; simp [listL] at h
  | succ f ih =>
    intro q ah out hq h
    unfold listL at h ⊢
    by_cases h0 : q = 0
    · subst h0
      rw [if_pos rfl] at h ⊢
      exact ⟨[], ah, by simp, ⟨rfl, rfl⟩, by simp⟩
    · rw [if_neg h0] at h ⊢
      by_cases h1 : p < q ∨ p ≤ out.length
      · rw [if_pos h1] at h; simp at h
      · rw [if_neg h1] at h ⊢
        by_cases h2 : gv vs t (q - 1) 3 ≠ ah
        · rw [if_pos h2] at h; simp at h
        · rw [if_neg h2] at h ⊢
          obtain ⟨l, e, e1, e2, e3⟩ := ih (gv vs t (q - 1) 2) q (out ++ [q - 1]) (getD_u32 hu _).1 h
          refine ⟨(q - 1) :: l, e, by rw [e1]; simp, ⟨by omega, by simpa using h2, ?_⟩, ?_⟩
          · show seg _ _ (gv vs t (q - 1) 2) (q - 1 + 1) l 0 e
            rw [show q - 1 + 1 = q by omega]; exact e2
          · intro x hx
            simp at hx
            rcases hx with rfl | hx
            · omega
            · exact e3 x hx

/-- whose list a page must be in. -/
def ownB (vs : List Int) (t : Int) (a q : Nat) : Bool := if a < 13 then binnedB (gv vs t (q : Int) 0) ((a - 2 : Nat) : Int) else rackedB (gv vs t (q : Int) 0) (gv vs t (q : Int) 5) ((a - 13 : Nat) : Int)
theorem chk_parts {vs : List Int} {t p s : Int} (h : (chkF vs t p s).2 = true) : binsF vs t p = true ∧ racksF vs t p = true := by
  unfold chkF at h
  cases h1 : tilesF vs t p <;> simp [h1] at h
  cases h2 : feetF vs t p <;> simp [h2] at h
  cases h3 : apartF vs t p <;> simp [h3] at h
  cases h4 : slotsAll vs t p <;> simp [h4] at h
  cases h5 : binsF vs t p <;> simp [h5] at h
  cases h6 : racksF vs t p <;> simp [h6] at h
  exact ⟨rfl, rfl⟩

theorem sound_list {vs : List Int} {t p s : Int} (h : (chkF vs t p s).2 = true) (a : Nat) (h2 : 2 ≤ a) (h21 : a ≤ 21) :
    (listF vs t p a).2 = true ∧ ∀ q : Nat, q < p.toNat → (((listF vs t p a).1.count (q : Int) : Nat) : Int) = wantI (ownB vs t a q) := by
  obtain ⟨hb, hr⟩ := chk_parts h
  by_cases ha : a < 13
  · have := allN_iff.1 hb (a - 2) (by omega)
    unfold binsB at this
    rw [show 2 + (a - 2) = a by omega] at this
    simp only [Bool.and_eq_true] at this
    refine ⟨this.1, fun q hq => ?_⟩
    have h3 := allN_iff.1 this.2 q hq
    unfold binsInB at h3
    unfold ownB
    rw [if_pos ha]
    simpa using h3
  · have := allN_iff.1 hr (a - 13) (by omega)
    unfold racksB at this
    rw [show 13 + (a - 13) = a by omega] at this
    simp only [Bool.and_eq_true] at this
    refine ⟨this.1, fun q hq => ?_⟩
    have h3 := allN_iff.1 this.2 q hq
    unfold racksInB at h3
    unfold ownB
    rw [if_neg ha]
    simpa using h3

theorem sound_ok {vs : List Int} {t p s : Int} (hu : ∀ v ∈ vs, VS.U32 v) (hp : 0 ≤ p) (h : (chkF vs t p s).2 = true) (a : Nat) (h2 : 2 ≤ a) (h21 : a ≤ 21) :
    LsOK p (fun x => vs.getD x.toNat 0) (fun x => gv vs t x 2) (fun x => gv vs t x 3) (a : Int) (listF vs t p a).1 := by
  obtain ⟨h3, h4⟩ := sound_list h a h2 h21
  obtain ⟨l, e, e1, e2, e3⟩ := listL_seg hu _ _ _ _ (getD_u32 hu a).1 h3
  have e4 : (listF vs t p a).1 = l := by unfold listF; rw [e1]; rfl
  refine ⟨⟨e, by rw [e4]; exact e2⟩, ?_, by rw [e4]; exact e3⟩
  rw [List.nodup_iff_count]
  intro x
  by_cases hx : x ∈ l
  · obtain ⟨b1, b2⟩ := e3 x hx
    have h5 := h4 x.toNat (by omega)
    rw [show ((x.toNat : Nat) : Int) = x by omega] at h5
    have h6 : wantI (ownB vs t a x.toNat) ≤ 1 := by unfold wantI; split <;> omega
    omega
  · rw [e4, List.count_eq_zero_of_not_mem hx]; omega

end Go.Proofs.YtpmoajhpgekhcaaGreat
/- how a heap's spans tile its pages, as plain data. -/
set_option linter.unusedSimpArgs false
set_option linter.unusedVariables false
namespace Go.Proofs.YtpmoajhpgekhcaaGreat
open Go.RowKit

/-- the spans that begin at the pages of the list fill what lies from a page on. -/
def Tile (g : Int → Int) (p : Int) : Int → List Int → Prop
  | a, [] => a = p
  | a, x :: r => x = a ∧ a < p ∧ iK (g a) ≠ 0 ∧ Tile g p (a + iL (g a)) r

theorem kind_no {v : Int} : (okI v = false ∨ iK v = 0) ↔ iK v = 0 := by
  have h := inf_bd v
  exact ⟨fun x => x.elim (fun y => h.2.2.2.2.2.2.2 y) id, Or.inr⟩

theorem tile_starts {g : Int → Int} {p : Int} : ∀ (l : List Int) (f : Nat) (a : Int) (out : List Int), 0 ≤ a → p - a < f → Tile g p a l → startsL g p f a out = (out ++ l, true)
  | [], f, a, out, h0, hf, h => by
    have e : a = p := h
    subst e
    cases f with
    | zero => simp [startsL]
    | succ f => simp [startsL]
  | x :: r, f, a, out, h0, hf, h => by
    obtain ⟨rfl, h1, h2, h3⟩ := h
    have hb := inf_bd (g x)
    have hl := hb.2.2.2.2.2.2.1 h2
    cases f with
    | zero => omega
    | succ f =>
      unfold startsL
      rw [if_pos h1, if_neg (fun e => h2 (kind_no.1 e)), tile_starts r f (x + iL (g x)) (out ++ [x]) (by omega) (by omega) h3]
      simp

theorem starts_tile {g : Int → Int} {p : Int} : ∀ (f : Nat) (a : Int) (out : List Int), (startsL g p f a out).2 = true → ∃ l, startsL g p f a out = (out ++ l, true) ∧ Tile g p a l
  | 0, a, out, h => by
    have e : a = p := by simpa [startsL] using h
    subst e
    exact ⟨[], by simp [startsL], rfl⟩
  | f + 1, a, out, h => by
    unfold startsL at h ⊢
    by_cases h1 : a < p
    · rw [if_pos h1] at h ⊢
      by_cases h2 : iK (g a) = 0
      · rw [if_pos (kind_no.2 h2)] at h; cases h
      · rw [if_neg (fun e => h2 (kind_no.1 e))] at h ⊢
        obtain ⟨l, e, ht⟩ := starts_tile f (a + iL (g a)) (out ++ [a]) h
        exact ⟨a :: l, by rw [e]; simp, rfl, h1, h2, ht⟩
    · rw [if_neg h1] at h ⊢
      have e : a = p := by simpa using h
      subst e
      exact ⟨[], by simp, rfl⟩
theorem startsF_tile {g : Int → Int} {p : Int} (hp : 0 ≤ p) {l : List Int} : startsF g p = (l, true) ↔ Tile g p 0 l := by
  unfold startsF
  constructor
  · intro h
    obtain ⟨l', e, ht⟩ := starts_tile (p.toNat + 1) 0 [] (by rw [h])
    rw [h] at e
    obtain rfl : l = l' := by simpa using e
    exact ht
  · intro h
    simpa using tile_starts l (p.toNat + 1) 0 [] (by omega) (by omega) h

/-- the pages of the list grow, and lie in what is filled. -/
theorem Tile.ge {g : Int → Int} {p : Int} : ∀ {l : List Int} {a : Int}, Tile g p a l → ∀ x ∈ l, a ≤ x ∧ x < p
  | [], _, _, x, hx => by cases hx
  | y :: r, a, h, x, hx => by
    obtain ⟨rfl, h1, h2, h3⟩ := h
    have hb := (inf_bd (g y)).2.2.2.2.2.2.1 h2
    rcases List.mem_cons.1 hx with rfl | hx
    · exact ⟨Int.le_refl _, h1⟩
    · have := h3.ge x hx; omega
theorem Tile.le {g : Int → Int} {p : Int} : ∀ {l : List Int} {a : Int}, Tile g p a l → a ≤ p
  | [], _, h => by have e : _ = p := h; omega
  | y :: r, a, h => by obtain ⟨rfl, h1, -, -⟩ := h; omega
theorem Tile.congr {g g' : Int → Int} {p : Int} : ∀ {l : List Int} {a : Int}, Tile g p a l → (∀ x ∈ l, g' x = g x) → Tile g' p a l
  | [], _, h, _ => h
  | y :: r, a, h, hg => by
    obtain ⟨rfl, h1, h2, h3⟩ := h
    have e := hg y (by simp)
    exact ⟨rfl, h1, by rw [e]; exact h2, by rw [e]; exact h3.congr (fun x hx => hg x (by simp [hx]))⟩
theorem Tile.app {g : Int → Int} {p : Int} : ∀ {A B : List Int} {a : Int}, Tile g p a (A ++ B) ↔ ∃ m, Tile g m a A ∧ Tile g p m B ∧ m ≤ p
  | [], B, a => by
    constructor
    · intro h; exact ⟨a, rfl, h, h.le⟩
    · rintro ⟨m, h1, h2, -⟩
      have e : a = m := h1
      subst e; exact h2
  | y :: A, B, a => by
    constructor
    · rintro ⟨rfl, h1, h2, h3⟩
      obtain ⟨m, h4, h5, h6⟩ := Tile.app.1 h3
      have hb := (inf_bd (g y)).2.2.2.2.2.2.1 h2
      have := h4.le
      exact ⟨m, ⟨rfl, by omega, h2, h4⟩, h5, h6⟩
    · rintro ⟨m, ⟨rfl, h1, h2, h3⟩, h5, h6⟩
      exact ⟨rfl, by omega, h2, Tile.app.2 ⟨m, h3, h5, h6⟩⟩
end Go.Proofs.YtpmoajhpgekhcaaGreat
/- the rules of the audit on tiles and feet, page by page. -/
set_option linter.unusedSimpArgs false
set_option linter.unusedVariables false
namespace Go.Proofs.YtpmoajhpgekhcaaGreat
open Go.RowKit

theorem Tile.sorted {g : Int → Int} {p : Int} : ∀ {l : List Int} {a : Int}, Tile g p a l → l.Pairwise (· < ·)
  | [], _, _ => List.Pairwise.nil
  | y :: r, a, h => by
    obtain ⟨rfl, h1, h2, h3⟩ := h
    have hb := (inf_bd (g y)).2.2.2.2.2.2.1 h2
    exact List.Pairwise.cons (fun x hx => by have := h3.ge x hx; omega) h3.sorted
def below (l : List Int) (q : Int) : Nat := (l.filter (fun x => decide (x < q))).length
theorem sorted_at {q : Int} : ∀ {l : List Int}, l.Pairwise (· < ·) → (l[below l q]? = some q ↔ q ∈ l)
  | [], _ => by simp [below]
  | x :: r, h => by
    have h1 := (List.pairwise_cons.1 h).1
    have h2 := (List.pairwise_cons.1 h).2
    by_cases hx : x < q
    · have e : below (x :: r) q = below r q + 1 := by simp [below, hx]
      rw [e]
      have ih := sorted_at (q := q) h2
      have hne : q ≠ x := by omega
      simpa [hne] using ih
    · have e : below (x :: r) q = 0 := by
        simp only [below, List.length_eq_zero_iff, List.filter_eq_nil_iff]
        intro y hy
        rcases List.mem_cons.1 hy with rfl | hy
        · simpa using hx
        · have := h1 y hy; simp; omega
      rw [e]
      simp only [List.getElem?_cons_zero, Option.some.injEq, List.mem_cons]
      constructor
      · intro e; exact Or.inl e.symm
      · rintro (e | e)
        · exact e.symm
        · have := h1 q e; omega
theorem below_succ {l : List Int} (h : l.Pairwise (· < ·)) (q : Int) : below l (q + 1) = if q ∈ l then below l q + 1 else below l q := by
  induction l with
  | nil => simp [below]
  | cons x r ih =>
    have h1 := (List.pairwise_cons.1 h).1
    have ih := ih (List.pairwise_cons.1 h).2
    have e : ∀ z, below (x :: r) z = (if x < z then 1 else 0) + below r z := by
      intro z
      by_cases hx : x < z <;> simp [below, hx]; omega
    rw [e, e, ih]
    by_cases hq : q ∈ r
    · have := h1 q hq
      have hne : x < q + 1 := by omega
      simp only [hq, List.mem_cons, or_true, if_true, if_pos this, if_pos hne]
      omega
    · by_cases hx : x = q
      · subst hx
        rw [if_neg hq, if_pos (show x < x + 1 by omega), if_pos (show x ∈ x :: r by simp), if_neg (show ¬ x < x by omega)]; omega
      · have hxq : q ∉ x :: r := by simp [hq, Ne.symm hx]
        rw [if_neg hq, if_neg hxq]
        by_cases h3 : x < q
        · rw [if_pos h3, if_pos (by omega)]
        · rw [if_neg h3, if_neg (by omega)]
/-- tiles: a page at which no span begins holds 0. -/
theorem tilesN_iff {vs : List Int} {t : Int} {l : List Int} (h : l.Pairwise (· < ·)) (h0 : ∀ x ∈ l, 0 ≤ x) : ∀ (k : Nat), (∀ q : Nat, q < k → (q : Int) ∉ l → gv vs t q 0 = 0) → tilesN vs t l k = some (below l k)
  | 0, _ => by
    have e : below l ((0 : Nat) : Int) = 0 := by
      simp only [below, List.length_eq_zero_iff, List.filter_eq_nil_iff]
      intro y hy
      have := h0 y hy
      simp; omega
    rw [e]; rfl
  | k + 1, hk => by
    unfold tilesN
    rw [tilesN_iff h h0 k (fun q hq => hk q (by omega))]
    dsimp only
    have hs := below_succ h (k : Int)
    have hs' : below l ((k + 1 : Nat) : Int) = if (k : Int) ∈ l then below l k + 1 else below l k := by rw [← hs]; congr 1
    rw [hs']
    by_cases hm : (k : Int) ∈ l
    · rw [if_pos ((sorted_at h).2 hm), if_pos hm]
    · rw [if_neg (fun e => hm ((sorted_at h).1 e)), if_neg hm, if_pos (hk k (by omega) hm)]
theorem tilesN_some {vs : List Int} {t : Int} {l : List Int} (h : l.Pairwise (· < ·)) (h0 : ∀ x ∈ l, 0 ≤ x) : ∀ (k n : Nat), tilesN vs t l k = some n → n = below l k ∧ ∀ q : Nat, q < k → (q : Int) ∉ l → gv vs t q 0 = 0
  | 0, n, hn => by
    have e := tilesN_iff (vs := vs) (t := t) h h0 0 (fun q hq => absurd hq (by omega))
    rw [e] at hn
    exact ⟨(Option.some.inj hn).symm, fun q hq => absurd hq (by omega)⟩
  | k + 1, n, hn => by
    unfold tilesN at hn
    cases hk : tilesN vs t l k with
    | none => rw [hk] at hn; cases hn
    | some m =>
      rw [hk] at hn
      dsimp only at hn
      obtain ⟨rfl, hz⟩ := tilesN_some h h0 k m hk
      have hs := below_succ h (k : Int)
      have hs' : below l ((k + 1 : Nat) : Int) = if (k : Int) ∈ l then below l k + 1 else below l k := by rw [← hs]; congr 1
      rw [hs']
      by_cases hm : (k : Int) ∈ l
      · rw [if_pos ((sorted_at h).2 hm)] at hn
        rw [if_pos hm]
        exact ⟨(Option.some.inj hn).symm, fun q hq hql => by
          by_cases e : q = k
          · subst e; exact absurd hm hql
          · exact hz q (by omega) hql⟩
      · rw [if_neg (fun e => hm ((sorted_at h).1 e))] at hn
        rw [if_neg hm]
        by_cases hg : gv vs t (k : Int) 0 = 0
        · rw [if_pos hg] at hn
          exact ⟨(Option.some.inj hn).symm, fun q hq hql => by
            by_cases e : q = k
            · subst e; exact hg
            · exact hz q (by omega) hql⟩
        · rw [if_neg hg] at hn; cases hn
end Go.Proofs.YtpmoajhpgekhcaaGreat
/- the cells of a heap as a function; what Pull and Push make of it. -/
set_option linter.unusedSimpArgs false
set_option linter.unusedVariables false
namespace Go.Proofs.YtpmoajhpgekhcaaGreat
open Go.RowKit

def pl (t q k : Int) : Int := 30 + 4 * t + 6 * q + k
def cg (t : Int) (c : Int → Int) (k : Int) : Int → Int := fun x => c (pl t x k)

/-- a view whose cells hold c. -/
structure CV (t p s : Int) (c : Int → Int) (st : VS) : Prop where
  right : rightB t p s = true
  num : (st.n : Int) = 30 + 4 * t + 6 * p
  miss : st.miss = none
  at_ : ∀ i : Int, 0 ≤ i → i < st.n → vat st i.toNat = some (c i)

section
variable {t p s : Int} {c : Int → Int} {st : VS}
theorem CV.of (h : CV t p s c st) {q : Int} (k : Int) (h0 : 0 ≤ q) (h1 : q < p) : ofF t p s q k = pl t q k := by
  simp [ofF, h.right, h0, h1, pl]
theorem CV.get (h : CV t p s c st) {i : Int} (h0 : 0 ≤ i) (h1 : i < 30 + 4 * t + 6 * p) : (st.get i).1 = c i ∧ CV t p s c (st.get i).2 := by
  have hn := h.num
  obtain ⟨e1, e2, e3, e4⟩ := vat_get h0 (by omega) h.miss (h.at_ i h0 (by omega))
  exact ⟨e1, h.right, by rw [e3]; exact hn, e4, fun j a b => by rw [e2]; rw [e3] at b; exact h.at_ j a b⟩
theorem CV.put (h : CV t p s c st) {i : Int} (v : Int) (h0 : 0 ≤ i) (h1 : i < 30 + 4 * t + 6 * p) : CV t p s (upI c i v) (st.put i v) := by
  have hn := h.num
  obtain ⟨e1, e2, e3⟩ := vat_put (s := st) (i := i) v h0 (by omega) h.miss
  refine ⟨h.right, by rw [e2]; exact hn, e3, fun j a b => ?_⟩
  rw [e1]
  by_cases e : j = i
  · subst e; rw [if_pos rfl, upI_same]
  · rw [if_neg (by omega), upI_other _ e]; exact h.at_ j a (by rw [e2] at b; exact b)
theorem CV.pg (h : CV t p s c st) {q k : Int} (h0 : 0 ≤ q) (h1 : q < p) (k0 : 0 ≤ k) (k5 : k ≤ 5) : (st.get (ofF t p s q k)).1 = c (pl t q k) ∧ CV t p s c (st.get (ofF t p s q k)).2 := by
  have := right_bd h.right
  rw [h.of k h0 h1]
  exact h.get (by unfold pl; omega) (by unfold pl; omega)
theorem CV.pp (h : CV t p s c st) {q k : Int} (v : Int) (h0 : 0 ≤ q) (h1 : q < p) (k0 : 0 ≤ k) (k5 : k ≤ 5) : CV t p s (upI c (pl t q k) v) (st.put (ofF t p s q k) v) := by
  have := right_bd h.right
  rw [h.of k h0 h1]
  exact h.put v (by unfold pl; omega) (by unfold pl; omega)
end

def pullC (t a q : Int) (c : Int → Int) : Int → Int :=
  let c1 := if c (pl t q 3) = 0 then upI c a (c (pl t q 2)) else upI c (pl t (c (pl t q 3) - 1) 2) (c (pl t q 2))
  let c2 := if c (pl t q 2) = 0 then c1 else upI c1 (pl t (c (pl t q 2) - 1) 3) (c (pl t q 3))
  upI (upI c2 (pl t q 2) 0) (pl t q 3) 0
def pushC (t a q : Int) (c : Int → Int) : Int → Int :=
  let c2 := upI (upI c (pl t q 2) (c a)) (pl t q 3) 0
  upI (if c a = 0 then c2 else upI c2 (pl t (c a - 1) 3) (q + 1)) a (q + 1)

/-- the links at a page lead to pages. -/
def LkOK (t p : Int) (c : Int → Int) (q : Int) : Prop := 0 ≤ q ∧ q < p ∧ (c (pl t q 3) = 0 ∨ (1 ≤ c (pl t q 3) ∧ c (pl t q 3) ≤ p)) ∧ (c (pl t q 2) = 0 ∨ (1 ≤ c (pl t q 2) ∧ c (pl t q 2) ≤ p))
theorem LkOK.of {t p : Int} {c : Int → Int} {h q : Int} {l : List Int} (hl : LsOK p c (cg t c 2) (cg t c 3) h l) (hq : q ∈ l) : LkOK t p c q := by
  obtain ⟨A, B, rfl⟩ := List.append_of_mem hq
  obtain ⟨c1, c2⟩ := at_page hl
  have hb := hl.2.2 q hq
  refine ⟨hb.1, hb.2, ?_, ?_⟩
  · rcases c1 with ⟨_, h3, _⟩ | ⟨A', z, _, h4, _, h6⟩
    · exact Or.inl h3
    · exact Or.inr (by unfold cg at h4; omega)
  · rcases c2 with ⟨_, h3⟩ | ⟨y, B', _, h4, h5⟩
    · exact Or.inl h3
    · exact Or.inr (by unfold cg at h4; omega)
section
variable {t p s : Int} {c : Int → Int} {st : VS}
theorem CV.pull (h : CV t p s c st) {a q : Int} (h2 : 2 ≤ a) (h21 : a ≤ 21) (hk : LkOK t p c q) : CV t p s (pullC t a q c) (pullF t p s a q st) := by
  obtain ⟨h0, h1, k3, k2⟩ := hk
  have hr := right_bd h.right
  unfold pullF
  rw [if_pos (pageB_t h0 h1)]
  obtain ⟨g1, g2⟩ := h.pg (k := 2) h0 h1 (by omega) (by omega)
  obtain ⟨f1, f2⟩ := g2.pg (k := 3) h0 h1 (by omega) (by omega)
  simp only [g1, f1]
  unfold pullC
  have m1 : CV t p s (if c (pl t q 3) = 0 then upI c a (c (pl t q 2)) else upI c (pl t (c (pl t q 3) - 1) 2) (c (pl t q 2))) (if c (pl t q 3) = 0 then ((st.get (ofF t p s q 2)).2.get (ofF t p s q 3)).2.put a (c (pl t q 2)) else ((st.get (ofF t p s q 2)).2.get (ofF t p s q 3)).2.put (ofF t p s (c (pl t q 3) - 1) 2) (c (pl t q 2))) := by
    by_cases hb : c (pl t q 3) = 0
    · rw [if_pos hb, if_pos hb]; exact f2.put _ (by omega) (by omega)
    · rw [if_neg hb, if_neg hb]; exact f2.pp _ (by omega) (by omega) (by omega) (by omega)
  generalize (if c (pl t q 3) = 0 then ((st.get (ofF t p s q 2)).2.get (ofF t p s q 3)).2.put a (c (pl t q 2)) else ((st.get (ofF t p s q 2)).2.get (ofF t p s q 3)).2.put (ofF t p s (c (pl t q 3) - 1) 2) (c (pl t q 2))) = s1 at *
  generalize (if c (pl t q 3) = 0 then upI c a (c (pl t q 2)) else upI c (pl t (c (pl t q 3) - 1) 2) (c (pl t q 2))) = c1 at *
  have m2 : CV t p s (if c (pl t q 2) = 0 then c1 else upI c1 (pl t (c (pl t q 2) - 1) 3) (c (pl t q 3))) (if c (pl t q 2) = 0 then s1 else s1.put (ofF t p s (c (pl t q 2) - 1) 3) (c (pl t q 3))) := by
    by_cases hb : c (pl t q 2) = 0
    · rw [if_pos hb, if_pos hb]; exact m1
    · rw [if_neg hb, if_neg hb]; exact m1.pp _ (by omega) (by omega) (by omega) (by omega)
  exact (m2.pp 0 h0 h1 (by omega) (by omega)).pp 0 h0 h1 (by omega) (by omega)
theorem CV.push (h : CV t p s c st) {a q : Int} (h2 : 2 ≤ a) (h21 : a ≤ 21) (h0 : 0 ≤ q) (h1 : q < p) (hk : c a = 0 ∨ (1 ≤ c a ∧ c a ≤ p)) : CV t p s (pushC t a q c) (pushF t p s a q st) := by
  have hr := right_bd h.right
  unfold pushF
  rw [if_pos (pageB_t h0 h1)]
  obtain ⟨g1, g2⟩ := h.get (i := a) (by omega) (by omega)
  simp only [g1]
  unfold pushC
  (try dsimp only)
  have m1 := (g2.pp (k := 2) (c a) h0 h1 (by omega) (by omega)).pp (k := 3) 0 h0 h1 (by omega) (by omega)
  by_cases hb : c a = 0
  · rw [if_pos hb, if_pos hb]; exact m1.put _ (by omega) (by omega)
  · rw [if_neg hb, if_neg hb]; exact (m1.pp (k := 3) _ (by omega) (by omega) (by omega) (by omega)).put _ (by omega) (by omega)
end

/- which cells are written. -/
theorem pullC_out {t p a q i : Int} {c : Int → Int} (hk : LkOK t p c q) (h : i ≠ a) (h2 : ∀ x, 0 ≤ x → x < p → i ≠ pl t x 2 ∧ i ≠ pl t x 3) : pullC t a q c i = c i := by
  obtain ⟨h0, h1, k3, k2⟩ := hk
  have hq := h2 q h0 h1
  unfold pullC
  (try dsimp only)
  rw [upI_other _ hq.2, upI_other _ hq.1]
  have e1 : (if c (pl t q 3) = 0 then upI c a (c (pl t q 2)) else upI c (pl t (c (pl t q 3) - 1) 2) (c (pl t q 2))) i = c i := by
    split
    · exact upI_other _ h
    · exact upI_other _ (h2 _ (by omega) (by omega)).1
  split
  · exact e1
  · rw [upI_other _ (h2 _ (by omega) (by omega)).2]; exact e1
theorem pushC_out {t p a q i : Int} {c : Int → Int} (h0 : 0 ≤ q) (h1 : q < p) (hk : c a = 0 ∨ (1 ≤ c a ∧ c a ≤ p)) (h : i ≠ a) (h2 : ∀ x, 0 ≤ x → x < p → i ≠ pl t x 2 ∧ i ≠ pl t x 3) : pushC t a q c i = c i := by
  have hq := h2 q h0 h1
  unfold pushC
  (try dsimp only)
  rw [upI_other _ h]
  split
  · rw [upI_other _ hq.2, upI_other _ hq.1]
  · rw [upI_other _ (h2 _ (by omega) (by omega)).2, upI_other _ hq.2, upI_other _ hq.1]
theorem pl_ne {t x y j k : Int} (h : j ≠ k) (j0 : 0 ≤ j) (j5 : j ≤ 5) (k0 : 0 ≤ k) (k5 : k ≤ 5) : pl t x j ≠ pl t y k := by unfold pl; omega
theorem pl_low {t x k i : Int} (ht : 1 ≤ t) (hx : 0 ≤ x) (hk : 0 ≤ k) (hi : i < 30) : i ≠ pl t x k := by unfold pl; omega
theorem pl_inj {t x y k : Int} : pl t x k = pl t y k ↔ x = y := by unfold pl; omega
theorem pullC_pg {t p a q x k : Int} {c : Int → Int} (ht : 1 ≤ t) (h21 : a ≤ 21) (hk : LkOK t p c q) (hx : 0 ≤ x) (k0 : 0 ≤ k) (k5 : k ≤ 5) (hk2 : k ≠ 2) (hk3 : k ≠ 3) : pullC t a q c (pl t x k) = c (pl t x k) :=
  pullC_out hk (by unfold pl; omega) fun y _ _ => ⟨pl_ne hk2 k0 k5 (by omega) (by omega), pl_ne hk3 k0 k5 (by omega) (by omega)⟩
theorem pushC_pg {t p a q x k : Int} {c : Int → Int} (ht : 1 ≤ t) (h21 : a ≤ 21) (h0 : 0 ≤ q) (h1 : q < p) (hk : c a = 0 ∨ (1 ≤ c a ∧ c a ≤ p)) (hx : 0 ≤ x) (k0 : 0 ≤ k) (k5 : k ≤ 5) (hk2 : k ≠ 2) (hk3 : k ≠ 3) : pushC t a q c (pl t x k) = c (pl t x k) :=
  pushC_out h0 h1 hk (by unfold pl; omega) fun y _ _ => ⟨pl_ne hk2 k0 k5 (by omega) (by omega), pl_ne hk3 k0 k5 (by omega) (by omega)⟩
theorem pullC_lo {t p a q i : Int} {c : Int → Int} (ht : 1 ≤ t) (hk : LkOK t p c q) (hi : i < 30) (h : i ≠ a) : pullC t a q c i = c i :=
  pullC_out hk h fun y hy _ => ⟨pl_low ht hy (by omega) hi, pl_low ht hy (by omega) hi⟩
theorem pushC_lo {t p a q i : Int} {c : Int → Int} (ht : 1 ≤ t) (h0 : 0 ≤ q) (h1 : q < p) (hk : c a = 0 ∨ (1 ≤ c a ∧ c a ≤ p)) (hi : i < 30) (h : i ≠ a) : pushC t a q c i = c i :=
  pushC_out h0 h1 hk h fun y hy _ => ⟨pl_low ht hy (by omega) hi, pl_low ht hy (by omega) hi⟩
/- the links behind it. -/
theorem pullC_nx {t p a q x : Int} {c : Int → Int} (ht : 1 ≤ t) (h21 : a ≤ 21) (hk : LkOK t p c q) (hx : 0 ≤ x) : cg t (pullC t a q c) 2 x = pullNx (cg t c 2) (cg t c 3) q x := by
  obtain ⟨h0, h1, k3, k2⟩ := hk
  have n1 : ∀ y, pl t x 2 ≠ pl t y 3 := fun y => pl_ne (by omega) (by omega) (by omega) (by omega) (by omega)
  have n2 : pl t x 2 ≠ a := by unfold pl; omega
  show pullC t a q c (pl t x 2) = _
  unfold pullC pullNx
  (try dsimp only)
  rw [upI_other _ (n1 q)]
  by_cases e : x = q
  · subst e; rw [upI_same, upI_same]
  · rw [upI_other _ (fun h => e (pl_inj.1 h)), upI_other _ e]
    have e2 : (if c (pl t q 2) = 0 then (if c (pl t q 3) = 0 then upI c a (c (pl t q 2)) else upI c (pl t (c (pl t q 3) - 1) 2) (c (pl t q 2))) else upI (if c (pl t q 3) = 0 then upI c a (c (pl t q 2)) else upI c (pl t (c (pl t q 3) - 1) 2) (c (pl t q 2))) (pl t (c (pl t q 2) - 1) 3) (c (pl t q 3))) (pl t x 2) = (if c (pl t q 3) = 0 then upI c a (c (pl t q 2)) else upI c (pl t (c (pl t q 3) - 1) 2) (c (pl t q 2))) (pl t x 2) := by
      split
      · rfl
      · exact upI_other _ (n1 _)
    rw [e2]
    show _ = (if c (pl t q 3) = 0 then cg t c 2 else upI (cg t c 2) (c (pl t q 3) - 1) (c (pl t q 2))) x
    split
    · exact upI_other _ n2
    · by_cases e3 : x = c (pl t q 3) - 1
      · rw [e3, upI_same, upI_same]
      · rw [upI_other _ (fun h => e3 (pl_inj.1 h)), upI_other _ e3]; rfl
theorem pullC_pv {t p a q x : Int} {c : Int → Int} (ht : 1 ≤ t) (h21 : a ≤ 21) (hk : LkOK t p c q) (hx : 0 ≤ x) : cg t (pullC t a q c) 3 x = pullPv (cg t c 2) (cg t c 3) q x := by
  obtain ⟨h0, h1, k3, k2⟩ := hk
  have n1 : ∀ y, pl t x 3 ≠ pl t y 2 := fun y => pl_ne (by omega) (by omega) (by omega) (by omega) (by omega)
  have n2 : pl t x 3 ≠ a := by unfold pl; omega
  show pullC t a q c (pl t x 3) = _
  unfold pullC pullPv
  (try dsimp only)
  by_cases e : x = q
  · subst e; rw [upI_same, upI_same]
  · rw [upI_other _ (fun h => e (pl_inj.1 h)), upI_other _ (n1 q), upI_other _ e]
    have e2 : (if c (pl t q 3) = 0 then upI c a (c (pl t q 2)) else upI c (pl t (c (pl t q 3) - 1) 2) (c (pl t q 2))) (pl t x 3) = c (pl t x 3) := by
      split
      · exact upI_other _ n2
      · exact upI_other _ (n1 _)
    show _ = (if c (pl t q 2) = 0 then cg t c 3 else upI (cg t c 3) (c (pl t q 2) - 1) (c (pl t q 3))) x
    split
    · exact e2
    · by_cases e3 : x = c (pl t q 2) - 1
      · rw [e3, upI_same, upI_same]
      · rw [upI_other _ (fun h => e3 (pl_inj.1 h)), upI_other _ e3, e2]; rfl
theorem pullC_hd {t p a q h : Int} {c : Int → Int} (ht : 1 ≤ t) (hk : LkOK t p c q) (hh : h < 30) : pullC t a q c h = pullHd c (cg t c 2) (cg t c 3) a q h := by
  by_cases e : h = a
  · subst e
    obtain ⟨h0, h1, k3, k2⟩ := hk
    have n1 : ∀ y k, 0 ≤ y → 0 ≤ k → h ≠ pl t y k := fun y k hy hk => pl_low ht hy hk hh
    unfold pullC pullHd
    (try dsimp only)
    rw [upI_other _ (n1 _ _ h0 (by omega)), upI_other _ (n1 _ _ h0 (by omega))]
    have e2 : (if c (pl t q 3) = 0 then upI c h (c (pl t q 2)) else upI c (pl t (c (pl t q 3) - 1) 2) (c (pl t q 2))) h = (if cg t c 3 q = 0 then upI c h (cg t c 2 q) else c) h := by
      show _ = (if c (pl t q 3) = 0 then upI c h (c (pl t q 2)) else c) h
      split
      · rfl
      · exact upI_other _ (n1 _ _ (by omega) (by omega))
    rw [← e2]
    split
    · rfl
    · rw [upI_other _ (n1 _ _ (by omega) (by omega))]
  · rw [pullC_lo ht hk hh e]
    unfold pullHd
    split
    · rw [upI_other _ e]
    · rfl
theorem pushC_nx {t a q x : Int} {c : Int → Int} (ht : 1 ≤ t) (h21 : a ≤ 21) (hx : 0 ≤ x) : cg t (pushC t a q c) 2 x = pushNx c (cg t c 2) a q x := by
  have n1 : ∀ y, pl t x 2 ≠ pl t y 3 := fun y => pl_ne (by omega) (by omega) (by omega) (by omega) (by omega)
  have n2 : pl t x 2 ≠ a := by unfold pl; omega
  show pushC t a q c (pl t x 2) = _
  unfold pushC pushNx
  (try dsimp only)
  rw [upI_other _ n2]
  have e2 : ∀ y v, (upI (upI (upI c (pl t q 2) (c a)) (pl t q 3) 0) (pl t y 3) v) (pl t x 2) = upI (cg t c 2) q (c a) x := by
    intro y v
    rw [upI_other _ (n1 y), upI_other _ (n1 q)]
    by_cases e : x = q
    · subst e; rw [upI_same, upI_same]
    · rw [upI_other _ (fun h => e (pl_inj.1 h)), upI_other _ e]; rfl
  split
  · exact (upI_other 0 (n1 q)).symm.trans (e2 q 0)
  · exact e2 _ _
theorem pushC_pv {t a q x : Int} {c : Int → Int} (ht : 1 ≤ t) (h21 : a ≤ 21) (hx : 0 ≤ x) : cg t (pushC t a q c) 3 x = pushPv c (cg t c 3) a q x := by
  have n1 : ∀ y, pl t x 3 ≠ pl t y 2 := fun y => pl_ne (by omega) (by omega) (by omega) (by omega) (by omega)
  have n2 : pl t x 3 ≠ a := by unfold pl; omega
  show pushC t a q c (pl t x 3) = _
  unfold pushC pushPv
  (try dsimp only)
  rw [upI_other _ n2]
  have e2 : (upI (upI c (pl t q 2) (c a)) (pl t q 3) 0) (pl t x 3) = upI (cg t c 3) q 0 x := by
    by_cases e : x = q
    · subst e; rw [upI_same, upI_same]
    · rw [upI_other _ (fun h => e (pl_inj.1 h)), upI_other _ (n1 q), upI_other _ e]; rfl
  split
  · exact e2
  · by_cases e3 : x = c a - 1
    · rw [e3, upI_same, upI_same]
    · rw [upI_other _ (fun h => e3 (pl_inj.1 h)), upI_other _ e3, e2]
theorem pushC_hd {t p a q h : Int} {c : Int → Int} (ht : 1 ≤ t) (h0 : 0 ≤ q) (h1 : q < p) (hk : c a = 0 ∨ (1 ≤ c a ∧ c a ≤ p)) (hh : h < 30) : pushC t a q c h = upI c a (q + 1) h := by
  by_cases e : h = a
  · subst e; unfold pushC; rw [upI_same, upI_same]
  · rw [pushC_lo ht h0 h1 hk hh e, upI_other _ e]

theorem LsOK.congr {p : Int} {hd nx pv hd' nx' pv' : Int → Int} {h : Int} {l : List Int} (hl : LsOK p hd nx pv h l) (h1 : hd' h = hd h) (h2 : ∀ x, 0 ≤ x → x < p → nx' x = nx x ∧ pv' x = pv x) : LsOK p hd' nx' pv' h l := by
  obtain ⟨⟨e, hs⟩, hn, hb⟩ := hl
  refine ⟨⟨e, ?_⟩, hn, hb⟩
  rw [h1]
  exact seg_congr _ _ _ _ _ (fun x hx => h2 x (hb x hx).1 (hb x hx).2) hs
theorem LsOK.head {p : Int} {hd nx pv : Int → Int} {h : Int} {l : List Int} (hl : LsOK p hd nx pv h l) : hd h = 0 ∨ (1 ≤ hd h ∧ hd h ≤ p) := by
  obtain ⟨⟨e, hs⟩, -, hb⟩ := hl
  cases l with
  | nil => exact Or.inl hs.1.symm
  | cons y l => have := hb y (by simp); have := hs.1; exact Or.inr (by omega)
/-- the list of another head, behind a push of a page that is not in it. -/
theorem push_other {p : Int} {hd nx pv : Int → Int} {h h' q : Int} {l l' : List Int} (hl : LsOK p hd nx pv h l) (hl' : LsOK p hd nx pv h' l') (hh : h' ≠ h) (hd' : ∀ x ∈ l', x ∉ l) (hq : q ∉ l') :
    LsOK p (upI hd h (q + 1)) (pushNx hd nx h q) (pushPv hd pv h q) h' l' := by
  obtain ⟨⟨e, hs⟩, hn, hb⟩ := hl'
  refine ⟨⟨e, ?_⟩, hn, hb⟩
  rw [upI_other _ hh]
  refine seg_congr _ _ _ _ _ (fun x hx => ?_) hs
  have hxq : x ≠ q := fun e => hq (e ▸ hx)
  refine ⟨upI_other _ hxq, ?_⟩
  unfold pushPv
  split
  · exact upI_other _ hxq
  · rename_i h0
    have hxl : x ≠ hd h - 1 := fun e2 => hd' x hx (by
      obtain ⟨⟨e3, hs3⟩, -, -⟩ := hl
      cases l with
      | nil => exact absurd hs3.1.symm h0
      | cons y l => have := hs3.1; rw [show x = y by omega]; simp)
    rw [upI_other _ hxl, upI_other _ hxq]
end Go.Proofs.YtpmoajhpgekhcaaGreat
/- the rules of the audit, page by page and span by span. -/
set_option linter.unusedSimpArgs false
set_option linter.unusedVariables false
namespace Go.Proofs.YtpmoajhpgekhcaaGreat
open Go.RowKit

theorem Tile.gap {g : Int → Int} {p : Int} : ∀ {l : List Int} {a : Int}, Tile g p a l → ∀ y ∈ l, ∀ z ∈ l, y < z → y + iL (g y) ≤ z
  | [], _, _, y, hy, _, _, _ => by cases hy
  | x :: r, a, h, y, hy, z, hz, hlt => by
    obtain ⟨rfl, h1, h2, h3⟩ := h
    have hb := (inf_bd (g x)).2.2.2.2.2.2.1 h2
    rcases List.mem_cons.1 hy with h4 | h4
    · rcases List.mem_cons.1 hz with h5 | h5
      · omega
      · have := (h3.ge z h5).1; rw [h4]; exact this
    · rcases List.mem_cons.1 hz with h5 | h5
      · have := (h3.ge y h4).1; omega
      · exact h3.gap y h4 z h5 hlt
theorem Tile.end_le {g : Int → Int} {p : Int} : ∀ {l : List Int} {a : Int}, Tile g p a l → ∀ y ∈ l, y + iL (g y) ≤ p ∧ iK (g y) ≠ 0
  | [], _, _, y, hy => by cases hy
  | x :: r, a, h, y, hy => by
    obtain ⟨rfl, h1, h2, h3⟩ := h
    rcases List.mem_cons.1 hy with hy | hy
    · subst hy; exact ⟨h3.le, h2⟩
    · exact h3.end_le y hy
theorem Tile.len {g : Int → Int} {p a y : Int} {l : List Int} (h : Tile g p a l) (hy : y ∈ l) : 1 ≤ iL (g y) := ((inf_bd (g y)).2.2.2.2.2.2.1 (h.end_le y hy).2).2
theorem Tile.one {g : Int → Int} {p a q y z : Int} {l : List Int} (h : Tile g p a l) (hy : y ∈ l) (hz : z ∈ l) (h1 : y ≤ q) (h2 : q < y + iL (g y)) (h3 : z ≤ q) (h4 : q < z + iL (g z)) : y = z := by
  rcases (by omega : y = z ∨ y < z ∨ z < y) with e | e | e
  · exact e
  · have := h.gap y hy z hz e; omega
  · have := h.gap z hz y hy e; omega
theorem below_pos {l : List Int} {y q : Int} (hy : y ∈ l) (h : y < q) : 1 ≤ below l q := by
  unfold below
  exact List.length_pos_of_mem (List.mem_filter.2 ⟨hy, by simpa using h⟩)
/-- the span in which a page lies. -/
theorem Tile.at_ {g : Int → Int} {p q : Int} : ∀ {l : List Int} {a : Int}, Tile g p a l → a ≤ q → q < p → ∃ y, l[below l (q + 1) - 1]? = some y ∧ y ≤ q ∧ q < y + iL (g y)
  | [], a, h, h0, h1 => by have e : a = p := h; omega
  | x :: r, a, h, h0, h1 => by
    obtain ⟨rfl, h2, h3, h4⟩ := h
    have e : below (x :: r) (q + 1) = 1 + below r (q + 1) := by
      unfold below
      rw [List.filter_cons, if_pos (by simpa using (show x < q + 1 by omega)), List.length_cons]; omega
    by_cases hq : q < x + iL (g x)
    · have e2 : below r (q + 1) = 0 := by
        simp only [below, List.length_eq_zero_iff, List.filter_eq_nil_iff]
        intro y hy
        have := (h4.ge y hy).1
        simp; omega
      exact ⟨x, by rw [e, e2]; rfl, h0, hq⟩
    · obtain ⟨y, i1, i2, i3⟩ := h4.at_ (q := q) (by omega) h1
      have hp := below_pos (List.mem_of_getElem? i1) (show y < q + 1 by omega)
      refine ⟨y, ?_, i2, i3⟩
      rw [e, show 1 + below r (q + 1) - 1 = (below r (q + 1) - 1) + 1 by omega, List.getElem?_cons_succ]
      exact i1

section
variable {vs : List Int} {t : Int} {P : Nat} {l : List Int}
theorem feet_ptr (h : Tile (fun q => gv vs t q 0) P 0 l) (q : Nat) (hq : q < P) : advN l (below l q - 1) q = below l (q + 1) - 1 := by
  have hs := h.sorted
  have hs1 := below_succ hs q
  cases l with
  | nil => have e : (0 : Int) = P := h; omega
  | cons x r =>
    have hx : x = 0 := h.1
    subst hx
    by_cases h0 : q = 0
    · subst h0
      have b0 : below ((0 : Int) :: r) ((0 : Nat) : Int) = 0 := by
        simp only [below, List.length_eq_zero_iff, List.filter_eq_nil_iff]
        intro y hy
        have := (h.ge y hy).1
        simp; omega
      rw [b0] at hs1
      have hm : (((0 : Nat) : Int)) ∈ (0 : Int) :: r := by simp
      rw [if_pos hm] at hs1
      have hs1' : below ((0 : Int) :: r) (((0 : Nat) : Int) + 1) = 0 + 1 := hs1
      rw [hs1', b0]
      unfold advN
      rw [if_neg]
      intro e
      have h1 := (List.pairwise_cons.1 hs).1
      simp at e
      have := h1 0 (List.mem_of_getElem? e)
      omega
    · have hp := below_pos (l := (0 : Int) :: r) (y := 0) (q := q) (by simp) (by omega)
      unfold advN
      rw [show below ((0 : Int) :: r) q - 1 + 1 = below ((0 : Int) :: r) q by omega]
      have hsa := sorted_at (q := (q : Int)) hs
      have hs1' : below ((0 : Int) :: r) ((q : Int) + 1) = if (q : Int) ∈ (0 : Int) :: r then below ((0 : Int) :: r) q + 1 else below ((0 : Int) :: r) q := hs1
      rw [hs1']
      by_cases hm : (q : Int) ∈ (0 : Int) :: r
      · rw [if_pos (hsa.2 hm), if_pos hm]; omega
      · rw [if_neg (fun e => hm (hsa.1 e)), if_neg hm]
theorem feetN_iff (h : Tile (fun q => gv vs t q 0) P 0 l) : ∀ k : Nat, k ≤ P → ((feetN vs t l k).isSome = true ↔ ∀ q : Nat, q < k → gv vs t q 1 = wantF vs t l (below l (q + 1) - 1) q) ∧ ∀ m, feetN vs t l k = some m → m = below l k - 1
  | 0, _ => by
    refine ⟨⟨fun _ q hq => by omega, fun _ => rfl⟩, fun m hm => ?_⟩
    have b0 : below l ((0 : Nat) : Int) = 0 := by
      simp only [below, List.length_eq_zero_iff, List.filter_eq_nil_iff]
      intro y hy
      have := (h.ge y hy).1
      simp; omega
    rw [b0]
    exact (Option.some.inj hm).symm
  | k + 1, hk => by
    obtain ⟨i1, i2⟩ := feetN_iff h k (by omega)
    have hp := feet_ptr h k (by omega)
    unfold feetN
    cases hf : feetN vs t l k with
    | none =>
      refine ⟨⟨fun x => (by cases x), fun x => ?_⟩, fun m hm => (by cases hm)⟩
      have := i1.2 (fun q hq => x q (by omega))
      rw [hf] at this; cases this
    | some m =>
      have hm := i2 m hf
      subst hm
      dsimp only
      rw [hp]
      by_cases hw : gv vs t (k : Int) 1 = wantF vs t l (below l ((k : Int) + 1) - 1) k
      · rw [if_pos hw]
        refine ⟨⟨fun _ q hq => ?_, fun _ => rfl⟩, fun m hm => (Option.some.inj hm).symm⟩
        by_cases e : q = k
        · subst e; exact hw
        · exact i1.1 (by rw [hf]; rfl) q (by omega)
      · rw [if_neg hw]
        exact ⟨⟨fun x => (by cases x), fun x => absurd (x k (by omega)) hw⟩, fun m hm => (by cases hm)⟩
theorem feet_iff (h : Tile (fun q => gv vs t q 0) P 0 l) : feetF vs t P = true ↔ (∀ y ∈ l, gv vs t (y + iL (gv vs t y 0) - 1) 1 = y + 1) ∧ ∀ x : Int, 0 ≤ x → x < P → (∀ y ∈ l, x ≠ y + iL (gv vs t y 0) - 1) → gv vs t x 1 = 0 := by
  have hs : startsF (fun q => gv vs t q 0) P = (l, true) := (startsF_tile (by omega)).2 h
  unfold feetF
  rw [hs, show (P : Int).toNat = P by omega, (feetN_iff h P (Nat.le_refl _)).1]
  have hw : ∀ q : Nat, q < P → ∃ y ∈ l, y ≤ q ∧ (q : Int) < y + iL (gv vs t y 0) ∧ wantF vs t l (below l (q + 1) - 1) q = if (q : Int) = y + iL (gv vs t y 0) - 1 then y + 1 else 0 := by
    intro q hq
    obtain ⟨y, h1, h2, h3⟩ := h.at_ (q := (q : Int)) (by omega) (by omega)
    refine ⟨y, List.mem_of_getElem? h1, h2, h3, ?_⟩
    unfold wantF
    rw [show l.getD (below l ((q : Int) + 1) - 1) 0 = y by simp [List.getD, h1]]
  constructor
  · intro hq
    constructor
    · intro y hy
      have h1 := h.end_le y hy
      have h2 := h.len hy
      have h3 := (h.ge y hy).1
      (try dsimp only at h1 h2)
      obtain ⟨z, hz, z1, z2, z3⟩ := hw (y + iL (gv vs t y 0) - 1).toNat (by omega)
      have h4 := hq (y + iL (gv vs t y 0) - 1).toNat (by omega)
      have e : (((y + iL (gv vs t y 0) - 1).toNat : Nat) : Int) = y + iL (gv vs t y 0) - 1 := by omega
      rw [e] at z1 z2 z3 h4
      have hyz : y = z := h.one hy hz (q := y + iL (gv vs t y 0) - 1) (by omega) (by omega) z1 z2
      subst hyz
      rw [h4, z3, if_pos rfl]
    · intro x x0 x1 hx
      obtain ⟨z, hz, z1, z2, z3⟩ := hw x.toNat (by omega)
      have h4 := hq x.toNat (by omega)
      have e : ((x.toNat : Nat) : Int) = x := by omega
      rw [e] at z1 z2 z3 h4
      rw [h4, z3, if_neg (hx z hz)]
  · rintro ⟨f1, f0⟩ q hq
    obtain ⟨z, hz, z1, z2, z3⟩ := hw q hq
    rw [z3]
    by_cases e : (q : Int) = z + iL (gv vs t z 0) - 1
    · rw [if_pos e, e]; exact f1 z hz
    · rw [if_neg e]
      refine f0 q (by omega) (by omega) fun y hy e2 => e ?_
      have h2 := h.len hy
      have h3 := (h.ge y hy).1
      (try dsimp only at h2)
      have : y = z := h.one hy hz (q := (q : Int)) (by omega) (by omega) z1 z2
      rw [← this]; exact e2

/-- no two free spans stand beside one another. -/
def ApL (g : Int → Int) : List Int → Prop
  | [] => True
  | x :: r => (match r with | [] => True | y :: _ => ¬ (iK (g x) = 1 ∧ iK (g y) = 1)) ∧ ApL g r
theorem apart_list (g : Int → Int) : ∀ l : List Int, (∀ k, k < l.length - 1 → ¬ (iK (g (l.getD (k + 1) 0)) = 1 ∧ iK (g (l.getD k 0)) = 1)) ↔ ApL g l
  | [] => by simp [ApL]
  | [x] => by simp [ApL]
  | x :: y :: r => by
    have ih := apart_list g (y :: r)
    unfold ApL
    rw [← ih]
    constructor
    · intro h
      refine ⟨fun e => h 0 (by simp) ⟨e.2, e.1⟩, fun k hk => ?_⟩
      have := h (k + 1) (by simp at hk ⊢; omega)
      exact this
    · rintro ⟨h1, h2⟩ k hk
      cases k with
      | zero => exact fun e => h1 ⟨e.2, e.1⟩
      | succ k => exact h2 k (by simp at hk ⊢; omega)
theorem apart_iff (h : Tile (fun q => gv vs t q 0) P 0 l) : apartF vs t P = true ↔ ApL (fun q => gv vs t q 0) l := by
  have hs : startsF (fun q => gv vs t q 0) P = (l, true) := (startsF_tile (by omega)).2 h
  unfold apartF
  rw [hs, allN_iff, ← apart_list]
  constructor
  · intro hk k hlt
    have := hk k hlt
    unfold apB at this
    rintro ⟨e1, e2⟩
    rw [e1, e2] at this
    exact absurd this (by decide)
  · intro hk k hlt
    have := hk k hlt
    unfold apB
    cases e1 : (iK (gv vs t (l.getD (k + 1) 0) 0) == 1)
    · rfl
    · cases e2 : (iK (gv vs t (l.getD k 0) 0) == 1)
      · rfl
      · exact absurd ⟨by simpa using e1, by simpa using e2⟩ this
theorem slots_iff : slotsAll vs t P = true ↔ (∀ x : Int, 0 ≤ x → x < P → ∀ i : Nat, i < 32 → (bitB (gv vs t x 4) i = true → bitB (gv vs t x 5) i = true) ∧ (bitB (gv vs t x 5) i = true → iK (gv vs t x 0) = 3 ∧ (i : Int) < slotsF (iC (gv vs t x 0)))) ∧ ∀ x : Int, 0 ≤ x → x < P → iK (gv vs t x 0) = 3 → gv vs t x 5 ≠ 0 := by
  unfold slotsAll
  rw [allN_iff, show (P : Int).toNat = P by omega]
  have key : ∀ q : Nat, slotsQ vs t q = true ↔ (∀ i : Nat, i < 32 → (bitB (gv vs t q 4) i = true → bitB (gv vs t q 5) i = true) ∧ (bitB (gv vs t q 5) i = true → iK (gv vs t q 0) = 3 ∧ (i : Int) < slotsF (iC (gv vs t q 0)))) ∧ (iK (gv vs t q 0) = 3 → gv vs t q 5 ≠ 0) := by
    intro q
    unfold slotsQ
    rw [Bool.and_eq_true, allN_iff]
    have h1 : ∀ i : Nat, slotB vs t q i = true ↔ (bitB (gv vs t q 4) i = true → bitB (gv vs t q 5) i = true) ∧ (bitB (gv vs t q 5) i = true → iK (gv vs t q 0) = 3 ∧ (i : Int) < slotsF (iC (gv vs t q 0))) := by
      intro i
      unfold slotB badB
      cases bitB (gv vs t q 4) i <;> cases bitB (gv vs t q 5) i <;> simp
    have h2 : (!(iK (gv vs t q 0) == 3 && gv vs t q 5 == 0)) = true ↔ (iK (gv vs t q 0) = 3 → gv vs t q 5 ≠ 0) := by
      cases e1 : (iK (gv vs t q 0) == 3)
      · simp at e1; simp [e1]
      · simp at e1; simp [e1]
    rw [h2]
    exact ⟨fun h => ⟨fun i hi => (h1 i).1 (h.1 i hi), h.2⟩, fun h => ⟨fun i hi => (h1 i).2 (h.1 i hi), h.2⟩⟩
  constructor
  · intro h
    constructor
    · intro x x0 x1
      have := (key x.toNat).1 (h x.toNat (by omega))
      rw [show ((x.toNat : Nat) : Int) = x by omega] at this
      exact this.1
    · intro x x0 x1
      have := (key x.toNat).1 (h x.toNat (by omega))
      rw [show ((x.toNat : Nat) : Int) = x by omega] at this
      exact this.2
  · rintro ⟨h1, h2⟩ q hq
    exact (key q).2 ⟨h1 q (by omega) (by omega), h2 q (by omega) (by omega)⟩

/-- the free pages of spans. -/
def sumF (g : Int → Int) : List Int → Int
  | [] => 0
  | x :: r => (if iK (g x) = 1 then iL (g x) else 0) + sumF g r
theorem sumF_app (g : Int → Int) : ∀ l m : List Int, sumF g (l ++ m) = sumF g l + sumF g m
  | [], m => by simp [sumF]
  | x :: l, m => by simp [sumF, sumF_app g l m]; omega
theorem sumF_congr {g g' : Int → Int} : ∀ {l : List Int}, (∀ x ∈ l, g' x = g x) → sumF g' l = sumF g l
  | [], _ => rfl
  | x :: l, h => by unfold sumF; rw [h x (by simp), sumF_congr (l := l) (fun y hy => h y (by simp [hy]))]
theorem iK_0 : iK 0 = 0 := by decide
theorem free_sum : ∀ (l : List Int) (q : Nat), Tile (fun q => gv vs t q 0) P q l → (∀ x : Nat, q ≤ x → x < P → (x : Int) ∉ l → gv vs t x 0 = 0) → freeN vs t P = freeN vs t q + sumF (fun q => gv vs t q 0) l
  | [], q, h, _ => by have e : (q : Int) = P := h; obtain rfl : q = P := by omega
                      simp [sumF]
  | x :: r, q, h, hz => by
    obtain ⟨rfl, h1, h2, h3⟩ := h
    have hb := (inf_bd (gv vs t q 0)).2.2.2.2.2.2.1 h2
    dsimp only at h3
    have e : (q : Int) + iL (gv vs t q 0) = ((q + (iL (gv vs t q 0)).toNat : Nat) : Int) := by omega
    have h3' : Tile (fun q => gv vs t q 0) P ((q + (iL (gv vs t q 0)).toNat : Nat) : Int) r := by rw [← e]; exact h3
    have ih := free_sum r _ h3' (fun y hy hy2 hyr => hz y (by omega) hy2 (fun hm => by
      rcases List.mem_cons.1 hm with hm | hm
      · omega
      · exact hyr hm))
    have hle := h3'.le
    have key : ∀ j, j < (iL (gv vs t q 0)).toNat → freeN vs t (q + j + 1) = freeN vs t q + (if iK (gv vs t q 0) = 1 then iL (gv vs t q 0) else 0) := by
      intro j
      induction j with
      | zero => intro _; rfl
      | succ j ihj =>
        intro hj
        have hz2 : gv vs t ((q + j + 1 : Nat) : Int) 0 = 0 := hz (q + j + 1) (by omega) (by omega) (fun hm => by
          rcases List.mem_cons.1 hm with hm | hm
          · omega
          · have := (h3'.ge _ hm).1; omega)
        show freeN vs t (q + j + 1) + (if iK (gv vs t ((q + j + 1 : Nat) : Int) 0) = 1 then iL (gv vs t ((q + j + 1 : Nat) : Int) 0) else 0) = _
        rw [ihj (by omega), hz2, if_neg (show ¬ iK 0 = 1 by decide)]; omega
    have hk := key ((iL (gv vs t q 0)).toNat - 1) (by omega)
    rw [show q + ((iL (gv vs t q 0)).toNat - 1) + 1 = q + (iL (gv vs t q 0)).toNat by omega] at hk
    rw [ih, hk]
    have es : sumF (fun q => gv vs t q 0) ((q : Int) :: r) = (if iK (gv vs t q 0) = 1 then iL (gv vs t q 0) else 0) + sumF (fun q => gv vs t q 0) r := rfl
    rw [es]
    omega
theorem sumF_le {g : Int → Int} {p : Int} : ∀ {l : List Int} {a : Int}, Tile g p a l → 0 ≤ sumF g l ∧ sumF g l ≤ p - a
  | [], a, h => by have e : a = p := h; simp [sumF]; omega
  | x :: r, a, h => by
    obtain ⟨rfl, h1, h2, h3⟩ := h
    have hb := (inf_bd (g x)).2.2.2.2.2.2.1 h2
    have := sumF_le h3
    unfold sumF
    split <;> omega
end
end Go.Proofs.YtpmoajhpgekhcaaGreat
/- a heap of which some pages are in hand; when the audit finds nothing. -/
set_option linter.unusedSimpArgs false
set_option linter.unusedVariables false
namespace Go.Proofs.YtpmoajhpgekhcaaGreat
open Go.RowKit

/-- whose list a page must be in. -/
def ownC (t : Int) (c : Int → Int) (h x : Int) : Bool := if h < 13 then binnedB (c (pl t x 0)) (h - 2) else rackedB (c (pl t x 0)) (c (pl t x 5)) (h - 13)
/-- the pages from a to b are in hand: they are no span's, and in no list. -/
structure Hand (t P : Int) (c : Int → Int) (L : Int → List Int) (a b : Int) (l1 l2 : List Int) : Prop where
  a0 : 0 ≤ a
  ab : a ≤ b
  bP : b ≤ P
  t1 : Tile (cg t c 0) a 0 l1
  t2 : Tile (cg t c 0) P b l2
  zero : ∀ x, 0 ≤ x → x < P → x ∉ l1 → x ∉ l2 → (x ≠ a ∨ a = b) → c (pl t x 0) = 0
  foot1 : ∀ y, y ∈ l1 ∨ y ∈ l2 → c (pl t (y + iL (c (pl t y 0)) - 1) 1) = y + 1
  foot0 : ∀ x, 0 ≤ x → x < P → (∀ y, y ∈ l1 ∨ y ∈ l2 → x ≠ y + iL (c (pl t y 0)) - 1) → (x ≠ b - 1 ∨ a = b) → c (pl t x 1) = 0
  ap1 : ApL (cg t c 0) l1
  ap2 : ApL (cg t c 0) l2
  bits : ∀ x, 0 ≤ x → x < P → ∀ i : Nat, i < 32 → (bitB (c (pl t x 4)) i = true → bitB (c (pl t x 5)) i = true) ∧ (bitB (c (pl t x 5)) i = true → iK (c (pl t x 0)) = 3 ∧ (i : Int) < slotsF (iC (c (pl t x 0))) ∧ ¬ (a ≤ x ∧ x < b))
  taken : ∀ x, 0 ≤ x → x < P → ¬ (a ≤ x ∧ x < b) → iK (c (pl t x 0)) = 3 → c (pl t x 5) ≠ 0
  lists : ∀ h, 2 ≤ h → h ≤ 21 → LsOK P c (cg t c 2) (cg t c 3) h (L h)
  own : ∀ h x, 2 ≤ h → h ≤ 21 → 0 ≤ x → x < P → (x ∈ L h ↔ ownC t c h x = true ∧ ¬ (a ≤ x ∧ x < b))
  loose : ∀ x, 0 ≤ x → x < P → (∀ h, 2 ≤ h → h ≤ 21 → x ∉ L h) → c (pl t x 2) = 0 ∧ c (pl t x 3) = 0
  free : c 0 = sumF (cg t c 0) l1 + sumF (cg t c 0) l2 + (if a < b then b - a - 1 else 0)

def cv (vs : List Int) : Int → Int := fun i => vs.getD i.toNat 0
theorem cv_pl (vs : List Int) (t x k : Int) : cv vs (pl t x k) = gv vs t x k := rfl

theorem ownC_eq (vs : List Int) (t : Int) (a x : Nat) (h : 2 ≤ a) : ownC t (cv vs) a x = ownB vs t a x := by
  unfold ownC ownB
  by_cases ha : a < 13
  · rw [if_pos (by omega), if_pos ha, show ((a - 2 : Nat) : Int) = (a : Int) - 2 by omega]; rfl
  · rw [if_neg (by omega), if_neg ha, show ((a - 13 : Nat) : Int) = (a : Int) - 13 by omega]; rfl
theorem logF_bd {n : Int} (h1 : 1 ≤ n) (h2 : n ≤ 1024) : 0 ≤ logF n ∧ logF n ≤ 10 := by
  have key : ∀ m : Nat, m ≤ 1024 → 1 ≤ m → 1 ≤ bitsN m ∧ bitsN m ≤ 11 := by decide +kernel
  have := key n.toNat (by omega) (by omega)
  unfold logF; omega
/-- a page that hangs is in just one list. -/
theorem hung_own {t x : Int} {c : Int → Int} : (iK (c (pl t x 0)) = 1 ∨ (iK (c (pl t x 0)) = 3 ∧ fullB (c (pl t x 5)) (iC (c (pl t x 0))) = false)) ↔ ∃ h, 2 ≤ h ∧ h ≤ 21 ∧ ownC t c h x = true := by
  have hb := inf_bd (c (pl t x 0))
  constructor
  · rintro (h | ⟨h, h2⟩)
    · have hl := logF_bd (n := iL (c (pl t x 0))) (hb.2.2.2.2.2.2.1 (by omega)).2 (by omega)
      refine ⟨2 + logF (iL (c (pl t x 0))), by omega, by omega, ?_⟩
      unfold ownC binnedB
      rw [if_pos (by omega)]
      simp [h]; omega
    · refine ⟨13 + iC (c (pl t x 0)), by omega, by omega, ?_⟩
      unfold ownC rackedB
      rw [if_neg (by omega), show 13 + iC (c (pl t x 0)) - 13 = iC (c (pl t x 0)) by omega]
      simp [h, h2]
  · rintro ⟨h, h2, h21, ho⟩
    unfold ownC binnedB rackedB at ho
    split at ho
    · simp at ho; exact Or.inl ho.1
    · simp at ho; exact Or.inr ⟨ho.1.1, by rw [ho.1.2]; exact ho.2⟩
theorem ownC_one {t x h h' : Int} {c : Int → Int} (h2 : 2 ≤ h) (h2' : 2 ≤ h') (e : ownC t c h x = true) (e' : ownC t c h' x = true) : h = h' := by
  unfold ownC binnedB rackedB at e e'
  split at e <;> split at e' <;> simp at e e' <;> omega
theorem nodup_len {p : Int} {l : List Int} (hn : l.Nodup) (hb : ∀ x ∈ l, 0 ≤ x ∧ x < p) : l.length ≤ p.toNat := by
  have := VS.length_le_of_nodup p.toNat (l.map Int.toNat) ((List.pairwise_map).2 (List.Pairwise.imp_of_mem (fun {x y} hx hy hxy => by
    have := hb x hx
    have := hb y hy
    omega) hn)) (by
    intro x hx
    obtain ⟨y, hy, rfl⟩ := List.mem_map.1 hx
    have := hb y hy
    omega)
  simpa using this
theorem seg_listL {vs : List Int} {t p : Int} : ∀ (l : List Int) (f : Nat) (q ah e : Int) (out : List Int), seg (fun x => gv vs t x 2) (fun x => gv vs t x 3) q ah l 0 e → (∀ x ∈ l, 0 ≤ x ∧ x < p) → (out.length : Int) + l.length ≤ p → l.length < f → listL vs t p f q ah out = (out ++ l, true)
  | [], f, q, ah, e, out, h, _, _, hf => by
    have hq : q = 0 := h.1.symm
    cases f with
    | zero => simp at hf
    | succ f => unfold listL; rw [if_pos hq]; simp
  | x :: l, f, q, ah, e, out, h, hb, hl, hf => by
    obtain ⟨h1, h2, h3⟩ := h
    have hx := hb x (by simp)
    simp only [List.length_cons] at hl hf
    cases f with
    | zero => omega
    | succ f =>
      unfold listL
      have e1 : q - 1 = x := by omega
      rw [if_neg (by omega), if_neg (by omega), e1, if_neg (by simpa using h2)]
      have e2 : q = x + 1 := h1
      rw [e2, seg_listL l f _ _ e (out ++ [x]) h3 (fun y hy => hb y (by simp [hy])) (by simp; omega) (by omega)]
      simp

section
variable {vs : List Int} {t s : Int} {P : Nat}
theorem chk_every : (chkF vs t P s).2 = true ↔ tilesF vs t P = true ∧ feetF vs t P = true ∧ apartF vs t P = true ∧ slotsAll vs t P = true ∧ binsF vs t P = true ∧ racksF vs t P = true ∧ looseF vs t P = true ∧ countsF vs t P = true ∧ rootsF vs t P s = true := by
  unfold chkF
  cases h1 : tilesF vs t P
  · simp
  cases h2 : feetF vs t P
  · simp
  cases h3 : apartF vs t P
  · simp
  cases h4 : slotsAll vs t P
  · simp
  cases h5 : binsF vs t P
  · simp
  cases h6 : racksF vs t P
  · simp
  cases h7 : looseF vs t P
  · simp
  cases h8 : countsF vs t P
  · simp
  cases h9 : rootsF vs t P s
  · simp
  simp
theorem tiles_iff : tilesF vs t P = true ↔ ∃ l, Tile (fun q => gv vs t q 0) P 0 l ∧ ∀ x : Nat, x < P → (x : Int) ∉ l → gv vs t x 0 = 0 := by
  unfold tilesF
  constructor
  · intro h
    rw [Bool.and_eq_true] at h
    obtain ⟨h1, h2⟩ := h
    generalize hl : startsF (fun q => gv vs t q 0) P = sl at h1 h2
    obtain ⟨l, b⟩ := sl
    simp only at h1 h2
    subst h1
    have ht := (startsF_tile (by omega)).1 hl
    obtain ⟨n, hn⟩ := Option.isSome_iff_exists.1 h2
    rw [show (P : Int).toNat = P by omega] at hn
    exact ⟨l, ht, fun x hx hxl => (tilesN_some ht.sorted (fun y hy => (ht.ge y hy).1) P n hn).2 x hx hxl⟩
  · rintro ⟨l, ht, hz⟩
    have hs : startsF (fun q => gv vs t q 0) P = (l, true) := (startsF_tile (by omega)).2 ht
    rw [hs, show (P : Int).toNat = P by omega]
    simp only [Bool.true_and]
    rw [tilesN_iff ht.sorted (fun y hy => (ht.ge y hy).1) P hz]
    rfl
theorem loose_iff : looseF vs t P = true ↔ ∀ x : Int, 0 ≤ x → x < P → (∃ h, 2 ≤ h ∧ h ≤ 21 ∧ ownC t (cv vs) h x = true) ∨ (gv vs t x 2 = 0 ∧ gv vs t x 3 = 0) := by
  unfold looseF
  rw [allN_iff, show (P : Int).toNat = P by omega]
  have key : ∀ q : Nat, looseQ vs t q = true ↔ (∃ h, 2 ≤ h ∧ h ≤ 21 ∧ ownC t (cv vs) h q = true) ∨ (gv vs t q 2 = 0 ∧ gv vs t q 3 = 0) := by
    intro q
    rw [← hung_own]
    simp only [cv_pl]
    unfold looseQ hungB
    simp
  constructor
  · intro h x x0 x1
    have := (key x.toNat).1 (h x.toNat (by omega))
    rwa [show ((x.toNat : Nat) : Int) = x by omega] at this
  · intro h q hq
    exact (key q).2 (h q (by omega) (by omega))
theorem lists_iff : (binsF vs t P = true ∧ racksF vs t P = true) ↔ ∀ a : Nat, 2 ≤ a → a ≤ 21 → (listF vs t P a).2 = true ∧ ∀ q : Nat, q < P → (((listF vs t P a).1.count (q : Int) : Nat) : Int) = wantI (ownB vs t a q) := by
  unfold binsF racksF
  rw [allN_iff, allN_iff]
  have kb : ∀ k, binsB vs t P k = true ↔ (listF vs t P (2 + k)).2 = true ∧ ∀ q : Nat, q < P → (((listF vs t P (2 + k)).1.count (q : Int) : Nat) : Int) = wantI (binnedB (gv vs t q 0) k) := by
    intro k
    unfold binsB
    rw [Bool.and_eq_true, allN_iff, show (P : Int).toNat = P by omega]
    unfold binsInB
    simp
  have kr : ∀ k, racksB vs t P k = true ↔ (listF vs t P (13 + k)).2 = true ∧ ∀ q : Nat, q < P → (((listF vs t P (13 + k)).1.count (q : Int) : Nat) : Int) = wantI (rackedB (gv vs t q 0) (gv vs t q 5) k) := by
    intro k
    unfold racksB
    rw [Bool.and_eq_true, allN_iff, show (P : Int).toNat = P by omega]
    unfold racksInB
    simp
  constructor
  · rintro ⟨hb, hr⟩ a h2 h21
    by_cases ha : a < 13
    · have := (kb (a - 2)).1 (hb (a - 2) (by omega))
      rw [show 2 + (a - 2) = a by omega] at this
      refine ⟨this.1, fun q hq => ?_⟩
      unfold ownB
      rw [if_pos ha]; exact this.2 q hq
    · have := (kr (a - 13)).1 (hr (a - 13) (by omega))
      rw [show 13 + (a - 13) = a by omega] at this
      refine ⟨this.1, fun q hq => ?_⟩
      unfold ownB
      rw [if_neg ha]; exact this.2 q hq
  · intro h
    constructor
    · intro k hk
      obtain ⟨h1, h2⟩ := h (2 + k) (by omega) (by omega)
      refine (kb k).2 ⟨h1, fun q hq => ?_⟩
      have := h2 q hq
      unfold ownB at this
      rw [if_pos (by omega), show 2 + k - 2 = k by omega] at this
      exact this
    · intro k hk
      obtain ⟨h1, h2⟩ := h (13 + k) (by omega) (by omega)
      refine (kr k).2 ⟨h1, fun q hq => ?_⟩
      have := h2 q hq
      unfold ownB at this
      rw [if_neg (by omega), show 13 + k - 13 = k by omega] at this
      exact this

/-- what the audit finds right is a heap. -/
theorem hand_of_chk (hu : ∀ v ∈ vs, VS.U32 v) (h : (chkF vs t P s).2 = true) : ∃ l, Hand t P (cv vs) (fun a => (listF vs t P a.toNat).1) 0 0 [] l := by
  obtain ⟨h1, h2, h3, h4, h5, h6, h7, h8, -⟩ := chk_every.1 h
  obtain ⟨l, ht, hz⟩ := tiles_iff.1 h1
  obtain ⟨f1, f0⟩ := (feet_iff ht).1 h2
  obtain ⟨b1, b2⟩ := slots_iff.1 h4
  have hl := lists_iff.1 ⟨h5, h6⟩
  have hso := fun a h2 h21 => sound_ok hu (by omega) h a h2 h21
  have hown : ∀ a x : Int, 2 ≤ a → a ≤ 21 → 0 ≤ x → x < P → (x ∈ (listF vs t P a.toNat).1 ↔ ownC t (cv vs) a x = true) := by
    intro a x a2 a21 x0 x1
    have hc := (hl a.toNat (by omega) (by omega)).2 x.toNat (by omega)
    have ho := ownC_eq vs t a.toNat x.toNat (by omega)
    rw [show ((a.toNat : Nat) : Int) = a by omega, show ((x.toNat : Nat) : Int) = x by omega] at ho
    rw [show ((x.toNat : Nat) : Int) = x by omega] at hc
    rw [ho, ← List.count_pos_iff]
    cases e : ownB vs t a.toNat x.toNat
    · rw [e] at hc
      have hc2 : (((listF vs t P a.toNat).1.count x : Nat) : Int) = 0 := hc
      exact ⟨fun hp => by omega, fun hp => by cases hp⟩
    · rw [e] at hc
      have hc2 : (((listF vs t P a.toNat).1.count x : Nat) : Int) = 1 := hc
      exact ⟨fun _ => rfl, fun _ => by omega⟩
  refine ⟨l, ⟨by omega, by omega, by omega, rfl, ht, fun x x0 x1 _ x3 _ => ?_, fun y hy => ?_, fun x x0 x1 x2 _ => ?_, trivial, (apart_iff ht).1 h3, fun x x0 x1 i hi => ?_, fun x x0 x1 _ => b2 x x0 x1, fun a a2 a21 => ?_, fun a x a2 a21 x0 x1 => ?_, fun x x0 x1 hx => ?_, ?_⟩⟩
  · have := hz x.toNat (by omega) (by rwa [show ((x.toNat : Nat) : Int) = x by omega])
    rwa [show ((x.toNat : Nat) : Int) = x by omega] at this
  · rcases hy with hy | hy
    · cases hy
    · exact f1 y hy
  · exact f0 x x0 x1 fun y hy => x2 y (Or.inr hy)
  · have := b1 x x0 x1 i hi
    exact ⟨this.1, fun e => ⟨(this.2 e).1, (this.2 e).2, by omega⟩⟩
  · have := hso a.toNat (by omega) (by omega)
    rw [show ((a.toNat : Nat) : Int) = a by omega] at this
    exact this
  · rw [hown a x a2 a21 x0 x1]
    exact ⟨fun e => ⟨e, by omega⟩, fun e => e.1⟩
  · rcases loose_iff.1 h7 x x0 x1 with ⟨a, a2, a21, ho⟩ | hn
    · exact absurd ((hown a x a2 a21 x0 x1).2 ho) (hx a a2 a21)
    · exact hn
  · unfold countsF at h8
    rw [Bool.and_eq_true] at h8
    have h9 : vs.getD 0 0 = freeN vs t (P : Int).toNat := of_decide_eq_true h8.1
    rw [show (P : Int).toNat = P by omega, free_sum l 0 ht (fun x _ hx hxl => hz x hx hxl)] at h9
    show vs.getD 0 0 = _
    rw [h9]
    simp [sumF, freeN]
    rfl
/-- a heap is what the audit finds right. -/
theorem chk_of_hand {L : Int → List Int} {l : List Int} (h : Hand t P (cv vs) L 0 0 [] l) (hlive : vs.getD 1 0 = liveN vs t P) (hroots : rootsF vs t P s = true) : (chkF vs t P s).2 = true := by
  have ht : Tile (fun q => gv vs t q 0) P 0 l := h.t2
  have hz : ∀ x : Nat, x < P → (x : Int) ∉ l → gv vs t x 0 = 0 := fun x hx hxl => h.zero x (by omega) (by omega) (by simp) hxl (Or.inr rfl)
  have hLs : ∀ a : Nat, 2 ≤ a → a ≤ 21 → listF vs t P a = (L a, true) := by
    intro a a2 a21
    obtain ⟨⟨e, hs⟩, hn, hb⟩ := h.lists a (by omega) (by omega)
    have hlen := nodup_len hn hb
    unfold listF
    have hs2 : seg (fun x => gv vs t x 2) (fun x => gv vs t x 3) (vs.getD a 0) 0 (L a) 0 e := hs
    rw [seg_listL (L a) _ _ _ e [] hs2 hb (by simp; omega) (by omega)]
    simp
  refine chk_every.2 ⟨tiles_iff.2 ⟨l, ht, hz⟩, (feet_iff ht).2 ⟨fun y hy => h.foot1 y (Or.inr hy), fun x x0 x1 hx => h.foot0 x x0 x1 (fun y hy => ?_) (Or.inr rfl)⟩, (apart_iff ht).2 h.ap2, slots_iff.2 ⟨fun x x0 x1 i hi => ?_, fun x x0 x1 hk => h.taken x x0 x1 (by omega) hk⟩, ?_⟩
  · rcases hy with hy | hy
    · cases hy
    · exact hx y hy
  · have := h.bits x x0 x1 i hi
    exact ⟨this.1, fun e => ⟨(this.2 e).1, (this.2 e).2.1⟩⟩
  · have hbr : binsF vs t P = true ∧ racksF vs t P = true := by
      refine lists_iff.2 fun a a2 a21 => ?_
      rw [hLs a a2 a21]
      refine ⟨rfl, fun q hq => ?_⟩
      have ho := h.own a q (by omega) (by omega) (by omega) (by omega)
      rw [ownC_eq vs t a q (by omega)] at ho
      have hn := (h.lists a (by omega) (by omega)).2.1
      simp only
      cases e : ownB vs t a q
      · rw [e] at ho
        have : (q : Int) ∉ L a := fun hm => by have := (ho.1 hm).1; cases this
        rw [List.count_eq_zero_of_not_mem this]; rfl
      · rw [e] at ho
        have : (q : Int) ∈ L a := ho.2 ⟨rfl, by omega⟩
        rw [List.nodup_iff_count.1 hn q |> fun hle => Nat.le_antisymm hle (List.count_pos_iff.2 this)]; rfl
    refine ⟨hbr.1, hbr.2, loose_iff.2 fun x x0 x1 => ?_, ?_, hroots⟩
    · by_cases ho : ∃ a, 2 ≤ a ∧ a ≤ 21 ∧ ownC t (cv vs) a x = true
      · exact Or.inl ho
      · exact Or.inr (h.loose x x0 x1 fun a a2 a21 hm => ho ⟨a, a2, a21, ((h.own a x a2 a21 x0 x1).1 hm).1⟩)
    · unfold countsF
      have hf := h.free
      have h9 := free_sum l 0 ht (fun x _ hx hxl => hz x hx hxl)
      rw [show (P : Int).toNat = P by omega, Bool.and_eq_true]
      refine ⟨decide_eq_true ?_, decide_eq_true hlive⟩
      rw [h9]
      have hf2 : vs.getD 0 0 = _ := hf
      rw [hf2]
      simp [sumF, freeN]
      rfl
end
end Go.Proofs.YtpmoajhpgekhcaaGreat
/- the lists of a heap, all at once: what Pull and Push make of them. -/
set_option linter.unusedSimpArgs false
set_option linter.unusedVariables false
namespace Go.Proofs.YtpmoajhpgekhcaaGreat
open Go.RowKit

/-- the lists of all heads: which pages they own. -/
structure Lst (t P : Int) (c : Int → Int) (L : Int → List Int) (own : Int → Int → Prop) : Prop where
  lists : ∀ h, 2 ≤ h → h ≤ 21 → LsOK P c (cg t c 2) (cg t c 3) h (L h)
  own_ : ∀ h x, 2 ≤ h → h ≤ 21 → 0 ≤ x → x < P → (x ∈ L h ↔ own h x)
  one : ∀ h h' x, 2 ≤ h → h ≤ 21 → 2 ≤ h' → h' ≤ 21 → own h x → own h' x → h = h'
  loose : ∀ x, 0 ≤ x → x < P → (∀ h, 2 ≤ h → h ≤ 21 → ¬ own h x) → c (pl t x 2) = 0 ∧ c (pl t x 3) = 0

section
variable {t P : Int} {c c' : Int → Int} {L : Int → List Int} {own own' : Int → Int → Prop}
theorem Lst.apart (k : Lst t P c L own) {h h' x : Int} (h2 : 2 ≤ h) (h21 : h ≤ 21) (h2' : 2 ≤ h') (h21' : h' ≤ 21) (hx : x ∈ L h) (hx' : x ∈ L h') : h = h' := by
  have hb := (k.lists h h2 h21).2.2 x hx
  exact k.one h h' x h2 h21 h2' h21' ((k.own_ h x h2 h21 hb.1 hb.2).1 hx) ((k.own_ h' x h2' h21' hb.1 hb.2).1 hx')
theorem Lst.congr (k : Lst t P c L own) (hl : ∀ h, 2 ≤ h → h ≤ 21 → c' h = c h) (hp : ∀ x, 0 ≤ x → x < P → c' (pl t x 2) = c (pl t x 2) ∧ c' (pl t x 3) = c (pl t x 3)) (ho : ∀ h x, 2 ≤ h → h ≤ 21 → 0 ≤ x → x < P → (own' h x ↔ own h x)) (h1 : ∀ h h' x, 2 ≤ h → h ≤ 21 → 2 ≤ h' → h' ≤ 21 → own' h x → own' h' x → h = h') : Lst t P c' L own' :=
  ⟨fun h h2 h21 => (k.lists h h2 h21).congr (hl h h2 h21) hp, fun h x h2 h21 x0 x1 => (k.own_ h x h2 h21 x0 x1).trans (ho h x h2 h21 x0 x1).symm, h1, fun x x0 x1 hx => by
    rw [(hp x x0 x1).1, (hp x x0 x1).2]
    exact k.loose x x0 x1 fun h h2 h21 e => hx h h2 h21 ((ho h x h2 h21 x0 x1).2 e)⟩
theorem Lst.pull (k : Lst t P c L own) (ht : 1 ≤ t) {a q : Int} (a2 : 2 ≤ a) (a21 : a ≤ 21) (q0 : 0 ≤ q) (q1 : q < P) (ho : own a q) :
    LkOK t P c q ∧ ∃ L', Lst t P (pullC t a q c) L' (fun h x => own h x ∧ x ≠ q) := by
  have hq := (k.own_ a q a2 a21 q0 q1).2 ho
  have hlk := LkOK.of (k.lists a a2 a21) hq
  refine ⟨hlk, ?_⟩
  obtain ⟨A, B, e⟩ := List.append_of_mem hq
  have hl := k.lists a a2 a21
  rw [e] at hl
  have hpg : ∀ x, 0 ≤ x → x < P → cg t (pullC t a q c) 2 x = pullNx (cg t c 2) (cg t c 3) q x ∧ cg t (pullC t a q c) 3 x = pullPv (cg t c 2) (cg t c 3) q x := fun x x0 _ => ⟨pullC_nx ht a21 hlk x0, pullC_pv ht a21 hlk x0⟩
  refine ⟨fun h => if h = a then A ++ B else L h, fun h h2 h21 => ?_, fun h x h2 h21 x0 x1 => ?_, fun h h' x h2 h21 h2' h21' o o' => k.one h h' x h2 h21 h2' h21' o.1 o'.1, fun x x0 x1 hx => ?_⟩
  · by_cases eh : h = a
    · subst eh
      rw [if_pos rfl]
      exact (pull_law hl).congr (pullC_hd ht hlk (by omega)) hpg
    · rw [if_neg eh]
      refine (pull_other hl (k.lists h h2 h21) eh fun x hx hx2 => eh ?_).congr (pullC_hd ht hlk (by omega)) hpg
      exact k.apart h2 h21 a2 a21 hx (by rw [e]; exact hx2)
  · by_cases eh : h = a
    · subst eh
      rw [if_pos rfl]
      have h5 := k.own_ h x h2 h21 x0 x1
      rw [e] at h5
      have hn := hl.2.1
      rw [← h5]
      simp only [List.nodup_append, List.nodup_cons, List.mem_cons, List.mem_append] at hn ⊢
      constructor
      · rintro (hx | hx)
        · exact ⟨Or.inl hx, fun e2 => hn.2.2 x hx q (Or.inl rfl) e2⟩
        · exact ⟨Or.inr (Or.inr hx), fun e2 => hn.2.1.1 (e2 ▸ hx)⟩
      · rintro ⟨hx | hx | hx, h6⟩
        · exact Or.inl hx
        · exact absurd hx h6
        · exact Or.inr hx
    · rw [if_neg eh, k.own_ h x h2 h21 x0 x1]
      exact ⟨fun o => ⟨o, fun e2 => eh (by subst e2; exact k.one h a x h2 h21 a2 a21 o ho)⟩, fun o => o.1⟩
  · have e2 := (hpg x x0 x1)
    show cg t (pullC t a q c) 2 x = 0 ∧ cg t (pullC t a q c) 3 x = 0
    rw [e2.1, e2.2]
    by_cases eq : x = q
    · subst eq; exact ⟨upI_same _ _ _, upI_same _ _ _⟩
    · have hno : ∀ h, 2 ≤ h → h ≤ 21 → ¬ own h x := fun h h2 h21 o => hx h h2 h21 ⟨o, eq⟩
      have hz := k.loose x x0 x1 hno
      have hxa : x ∉ A ++ q :: B := fun hm => hno a a2 a21 ((k.own_ a x a2 a21 x0 x1).1 (by rw [e]; exact hm))
      obtain ⟨c1, c2⟩ := at_page hl
      constructor
      · unfold pullNx
        rw [upI_other _ eq]
        split
        · exact hz.1
        · rename_i h0
          rw [upI_other]
          · exact hz.1
          · rcases c1 with ⟨_, h3, _⟩ | ⟨A', z, h3, h4, _⟩
            · exact absurd h3 h0
            · intro e3; exact hxa (by rw [h3, show x = z by omega]; simp)
      · unfold pullPv
        rw [upI_other _ eq]
        split
        · exact hz.2
        · rename_i h0
          rw [upI_other]
          · exact hz.2
          · rcases c2 with ⟨_, h3⟩ | ⟨y, B', h3, h4, _⟩
            · exact absurd h3 h0
            · intro e3; exact hxa (by rw [h3, show x = y by omega]; simp)
theorem Lst.push (k : Lst t P c L own) (ht : 1 ≤ t) {a q : Int} (a2 : 2 ≤ a) (a21 : a ≤ 21) (q0 : 0 ≤ q) (q1 : q < P) (hno : ∀ h, 2 ≤ h → h ≤ 21 → ¬ own h q) :
    (c a = 0 ∨ (1 ≤ c a ∧ c a ≤ P)) ∧ ∃ L', Lst t P (pushC t a q c) L' (fun h x => own h x ∨ (h = a ∧ x = q)) := by
  have hl := k.lists a a2 a21
  have hk := hl.head
  refine ⟨hk, ?_⟩
  have hqa : ∀ h, 2 ≤ h → h ≤ 21 → q ∉ L h := fun h h2 h21 hm => hno h h2 h21 ((k.own_ h q h2 h21 q0 q1).1 hm)
  have hpg : ∀ x, 0 ≤ x → x < P → cg t (pushC t a q c) 2 x = pushNx c (cg t c 2) a q x ∧ cg t (pushC t a q c) 3 x = pushPv c (cg t c 3) a q x := fun x x0 _ => ⟨pushC_nx ht a21 x0, pushC_pv ht a21 x0⟩
  refine ⟨fun h => if h = a then q :: L a else L h, fun h h2 h21 => ?_, fun h x h2 h21 x0 x1 => ?_, fun h h' x h2 h21 h2' h21' o o' => ?_, fun x x0 x1 hx => ?_⟩
  · by_cases eh : h = a
    · subst eh
      rw [if_pos rfl]
      exact (push_law hl (hqa h h2 h21) q0 q1).congr (pushC_hd ht q0 q1 hk (by omega)) hpg
    · rw [if_neg eh]
      exact (push_other hl (k.lists h h2 h21) eh (fun x hx hx2 => eh (k.apart h2 h21 a2 a21 hx hx2)) (hqa h h2 h21)).congr (pushC_hd ht q0 q1 hk (by omega)) hpg
  · by_cases eh : h = a
    · subst eh
      rw [if_pos rfl, List.mem_cons, k.own_ h x h2 h21 x0 x1]
      exact ⟨fun o => o.elim (fun e => Or.inr ⟨rfl, e⟩) Or.inl, fun o => o.elim Or.inr (fun e => Or.inl e.2)⟩
    · rw [if_neg eh, k.own_ h x h2 h21 x0 x1]
      exact ⟨Or.inl, fun o => o.elim id (fun e => absurd e.1 eh)⟩
  · rcases o with o | ⟨o1, o2⟩
    · rcases o' with o' | ⟨o1', o2'⟩
      · exact k.one h h' x h2 h21 h2' h21' o o'
      · subst o2'; exact absurd o (hno h h2 h21)
    · rcases o' with o' | ⟨o1', o2'⟩
      · subst o2; exact absurd o' (hno h' h2' h21')
      · omega
  · have e2 := (hpg x x0 x1)
    show cg t (pushC t a q c) 2 x = 0 ∧ cg t (pushC t a q c) 3 x = 0
    rw [e2.1, e2.2]
    have hn : ∀ h, 2 ≤ h → h ≤ 21 → ¬ own h x := fun h h2 h21 o => hx h h2 h21 (Or.inl o)
    have hxq : x ≠ q := fun e => hx a a2 a21 (Or.inr ⟨rfl, e⟩)
    have hz := k.loose x x0 x1 hn
    refine ⟨?_, ?_⟩
    · unfold pushNx; rw [upI_other _ hxq]; exact hz.1
    · unfold pushPv
      split
      · rw [upI_other _ hxq]; exact hz.2
      · rename_i h0
        rw [upI_other, upI_other _ hxq]
        · exact hz.2
        · intro e3
          refine hn a a2 a21 ((k.own_ a x a2 a21 x0 x1).1 ?_)
          obtain ⟨⟨e, hs⟩, -, hb⟩ := hl
          cases hLa : L a with
          | nil => rw [hLa] at hs; exact absurd hs.1.symm h0
          | cons y r => rw [hLa] at hs; have := hs.1; rw [show x = y by omega]; simp
end
theorem Hand.lst {t P : Int} {c : Int → Int} {L : Int → List Int} {a b : Int} {l1 l2 : List Int} (h : Hand t P c L a b l1 l2) : Lst t P c L (fun i x => ownC t c i x = true ∧ ¬ (a ≤ x ∧ x < b)) :=
  ⟨h.lists, h.own, fun i i' x i2 _ i2' _ o o' => ownC_one i2 i2' o.1 o'.1, fun x x0 x1 hx => h.loose x x0 x1 fun i i2 i21 hm => hx i i2 i21 ((h.own i x i2 i21 x0 x1).1 hm)⟩
end Go.Proofs.YtpmoajhpgekhcaaGreat
/- pages that come into hand, and go out of it. -/
set_option linter.unusedSimpArgs false
set_option linter.unusedVariables false
namespace Go.Proofs.YtpmoajhpgekhcaaGreat
open Go.RowKit

theorem inf_free {n : Int} (h1 : 1 ≤ n) (h : n ≤ 1024) : iK (1 + 16 * n) = 1 ∧ iL (1 + 16 * n) = n := by
  have e1 : (1 + 16 * n) % 16 = 1 := by omega
  have e2 : (1 + 16 * n) / 16 % 4096 = n := by omega
  have e3 : (1 + 16 * n) / 65536 = 0 := by omega
  have ho : okI (1 + 16 * n) = true := by
    unfold okI
    rw [e1, e2, e3]
    simp [rightI]
    omega
  unfold iK iL
  rw [ho, e1, e2]
  simp
theorem inf_slab3 (v : Int) (h : iK v = 3) : iL v = 1 := by
  unfold iK at h
  split at h
  · rename_i ho
    have h2 := ho
    unfold okI rightI at h2
    rw [if_neg (by omega), if_neg (by omega), if_pos h] at h2
    simp at h2
    unfold iL
    rw [if_pos ho]
    exact h2.1.1
  · omega

theorem ApL.split {g : Int → Int} : ∀ {l m : List Int}, ApL g (l ++ m) → ApL g l ∧ ApL g m
  | [], m, h => ⟨trivial, h⟩
  | [x], m, h => ⟨⟨trivial, trivial⟩, h.2⟩
  | x :: y :: l, m, h => by
    obtain ⟨h1, h2⟩ := ApL.split (l := y :: l) (m := m) h.2
    exact ⟨⟨h.1, h1⟩, h2⟩
theorem ApL.congr {g g' : Int → Int} : ∀ {l : List Int}, ApL g l → (∀ x ∈ l, g' x = g x) → ApL g' l
  | [], _, _ => trivial
  | [x], h, _ => ⟨trivial, trivial⟩
  | x :: y :: l, h, hg => by
    refine ⟨?_, ApL.congr (l := y :: l) h.2 fun z hz => hg z (by simp [hz])⟩
    show ¬ (iK (g' x) = 1 ∧ iK (g' y) = 1)
    rw [hg x (by simp), hg y (by simp)]
    exact h.1
/-- the last span is not free; the first one is not. -/
def NoLast (g : Int → Int) (l : List Int) : Prop := ∀ m f, l = m ++ [f] → iK (g f) ≠ 1
def NoHead (g : Int → Int) (l : List Int) : Prop := ∀ m f, l = f :: m → iK (g f) ≠ 1
theorem ApL.last {g : Int → Int} : ∀ {l : List Int} {f : Int}, ApL g (l ++ [f]) → iK (g f) = 1 → NoLast g l
  | [], f, _, _, m, z, e => by simp at e
  | [x], f, h, hf, m, z, e => by
    cases m with
    | nil => simp at e; subst e; exact fun hz => h.1 ⟨hz, hf⟩
    | cons y m => simp at e
  | x :: y :: l, f, h, hf, m, z, e => by
    cases m with
    | nil => simp at e
    | cons w m =>
      simp at e
      exact ApL.last (l := y :: l) h.2 hf m z e.2
theorem ApL.head {g : Int → Int} {l : List Int} {f : Int} (h : ApL g (f :: l)) (hf : iK (g f) = 1) : NoHead g l := by
  intro m z e
  subst e
  exact fun hz => h.1 ⟨hf, hz⟩
theorem ApL.join {g : Int → Int} {a : Int} : ∀ {l m : List Int}, ApL g l → ApL g m → NoLast g l → NoHead g m → ApL g (l ++ a :: m)
  | [], [], _, _, _, _ => ⟨trivial, trivial⟩
  | [], z :: m, _, hm, _, hh => ⟨fun e => hh m z rfl e.2, hm⟩
  | [x], m, _, hm, hl, hh => ⟨fun e => hl [] x rfl e.1, ApL.join (l := []) (m := m) trivial hm (fun m' f e => by simp at e) hh⟩
  | x :: y :: l, m, h, hm, hl, hh => ⟨h.1, ApL.join (l := y :: l) h.2 hm (fun m' f e => hl (x :: m') f (by rw [e]; rfl)) hh⟩

section
variable {t P : Int} {c c' : Int → Int} {L : Int → List Int} {a b : Int} {l1 l2 : List Int}

/-- a page in hand, or at which no span begins, is no list's. -/
theorem Hand.kind0 (h : Hand t P c L a b l1 l2) {x : Int} (x0 : 0 ≤ x) (x1 : x < P) (h1 : x ∉ l1) (h2 : x ∉ l2) (hx : x ≠ a ∨ a = b) : iK (c (pl t x 0)) = 0 := by
  rw [h.zero x x0 x1 h1 h2 hx]; decide
theorem own_kind {i x : Int} (h : ownC t c i x = true) : iK (c (pl t x 0)) = 1 ∨ iK (c (pl t x 0)) = 3 := by
  unfold ownC binnedB rackedB at h
  split at h <;> simp at h
  · exact Or.inl h.1
  · exact Or.inr h.1.1
theorem own_congr {i x : Int} (h0 : c' (pl t x 0) = c (pl t x 0)) (h5 : c' (pl t x 5) = c (pl t x 5)) : ownC t c' i x = ownC t c i x := by
  unfold ownC; rw [h0, h5]
theorem free_own {x : Int} (h : iK (c (pl t x 0)) = 1) : 2 ≤ 2 + logF (iL (c (pl t x 0))) ∧ 2 + logF (iL (c (pl t x 0))) ≤ 12 ∧ ownC t c (2 + logF (iL (c (pl t x 0)))) x = true := by
  have hb := inf_bd (c (pl t x 0))
  have hl := logF_bd (n := iL (c (pl t x 0))) (hb.2.2.2.2.2.2.1 (by omega)).2 (by omega)
  refine ⟨by omega, by omega, ?_⟩
  unfold ownC binnedB
  rw [if_pos (by omega)]
  simp [h]; omega
/-- a free span y beside what is in hand comes into hand: its border z holds nothing more. -/
theorem Hand.absorb (h : Hand t P c L a b l1 l2) (ht : 1 ≤ t) (hab : a < b) {y z a' b' : Int} {m1 m2 : List Int} (hy : y ∈ l1 ∨ y ∈ l2) (hf : iK (c (pl t y 0)) = 1)
    (hz : (z = a ∧ y + iL (c (pl t y 0)) = a ∧ a' = y ∧ b' = b) ∨ (z = b ∧ y = b ∧ a' = a ∧ b' = b + iL (c (pl t y 0))))
    (hm : ∀ x, (x ∈ l1 ∨ x ∈ l2) ↔ (x = y ∨ x ∈ m1 ∨ x ∈ m2)) (hym : ¬ (y ∈ m1 ∨ y ∈ m2)) (t1 : Tile (cg t c 0) a' 0 m1) (t2 : Tile (cg t c 0) P b' m2)
    (p1 : ApL (cg t c 0) m1) (p2 : ApL (cg t c 0) m2) (hs : sumF (cg t c 0) l1 + sumF (cg t c 0) l2 = sumF (cg t c 0) m1 + sumF (cg t c 0) m2 + iL (c (pl t y 0))) :
    LkOK t P c y ∧ ∃ L', Hand t P (upI (upI (pullC t (2 + logF (iL (c (pl t y 0)))) y c) (pl t z 0) 0) (pl t (z - 1) 1) 0) L' a' b' m1 m2 := by
  have ha0 := h.a0
  have hbP := h.bP
  have hyr : 0 ≤ y ∧ y < P ∧ (y < a ∨ b ≤ y) ∧ y + iL (c (pl t y 0)) ≤ P ∧ (y < a → y + iL (c (pl t y 0)) ≤ a) := by
    rcases hy with hy | hy
    · have h3 := h.t1.ge y hy
      have h4 := h.t1.end_le y hy
      have h5 : y + iL (c (pl t y 0)) ≤ a := h4.1
      omega
    · have h3 := h.t2.ge y hy
      have h4 := h.t2.end_le y hy
      have h5 : y + iL (c (pl t y 0)) ≤ P := h4.1
      omega
  have hn1 : 1 ≤ iL (c (pl t y 0)) := ((inf_bd (c (pl t y 0))).2.2.2.2.2.2.1 (by omega)).2
  obtain ⟨o2, o12, ho⟩ := free_own hf
  obtain ⟨hlk, L', k⟩ := h.lst.pull ht (a := 2 + logF (iL (c (pl t y 0)))) (q := y) o2 (by omega) hyr.1 hyr.2.1 ⟨ho, by omega⟩
  refine ⟨hlk, L', ?_⟩
  have hzr : 0 ≤ z ∧ z < P := by omega
  -- what c' holds
  obtain ⟨n, hn⟩ : ∃ n, n = iL (c (pl t y 0)) := ⟨_, rfl⟩
  obtain ⟨bin, hbin⟩ : ∃ bin, bin = 2 + logF (iL (c (pl t y 0))) := ⟨_, rfl⟩
  rw [← hn] at hz hyr hn1 hs
  rw [← hbin] at k o2 o12 ho ⊢
  have g0 : ∀ x, 0 ≤ x → (upI (upI (pullC t bin y c) (pl t z 0) 0) (pl t (z - 1) 1) 0) (pl t x 0) = if x = z then 0 else c (pl t x 0) := by
    intro x x0
    rw [upI_other _ (pl_ne (by omega) (by omega) (by omega) (by omega) (by omega))]
    by_cases e : x = z
    · rw [e, upI_same, if_pos rfl]
    · rw [upI_other _ (fun e2 => e (pl_inj.1 e2)), if_neg e]
      exact pullC_pg ht (by omega) hlk x0 (by omega) (by omega) (by omega) (by omega)
  have g1 : ∀ x, 0 ≤ x → (upI (upI (pullC t bin y c) (pl t z 0) 0) (pl t (z - 1) 1) 0) (pl t x 1) = if x = z - 1 then 0 else c (pl t x 1) := by
    intro x x0
    by_cases e : x = z - 1
    · rw [e, upI_same, if_pos rfl]
    · rw [upI_other _ (fun e2 => e (pl_inj.1 e2)), if_neg e, upI_other _ (pl_ne (by omega) (by omega) (by omega) (by omega) (by omega))]
      exact pullC_pg ht (by omega) hlk x0 (by omega) (by omega) (by omega) (by omega)
  have gk : ∀ x j, 0 ≤ x → j = 4 ∨ j = 5 → (upI (upI (pullC t bin y c) (pl t z 0) 0) (pl t (z - 1) 1) 0) (pl t x j) = c (pl t x j) := by
    intro x j x0 hj
    rw [upI_other _ (pl_ne (by omega) (by omega) (by omega) (by omega) (by omega)), upI_other _ (pl_ne (by omega) (by omega) (by omega) (by omega) (by omega))]
    exact pullC_pg ht (by omega) hlk x0 (by omega) (by omega) (by omega) (by omega)
  have gl : ∀ x, 0 ≤ x → ((upI (upI (pullC t bin y c) (pl t z 0) 0) (pl t (z - 1) 1) 0) (pl t x 2) = pullC t bin y c (pl t x 2) ∧ (upI (upI (pullC t bin y c) (pl t z 0) 0) (pl t (z - 1) 1) 0) (pl t x 3) = pullC t bin y c (pl t x 3)) := by
    intro x x0
    constructor
    all_goals rw [upI_other _ (pl_ne (by omega) (by omega) (by omega) (by omega) (by omega)), upI_other _ (pl_ne (by omega) (by omega) (by omega) (by omega) (by omega))]
  have glo : ∀ i, i < 30 → (upI (upI (pullC t bin y c) (pl t z 0) 0) (pl t (z - 1) 1) 0) i = pullC t bin y c i := by
    intro i hi
    rw [upI_other _ (pl_low ht (by omega) (by omega) hi), upI_other _ (pl_low ht (by omega) (by omega) hi)]
  have gc0 : (upI (upI (pullC t bin y c) (pl t z 0) 0) (pl t (z - 1) 1) 0) 0 = c 0 := by
    rw [glo 0 (by omega)]; exact pullC_lo ht hlk (by omega) (by omega)
  generalize (upI (upI (pullC t bin y c) (pl t z 0) 0) (pl t (z - 1) 1) 0) = d at *
  -- spans that are left lie beside z
  have hmr : ∀ x, x ∈ m1 ∨ x ∈ m2 → 0 ≤ x ∧ x < P ∧ x ≠ z ∧ (x + iL (c (pl t x 0)) ≤ a' ∨ b' ≤ x) ∧ 1 ≤ iL (c (pl t x 0)) ∧ x + iL (c (pl t x 0)) ≤ P := by
    rintro x (hx | hx)
    · have h3 := t1.ge x hx
      have h4 : x + iL (c (pl t x 0)) ≤ a' := (t1.end_le x hx).1
      have h5 : 1 ≤ iL (c (pl t x 0)) := t1.len hx
      omega
    · have h3 := t2.ge x hx
      have h4 : x + iL (c (pl t x 0)) ≤ P := (t2.end_le x hx).1
      have h5 : 1 ≤ iL (c (pl t x 0)) := t2.len hx
      omega
  have e0 : ∀ x, x ∈ m1 ∨ x ∈ m2 → cg t d 0 x = cg t c 0 x := fun x hx => by
    have := hmr x hx
    show d (pl t x 0) = c (pl t x 0)
    rw [g0 x (by omega), if_neg (by omega)]
  refine ⟨by omega, by omega, by omega, t1.congr fun x hx => e0 x (Or.inl hx), t2.congr fun x hx => e0 x (Or.inr hx), fun x x0 x1 h1 h2 hx => ?_, fun x hx => ?_, fun x x0 x1 hx hx2 => ?_, p1.congr fun x hx => e0 x (Or.inl hx), p2.congr fun x hx => e0 x (Or.inr hx), fun x x0 x1 i hi => ?_, fun x x0 x1 hx h3 => ?_, fun i i2 i21 => ?_, fun i x i2 i21 x0 x1 => ?_, fun x x0 x1 hx => ?_, ?_⟩
  · rw [g0 x x0]
    split
    · rfl
    · rename_i hxz
      by_cases exy : x = y
      · exfalso; omega
      · refine h.zero x x0 x1 (fun hm1 => ?_) (fun hm2 => ?_) (by omega)
        · rcases (hm x).1 (Or.inl hm1) with e | e | e
          · exact exy e
          · exact h1 e
          · exact h2 e
        · rcases (hm x).1 (Or.inr hm2) with e | e | e
          · exact exy e
          · exact h1 e
          · exact h2 e
  · have h3 := hmr x hx
    have h4 : d (pl t x 0) = c (pl t x 0) := e0 x hx
    rw [h4, g1 _ (by omega), if_neg (by omega)]
    exact h.foot1 x ((hm x).2 (Or.inr hx))
  · rw [g1 x x0]
    split
    · rfl
    · rename_i hxz
      refine h.foot0 x x0 x1 (fun w hw => ?_) (by omega)
      rcases (hm w).1 hw with e | e
      · subst e; rw [← hn]; omega
      · have h4 : d (pl t w 0) = c (pl t w 0) := e0 w e
        rw [← h4]; exact hx w e
  · rw [gk x 4 x0 (Or.inl rfl), gk x 5 x0 (Or.inr rfl)]
    obtain ⟨i1, i2⟩ := h.bits x x0 x1 i hi
    refine ⟨i1, fun hb => ?_⟩
    obtain ⟨j1, j2, j3⟩ := i2 hb
    have hxm : x ∈ l1 ∨ x ∈ l2 := by
      by_cases e : x ∈ l1 ∨ x ∈ l2
      · exact e
      · have := h.kind0 x0 x1 (fun e1 => e (Or.inl e1)) (fun e1 => e (Or.inr e1)) (by omega)
        omega
    have hxy : x ≠ y := fun e => by subst e; omega
    have hxm2 : x ∈ m1 ∨ x ∈ m2 := ((hm x).1 hxm).resolve_left hxy
    have h3 := hmr x hxm2
    rw [g0 x x0, if_neg h3.2.2.1]
    exact ⟨j1, j2, by omega⟩
  · rw [gk x 5 x0 (Or.inr rfl)]
    rw [g0 x x0] at h3
    split at h3
    · simp [iK_0] at h3
    · exact h.taken x x0 x1 (by omega) h3
  · exact (k.lists i i2 i21).congr (glo i (by omega)) fun x x0 _ => gl x x0
  · rw [k.own_ i x i2 i21 x0 x1]
    by_cases hxz : x = z
    · have : ownC t d i x = true → False := fun e => by
        have := own_kind e
        rw [g0 x x0, if_pos hxz] at this
        simp [iK_0] at this
      constructor
      · rintro ⟨⟨e1, e2⟩, e3⟩
        exfalso
        rcases hz with ⟨z1, z2, z3, z4⟩ | ⟨z1, z2, z3, z4⟩ <;> omega
      · exact fun e => absurd e.1 this
    · rw [own_congr (c := c) (by rw [g0 x x0, if_neg hxz]) (gk x 5 x0 (Or.inr rfl))]
      constructor
      · rintro ⟨⟨e1, e2⟩, e3⟩
        refine ⟨e1, fun e4 => ?_⟩
        have hk := own_kind e1
        have hxm : ¬ (x ∈ l1 ∨ x ∈ l2) := fun e5 => by
          have h3 := hmr x (((hm x).1 e5).resolve_left e3)
          omega
        have := h.kind0 x0 x1 (fun e5 => hxm (Or.inl e5)) (fun e5 => hxm (Or.inr e5)) (by omega)
        omega
      · rintro ⟨e1, e2⟩
        exact ⟨⟨e1, by omega⟩, fun e3 => by subst e3; omega⟩
  · rw [(gl x x0).1, (gl x x0).2]
    exact k.loose x x0 x1 fun i i2 i21 e => hx i i2 i21 ((k.own_ i x i2 i21 x0 x1).2 e)
  · rw [gc0, h.free, sumF_congr (fun x hx => e0 x (Or.inl hx)), sumF_congr (fun x hx => e0 x (Or.inr hx)), hs, if_pos hab, if_pos (by omega)]
    omega
end
end Go.Proofs.YtpmoajhpgekhcaaGreat
/- a slab comes into hand; what is in hand is given back as free pages; slots of a slab are given back. -/
set_option linter.unusedSimpArgs false
set_option linter.unusedVariables false
namespace Go.Proofs.YtpmoajhpgekhcaaGreat
open Go.RowKit

theorem bitI_nat (v i : Nat) (h : i < 32) : bitB (v : Int) i = v.testBit i := by
  have e : (v : Int) / 2 ^ i % 2 = ((v / 2 ^ i % 2 : Nat) : Int) := by simp
  unfold bitB
  rw [e, Nat.testBit_eq_decide_div_mod_eq]
  simp only [h, decide_true, Bool.true_and]
  rcases Nat.mod_two_eq_zero_or_one (v / 2 ^ i) with h2 | h2
  · rw [h2]; rfl
  · rw [h2]; rfl
theorem bit_ext {u v : Int} (hu : VS.U32 u) (hv : VS.U32 v) (h : ∀ i : Nat, i < 32 → bitB u i = bitB v i) : u = v := by
  obtain ⟨u0, u1⟩ := hu
  obtain ⟨v0, v1⟩ := hv
  have e : u.toNat = v.toNat := by
    apply Nat.eq_of_testBit_eq
    intro i
    by_cases hi : i < 32
    · have := h i hi
      rw [show u = ((u.toNat : Nat) : Int) by omega, show v = ((v.toNat : Nat) : Int) by omega, bitI_nat _ _ hi, bitI_nat _ _ hi] at this
      simpa using this
    · have hp : 2 ^ 32 ≤ 2 ^ i := Nat.pow_le_pow_right (by omega) (by omega)
      rw [Nat.testBit_lt_two_pow (Nat.lt_of_lt_of_le (by omega : u.toNat < 2 ^ 32) hp), Nat.testBit_lt_two_pow (Nat.lt_of_lt_of_le (by omega : v.toNat < 2 ^ 32) hp)]
  omega
theorem bit_zero (i : Nat) : bitB 0 i = false := by simp [bitB]
theorem ones_mono {u v : Int} : ∀ k : Nat, (∀ i, i < k → bitB u i = true → bitB v i = true) → onesN u k ≤ onesN v k ∧ (onesN u k = onesN v k → ∀ i, i < k → bitB u i = bitB v i)
  | 0, _ => ⟨Nat.le_refl _, fun _ i hi => by omega⟩
  | k + 1, h => by
    obtain ⟨i1, i2⟩ := ones_mono k (fun i hi => h i (by omega))
    have h1 := h k (by omega)
    unfold onesN
    cases eu : bitB u k <;> cases ev : bitB v k
    · simp only [Bool.false_eq_true, if_false]
      refine ⟨by omega, fun e i hi => ?_⟩
      by_cases ek : i = k
      · subst ek; rw [eu, ev]
      · exact i2 (by omega) i (by omega)
    · simp only [Bool.false_eq_true, if_false, if_true]
      exact ⟨by omega, fun e => by omega⟩
    · rw [eu, ev] at h1; simp at h1
    · simp only [if_true]
      refine ⟨by omega, fun e i hi => ?_⟩
      by_cases ek : i = k
      · subst ek; rw [eu, ev]
      · exact i2 (by omega) i (by omega)
theorem ones_bound {v s : Int} (h0 : 0 ≤ s) : ∀ k : Nat, (∀ i : Nat, i < k → bitB v i = true → (i : Int) < s) → (onesN v k : Int) ≤ s ∧ onesN v k ≤ k
  | 0, _ => ⟨by simpa [onesN] using h0, Nat.le_refl _⟩
  | k + 1, h => by
    obtain ⟨i1, i2⟩ := ones_bound h0 k (fun i hi => h i (by omega))
    unfold onesN
    cases e : bitB v k
    · simp only [Bool.false_eq_true, if_false]; exact ⟨by omega, by omega⟩
    · have := h k (by omega) e
      simp only [if_true]; exact ⟨by omega, by omega⟩
/-- a slab whose live slots are fewer than those that were taken is not full. -/
theorem less_full {u v k : Int} (hu : VS.U32 u) (hv : VS.U32 v) (hne : u ≠ v) (hs : ∀ i : Nat, i < 32 → (bitB u i = true → bitB v i = true) ∧ (bitB v i = true → (i : Int) < slotsF k)) : fullB u k = false := by
  obtain ⟨m1, m2⟩ := ones_mono (u := u) (v := v) 32 (fun i hi => (hs i hi).1)
  obtain ⟨b1, -⟩ := ones_bound (v := v) (s := slotsF k) (slots_bd k).1 32 (fun i hi => (hs i hi).2)
  have hlt : onesN u 32 < onesN v 32 := by
    rcases Nat.lt_or_ge (onesN u 32) (onesN v 32) with h | h
    · exact h
    · exact absurd (bit_ext hu hv (m2 (by omega))) hne
  unfold fullB
  simp; omega

section
variable {t P : Int} {c : Int → Int} {L : Int → List Int} {a b q : Int} {l l1 l2 : List Int}
theorem Hand.cut (h : Hand t P c L 0 0 [] (l1 ++ l2)) : ∃ m, Hand t P c L m m l1 l2 := by
  obtain ⟨m, h1, h2, h3⟩ := Tile.app.1 h.t2
  have hm := h1.le
  obtain ⟨p1, p2⟩ := h.ap2.split
  refine ⟨m, ⟨hm, Int.le_refl _, h3, h1, h2, fun x x0 x1 a1 a2 _ => h.zero x x0 x1 (by simp) (by simp [a1, a2]) (Or.inr rfl), fun y hy => h.foot1 y (Or.inr (by simpa using hy)), fun x x0 x1 hx _ => h.foot0 x x0 x1 (fun y hy => hx y (by simpa using hy)) (Or.inr rfl), p1, p2, fun x x0 x1 i hi => ?_, fun x x0 x1 _ => h.taken x x0 x1 (by omega), h.lists, fun i x i2 i21 x0 x1 => ?_, h.loose, ?_⟩⟩
  · obtain ⟨j1, j2⟩ := h.bits x x0 x1 i hi
    exact ⟨j1, fun e => ⟨(j2 e).1, (j2 e).2.1, by omega⟩⟩
  · rw [h.own i x i2 i21 x0 x1]
    exact ⟨fun e => ⟨e.1, by omega⟩, fun e => ⟨e.1, by omega⟩⟩
  · have := h.free
    rw [sumF_app] at this
    simp [sumF] at this ⊢
    omega

/-- a slab of which no slot is live comes into hand. -/
theorem Hand.take (h : Hand t P c L q q l1 (q :: l2)) (ht : 1 ≤ t) (hk : iK (c (pl t q 0)) = 3) (hl : c (pl t q 4) = 0) :
    (fullB (c (pl t q 5)) (iC (c (pl t q 0))) = false → LkOK t P (upI c (pl t q 5) 0) q) ∧ 2 ≤ 13 + iC (c (pl t q 0)) ∧ 13 + iC (c (pl t q 0)) ≤ 21 ∧
    ∃ L', Hand t P (if fullB (c (pl t q 5)) (iC (c (pl t q 0))) = true then upI c (pl t q 5) 0 else pullC t (13 + iC (c (pl t q 0))) q (upI c (pl t q 5) 0)) L' q (q + 1) l1 l2 := by
  have hb := inf_bd (c (pl t q 0))
  obtain ⟨-, hqP, -, ht2⟩ := h.t2
  have hq0 := h.a0
  have hlen : iL (c (pl t q 0)) = 1 := inf_slab3 _ hk
  have ht2' : Tile (cg t c 0) P (q + 1) l2 := by
    have : Tile (cg t c 0) P (q + iL (c (pl t q 0))) l2 := ht2
    rwa [hlen] at this
  -- the lists, before the pull
  have k1 : Lst t P (upI c (pl t q 5) 0) L (fun i x => ownC t c i x = true) := h.lst.congr (fun i i2 i21 => upI_other _ (pl_low ht hq0 (by omega) (by omega))) (fun x x0 x1 => ⟨upI_other _ (pl_ne (by omega) (by omega) (by omega) (by omega) (by omega)), upI_other _ (pl_ne (by omega) (by omega) (by omega) (by omega) (by omega))⟩) (fun i x i2 i21 x0 x1 => ⟨fun e => ⟨e, by omega⟩, fun e => e.1⟩) (fun i i' x i2 _ i2' _ e e' => ownC_one i2 i2' e e')
  have key : ∀ (d : Int → Int) (L' : Int → List Int), (∀ x j, 0 ≤ x → (j = 0 ∨ j = 1 ∨ j = 4) → d (pl t x j) = c (pl t x j)) → (∀ x, 0 ≤ x → d (pl t x 5) = if x = q then 0 else c (pl t x 5)) → d 0 = c 0 → Lst t P d L' (fun i x => ownC t c i x = true ∧ x ≠ q) → Hand t P d L' q (q + 1) l1 l2 := by
    intro d L' g0 g5 gc k
    have e0 : ∀ x, 0 ≤ x → cg t d 0 x = cg t c 0 x := fun x x0 => g0 x 0 x0 (Or.inl rfl)
    have r1 : ∀ x ∈ l1, 0 ≤ x := fun x hx => (h.t1.ge x hx).1
    have r2 : ∀ x ∈ l2, q + 1 ≤ x := fun x hx => (ht2'.ge x hx).1
    refine ⟨hq0, by omega, by omega, h.t1.congr fun x hx => e0 x (r1 x hx), ht2'.congr fun x hx => e0 x (by have := r2 x hx; omega), fun x x0 x1 a1 a2 hx => ?_, fun y hy => ?_, fun x x0 x1 hx hx2 => ?_, h.ap1.congr fun x hx => e0 x (r1 x hx), h.ap2.2.congr fun x hx => e0 x (by have := r2 x hx; omega), fun x x0 x1 i hi => ?_, fun x x0 x1 hx h3 => ?_, k.lists, fun i x i2 i21 x0 x1 => ?_, fun x x0 x1 hx => ?_, ?_⟩
    · rw [g0 x 0 x0 (Or.inl rfl)]
      exact h.zero x x0 x1 a1 (by simp [a2]; omega) (Or.inr rfl)
    · have hy0 : 0 ≤ y := by
        rcases hy with hy | hy
        · exact r1 y hy
        · have := r2 y hy; omega
      have hyl : 1 ≤ iL (c (pl t y 0)) := by
        rcases hy with hy | hy
        · exact h.t1.len hy
        · exact ht2'.len hy
      rw [g0 y 0 hy0 (Or.inl rfl), g0 _ 1 (by omega) (Or.inr (Or.inl rfl))]
      exact h.foot1 y (hy.imp id (fun e => by simp [e]))
    · rw [g0 x 1 x0 (Or.inr (Or.inl rfl))]
      refine h.foot0 x x0 x1 (fun y hy => ?_) (Or.inr rfl)
      by_cases e : y = q
      · subst e; rw [hlen]; omega
      · have hy2 : y ∈ l1 ∨ y ∈ l2 := hy.imp id (fun e2 => (List.mem_cons.1 e2).resolve_left e)
        have hy0 : 0 ≤ y := by
          rcases hy2 with hy | hy
          · exact r1 y hy
          · have := r2 y hy; omega
        have := hx y hy2
        rwa [g0 y 0 hy0 (Or.inl rfl)] at this
    · rw [g0 x 4 x0 (Or.inr (Or.inr rfl)), g0 x 0 x0 (Or.inl rfl), g5 x x0]
      obtain ⟨j1, j2⟩ := h.bits x x0 x1 i hi
      by_cases e : x = q
      · subst e
        rw [hl, if_pos rfl, bit_zero]; simp
      · rw [if_neg e]
        exact ⟨j1, fun e2 => ⟨(j2 e2).1, (j2 e2).2.1, by omega⟩⟩
    · rw [g0 x 0 x0 (Or.inl rfl)] at h3
      rw [g5 x x0, if_neg (by omega)]
      exact h.taken x x0 x1 (by omega) h3
    · rw [k.own_ i x i2 i21 x0 x1]
      by_cases e : x = q
      · constructor
        · exact fun e2 => absurd e e2.2
        · intro e2; omega
      · rw [own_congr (c := c) (g0 x 0 x0 (Or.inl rfl)) (by rw [g5 x x0, if_neg e])]
        exact ⟨fun e2 => ⟨e2.1, by omega⟩, fun e2 => ⟨e2.1, e⟩⟩
    · exact k.loose x x0 x1 fun i i2 i21 e => hx i i2 i21 ((k.own_ i x i2 i21 x0 x1).2 e)
    · have hf := h.free
      have e1 : sumF (cg t c 0) (q :: l2) = sumF (cg t c 0) l2 := by
        show (if iK (cg t c 0 q) = 1 then iL (cg t c 0 q) else 0) + sumF (cg t c 0) l2 = _
        rw [if_neg (show ¬ iK (cg t c 0 q) = 1 by show ¬ iK (c (pl t q 0)) = 1; omega)]; omega
      rw [gc, hf, e1, sumF_congr (fun x hx => e0 x (r1 x hx)), sumF_congr (l := l2) (fun x hx => e0 x (by have := r2 x hx; omega)), if_neg (by omega), if_pos (by omega)]
      omega
  refine ⟨fun hfull => ?_, by omega, by omega, ?_⟩
  · refine (k1.pull ht (a := 13 + iC (c (pl t q 0))) (by omega) (by omega) hq0 hqP ?_).1
    unfold ownC rackedB
    rw [if_neg (by omega), show 13 + iC (c (pl t q 0)) - 13 = iC (c (pl t q 0)) by omega]
    simp [hk, hfull]
  · cases hfull : fullB (c (pl t q 5)) (iC (c (pl t q 0)))
    · rw [if_neg (by simp)]
      obtain ⟨hlk, L', k⟩ := k1.pull ht (a := 13 + iC (c (pl t q 0))) (q := q) (by omega) (by omega) hq0 hqP (by
        unfold ownC rackedB
        rw [if_neg (by omega), show 13 + iC (c (pl t q 0)) - 13 = iC (c (pl t q 0)) by omega]
        simp [hk, hfull])
      refine ⟨L', key _ L' (fun x j x0 hj => ?_) (fun x x0 => ?_) ?_ k⟩
      · rw [pullC_pg ht (by omega) hlk x0 (by omega) (by omega) (by omega) (by omega)]
        exact upI_other _ (pl_ne (by omega) (by omega) (by omega) (by omega) (by omega))
      · rw [pullC_pg ht (by omega) hlk x0 (by omega) (by omega) (by omega) (by omega)]
        by_cases e : x = q
        · rw [e, upI_same, if_pos rfl]
        · rw [upI_other _ (fun e2 => e (pl_inj.1 e2)), if_neg e]
      · rw [pullC_lo ht hlk (by omega) (by omega)]
        exact upI_other _ (pl_low ht hq0 (by omega) (by omega))
    · rw [if_pos rfl]
      refine ⟨L, key _ L (fun x j x0 hj => upI_other _ (pl_ne (by omega) (by omega) (by omega) (by omega) (by omega))) (fun x x0 => ?_) (upI_other _ (pl_low ht hq0 (by omega) (by omega))) (k1.congr (fun _ _ _ => rfl) (fun _ _ _ => ⟨rfl, rfl⟩) (fun i x i2 i21 x0 x1 => ?_) (fun i i' x i2 _ i2' _ e e' => ownC_one i2 i2' e.1 e'.1))⟩
      · by_cases e : x = q
        · rw [e, upI_same, if_pos rfl]
        · rw [upI_other _ (fun e2 => e (pl_inj.1 e2)), if_neg e]
      · refine ⟨fun e => e.1, fun e => ⟨e, fun e2 => ?_⟩⟩
        subst e2
        unfold ownC binnedB rackedB at e
        split at e
        · simp at e; omega
        · simp at e
          rw [← e.1.2, hfull] at e
          simp at e

/-- what is in hand is given back. -/
theorem Hand.give (h : Hand t P c L a b l1 l2) (ht : 1 ≤ t) (hP : P ≤ 1024) (hab : a < b) (hl : NoLast (cg t c 0) l1) (hh : NoHead (cg t c 0) l2) :
    0 ≤ logF (b - a) ∧ logF (b - a) ≤ 10 ∧ ((upI (upI c (pl t a 0) (1 + 16 * (b - a))) (pl t (b - 1) 1) (a + 1)) (2 + logF (b - a)) = 0 ∨ (1 ≤ (upI (upI c (pl t a 0) (1 + 16 * (b - a))) (pl t (b - 1) 1) (a + 1)) (2 + logF (b - a)) ∧ (upI (upI c (pl t a 0) (1 + 16 * (b - a))) (pl t (b - 1) 1) (a + 1)) (2 + logF (b - a)) ≤ P)) ∧
    (pushC t (2 + logF (b - a)) a (upI (upI c (pl t a 0) (1 + 16 * (b - a))) (pl t (b - 1) 1) (a + 1))) 0 = c 0 ∧ 0 ≤ c 0 ∧ c 0 ≤ P ∧
    ∃ L', Hand t P (upI (pushC t (2 + logF (b - a)) a (upI (upI c (pl t a 0) (1 + 16 * (b - a))) (pl t (b - 1) 1) (a + 1))) 0 (c 0 + 1)) L' 0 0 [] (l1 ++ a :: l2) := by
  have ha0 := h.a0
  have hbP := h.bP
  obtain ⟨n, hn⟩ : ∃ n, n = b - a := ⟨_, rfl⟩
  rw [← hn]
  obtain ⟨f1, f2⟩ := inf_free (n := n) (by omega) (by omega)
  have lb := logF_bd (n := n) (by omega) (by omega)
  have k1 : Lst t P (upI (upI c (pl t a 0) (1 + 16 * n)) (pl t (b - 1) 1) (a + 1)) L (fun i x => ownC t c i x = true ∧ ¬ (a ≤ x ∧ x < b)) := h.lst.congr (fun i i2 i21 => by rw [upI_other _ (pl_low ht (by omega) (by omega) (by omega)), upI_other _ (pl_low ht (by omega) (by omega) (by omega))]) (fun x x0 x1 => by
    constructor
    all_goals rw [upI_other _ (pl_ne (by omega) (by omega) (by omega) (by omega) (by omega)), upI_other _ (pl_ne (by omega) (by omega) (by omega) (by omega) (by omega))]) (fun i x i2 i21 x0 x1 => Iff.rfl) (fun i i' x i2 _ i2' _ e e' => ownC_one i2 i2' e.1 e'.1)
  obtain ⟨hk, L', k⟩ := k1.push ht (a := 2 + logF n) (q := a) (by omega) (by omega) ha0 (by omega) (fun i _ _ e => e.2 ⟨by omega, hab⟩)
  have gp : ∀ x j, 0 ≤ x → (j = 0 ∨ j = 1 ∨ j = 4 ∨ j = 5) → (pushC t (2 + logF n) a (upI (upI c (pl t a 0) (1 + 16 * n)) (pl t (b - 1) 1) (a + 1))) (pl t x j) = (upI (upI c (pl t a 0) (1 + 16 * n)) (pl t (b - 1) 1) (a + 1)) (pl t x j) := fun x j x0 hj => pushC_pg ht (by omega) ha0 (by omega) hk x0 (by omega) (by omega) (by omega) (by omega)
  have gz : (pushC t (2 + logF n) a (upI (upI c (pl t a 0) (1 + 16 * n)) (pl t (b - 1) 1) (a + 1))) 0 = c 0 := by
    rw [pushC_lo ht ha0 (by omega) hk (by omega) (by omega), upI_other _ (pl_low ht (by omega) (by omega) (by omega)), upI_other _ (pl_low ht (by omega) (by omega) (by omega))]
  have hf := h.free
  have s1 := sumF_le h.t1
  have s2 := sumF_le h.t2
  rw [if_pos hab] at hf
  refine ⟨lb.1, lb.2, hk, gz, by omega, by omega, L', ?_⟩
  have gn : ∀ x j, 0 ≤ x → 0 ≤ j → (upI (pushC t (2 + logF n) a (upI (upI c (pl t a 0) (1 + 16 * n)) (pl t (b - 1) 1) (a + 1))) 0 (c 0 + 1)) (pl t x j) = (pushC t (2 + logF n) a (upI (upI c (pl t a 0) (1 + 16 * n)) (pl t (b - 1) 1) (a + 1))) (pl t x j) := fun x j x0 j0 => upI_other _ (fun e => (pl_low (i := 0) ht x0 j0 (by omega)) e.symm)
  have g0 : ∀ x, 0 ≤ x → (upI (pushC t (2 + logF n) a (upI (upI c (pl t a 0) (1 + 16 * n)) (pl t (b - 1) 1) (a + 1))) 0 (c 0 + 1)) (pl t x 0) = if x = a then 1 + 16 * n else c (pl t x 0) := by
    intro x x0
    rw [gn x 0 x0 (by omega), gp x 0 x0 (Or.inl rfl), upI_other _ (pl_ne (by omega) (by omega) (by omega) (by omega) (by omega))]
    by_cases e : x = a
    · rw [e, upI_same, if_pos rfl]
    · rw [upI_other _ (fun e2 => e (pl_inj.1 e2)), if_neg e]
  have g1 : ∀ x, 0 ≤ x → (upI (pushC t (2 + logF n) a (upI (upI c (pl t a 0) (1 + 16 * n)) (pl t (b - 1) 1) (a + 1))) 0 (c 0 + 1)) (pl t x 1) = if x = b - 1 then a + 1 else c (pl t x 1) := by
    intro x x0
    rw [gn x 1 x0 (by omega), gp x 1 x0 (Or.inr (Or.inl rfl))]
    by_cases e : x = b - 1
    · rw [e, upI_same, if_pos rfl]
    · rw [upI_other _ (fun e2 => e (pl_inj.1 e2)), if_neg e, upI_other _ (pl_ne (by omega) (by omega) (by omega) (by omega) (by omega))]
  have gk : ∀ x j, 0 ≤ x → (j = 4 ∨ j = 5) → (upI (pushC t (2 + logF n) a (upI (upI c (pl t a 0) (1 + 16 * n)) (pl t (b - 1) 1) (a + 1))) 0 (c 0 + 1)) (pl t x j) = c (pl t x j) := by
    intro x j x0 hj
    rw [gn x j x0 (by omega), gp x j x0 (by omega), upI_other _ (pl_ne (by omega) (by omega) (by omega) (by omega) (by omega)), upI_other _ (pl_ne (by omega) (by omega) (by omega) (by omega) (by omega))]
  have glk : ∀ x, 0 ≤ x → (upI (pushC t (2 + logF n) a (upI (upI c (pl t a 0) (1 + 16 * n)) (pl t (b - 1) 1) (a + 1))) 0 (c 0 + 1)) (pl t x 2) = (pushC t (2 + logF n) a (upI (upI c (pl t a 0) (1 + 16 * n)) (pl t (b - 1) 1) (a + 1))) (pl t x 2) ∧ (upI (pushC t (2 + logF n) a (upI (upI c (pl t a 0) (1 + 16 * n)) (pl t (b - 1) 1) (a + 1))) 0 (c 0 + 1)) (pl t x 3) = (pushC t (2 + logF n) a (upI (upI c (pl t a 0) (1 + 16 * n)) (pl t (b - 1) 1) (a + 1))) (pl t x 3) := fun x x0 => ⟨gn x 2 x0 (by omega), gn x 3 x0 (by omega)⟩
  have glo : ∀ i, 2 ≤ i → i ≤ 21 → (upI (pushC t (2 + logF n) a (upI (upI c (pl t a 0) (1 + 16 * n)) (pl t (b - 1) 1) (a + 1))) 0 (c 0 + 1)) i = (pushC t (2 + logF n) a (upI (upI c (pl t a 0) (1 + 16 * n)) (pl t (b - 1) 1) (a + 1))) i := fun i i2 _ => upI_other _ (by omega)
  have gc : (upI (pushC t (2 + logF n) a (upI (upI c (pl t a 0) (1 + 16 * n)) (pl t (b - 1) 1) (a + 1))) 0 (c 0 + 1)) 0 = c 0 + 1 := upI_same _ _ _
  generalize (upI (pushC t (2 + logF n) a (upI (upI c (pl t a 0) (1 + 16 * n)) (pl t (b - 1) 1) (a + 1))) 0 (c 0 + 1)) = d at *
  have r1 : ∀ x ∈ l1, 0 ≤ x ∧ x < a ∧ x + iL (c (pl t x 0)) ≤ a ∧ 1 ≤ iL (c (pl t x 0)) := fun x hx => by
    have h1 := h.t1.ge x hx
    have h2 : x + iL (c (pl t x 0)) ≤ a := (h.t1.end_le x hx).1
    have h3 : 1 ≤ iL (c (pl t x 0)) := h.t1.len hx
    omega
  have r2 : ∀ x ∈ l2, b ≤ x ∧ x < P ∧ 1 ≤ iL (c (pl t x 0)) := fun x hx => by
    have h1 := h.t2.ge x hx
    have h3 : 1 ≤ iL (c (pl t x 0)) := h.t2.len hx
    omega
  have e1 : ∀ x ∈ l1, cg t d 0 x = cg t c 0 x := fun x hx => by
    have := r1 x hx
    show d (pl t x 0) = c (pl t x 0)
    rw [g0 x (by omega), if_neg (by omega)]
  have e2 : ∀ x ∈ l2, cg t d 0 x = cg t c 0 x := fun x hx => by
    have := r2 x hx
    show d (pl t x 0) = c (pl t x 0)
    rw [g0 x (by omega), if_neg (by omega)]
  have ea : cg t d 0 a = 1 + 16 * n := by
    show d (pl t a 0) = _
    rw [g0 a ha0, if_pos rfl]
  have t2 : Tile (cg t d 0) P a (a :: l2) := by
    refine ⟨rfl, by omega, by rw [ea]; omega, ?_⟩
    rw [ea, f2, show a + n = b by omega]
    exact h.t2.congr e2
  refine ⟨by omega, by omega, by omega, rfl, Tile.app.2 ⟨a, h.t1.congr e1, t2, by omega⟩, fun x x0 x1 _ hx _ => ?_, fun y hy => ?_, fun x x0 x1 hx _ => ?_, trivial, ?_, fun x x0 x1 i hi => ?_, fun x x0 x1 _ h3 => ?_, fun i i2 i21 => (k.lists i i2 i21).congr (glo i i2 i21) fun x x0 _ => glk x x0, fun i x i2 i21 x0 x1 => ?_, fun x x0 x1 hx => ?_, ?_⟩
  · have hxa : x ≠ a := fun e => hx (by simp [e])
    rw [g0 x x0, if_neg hxa]
    exact h.zero x x0 x1 (fun e => hx (by simp [e])) (fun e => hx (by simp [e])) (Or.inl hxa)
  · have hy2 : y ∈ l1 ∨ y = a ∨ y ∈ l2 := by simpa using hy
    rcases hy2 with hy2 | rfl | hy2
    · have h3 := r1 y hy2
      rw [show d (pl t y 0) = c (pl t y 0) from e1 y hy2, g1 _ (by omega), if_neg (by omega)]
      exact h.foot1 y (Or.inl hy2)
    · rw [show d (pl t y 0) = 1 + 16 * n from ea, f2, g1 _ (by omega), if_pos (by omega)]
    · have h3 := r2 y hy2
      rw [show d (pl t y 0) = c (pl t y 0) from e2 y hy2, g1 _ (by omega), if_neg (by omega)]
      exact h.foot1 y (Or.inr hy2)
  · have hxb : x ≠ b - 1 := fun e => hx a (Or.inr (by simp)) (by rw [show d (pl t a 0) = 1 + 16 * n from ea, f2]; omega)
    rw [g1 x x0, if_neg hxb]
    refine h.foot0 x x0 x1 (fun y hy => ?_) (Or.inl hxb)
    rcases hy with hy | hy
    · have := hx y (Or.inr (by simp [hy]))
      rwa [show d (pl t y 0) = c (pl t y 0) from e1 y hy] at this
    · have := hx y (Or.inr (by simp [hy]))
      rwa [show d (pl t y 0) = c (pl t y 0) from e2 y hy] at this
  · refine ApL.join (h.ap1.congr e1) (h.ap2.congr e2) (fun m f e => ?_) (fun m f e => ?_)
    · rw [e1 f (by rw [e]; simp)]; exact hl m f e
    · rw [e2 f (by rw [e]; simp)]; exact hh m f e
  · rw [gk x 4 x0 (Or.inl rfl), gk x 5 x0 (Or.inr rfl)]
    obtain ⟨j1, j2⟩ := h.bits x x0 x1 i hi
    refine ⟨j1, fun e => ?_⟩
    obtain ⟨i1, i2, i3⟩ := j2 e
    rw [g0 x x0, if_neg (by omega)]
    exact ⟨i1, i2, by omega⟩
  · rw [gk x 5 x0 (Or.inr rfl)]
    rw [g0 x x0] at h3
    split at h3
    · omega
    · rename_i hxa
      refine h.taken x x0 x1 (fun e => ?_) h3
      have := h.kind0 x0 x1 (fun e4 => by have := r1 x e4; omega) (fun e4 => by have := r2 x e4; omega) (Or.inl hxa)
      omega
  · rw [k.own_ i x i2 i21 x0 x1]
    by_cases hxa : x = a
    · subst hxa
      have ho : ownC t d i x = true ↔ i = 2 + logF n := by
        unfold ownC binnedB rackedB
        rw [show d (pl t x 0) = 1 + 16 * n from ea]
        split
        · simp only [f1, f2]; simp; omega
        · simp only [f1]; simp; omega
      rw [ho]
      constructor
      · rintro (e | e)
        · exact absurd ⟨by omega, hab⟩ e.2
        · exact ⟨e.1, by omega⟩
      · exact fun e => Or.inr ⟨e.1, rfl⟩
    · rw [own_congr (c := c) (by rw [g0 x x0, if_neg hxa]) (gk x 5 x0 (Or.inr rfl))]
      constructor
      · rintro (e | e)
        · exact ⟨e.1, by omega⟩
        · exact absurd e.2 hxa
      · rintro ⟨e, -⟩
        refine Or.inl ⟨e, fun e3 => ?_⟩
        have h4 := own_kind e
        have := h.kind0 x0 x1 (fun e4 => by have := r1 x e4; omega) (fun e4 => by have := r2 x e4; omega) (Or.inl hxa)
        omega
  · rw [(glk x x0).1, (glk x x0).2]
    exact k.loose x x0 x1 fun i i2 i21 e => hx i i2 i21 ((k.own_ i x i2 i21 x0 x1).2 e)
  · have e3 : sumF (cg t d 0) (a :: l2) = n + sumF (cg t d 0) l2 := by
      show (if iK (cg t d 0 a) = 1 then iL (cg t d 0 a) else 0) + sumF (cg t d 0) l2 = _
      rw [ea, f1, f2, if_pos rfl]
    rw [gc, sumF_app, e3, sumF_congr e1, sumF_congr e2, hf, if_neg (by omega)]
    simp [sumF]; omega

/-- slots of a slab are given back of which others are live. -/
theorem Hand.lower (h : Hand t P c L 0 0 [] l) (ht : 1 ≤ t) (hq0 : 0 ≤ q) (hq1 : q < P) (hk : iK (c (pl t q 0)) = 3) (hu : VS.U32 (c (pl t q 4))) (hv : VS.U32 (c (pl t q 5))) (hne : c (pl t q 4) ≠ c (pl t q 5)) (hl0 : c (pl t q 4) ≠ 0) :
    (fullB (c (pl t q 5)) (iC (c (pl t q 0))) = true → ((upI c (pl t q 5) (c (pl t q 4))) (13 + iC (c (pl t q 0))) = 0 ∨ (1 ≤ (upI c (pl t q 5) (c (pl t q 4))) (13 + iC (c (pl t q 0))) ∧ (upI c (pl t q 5) (c (pl t q 4))) (13 + iC (c (pl t q 0))) ≤ P))) ∧
    ∃ L', Hand t P (if fullB (c (pl t q 5)) (iC (c (pl t q 0))) = true then pushC t (13 + iC (c (pl t q 0))) q (upI c (pl t q 5) (c (pl t q 4))) else upI c (pl t q 5) (c (pl t q 4))) L' 0 0 [] l := by
  have hb := inf_bd (c (pl t q 0))
  have hnf : fullB (c (pl t q 4)) (iC (c (pl t q 0))) = false := less_full hu hv hne fun i hi => ⟨(h.bits q hq0 hq1 i hi).1, fun e => ((h.bits q hq0 hq1 i hi).2 e).2.1⟩
  have k1 : Lst t P (upI c (pl t q 5) (c (pl t q 4))) L (fun i x => ownC t c i x = true) := h.lst.congr (fun i i2 i21 => upI_other _ (pl_low ht hq0 (by omega) (by omega))) (fun x x0 x1 => ⟨upI_other _ (pl_ne (by omega) (by omega) (by omega) (by omega) (by omega)), upI_other _ (pl_ne (by omega) (by omega) (by omega) (by omega) (by omega))⟩) (fun i x i2 i21 x0 x1 => ⟨fun e => ⟨e, by omega⟩, fun e => e.1⟩) (fun i i' x i2 _ i2' _ e e' => ownC_one i2 i2' e e')
  have key : ∀ (d : Int → Int) (L' : Int → List Int), (∀ x j, 0 ≤ x → (j = 0 ∨ j = 1 ∨ j = 4) → d (pl t x j) = c (pl t x j)) → (∀ x, 0 ≤ x → d (pl t x 5) = if x = q then c (pl t q 4) else c (pl t x 5)) → d 0 = c 0 → Lst t P d L' (fun i x => if x = q then i = 13 + iC (c (pl t q 0)) else ownC t c i x = true) → Hand t P d L' 0 0 [] l := by
    intro d L' g0 g5 gc k
    have r2 : ∀ x ∈ l, 0 ≤ x ∧ 1 ≤ iL (c (pl t x 0)) := fun x hx => ⟨(h.t2.ge x hx).1, h.t2.len hx⟩
    have e0 : ∀ x ∈ l, cg t d 0 x = cg t c 0 x := fun x hx => g0 x 0 (r2 x hx).1 (Or.inl rfl)
    refine ⟨by omega, by omega, h.bP, rfl, h.t2.congr e0, fun x x0 x1 a1 a2 hx => ?_, fun y hy => ?_, fun x x0 x1 hx hx2 => ?_, trivial, h.ap2.congr e0, fun x x0 x1 i hi => ?_, fun x x0 x1 hx h3 => ?_, k.lists, fun i x i2 i21 x0 x1 => ?_, fun x x0 x1 hx => ?_, ?_⟩
    · rw [g0 x 0 x0 (Or.inl rfl)]
      exact h.zero x x0 x1 a1 a2 hx
    · have hy2 : y ∈ l := hy.resolve_left (by simp)
      have h3 := r2 y hy2
      rw [g0 y 0 h3.1 (Or.inl rfl), g0 _ 1 (by omega) (Or.inr (Or.inl rfl))]
      exact h.foot1 y hy
    · rw [g0 x 1 x0 (Or.inr (Or.inl rfl))]
      refine h.foot0 x x0 x1 (fun y hy => ?_) (Or.inr rfl)
      have hy2 : y ∈ l := hy.resolve_left (by simp)
      have := hx y hy
      rwa [g0 y 0 (r2 y hy2).1 (Or.inl rfl)] at this
    · rw [g0 x 4 x0 (Or.inr (Or.inr rfl)), g0 x 0 x0 (Or.inl rfl), g5 x x0]
      obtain ⟨j1, j2⟩ := h.bits x x0 x1 i hi
      by_cases e : x = q
      · subst e
        rw [if_pos rfl]
        exact ⟨id, fun e2 => j2 (j1 e2)⟩
      · rw [if_neg e]; exact ⟨j1, j2⟩
    · rw [g0 x 0 x0 (Or.inl rfl)] at h3
      rw [g5 x x0]
      split
      · exact hl0
      · exact h.taken x x0 x1 (by omega) h3
    · rw [k.own_ i x i2 i21 x0 x1]
      by_cases e : x = q
      · subst e
        rw [if_pos rfl]
        have ho : ownC t d i x = true ↔ i = 13 + iC (c (pl t x 0)) := by
          unfold ownC binnedB rackedB
          rw [g0 x 0 x0 (Or.inl rfl), g5 x x0, if_pos rfl]
          split
          · simp [hk]; omega
          · constructor
            · intro e2; simp [hk] at e2; omega
            · intro e2
              rw [show i - 13 = iC (c (pl t x 0)) by omega]
              simp [hk, hnf]
        rw [ho]
        exact ⟨fun e2 => ⟨e2, by omega⟩, fun e2 => e2.1⟩
      · rw [if_neg e, own_congr (c := c) (g0 x 0 x0 (Or.inl rfl)) (by rw [g5 x x0, if_neg e])]
        exact ⟨fun e2 => ⟨e2, by omega⟩, fun e2 => e2.1⟩
    · exact k.loose x x0 x1 fun i i2 i21 e => hx i i2 i21 ((k.own_ i x i2 i21 x0 x1).2 e)
    · rw [gc, h.free, sumF_congr e0]
      simp [sumF]
  have hone : ∀ i i' x, 2 ≤ i → i ≤ 21 → 2 ≤ i' → i' ≤ 21 → (if x = q then i = 13 + iC (c (pl t q 0)) else ownC t c i x = true) → (if x = q then i' = 13 + iC (c (pl t q 0)) else ownC t c i' x = true) → i = i' := by
    intro i i' x i2 _ i2' _ e e'
    by_cases hx : x = q
    · rw [if_pos hx] at e e'; omega
    · rw [if_neg hx] at e e'; exact ownC_one i2 i2' e e'
  have hqo : ∀ i, ownC t c i q = true ↔ (13 ≤ i ∧ i = 13 + iC (c (pl t q 0)) ∧ fullB (c (pl t q 5)) (iC (c (pl t q 0))) = false) := by
    intro i
    unfold ownC binnedB rackedB
    split
    · simp [hk]; omega
    · constructor
      · intro e; simp [hk] at e
        exact ⟨by omega, by omega, by rw [e.1]; exact e.2⟩
      · rintro ⟨e1, e2, e3⟩
        rw [show i - 13 = iC (c (pl t q 0)) by omega]
        simp [hk, e3]
  cases hfull : fullB (c (pl t q 5)) (iC (c (pl t q 0)))
  · refine ⟨fun e => (by cases e), L, ?_⟩
    rw [if_neg (by simp)]
    refine key _ L (fun x j x0 hj => upI_other _ (pl_ne (by omega) (by omega) (by omega) (by omega) (by omega))) (fun x x0 => ?_) (upI_other _ (pl_low ht hq0 (by omega) (by omega))) (k1.congr (fun _ _ _ => rfl) (fun _ _ _ => ⟨rfl, rfl⟩) (fun i x i2 i21 x0 x1 => ?_) hone)
    · by_cases e : x = q
      · rw [e, upI_same, if_pos rfl]
      · rw [upI_other _ (fun e2 => e (pl_inj.1 e2)), if_neg e]
    · by_cases e : x = q
      · subst e
        rw [if_pos rfl, hqo]
        exact ⟨fun e2 => ⟨by omega, e2, hfull⟩, fun e2 => e2.2.1⟩
      · rw [if_neg e]
  · obtain ⟨hk2, L', k⟩ := k1.push ht (a := 13 + iC (c (pl t q 0))) (q := q) (by omega) (by omega) hq0 hq1 (fun i _ _ e => by have := (hqo i).1 e; rw [hfull] at this; simp at this)
    refine ⟨fun _ => hk2, L', ?_⟩
    rw [if_pos rfl]
    refine key _ L' (fun x j x0 hj => ?_) (fun x x0 => ?_) ?_ (k.congr (fun _ _ _ => rfl) (fun _ _ _ => ⟨rfl, rfl⟩) (fun i x i2 i21 x0 x1 => ?_) hone)
    · rw [pushC_pg ht (by omega) hq0 hq1 hk2 x0 (by omega) (by omega) (by omega) (by omega)]
      exact upI_other _ (pl_ne (by omega) (by omega) (by omega) (by omega) (by omega))
    · rw [pushC_pg ht (by omega) hq0 hq1 hk2 x0 (by omega) (by omega) (by omega) (by omega)]
      by_cases e : x = q
      · rw [e, upI_same, if_pos rfl]
      · rw [upI_other _ (fun e2 => e (pl_inj.1 e2)), if_neg e]
    · rw [pushC_lo ht hq0 hq1 hk2 (by omega) (by omega)]
      exact upI_other _ (pl_low ht hq0 (by omega) (by omega))
    · by_cases e : x = q
      · subst e
        rw [if_pos rfl]
        constructor
        · exact fun e2 => Or.inr ⟨e2, rfl⟩
        · rintro (e2 | e2)
          · exact ((hqo i).1 e2).2.1
          · exact e2.1
      · rw [if_neg e]
        exact ⟨Or.inl, fun e2 => e2.elim id (fun e3 => absurd e3.2 e)⟩
end
end Go.Proofs.YtpmoajhpgekhcaaGreat
/- what sweeping a page makes of a heap. -/
set_option linter.unusedSimpArgs false
set_option linter.unusedVariables false
namespace Go.Proofs.YtpmoajhpgekhcaaGreat
open Go.RowKit

/-- every cell is a word of 32 bits. -/
def AU (c : Int → Int) : Prop := ∀ i, VS.U32 (c i)
theorem AU.up {c : Int → Int} (h : AU c) {v : Int} (i : Int) (hv : VS.U32 v) : AU (upI c i v) := fun j => by
  unfold upI; split
  · exact hv
  · exact h j
theorem AU.pull {c : Int → Int} (h : AU c) (t a q : Int) : AU (pullC t a q c) := by
  unfold pullC
  have h1 : AU (if c (pl t q 3) = 0 then upI c a (c (pl t q 2)) else upI c (pl t (c (pl t q 3) - 1) 2) (c (pl t q 2))) := by split <;> exact h.up _ (h _)
  have h2 : AU (if c (pl t q 2) = 0 then (if c (pl t q 3) = 0 then upI c a (c (pl t q 2)) else upI c (pl t (c (pl t q 3) - 1) 2) (c (pl t q 2))) else upI (if c (pl t q 3) = 0 then upI c a (c (pl t q 2)) else upI c (pl t (c (pl t q 3) - 1) 2) (c (pl t q 2))) (pl t (c (pl t q 2) - 1) 3) (c (pl t q 3))) := by
    split
    · exact h1
    · exact h1.up _ (h _)
  exact (h2.up _ VS.u32_zero).up _ VS.u32_zero
theorem AU.push {c : Int → Int} (h : AU c) (t a : Int) {q : Int} (hq : VS.U32 (q + 1)) : AU (pushC t a q c) := by
  unfold pushC
  have h1 : AU (upI (upI c (pl t q 2) (c a)) (pl t q 3) 0) := (h.up _ (h _)).up _ VS.u32_zero
  dsimp only
  split
  · exact h1.up _ hq
  · exact (h1.up _ hq).up _ hq

/-- what a step turns: no page's slots; infos of pages that are no used span's and no slab's, but q's. -/
structure Chg (t q : Int) (c c' : Int → Int) : Prop where
  k45 : ∀ x, 0 ≤ x → c' (pl t x 4) = c (pl t x 4) ∧ c' (pl t x 5) = c (pl t x 5)
  k0 : ∀ x, 0 ≤ x → c' (pl t x 0) = c (pl t x 0) ∨ (iK (c (pl t x 0)) ≠ 2 ∧ (iK (c (pl t x 0)) = 3 → x = q) ∧ (iK (c' (pl t x 0)) = 0 ∨ iK (c' (pl t x 0)) = 1))
  low : ∀ i, i = 1 ∨ (22 ≤ i ∧ i < 30) → c' i = c i
theorem Chg.refl (t q : Int) (c : Int → Int) : Chg t q c c := ⟨fun _ _ => ⟨rfl, rfl⟩, fun _ _ => Or.inl rfl, fun _ _ => rfl⟩
theorem Chg.trans {t q : Int} {c d e : Int → Int} (h : Chg t q c d) (k : Chg t q d e) : Chg t q c e := by
  refine ⟨fun x x0 => ⟨(k.k45 x x0).1.trans (h.k45 x x0).1, (k.k45 x x0).2.trans (h.k45 x x0).2⟩, fun x x0 => ?_, fun i hi => (k.low i hi).trans (h.low i hi)⟩
  rcases h.k0 x x0 with e1 | ⟨a1, a2, a3⟩
  · rcases k.k0 x x0 with e2 | b
    · exact Or.inl (e2.trans e1)
    · rw [e1] at b; exact Or.inr b
  · rcases k.k0 x x0 with e2 | ⟨b1, b2, b3⟩
    · rw [e2]; exact Or.inr ⟨a1, a2, a3⟩
    · exact Or.inr ⟨a1, a2, b3⟩

section
variable {t P s : Int} {c : Int → Int} {st : VS}
theorem chg_absorb {q bin y z : Int} (ht : 1 ≤ t) (b2 : 2 ≤ bin) (b21 : bin ≤ 21) (hlk : LkOK t P c y) (hz0 : 0 ≤ z) (hz1 : 1 ≤ z) (hz : z = q ∧ iK (c (pl t z 0)) ≠ 2 ∨ iK (c (pl t z 0)) = 1) :
    Chg t q c (upI (upI (pullC t bin y c) (pl t z 0) 0) (pl t (z - 1) 1) 0) ∧ (upI (upI (pullC t bin y c) (pl t z 0) 0) (pl t (z - 1) 1) 0) 0 = c 0 ∧ ∀ x, 0 ≤ x → x ≠ z → (upI (upI (pullC t bin y c) (pl t z 0) 0) (pl t (z - 1) 1) 0) (pl t x 0) = c (pl t x 0) := by
  have g : ∀ x k, 0 ≤ x → (k = 4 ∨ k = 5) → (upI (upI (pullC t bin y c) (pl t z 0) 0) (pl t (z - 1) 1) 0) (pl t x k) = c (pl t x k) := by
    intro x k x0 hk
    rw [upI_other _ (pl_ne (by omega) (by omega) (by omega) (by omega) (by omega)), upI_other _ (pl_ne (by omega) (by omega) (by omega) (by omega) (by omega))]
    exact pullC_pg ht b21 hlk x0 (by omega) (by omega) (by omega) (by omega)
  have g0 : ∀ x, 0 ≤ x → (upI (upI (pullC t bin y c) (pl t z 0) 0) (pl t (z - 1) 1) 0) (pl t x 0) = if x = z then 0 else c (pl t x 0) := by
    intro x x0
    rw [upI_other _ (pl_ne (by omega) (by omega) (by omega) (by omega) (by omega))]
    by_cases e : x = z
    · rw [e, upI_same, if_pos rfl]
    · rw [upI_other _ (fun e2 => e (pl_inj.1 e2)), if_neg e]
      exact pullC_pg ht b21 hlk x0 (by omega) (by omega) (by omega) (by omega)
  have gl : ∀ i, i < 30 → i ≠ bin → (upI (upI (pullC t bin y c) (pl t z 0) 0) (pl t (z - 1) 1) 0) i = c i := by
    intro i hi hb
    rw [upI_other _ (pl_low ht (by omega) (by omega) hi), upI_other _ (pl_low ht (by omega) (by omega) hi)]
    exact pullC_lo ht hlk hi hb
  refine ⟨⟨fun x x0 => ⟨g x 4 x0 (Or.inl rfl), g x 5 x0 (Or.inr rfl)⟩, fun x x0 => ?_, fun i hi => gl i (by omega) (by omega)⟩, gl 0 (by omega) (by omega), fun x x0 hx => by rw [g0 x x0, if_neg hx]⟩
  rw [g0 x x0]
  by_cases e : x = z
  · subst e
    rw [if_pos rfl]
    refine Or.inr ⟨?_, ?_, Or.inl (by decide)⟩
    · rcases hz with h | h
      · exact h.2
      · omega
    · rcases hz with h | h
      · exact fun _ => h.1
      · intro h3; omega
  · rw [if_neg e]; exact Or.inl rfl
theorem chg_give {q a b n bin : Int} (ht : 1 ≤ t) (b2 : 2 ≤ bin) (b21 : bin ≤ 21) (ha0 : 0 ≤ a) (ha1 : a < P) (hb : a < b) (hn1 : 1 ≤ n) (hn2 : n ≤ 1024) (hk : (upI (upI c (pl t a 0) (1 + 16 * n)) (pl t (b - 1) 1) (a + 1)) bin = 0 ∨ (1 ≤ (upI (upI c (pl t a 0) (1 + 16 * n)) (pl t (b - 1) 1) (a + 1)) bin ∧ (upI (upI c (pl t a 0) (1 + 16 * n)) (pl t (b - 1) 1) (a + 1)) bin ≤ P)) (hz : a = q ∧ iK (c (pl t a 0)) ≠ 2 ∨ iK (c (pl t a 0)) = 1) (v : Int) :
    Chg t q c (upI (pushC t bin a (upI (upI c (pl t a 0) (1 + 16 * n)) (pl t (b - 1) 1) (a + 1))) 0 v) := by
  have g : ∀ x k, 0 ≤ x → (k = 0 ∨ k = 4 ∨ k = 5) → (upI (pushC t bin a (upI (upI c (pl t a 0) (1 + 16 * n)) (pl t (b - 1) 1) (a + 1))) 0 v) (pl t x k) = (upI c (pl t a 0) (1 + 16 * n)) (pl t x k) := by
    intro x k x0 hk2
    rw [upI_other _ (fun e => (pl_low (i := 0) ht x0 (by omega) (by omega)) e.symm), pushC_pg ht b21 ha0 ha1 hk x0 (by omega) (by omega) (by omega) (by omega), upI_other _ (pl_ne (by omega) (by omega) (by omega) (by omega) (by omega))]
  refine ⟨fun x x0 => ⟨?_, ?_⟩, fun x x0 => ?_, fun i hi => ?_⟩
  · rw [g x 4 x0 (by omega), upI_other _ (pl_ne (by omega) (by omega) (by omega) (by omega) (by omega))]
  · rw [g x 5 x0 (by omega), upI_other _ (pl_ne (by omega) (by omega) (by omega) (by omega) (by omega))]
  · rw [g x 0 x0 (by omega)]
    by_cases e : x = a
    · subst e
      rw [upI_same]
      refine Or.inr ⟨?_, ?_, Or.inr (inf_free hn1 hn2).1⟩
      · rcases hz with h | h
        · exact h.2
        · omega
      · rcases hz with h | h
        · exact fun _ => h.1
        · intro h3; omega
    · rw [upI_other _ (fun e2 => e (pl_inj.1 e2))]; exact Or.inl rfl
  · rw [upI_other _ (by omega), pushC_lo ht ha0 ha1 hk (by omega) (by omega), upI_other _ (pl_low ht (by omega) (by omega) (by omega)), upI_other _ (pl_low ht (by omega) (by omega) (by omega))]

theorem CV.freeAt_ (h : CV t P s c st) {q : Int} (h0 : 0 ≤ q) (h1 : q < P) : (freeAt t P s q st).1 = freeV (c (pl t q 0)) ∧ CV t P s c (freeAt t P s q st).2 := by
  obtain ⟨g1, g2⟩ := h.pg (k := 0) h0 h1 (by omega) (by omega)
  unfold freeAt
  exact ⟨by rw [g1], g2⟩
theorem within_bin {n : Int} (h0 : 0 ≤ logF n) (h1 : logF n ≤ 10) : withinF 2 (logF n) 11 = 2 + logF n := by unfold withinF; rw [if_neg (by omega)]
/-- a free span is joined: it is drawn from its bin, and its border with what is in hand is wiped. -/
theorem CV.join (h : CV t P s c st) {y z : Int} (hf : iK (c (pl t y 0)) = 1) (hlk : LkOK t P c y) (hz1 : 1 ≤ z) (hz2 : z < P) :
    (joinF t P s y z st).1 = iL (c (pl t y 0)) ∧ CV t P s (upI (upI (pullC t (2 + logF (iL (c (pl t y 0)))) y c) (pl t z 0) 0) (pl t (z - 1) 1) 0) (joinF t P s y z st).2 := by
  obtain ⟨y0, y1, -, -⟩ := id hlk
  have hfv := freeV_bd (c (pl t y 0))
  have hfe := hfv.2.2.1 hf
  have lb := logF_bd (n := iL (c (pl t y 0))) (by omega) (by omega)
  obtain ⟨f1, f2⟩ := h.freeAt_ y0 y1
  have hd : (dropF t P s y st).1 = iL (c (pl t y 0)) ∧ CV t P s (pullC t (2 + logF (iL (c (pl t y 0)))) y c) (dropF t P s y st).2 := by
    unfold dropF
    rw [if_pos (pageB_t y0 y1)]
    dsimp only
    rw [f1, hfe.2, if_neg (by omega), within_bin lb.1 lb.2]
    exact ⟨rfl, f2.pull (by omega) (by omega) hlk⟩
  unfold joinF
  exact ⟨hd.1, (hd.2.pp (k := 0) 0 (by omega) hz2 (by omega) (by omega)).pp (k := 1) 0 (by omega) (by omega) (by omega) (by omega)⟩

theorem mem_last {x f : Int} {m l : List Int} : (x ∈ m ++ [f] ∨ x ∈ l) ↔ (x = f ∨ x ∈ m ∨ x ∈ l) := by
  rw [List.mem_append, List.mem_singleton]
  constructor
  · rintro ((h | h) | h)
    · exact Or.inr (Or.inl h)
    · exact Or.inl h
    · exact Or.inr (Or.inr h)
  · rintro (h | h | h)
    · exact Or.inl (Or.inr h)
    · exact Or.inl (Or.inl h)
    · exact Or.inr h
theorem mem_first {x f : Int} {m l : List Int} : (x ∈ m ∨ x ∈ f :: l) ↔ (x = f ∨ x ∈ m ∨ x ∈ l) := by
  rw [List.mem_cons]
  constructor
  · rintro (h | h | h)
    · exact Or.inr (Or.inl h)
    · exact Or.inl h
    · exact Or.inr (Or.inr h)
  · rintro (h | h | h)
    · exact Or.inr (Or.inl h)
    · exact Or.inl h
    · exact Or.inr (Or.inr h)
theorem list_last {l : List Int} (h : l ≠ []) : ∃ m f, l = m ++ [f] := ⟨l.dropLast, l.getLast h, (List.dropLast_concat_getLast h).symm⟩

/-- what is in hand goes back to the free pages, and is joined with what is free beside it. -/
theorem release_hand {L : Int → List Int} {q : Int} {l1 l2 : List Int} (hc : CV t P s c st) (hP : P ≤ 1024) (h : Hand t P c L q (q + 1) l1 l2) (hu : AU c) (hk2 : iK (c (pl t q 0)) ≠ 2) :
    ∃ c' L' l', CV t P s c' (releaseF t P s q 1 st) ∧ Hand t P c' L' 0 0 [] l' ∧ Chg t q c c' ∧ AU c' ∧ c' 0 = c 0 + 1 := by
  have hr := right_bd hc.right
  have ht : 1 ≤ t := by omega
  have hq0 := h.a0
  have hq1 := h.bP
  -- back
  have hback : ∃ (a n : Int) (d : Int → Int) (L1 : Int → List Int) (m1 : List Int), (backF t P s q 1 st).1 = (a, n) ∧ CV t P s d (backF t P s q 1 st).2 ∧ Hand t P d L1 a (q + 1) m1 l2 ∧ NoLast (cg t d 0) m1 ∧ Chg t q c d ∧ AU d ∧ d 0 = c 0 ∧ a + n = q + 1 ∧ 1 ≤ n ∧ (a = q ∧ iK (d (pl t a 0)) ≠ 2 ∨ iK (d (pl t a 0)) = 1) := by
    unfold backF aheadF
    by_cases hz : q = 0
    · subst hz
      rw [if_pos rfl]
      dsimp only
      rw [if_pos (by omega)]
      have hnl : l1 = [] := by
        cases l1 with
        | nil => rfl
        | cons x r => have := (h.t1).2.1; have := h.t1.1; omega
      subst hnl
      exact ⟨0, 1, c, L, [], rfl, hc, h, (fun m f e => by simp at e), Chg.refl _ _ _, hu, rfl, by omega, by omega, Or.inl ⟨rfl, hk2⟩⟩
    · rw [if_neg hz]
      dsimp only
      have hne : l1 ≠ [] := by
        rintro rfl
        have e : (0 : Int) = q := h.t1
        omega
      obtain ⟨m, f, hmf⟩ := list_last hne
      have hfm : f ∈ l1 := by rw [hmf]; simp
      have hfr := h.t1.ge f hfm
      have hfend : f + iL (c (pl t f 0)) = q := by
        have h1 := h.t1
        rw [hmf] at h1
        obtain ⟨w, w1, w2, -⟩ := Tile.app.1 h1
        obtain ⟨e1, -, -, e2⟩ := w2
        subst e1
        exact e2
      have hfoot := h.foot1 f (Or.inl hfm)
      rw [show f + iL (c (pl t f 0)) - 1 = q - 1 by omega] at hfoot
      obtain ⟨g1, g2⟩ := hc.pg (q := q - 1) (k := 1) (by omega) (by omega) (by omega) (by omega)
      rw [g1, hfoot, show f + 1 - 1 = f by omega, if_neg (by omega)]
      obtain ⟨v1, v2⟩ := g2.freeAt_ (q := f) hfr.1 (by omega)
      rw [v1]
      by_cases hfree : iK (c (pl t f 0)) = 1
      · have hfv := (freeV_bd (c (pl t f 0))).2.2.1 hfree
        rw [if_neg (by omega)]
        dsimp only
        have p1 := h.ap1
        rw [hmf] at p1
        have t1' : Tile (cg t c 0) f 0 m := by
          have h1 := h.t1
          rw [hmf] at h1
          obtain ⟨w, w1, w2, -⟩ := Tile.app.1 h1
          obtain ⟨e1, -, -, -⟩ := w2
          subst e1
          exact w1
        have hfnm : f ∉ m := fun e => by have := t1'.ge f e; omega
        have hfn2 : f ∉ l2 := fun e => by have := h.t2.ge f e; omega
        obtain ⟨hlk, L1, hh⟩ := h.absorb ht (by omega) (y := f) (z := q) (a' := f) (b' := q + 1) (m1 := m) (m2 := l2) (Or.inl hfm) hfree (Or.inl ⟨rfl, hfend, rfl, rfl⟩) (fun x => by rw [hmf]; exact mem_last) (fun e => e.elim hfnm hfn2) t1' h.t2 p1.split.1 h.ap2 (by
          rw [hmf, sumF_app]
          have : sumF (cg t c 0) [f] = iL (c (pl t f 0)) := by
            show (if iK (cg t c 0 f) = 1 then iL (cg t c 0 f) else 0) + 0 = _
            rw [if_pos (show iK (cg t c 0 f) = 1 from hfree)]
            show iL (c (pl t f 0)) + 0 = _; omega
          omega)
        obtain ⟨j1, j2⟩ := v2.join (y := f) (z := q) hfree hlk (by omega) (by omega)
        have fo := free_own hfree
        obtain ⟨ch, c00, cx⟩ := chg_absorb (q := q) (bin := 2 + logF (iL (c (pl t f 0)))) (y := f) (z := q) ht (by omega) (by omega) hlk hq0 (by omega) (Or.inl ⟨rfl, hk2⟩)
        refine ⟨f, 1 + (joinF t P s f q (freeAt t P s f (st.get (ofF t P s (q - 1) 1)).2).2).1, _, L1, m, rfl, j2, hh, ?_, ch, ((hu.pull _ _ _).up _ VS.u32_zero).up _ VS.u32_zero, c00, by rw [j1]; omega, by rw [j1]; omega, Or.inr ?_⟩
        · intro m' f' e'
          have hx : f' ∈ m := by rw [e']; simp
          have h3 := t1'.ge f' hx
          show iK ((upI (upI (pullC t (2 + logF (iL (c (pl t f 0)))) f c) (pl t q 0) 0) (pl t (q - 1) 1) 0) (pl t f' 0)) ≠ 1
          rw [cx f' h3.1 (by omega)]
          exact p1.last hfree m' f' e'
        · rw [cx f hfr.1 (by omega)]; exact hfree
      · have hfv := (freeV_bd (c (pl t f 0))).2.2.2 hfree
        rw [if_pos hfv]
        refine ⟨q, 1, c, L, l1, rfl, v2, h, ?_, Chg.refl _ _ _, hu, rfl, by omega, by omega, Or.inl ⟨rfl, hk2⟩⟩
        intro m' f' e'
        rw [hmf] at e'
        have := List.append_inj_right' e' rfl
        simp at this
        subst this
        exact hfree
  obtain ⟨a, n, d, L1, m1, hb1, hb2, hh, hnl, ch1, hu1, d0, han, hn1, hka⟩ := hback
  have ha0 := hh.a0
  -- fore
  have hfore : ∃ (b : Int) (d2 : Int → Int) (L2 : Int → List Int) (m2 : List Int), (foreF t P s (q + 1) n (backF t P s q 1 st).2).1 = b - a ∧ CV t P s d2 (foreF t P s (q + 1) n (backF t P s q 1 st).2).2 ∧ Hand t P d2 L2 a b m1 m2 ∧ NoLast (cg t d2 0) m1 ∧ NoHead (cg t d2 0) m2 ∧ Chg t q c d2 ∧ AU d2 ∧ d2 0 = c 0 ∧ a < b ∧ (a = q ∧ iK (d2 (pl t a 0)) ≠ 2 ∨ iK (d2 (pl t a 0)) = 1) ∧ b ≤ P := by
    unfold foreF
    by_cases hlt : q + 1 < P
    · rw [if_pos hlt]
      dsimp only
      obtain ⟨v1, v2⟩ := hb2.freeAt_ (q := q + 1) (by omega) hlt
      rw [v1]
      obtain ⟨r, hr2⟩ : ∃ r, l2 = (q + 1) :: r := by
        cases hl2 : l2 with
        | nil => have e := hh.t2; rw [hl2] at e; have e2 : q + 1 = P := e; omega
        | cons x r => have e := hh.t2; rw [hl2] at e; have := e.1; exact ⟨r, by rw [this]⟩
      subst hr2
      obtain ⟨-, -, -, tr⟩ := hh.t2
      by_cases hfree : iK (d (pl t (q + 1) 0)) = 1
      · have hfv := (freeV_bd (d (pl t (q + 1) 0))).2.2.1 hfree
        rw [if_neg (by omega)]
        dsimp only
        have tr' : Tile (cg t d 0) P (q + 1 + iL (d (pl t (q + 1) 0))) r := tr
        have hym1 : q + 1 ∉ m1 := fun e => by have := hh.t1.ge _ e; omega
        have hymr : q + 1 ∉ r := fun e => by have := tr'.ge _ e; omega
        obtain ⟨hlk, L2, hh2⟩ := hh.absorb ht (by omega) (y := q + 1) (z := q + 1) (a' := a) (b' := q + 1 + iL (d (pl t (q + 1) 0))) (m1 := m1) (m2 := r) (Or.inr (by simp)) hfree (Or.inr ⟨rfl, rfl, rfl, rfl⟩) (fun x => mem_first) (fun e => e.elim hym1 hymr) hh.t1 tr' hh.ap1 hh.ap2.2 (by
          have : sumF (cg t d 0) ((q + 1) :: r) = iL (d (pl t (q + 1) 0)) + sumF (cg t d 0) r := by
            show (if iK (cg t d 0 (q + 1)) = 1 then iL (cg t d 0 (q + 1)) else 0) + _ = _
            rw [if_pos (show iK (cg t d 0 (q + 1)) = 1 from hfree)]
            rfl
          omega)
        obtain ⟨j1, j2⟩ := v2.join (y := q + 1) (z := q + 1) hfree hlk (by omega) hlt
        have fo := free_own hfree
        obtain ⟨ch, c00, cx⟩ := chg_absorb (q := q) (bin := 2 + logF (iL (d (pl t (q + 1) 0)))) (y := q + 1) (z := q + 1) ht (by omega) (by omega) hlk (by omega) (by omega) (Or.inr hfree)
        refine ⟨q + 1 + iL (d (pl t (q + 1) 0)), _, L2, r, by rw [j1]; omega, j2, hh2, ?_, ?_, ch1.trans ch, ((hu1.pull _ _ _).up _ VS.u32_zero).up _ VS.u32_zero, c00.trans d0, by omega, ?_, hh2.bP⟩
        · intro m' f' e'
          have h3 := hh.t1.ge f' (by rw [e']; simp)
          show iK ((upI (upI (pullC t (2 + logF (iL (d (pl t (q + 1) 0)))) (q + 1) d) (pl t (q + 1) 0) 0) (pl t (q + 1 - 1) 1) 0) (pl t f' 0)) ≠ 1
          rw [cx f' h3.1 (by omega)]
          exact hnl m' f' e'
        · intro m' f' e'
          have h3 := tr'.ge f' (by rw [e']; simp)
          show iK ((upI (upI (pullC t (2 + logF (iL (d (pl t (q + 1) 0)))) (q + 1) d) (pl t (q + 1) 0) 0) (pl t (q + 1 - 1) 1) 0) (pl t f' 0)) ≠ 1
          rw [cx f' (by omega) (by omega)]
          exact hh.ap2.head hfree m' f' e'
        · rw [cx a ha0 (by omega)]; exact hka
      · have hfv := (freeV_bd (d (pl t (q + 1) 0))).2.2.2 hfree
        rw [if_pos hfv]
        refine ⟨q + 1, d, L1, (q + 1) :: r, by show n = _; omega, v2, hh, hnl, ?_, ch1, hu1, d0, by omega, hka, by omega⟩
        intro m' f' e'
        simp at e'
        rw [← e'.1]
        exact hfree
    · rw [if_neg hlt]
      have hP2 : q + 1 = P := by omega
      refine ⟨q + 1, d, L1, l2, by show n = _; omega, hb2, hh, hnl, ?_, ch1, hu1, d0, by omega, hka, by omega⟩
      intro m' f' e'
      have := hh.t2.ge f' (by rw [e']; simp)
      omega
  obtain ⟨b, d2, L2, m2, hf1, hf2, hh2, hnl2, hnh, ch2, hu2, d20, hab, hka2, hbP⟩ := hfore
  obtain ⟨lb0, lb1, hkp, gz, c0a, c0b, L3, hh3⟩ := hh2.give ht hP hab hnl2 hnh
  have hcv : CV t P s (upI (pushC t (2 + logF (b - a)) a (upI (upI d2 (pl t a 0) (1 + 16 * (b - a))) (pl t (b - 1) 1) (a + 1))) 0 (d2 0 + 1)) (releaseF t P s q 1 st) := by
    unfold releaseF
    dsimp only
    rw [hb1]
    dsimp only
    rw [hf1]
    have hadd : CV t P s (pushC t (2 + logF (b - a)) a (upI (upI d2 (pl t a 0) (1 + 16 * (b - a))) (pl t (b - 1) 1) (a + 1))) (addG t P s a (b - a) (foreF t P s (q + 1) n (backF t P s q 1 st).2).2) := by
      unfold addG
      rw [if_pos ⟨ha0, by omega, by omega, by omega⟩]
      unfold addF
      have e1 : ((a.toNat : Nat) : Int) = a := by omega
      have e2 : (((b - a).toNat : Nat) : Int) = b - a := by omega
      rw [e1, e2, within_bin lb0 lb1, show a + (b - a) - 1 = b - 1 by omega]
      exact ((hf2.pp (k := 0) _ ha0 (by omega) (by omega) (by omega)).pp (k := 1) _ (by omega) (by omega) (by omega) (by omega)).push (by omega) (by omega) ha0 (by omega) hkp
    unfold countF
    obtain ⟨w1, w2⟩ := hadd.get (i := 0) (by omega) (by omega)
    rw [w1, gz]
    have hw : IntKind.u32.wrap (d2 0 + 1) = d2 0 + 1 := by rw [IntKind.wrap_u32]; omega
    rw [hw]
    exact w2.put _ (by omega) (by omega)
  refine ⟨_, L3, _, hcv, hh3, ch2.trans (chg_give (n := b - a) ht (by omega) (by omega) ha0 (by omega) hab (by omega) (by omega) hkp hka2 _), ?_, by rw [upI_same, d20]⟩
  refine AU.up (AU.push (AU.up (AU.up hu2 _ ⟨by omega, by omega⟩) _ ⟨by omega, by omega⟩) _ _ ⟨by omega, by omega⟩) _ ⟨by omega, by omega⟩
end
end Go.Proofs.YtpmoajhpgekhcaaGreat
/- view: Vals; the document's Vals. -/
set_option linter.unusedSimpArgs false
set_option linter.unusedVariables false
namespace Go.Proofs.YtpmoajhpgekhcaaGreat
open Go.RowKit

/-- the values behind k writes. -/
def setN (vals : List Int) (ws : List (Nat × Int)) (k : Nat) : List Int := (ws.take k).foldl (fun l x => l.set x.1 x.2) vals
theorem setN_len (vals : List Int) (ws : List (Nat × Int)) (k : Nat) : (setN vals ws k).length = vals.length := by
  unfold setN
  generalize ws.take k = l
  induction l generalizing vals with
  | nil => rfl
  | cons x l ih => simp [ih]
theorem setN_step {vals : List Int} {ws : List (Nat × Int)} {k : Nat} {x : Nat × Int} (h : ws[k]? = some x) : setN vals ws (k + 1) = (setN vals ws k).set x.1 x.2 := by
  unfold setN
  rw [List.take_add_one, h]
  simp [List.foldl_append]

structure VaRel (w : World) (n : Nat) (vals : List Int) (ws : List (Nat × Int)) (v18 : Value) (wr : World) (k : Nat) (g c : Nat) : Prop where
  hk : v18 = .int .i64 k
  le : k ≤ ws.length
  row : wr.ownsRow 0 41 1 (.slice (some ⟨g, 0, none⟩) n c) n (uints (setN vals ws k))
  far : w.heap.size ≤ g
  bel : Below w.heap.size w wr
def VaRelE (w : World) (n : Nat) (vals : List Int) (ws : List (Nat × Int)) (g c : Nat) (v18 : Value) (wr : World) : Prop := ∃ k, VaRel w n vals ws v18 wr k g c

/-- what Vals answers: a row of its own. -/
def ValsP (w : World) (l : List Int) (e : Ending) (w' : World) : Prop :=
  ∃ v, e = .returned v ∧ w'.ownsRow 0 41 1 v l.length (uints l) ∧ (∀ k, v.ownBlock = some k → w.heap.size ≤ k) ∧ Below w.heap.size w w'

set_option maxHeartbeats 1000000 in
set_option maxRecDepth 100000 in
theorem vals_any (b : Nat) (w : World) (S : Nat → Prop) (s : VS) (h : PV w b S s) (hn : 0 < s.n) (hn2 : s.n ≤ 1000000) :
    ∃ vals : List Int, vals.length = s.n ∧ (∀ i, i < s.n → s.known i = vals[i]?) ∧ Calls Tryz.prog 12 #[.pointer (some ⟨b, 0, none⟩)] w (ValsP w (setN vals s.writes s.writes.length)) := by
  obtain ⟨fv, wv, rv, pv, rd, pt, hv⟩ := h
  obtain ⟨sv, vals, rfl, hrow, hkn, -, rfl⟩ := hv.src
  have hlen : vals.length = s.n := by have := hrow.1; simpa using this
  refine ⟨vals, hlen, hkn, ?_⟩
  have h2 := hv.cell 2
  have h6 := hv.cell 6
  simp at h2 h6
  have hwl := hv.inv.writes_le
  have hwlt := hv.inv.wlt
  have HC := Lib.hid (cloneList wv s.n (uints vals) w (Rd.of_row (by simpa [uints] using hrow)) (by intro u hu; obtain ⟨x, -, rfl⟩ := List.mem_map.1 hu; rfl) (by omega))
  have HPr := Lib.hid hv.pr
  have HSl := Lib.hid (setN_len vals s.writes)
  obtain ⟨pa, pc, rfl⟩ := row_shape hv.pr
  have HWl := Lib.hid hwlt
  clear hv hkn hrow hwlt
  go_enter Tryz.func12, Tryz.ntmps12
  go_wp2_with fail
  refine HC.out.mono ?_
  rintro e w1 ⟨sv, rfl, hown, hnew, hb⟩
  obtain ⟨g, cap, rfl⟩ := Joins.ownsRow_form hown hn
  have hg := hnew g rfl
  have HO := Lib.hid hown
  have c2 := (hb.cell (World.block_lt_of_cell? _ _ h2)).trans h2
  have c6 := (hb.cell (World.block_lt_of_cell? _ _ h6)).trans h6
  clear hown hnew h2 h6
  go_wp2_with fail
  go_loopw [5, 18] (fun _ v18 wr => VaRelE w s.n vals s.writes g cap v18 wr) (fun _ v18 _ => s.writes.length - (intOf v18).toNat)
  case atStart => exact ⟨0, rfl, Nat.zero_le _, by simpa [setN] using HO.out, hg, hb⟩
  case round =>
    obtain ⟨k, rfl, hle, hrow, hfar, hbel⟩ := hrel
    have HRow := Lib.hid hrow
    have HBel := Lib.hid hbel
    clear c2 c6 hb HO
    by_cases hlt : k < s.writes.length
    · obtain ⟨⟨i, u⟩, hx⟩ : ∃ x, s.writes[k]? = some x := ⟨_, List.getElem?_eq_getElem hlt⟩
      have hin := HWl.out _ (List.mem_of_getElem? hx)
      obtain ⟨gp, cp, hgp⟩ := Joins.ownsRow_form HPr.out (by omega)
      simp only [Value.slice.injEq, true_and] at hgp
      obtain ⟨rfl, rfl⟩ := hgp
      obtain ⟨p1, p2⟩ := pair_cell hx
      have q1' := (HPr.out.cellAt (k * 2) (by omega)).trans p1
      have q2' := (HPr.out.cellAt (k * 2 + 1) (by omega)).trans p2
      have q1 := (HBel.out.cell (World.block_lt_of_cell? _ _ q1')).trans q1'
      have q2 := (HBel.out.cell (World.block_lt_of_cell? _ _ q2')).trans q2'
      have hst := setN_step (vals := vals) hx
      have HSt := Lib.hid hst
      have hro := HRow.out.alloc (.cells #[.int .i64 i, .int .u32 u] 72)
      have hsl2 := HSl.out k
      have hci := hro.cellAt i (by omega)
      obtain ⟨z, hz⟩ : ∃ z, (uints (setN vals s.writes k))[i]? = some z := ⟨_, List.getElem?_eq_getElem (by simp [uints, hsl2]; omega)⟩
      rw [hz] at hci
      have hfi := hro.frozenAt i
      simp only at hin
      have HRo := Lib.hid hro
      clear p1 p2 q1' q2' hx hst hro hz
      go_wp2_with fail
      go_roundw
      case rel =>
        have hs := (HRo.out.stored i (.int .u32 u)).1
        refine ⟨k + 1, by go_num, by omega, ?_, hfar, (HBel.out.alloc HBel.out.size _).setCell hfar _⟩
        have e : (uints (setN vals s.writes k)).set i (.int .u32 u) = uints (setN vals s.writes (k + 1)) := by rw [HSt.out]; simp [uints, List.map_set]
        rw [← e]
        exact hs
      case measure => simp [intOf]; omega
    · obtain rfl : k = s.writes.length := by omega
      go_wp2
      go_ret
      refine ⟨_, rfl, by rw [HSl.out, hlen]; exact HRow.out, fun j hj => ?_, HBel.out⟩
      simp [Value.ownBlock] at hj
      omega
end Go.Proofs.YtpmoajhpgekhcaaGreat
/- sweeping keeps a heap a heap; what it holds; how many pages are free in the end. -/
set_option linter.unusedSimpArgs false
set_option linter.unusedVariables false
namespace Go.Proofs.YtpmoajhpgekhcaaGreat
open Go.RowKit

/-- the cells are a heap's. -/
def Hp (t P : Int) (c : Int → Int) : Prop := ∃ L l, Hand t P c L 0 0 [] l
theorem Hp.congr {t P : Int} {c c' : Int → Int} (ht : 1 ≤ t) (h : Hp t P c) (he : ∀ i, 0 ≤ i → i < 30 + 4 * t + 6 * P → c' i = c i) : Hp t P c' := by
  obtain ⟨L, l, h⟩ := h
  have hP := h.bP
  have pg : ∀ x k, 0 ≤ x → x < P → 0 ≤ k → k ≤ 5 → c' (pl t x k) = c (pl t x k) := fun x k x0 x1 k0 k5 => he _ (by unfold pl; omega) (by unfold pl; omega)
  have lo : ∀ i, 0 ≤ i → i < 30 → c' i = c i := fun i i0 i1 => he i i0 (by omega)
  have r2 : ∀ x ∈ l, 0 ≤ x ∧ x < P ∧ 1 ≤ iL (c (pl t x 0)) ∧ x + iL (c (pl t x 0)) ≤ P := fun x hx => by
    have h1 := h.t2.ge x hx
    have h2 : x + iL (c (pl t x 0)) ≤ P := (h.t2.end_le x hx).1
    have h3 : 1 ≤ iL (c (pl t x 0)) := h.t2.len hx
    omega
  have e0 : ∀ x ∈ l, cg t c' 0 x = cg t c 0 x := fun x hx => pg x 0 (r2 x hx).1 (r2 x hx).2.1 (by omega) (by omega)
  refine ⟨L, l, by omega, by omega, hP, rfl, h.t2.congr e0, fun x x0 x1 a1 a2 hx => ?_, fun y hy => ?_, fun x x0 x1 hx hx2 => ?_, trivial, h.ap2.congr e0, fun x x0 x1 i hi => ?_, fun x x0 x1 hx h3 => ?_, fun i i2 i21 => (h.lists i i2 i21).congr (lo i (by omega) (by omega)) fun x x0 x1 => ⟨pg x 2 x0 x1 (by omega) (by omega), pg x 3 x0 x1 (by omega) (by omega)⟩, fun i x i2 i21 x0 x1 => ?_, fun x x0 x1 hx => ?_, ?_⟩
  · rw [pg x 0 x0 x1 (by omega) (by omega)]; exact h.zero x x0 x1 a1 a2 hx
  · have hy2 : y ∈ l := hy.resolve_left (by simp)
    have h3 := r2 y hy2
    rw [pg y 0 h3.1 h3.2.1 (by omega) (by omega), pg _ 1 (by omega) (by omega) (by omega) (by omega)]
    exact h.foot1 y hy
  · rw [pg x 1 x0 x1 (by omega) (by omega)]
    refine h.foot0 x x0 x1 (fun y hy => ?_) (Or.inr rfl)
    have hy2 : y ∈ l := hy.resolve_left (by simp)
    have h3 := r2 y hy2
    have := hx y hy
    rwa [pg y 0 h3.1 h3.2.1 (by omega) (by omega)] at this
  · rw [pg x 4 x0 x1 (by omega) (by omega), pg x 5 x0 x1 (by omega) (by omega), pg x 0 x0 x1 (by omega) (by omega)]
    exact h.bits x x0 x1 i hi
  · rw [pg x 0 x0 x1 (by omega) (by omega)] at h3
    rw [pg x 5 x0 x1 (by omega) (by omega)]
    exact h.taken x x0 x1 hx h3
  · rw [own_congr (c := c) (pg x 0 x0 x1 (by omega) (by omega)) (pg x 5 x0 x1 (by omega) (by omega))]
    exact h.own i x i2 i21 x0 x1
  · rw [pg x 2 x0 x1 (by omega) (by omega), pg x 3 x0 x1 (by omega) (by omega)]
    exact h.loose x x0 x1 hx
  · rw [lo 0 (by omega) (by omega), h.free, sumF_congr e0]; simp [sumF]

/-- what sweeping the page q turns. -/
structure Swp (t P q : Int) (c c' : Int → Int) : Prop where
  s4 : ∀ x, 0 ≤ x → c' (pl t x 4) = c (pl t x 4)
  s5 : ∀ x, 0 ≤ x → x ≠ q → c' (pl t x 5) = c (pl t x 5)
  k0 : ∀ x, 0 ≤ x → c' (pl t x 0) = c (pl t x 0) ∨ (iK (c (pl t x 0)) ≠ 2 ∧ (iK (c (pl t x 0)) = 3 → x = q ∧ c (pl t q 4) = 0) ∧ (iK (c' (pl t x 0)) = 0 ∨ iK (c' (pl t x 0)) = 1))
  low : ∀ i, i = 1 ∨ (22 ≤ i ∧ i < 30) → c' i = c i
  clean : 0 ≤ q → q < P → iK (c' (pl t q 0)) = 3 → c' (pl t q 4) = c' (pl t q 5)
  free : c' 0 = c 0 + (if 0 ≤ q ∧ q < P ∧ iK (c (pl t q 0)) = 3 ∧ c (pl t q 4) = 0 then 1 else 0)

section
variable {t P s : Int} {c : Int → Int} {st : VS}
theorem sweep_page (q : Int) (hc : CV t P s c st) (hP : P ≤ 1024) (h : Hp t P c) (hu : AU c) :
    ∃ c', CV t P s c' (sweepF t P s q st).2 ∧ Hp t P c' ∧ AU c' ∧ Swp t P q c c' ∧ ((sweepF t P s q st).1 = false → c' = c ∧ (sweepF t P s q st).2.writes = st.writes) ∧ ((∀ x, 0 ≤ x → x < P → iK (c (pl t x 0)) = 3 → c (pl t x 4) = c (pl t x 5)) → (sweepF t P s q st).1 = false) := by
  have hr := right_bd hc.right
  have ht : 1 ≤ t := by omega
  unfold sweepF
  by_cases hq : pageB P q = true
  · have hqr : 0 ≤ q ∧ q < P := by unfold pageB at hq; simpa using hq
    rw [if_pos hq]
    dsimp only
    obtain ⟨g1, g2⟩ := hc.pg (k := 0) hqr.1 hqr.2 (by omega) (by omega)
    rw [g1]
    by_cases h3 : iK (c (pl t q 0)) = 3
    · rw [if_pos h3]
      obtain ⟨l1, l2⟩ := g2.pg (k := 4) hqr.1 hqr.2 (by omega) (by omega)
      obtain ⟨k1, k2⟩ := l2.pg (k := 5) hqr.1 hqr.2 (by omega) (by omega)
      rw [l1, k1]
      obtain ⟨L, l, hh⟩ := h
      have hwr : (((st.get (ofF t P s q 0)).2.get (ofF t P s q 4)).2.get (ofF t P s q 5)).2.writes = st.writes := by rw [wl_get, wl_get, wl_get]
      by_cases he : c (pl t q 4) = c (pl t q 5)
      · rw [if_pos he]
        have hno : ¬ (0 ≤ q ∧ q < P ∧ iK (c (pl t q 0)) = 3 ∧ c (pl t q 4) = 0) := fun e => hh.taken q hqr.1 hqr.2 (by omega) h3 (by rw [← he]; exact e.2.2.2)
        exact ⟨c, k2, ⟨L, l, hh⟩, hu, ⟨fun _ _ => rfl, fun _ _ _ => rfl, fun _ _ => Or.inl rfl, fun _ _ => rfl, fun _ _ _ => he, by rw [if_neg hno]; omega⟩, fun _ => ⟨rfl, hwr⟩, fun _ => rfl⟩
      · rw [if_neg he]
        have hput := k2.pp (k := 5) (c (pl t q 4)) hqr.1 hqr.2 (by omega) (by omega)
        have hcl : (∀ x, 0 ≤ x → x < P → iK (c (pl t x 0)) = 3 → c (pl t x 4) = c (pl t x 5)) → (true : Bool) = false := fun e => absurd (e q hqr.1 hqr.2 h3) he
        by_cases h0 : c (pl t q 4) = 0
        · -- nothing live: the slab is no more
          dsimp only
          rw [if_pos h0]
          have hql : q ∈ l := by
            rcases Classical.em (q ∈ l) with e | e
            · exact e
            · have := hh.kind0 hqr.1 hqr.2 (by simp) e (Or.inr rfl); omega
          obtain ⟨m1, m2, hlm⟩ := List.append_of_mem hql
          rw [hlm] at hh
          obtain ⟨m, hcut⟩ := hh.cut
          have hmq : m = q := hcut.t2.1.symm
          subst hmq
          obtain ⟨hlk, b2, b21, L', hand⟩ := hcut.take ht h3 h0
          rw [h0] at hput
          have hcd : ∃ d, d = (if fullB (c (pl t m 5)) (iC (c (pl t m 0))) = true then upI c (pl t m 5) 0 else pullC t (13 + iC (c (pl t m 0))) m (upI c (pl t m 5) 0)) := ⟨_, rfl⟩
          obtain ⟨d, hd⟩ := hcd
          rw [← hd] at hand
          have hcvd : CV t P s d (if fullB (c (pl t m 5)) (iC (c (pl t m 0))) = true then ((((st.get (ofF t P s m 0)).2.get (ofF t P s m 4)).2.get (ofF t P s m 5)).2.put (ofF t P s m 5) 0) else pullF t P s (13 + iC (c (pl t m 0))) m ((((st.get (ofF t P s m 0)).2.get (ofF t P s m 4)).2.get (ofF t P s m 5)).2.put (ofF t P s m 5) 0)) := by
            rw [hd]
            cases hf : fullB (c (pl t m 5)) (iC (c (pl t m 0)))
            · rw [if_neg (by simp), if_neg (by simp)]
              exact hput.pull b2 b21 (hlk hf)
            · rw [if_pos rfl, if_pos rfl]; exact hput
          have dpg : ∀ x k, 0 ≤ x → (k = 0 ∨ k = 4 ∨ k = 5) → d (pl t x k) = (upI c (pl t m 5) 0) (pl t x k) := by
            intro x k x0 hk
            rw [hd]
            cases hf : fullB (c (pl t m 5)) (iC (c (pl t m 0)))
            · rw [if_neg (by simp)]
              exact pullC_pg ht b21 (hlk hf) x0 (by omega) (by omega) (by omega) (by omega)
            · rw [if_pos rfl]
          have dlo : ∀ i, i < 30 → (i < 2 ∨ 22 ≤ i) → d i = c i := by
            intro i hi hi2
            have e1 : (upI c (pl t m 5) 0) i = c i := upI_other _ (pl_low ht hqr.1 (by omega) hi)
            rw [hd]
            cases hf : fullB (c (pl t m 5)) (iC (c (pl t m 0)))
            · rw [if_neg (by simp), pullC_lo ht (hlk hf) hi (by omega)]; exact e1
            · rw [if_pos rfl]; exact e1
          have hud : AU d := by
            rw [hd]
            split
            · exact hu.up _ VS.u32_zero
            · exact (hu.up _ VS.u32_zero).pull _ _ _
          have d0 : ∀ x, 0 ≤ x → d (pl t x 0) = c (pl t x 0) := fun x x0 => by
            rw [dpg x 0 x0 (Or.inl rfl)]; exact upI_other _ (pl_ne (by omega) (by omega) (by omega) (by omega) (by omega))
          have d4 : ∀ x, 0 ≤ x → d (pl t x 4) = c (pl t x 4) := fun x x0 => by
            rw [dpg x 4 x0 (by omega)]; exact upI_other _ (pl_ne (by omega) (by omega) (by omega) (by omega) (by omega))
          have d5 : ∀ x, 0 ≤ x → d (pl t x 5) = if x = m then 0 else c (pl t x 5) := fun x x0 => by
            rw [dpg x 5 x0 (by omega)]
            by_cases e : x = m
            · rw [e, upI_same, if_pos rfl]
            · rw [upI_other _ (fun e2 => e (pl_inj.1 e2)), if_neg e]
          obtain ⟨c', L2, l', r1, r2, r3, r4, r5⟩ := release_hand hcvd hP hand hud (by rw [d0 m hqr.1, h3]; omega)
          rw [h0]
          refine ⟨c', r1, ⟨L2, l', r2⟩, r4, ⟨fun x x0 => (r3.k45 x x0).1.trans (d4 x x0), fun x x0 hx => by rw [(r3.k45 x x0).2, d5 x x0, if_neg hx], fun x x0 => ?_, fun i hi => (r3.low i hi).trans (dlo i (by omega) (by omega)), fun _ _ e => ?_, ?_⟩, fun e => (by cases e), hcl⟩
          · have := r3.k0 x x0
            rw [d0 x x0] at this
            exact this.imp id fun e => ⟨e.1, fun e3 => ⟨e.2.1 e3, h0⟩, e.2.2⟩
          · rw [(r3.k45 m hqr.1).1, (r3.k45 m hqr.1).2, d4 m hqr.1, d5 m hqr.1, if_pos rfl, h0]
          · rw [r5, dlo 0 (by omega) (by omega), if_pos ⟨hqr.1, hqr.2, h3, h0⟩]
        · dsimp only
          rw [if_neg h0]
          obtain ⟨hk, L', hand⟩ := hh.lower ht hqr.1 hqr.2 h3 (hu _) (hu _) he h0
          have b := inf_bd (c (pl t q 0))
          have hno : ¬ (0 ≤ q ∧ q < P ∧ iK (c (pl t q 0)) = 3 ∧ c (pl t q 4) = 0) := fun e => h0 e.2.2.2
          cases hf : fullB (c (pl t q 5)) (iC (c (pl t q 0)))
          · rw [hf, if_neg (by simp)] at hand
            rw [if_neg (by simp)]
            refine ⟨_, hput, ⟨L', l, hand⟩, hu.up _ (hu _), ⟨fun x x0 => upI_other _ (pl_ne (by omega) (by omega) (by omega) (by omega) (by omega)), fun x x0 hx => upI_other _ (fun e => hx (pl_inj.1 e)), fun x x0 => Or.inl (upI_other _ (pl_ne (by omega) (by omega) (by omega) (by omega) (by omega))), fun i hi => upI_other _ (pl_low ht hqr.1 (by omega) (by omega)), fun _ _ _ => ?_, ?_⟩, fun e => (by cases e), hcl⟩
            · rw [upI_same, upI_other _ (pl_ne (by omega) (by omega) (by omega) (by omega) (by omega))]
            · rw [if_neg hno, upI_other _ (pl_low ht hqr.1 (by omega) (by omega))]; omega
          · rw [hf, if_pos rfl] at hand
            rw [if_pos rfl]
            have hk2 := hk hf
            have hpg : ∀ x k, 0 ≤ x → (k = 0 ∨ k = 4 ∨ k = 5) → pushC t (13 + iC (c (pl t q 0))) q (upI c (pl t q 5) (c (pl t q 4))) (pl t x k) = (upI c (pl t q 5) (c (pl t q 4))) (pl t x k) := fun x k x0 hk3 => pushC_pg ht (by omega) hqr.1 hqr.2 hk2 x0 (by omega) (by omega) (by omega) (by omega)
            refine ⟨_, hput.push (by omega) (by omega) hqr.1 hqr.2 hk2, ⟨L', l, hand⟩, (hu.up _ (hu _)).push _ _ ⟨by omega, by omega⟩, ⟨fun x x0 => ?_, fun x x0 hx => ?_, fun x x0 => Or.inl ?_, fun i hi => ?_, fun _ _ _ => ?_, ?_⟩, fun e => (by cases e), hcl⟩
            · rw [hpg x 4 x0 (by omega)]; exact upI_other _ (pl_ne (by omega) (by omega) (by omega) (by omega) (by omega))
            · rw [hpg x 5 x0 (by omega)]; exact upI_other _ (fun e => hx (pl_inj.1 e))
            · rw [hpg x 0 x0 (by omega)]; exact upI_other _ (pl_ne (by omega) (by omega) (by omega) (by omega) (by omega))
            · rw [pushC_lo ht hqr.1 hqr.2 hk2 (by omega) (by omega)]; exact upI_other _ (pl_low ht hqr.1 (by omega) (by omega))
            · rw [hpg q 4 hqr.1 (by omega), hpg q 5 hqr.1 (by omega), upI_same, upI_other _ (pl_ne (by omega) (by omega) (by omega) (by omega) (by omega))]
            · rw [if_neg hno, pushC_lo ht hqr.1 hqr.2 hk2 (by omega) (by omega), upI_other _ (pl_low ht hqr.1 (by omega) (by omega))]; omega
    · rw [if_neg h3]
      refine ⟨c, g2, h, hu, ⟨fun _ _ => rfl, fun _ _ _ => rfl, fun _ _ => Or.inl rfl, fun _ _ => rfl, fun _ _ e => absurd e h3, by rw [if_neg (fun e => h3 e.2.2.1)]; omega⟩, fun _ => ⟨rfl, wl_get _ _⟩, fun _ => rfl⟩
  · rw [if_neg hq]
    have hqr : ¬ (0 ≤ q ∧ q < P) := fun e => hq (pageB_t e.1 e.2)
    refine ⟨c, hc, h, hu, ⟨fun _ _ => rfl, fun _ _ _ => rfl, fun _ _ => Or.inl rfl, fun _ _ => rfl, fun a b => absurd ⟨a, b⟩ hqr, by rw [if_neg (fun e => hqr ⟨e.1, e.2.1⟩)]; omega⟩, fun _ => ⟨rfl, rfl⟩, fun _ => rfl⟩

/-- slabs of which nothing is live. -/
def zN (t : Int) (c : Int → Int) : Nat → Int
  | 0 => 0
  | k + 1 => zN t c k + if iK (c (pl t k 0)) = 3 ∧ c (pl t k 4) = 0 then 1 else 0
theorem Swp.zero {q : Int} {c c' : Int → Int} (h : Swp t P q c c') (hc' : 0 ≤ q → q < P → iK (c' (pl t q 0)) = 3 → c' (pl t q 5) ≠ 0) : ∀ k : Nat, (k : Int) ≤ P → zN t c' k = zN t c k - (if 0 ≤ q ∧ q < k ∧ iK (c (pl t q 0)) = 3 ∧ c (pl t q 4) = 0 then 1 else 0)
  | 0, _ => by simp [zN]; omega
  | k + 1, hk => by
    have ih := h.zero hc' k (by omega)
    unfold zN
    rw [ih]
    have h4 := h.s4 k (by omega)
    by_cases e : (k : Int) = q
    · have hz : ¬ (iK (c' (pl t k 0)) = 3 ∧ c' (pl t k 4) = 0) := by
        rintro ⟨e1, e2⟩
        rw [e] at e1 e2
        have := h.clean (by omega) (by omega) e1
        exact hc' (by omega) (by omega) e1 (by omega)
      rw [if_neg hz, if_neg (show ¬ (0 ≤ q ∧ q < (k : Int) ∧ iK (c (pl t q 0)) = 3 ∧ c (pl t q 4) = 0) by omega), e]
      by_cases hx : iK (c (pl t q 0)) = 3 ∧ c (pl t q 4) = 0
      · rw [if_pos hx, if_pos ⟨by omega, by omega, hx⟩]; omega
      · rw [if_neg hx, if_neg (fun e2 => hx e2.2.2)]; omega
    · have hiff : (iK (c' (pl t k 0)) = 3 ∧ c' (pl t k 4) = 0) ↔ (iK (c (pl t k 0)) = 3 ∧ c (pl t k 4) = 0) := by
        rw [h4]
        rcases h.k0 k (by omega) with e1 | ⟨e1, e2, e3⟩
        · rw [e1]
        · constructor
          · rintro ⟨x, -⟩; omega
          · rintro ⟨x, -⟩; exact absurd (e2 x).1 e
      have hq : (0 ≤ q ∧ q < ((k + 1 : Nat) : Int) ∧ iK (c (pl t q 0)) = 3 ∧ c (pl t q 4) = 0) ↔ (0 ≤ q ∧ q < (k : Int) ∧ iK (c (pl t q 0)) = 3 ∧ c (pl t q 4) = 0) := by
        constructor
        · rintro ⟨a, b, d⟩; exact ⟨a, by omega, d⟩
        · rintro ⟨a, b, d⟩; exact ⟨a, by omega, d⟩
      simp only [hiff, hq]
      omega
theorem zN_clean {c : Int → Int} (hno : ∀ x, 0 ≤ x → x < P → iK (c (pl t x 0)) = 3 → c (pl t x 4) = c (pl t x 5) ∧ c (pl t x 5) ≠ 0) : ∀ k : Nat, (k : Int) ≤ P → zN t c k = 0
  | 0, _ => rfl
  | k + 1, hk => by
    unfold zN
    rw [zN_clean hno k (by omega), if_neg]
    · rfl
    · rintro ⟨e1, e2⟩
      have := hno k (by omega) (by omega) e1
      omega

/-- what is kept of a heap. -/
structure Kp (t : Int) (c c' : Int → Int) : Prop where
  s4 : ∀ x, 0 ≤ x → c' (pl t x 4) = c (pl t x 4)
  k0 : ∀ x, 0 ≤ x → c' (pl t x 0) = c (pl t x 0) ∨ (iK (c (pl t x 0)) ≠ 2 ∧ (iK (c (pl t x 0)) = 3 → c (pl t x 4) = 0) ∧ (iK (c' (pl t x 0)) = 0 ∨ iK (c' (pl t x 0)) = 1))
  low : ∀ i, i = 1 ∨ (22 ≤ i ∧ i < 30) → c' i = c i
theorem Kp.refl (t : Int) (c : Int → Int) : Kp t c c := ⟨fun _ _ => rfl, fun _ _ => Or.inl rfl, fun _ _ => rfl⟩
theorem Kp.step {q : Int} {c d e : Int → Int} (h : Kp t c d) (k : Swp t P q d e) : Kp t c e := by
  refine ⟨fun x x0 => (k.s4 x x0).trans (h.s4 x x0), fun x x0 => ?_, fun i hi => (k.low i hi).trans (h.low i hi)⟩
  rcases h.k0 x x0 with e1 | ⟨a1, a2, a3⟩
  · rcases k.k0 x x0 with e2 | ⟨b1, b2, b3⟩
    · exact Or.inl (e2.trans e1)
    · rw [e1] at b1 b2
      refine Or.inr ⟨b1, fun e3 => ?_, b3⟩
      obtain ⟨rfl, hz⟩ := b2 e3
      rw [← h.s4 x x0]; exact hz
  · rcases k.k0 x x0 with e2 | ⟨b1, b2, b3⟩
    · rw [e2]; exact Or.inr ⟨a1, a2, a3⟩
    · exact Or.inr ⟨a1, a2, b3⟩
/-- a page that sweeping leaves clean stays so. -/
theorem Swp.keeps {q x : Int} {c c' : Int → Int} (h : Swp t P q c c') (x0 : 0 ≤ x) (hx : x ≠ q) (hcl : iK (c (pl t x 0)) = 3 → c (pl t x 4) = c (pl t x 5)) : iK (c' (pl t x 0)) = 3 → c' (pl t x 4) = c' (pl t x 5) := by
  intro e
  rcases h.k0 x x0 with e1 | ⟨-, -, e3⟩
  · rw [h.s4 x x0, h.s5 x x0 hx]
    exact hcl (by rw [← e1]; exact e)
  · omega
end

section
variable {vs vs' : List Int} {t s : Int} {P : Nat}
theorem liveL_slots (q k : Int) (h4 : gv vs' t q 4 = gv vs t q 4) : ∀ b : Nat, liveL (slabL vs' t s q k b) = liveL (slabL vs t s q k b)
  | 0 => rfl
  | b + 1 => by
    unfold slabL
    rw [liveL_app, liveL_app, liveL_slots q k h4 b, h4]
    congr 1
    unfold liveL
    cases e : bitB (gv vs t q 4) b
    · simp only [kindF]
      cases bitB (gv vs' t q 5) b <;> cases bitB (gv vs t q 5) b <;> simp [liveL]
    · simp [kindF]
theorem liveL_none (q k : Int) (h4 : gv vs t q 4 = 0) : ∀ b : Nat, liveL (slabL vs t s q k b) = []
  | 0 => rfl
  | b + 1 => by
    unfold slabL
    rw [liveL_app, liveL_none q k h4 b, h4, bit_zero]
    unfold liveL kindF
    cases bitB (gv vs t q 5) b <;> simp [liveL]
theorem blockQ_eq (q : Nat) (h4 : gv vs' t q 4 = gv vs t q 4) (h0 : gv vs' t q 0 = gv vs t q 0 ∨ (iK (gv vs t q 0) ≠ 2 ∧ (iK (gv vs t q 0) = 3 → gv vs t q 4 = 0) ∧ (iK (gv vs' t q 0) = 0 ∨ iK (gv vs' t q 0) = 1))) : liveL (partQ vs' t s q) = liveL (partQ vs t s q) := by
  rcases h0 with h0 | ⟨h2, h3, h1⟩
  · unfold partQ
    rw [h0]
    split
    · rfl
    · split
      · unfold slabF
        rw [liveL_app, liveL_app, liveL_slots _ _ h4]
      · rfl
  · have e1 : liveL (partQ vs' t s q) = [] := by
      unfold partQ
      rcases h1 with h1 | h1
      · rw [if_neg (by omega), if_neg (by omega)]; rfl
      · rw [if_pos (Or.inl h1), h1]; simp [liveL]
    have b := inf_bd (gv vs t q 0)
    have e2 : liveL (partQ vs t s q) = [] := by
      unfold partQ
      rcases (by omega : iK (gv vs t q 0) = 0 ∨ iK (gv vs t q 0) = 1 ∨ iK (gv vs t q 0) = 3) with h5 | h5 | h5
      · rw [if_neg (by omega), if_neg (by omega)]; rfl
      · rw [if_pos (Or.inl h5), h5]; simp [liveL]
      · rw [if_neg (by omega), if_pos h5]
        unfold slabF
        rw [liveL_app, liveL_none _ _ (h3 h5)]
        split <;> simp [liveL]
    rw [e1, e2]
theorem blocks_eq (hk : Kp t (cv vs) (cv vs')) : blocksF vs' t P s = blocksF vs t P s := by
  unfold blocksF partsF
  have key : ∀ k : Nat, liveL (partsL vs' t s k) = liveL (partsL vs t s k) := by
    intro k
    induction k with
    | zero => rfl
    | succ k ih =>
      unfold partsL
      rw [liveL_app, liveL_app, ih, blockQ_eq k (hk.s4 k (by omega)) (hk.k0 k (by omega))]
  exact key _
theorem live_eq (hk : Kp t (cv vs) (cv vs')) : ∀ k : Nat, liveN vs' t k = liveN vs t k
  | 0 => rfl
  | k + 1 => by
    unfold liveN
    have h4 : gv vs' t k 4 = gv vs t k 4 := hk.s4 k (by omega)
    have h0 : (iK (gv vs' t k 0) = 2 ↔ iK (gv vs t k 0) = 2) := by
      rcases hk.k0 k (by omega) with e | ⟨e1, -, e3⟩
      · have e' : gv vs' t k 0 = gv vs t k 0 := e
        rw [e']
      · have e1' : iK (gv vs t k 0) ≠ 2 := e1
        have e3' : iK (gv vs' t k 0) = 0 ∨ iK (gv vs' t k 0) = 1 := e3
        constructor
        · intro x; omega
        · intro x; omega
    rw [live_eq hk k, h4]
    simp only [h0]
/-- a heap that is kept is a heap, and holds the same. -/
theorem kept_chk (ht : 1 ≤ t) (h : (chkF vs t P s).2 = true) (hh : Hp t P (cv vs')) (hk : Kp t (cv vs) (cv vs')) :
    (chkF vs' t P s).2 = true ∧ blocksF vs' t P s = blocksF vs t P s ∧ ∀ i : Nat, i < 8 → vs'.getD (22 + i) 0 = vs.getD (22 + i) 0 := by
  have hb := blocks_eq (P := P) (s := s) hk
  have hr : ∀ i : Nat, i < 8 → vs'.getD (22 + i) 0 = vs.getD (22 + i) 0 := fun i hi => by
    have := hk.low ((22 + i : Nat) : Int) (Or.inr (by omega))
    exact this
  obtain ⟨-, -, -, -, -, -, -, h8, h9⟩ := chk_every.1 h
  obtain ⟨L, l, hand⟩ := hh
  refine ⟨chk_of_hand hand ?_ ?_, hb, hr⟩
  · unfold countsF at h8
    rw [Bool.and_eq_true] at h8
    have h10 : vs.getD 1 0 = liveN vs t (P : Int).toNat := of_decide_eq_true h8.2
    have h11 : vs'.getD 1 0 = vs.getD 1 0 := hk.low 1 (Or.inl rfl)
    rw [h11, h10, live_eq hk]; rfl
  · unfold rootsF at h9 ⊢
    rw [allN_iff] at h9 ⊢
    intro i hi
    have := h9 i hi
    unfold rootB at this ⊢
    rw [hr i hi, hb]
    exact this
end
end Go.Proofs.YtpmoajhpgekhcaaGreat
/- views whose pages are swept: what their values are then. -/
set_option linter.unusedSimpArgs false
set_option linter.unusedVariables false
namespace Go.Proofs.YtpmoajhpgekhcaaGreat
open Go.RowKit

/-- a view of vs of which pages were swept; the first K of them are clean. -/
structure SwV (t s : Int) (P : Nat) (vs : List Int) (K : Nat) (c : Int → Int) (st : VS) : Prop where
  cvw : CV t P s c st
  hp : Hp t P c
  au : AU c
  kp : Kp t (cv vs) c
  fr : c 0 + zN t c P = cv vs 0 + zN t (cv vs) P
  cl : ∀ x : Int, 0 ≤ x → x < P → x < K → iK (c (pl t x 0)) = 3 → c (pl t x 4) = c (pl t x 5)

section
variable {t s : Int} {P K : Nat} {vs : List Int} {c : Int → Int} {st : VS}
theorem cv_au (hu : ∀ v ∈ vs, VS.U32 v) : AU (cv vs) := fun i => getD_u32 hu _
theorem whole_cv (hr : rightB t P s = true) (hn : (vs.length : Int) = 30 + 4 * t + 6 * P) : CV t P s (cv vs) (wholeVS vs) := by
  refine ⟨hr, hn, rfl, fun i i0 i1 => ?_⟩
  have hi : i.toNat < vs.length := by
    have : (wholeVS vs).n = vs.length := rfl
    omega
  show (match wl [] i.toNat with | some v => some v | none => vs[i.toNat]?) = _
  have : wl [] i.toNat = none := rfl
  rw [this]
  unfold cv
  simp [hi]
theorem SwV.start (hr : rightB t P s = true) (hn : (vs.length : Int) = 30 + 4 * t + 6 * P) (hu : ∀ v ∈ vs, VS.U32 v) (h : (chkF vs t P s).2 = true) : SwV t s P vs 0 (cv vs) (wholeVS vs) := by
  obtain ⟨l, hh⟩ := hand_of_chk hu h
  exact ⟨whole_cv hr hn, ⟨_, l, hh⟩, cv_au hu, Kp.refl _ _, rfl, fun x _ _ hx => by omega⟩
theorem SwV.step (hP : P ≤ 1024) (h : SwV t s P vs K c st) (q : Int) : ∃ c', SwV t s P vs K c' (sweepF t P s q st).2 ∧ (q = K → SwV t s P vs (K + 1) c' (sweepF t P s q st).2) := by
  obtain ⟨c', h1, h2, h3, h4, -, -⟩ := sweep_page q h.cvw (by omega) h.hp h.au
  have hz : zN t c' P = zN t c P - (if 0 ≤ q ∧ q < (P : Int) ∧ iK (c (pl t q 0)) = 3 ∧ c (pl t q 4) = 0 then 1 else 0) := h4.zero (fun a b e => by
    obtain ⟨L, l, hh⟩ := h2
    exact hh.taken q a b (by omega) e) P (by omega)
  have hfr : c' 0 + zN t c' P = cv vs 0 + zN t (cv vs) P := by
    rw [← h.fr, hz, h4.free]
    have e : (0 ≤ q ∧ q < (P : Int) ∧ iK (c (pl t q 0)) = 3 ∧ c (pl t q 4) = 0) ↔ (0 ≤ q ∧ q < ((P : Nat) : Int) ∧ iK (c (pl t q 0)) = 3 ∧ c (pl t q 4) = 0) := Iff.rfl
    split <;> omega
  have hcl : ∀ x : Int, 0 ≤ x → x < P → (x < K ∨ x = q) → iK (c' (pl t x 0)) = 3 → c' (pl t x 4) = c' (pl t x 5) := by
    intro x x0 x1 hx e
    by_cases hxq : x = q
    · subst hxq; exact h4.clean x0 x1 e
    · exact h4.keeps x0 hxq (h.cl x x0 x1 (hx.resolve_right hxq)) e
  exact ⟨c', ⟨h1, h2, h3, h.kp.step h4, hfr, fun x x0 x1 hx => hcl x x0 x1 (Or.inl hx)⟩, fun hq => ⟨h1, h2, h3, h.kp.step h4, hfr, fun x x0 x1 hx => hcl x x0 x1 (by omega)⟩⟩
theorem SwV.all (hP : P ≤ 1024) (h : SwV t s P vs 0 c st) : ∀ k : Nat, k ≤ P → ∃ c', SwV t s P vs k c' (sweepN t P s k st).2
  | 0, _ => ⟨c, h⟩
  | k + 1, hk => by
    obtain ⟨d, hd⟩ := SwV.all hP h k (by omega)
    obtain ⟨c', -, h2⟩ := hd.step hP (k : Int)
    exact ⟨c', h2 rfl⟩

theorem set_keep (i : Nat) : ∀ (ws : List (Nat × Int)) (vals : List Int), (∀ p ∈ ws, p.1 ≠ i) → (ws.foldl (fun l x => l.set x.1 x.2) vals)[i]? = vals[i]?
  | [], _, _ => rfl
  | x :: ws, vals, h => by
    show (ws.foldl _ (vals.set x.1 x.2))[i]? = _
    rw [set_keep i ws _ (fun p hp => h p (by simp [hp])), List.getElem?_set, if_neg (h x (by simp))]
theorem fold_at (i : Nat) : ∀ (ws : List (Nat × Int)) (vals : List Int), (ws.map (·.1)).Nodup → i < vals.length → (ws.foldl (fun l x => l.set x.1 x.2) vals)[i]? = match wl ws i with | some v => some v | none => vals[i]?
  | [], _, _, _ => rfl
  | x :: ws, vals, hn, hi => by
    simp only [List.map_cons, List.nodup_cons] at hn
    show (ws.foldl _ (vals.set x.1 x.2))[i]? = _
    rw [wl_cons]
    by_cases e : x.1 = i
    · rw [if_pos e, set_keep i ws _ (fun p hp e2 => hn.1 (by rw [e, ← e2]; exact List.mem_map_of_mem hp)), List.getElem?_set, if_pos e, if_pos (by omega)]
    · rw [if_neg e, fold_at i ws _ hn.2 (by simpa using hi), List.getElem?_set, if_neg e]
/-- the values of such a view. -/
theorem SwV.vals (h : SwV t s P vs K c st) (hn : (vs.length : Int) = 30 + 4 * t + 6 * P) (hi : st.Inv) (hc : (chkF vs t P s).2 = true) {vals : List Int} (hl : vals.length = st.n) (hk : ∀ i, i < st.n → st.known i = vals[i]?) :
    ∃ vs', vs' = setN vals st.writes st.writes.length ∧ vs'.length = vs.length ∧ (∀ v ∈ vs', VS.U32 v) ∧ (∀ i : Int, 0 ≤ i → i < 30 + 4 * t + 6 * P → cv vs' i = c i) ∧ Hp t P (cv vs') ∧
      (chkF vs' t P s).2 = true ∧ blocksF vs' t P s = blocksF vs t P s ∧ ∀ i : Nat, i < 8 → vs'.getD (22 + i) 0 = vs.getD (22 + i) 0 := by
  have hr := right_bd h.cvw.right
  have hnn := h.cvw.num
  have hat : ∀ i : Nat, i < vals.length → (setN vals st.writes st.writes.length)[i]? = some (c i) := by
    intro i hi2
    unfold setN
    rw [List.take_length, fold_at i _ _ hi.wnd hi2]
    have := h.cvw.at_ (i : Int) (by omega) (by omega)
    unfold vat at this
    rw [show ((i : Int)).toNat = i by omega] at this
    rw [← this]
    cases wl st.writes i with
    | some v => rfl
    | none => exact (hk i (by omega)).symm
  refine ⟨_, rfl, ?_⟩
  have hlen : (setN vals st.writes st.writes.length).length = vals.length := setN_len _ _ _
  generalize setN vals st.writes st.writes.length = vs' at *
  have hcv : ∀ i : Int, 0 ≤ i → i < 30 + 4 * t + 6 * P → cv vs' i = c i := by
    intro i i0 i1
    unfold cv
    have := hat i.toNat (by omega)
    rw [show ((i.toNat : Nat) : Int) = i by omega] at this
    simp [List.getD, this]
  have hpg : ∀ x k, 0 ≤ x → x < (P : Int) → 0 ≤ k → k ≤ 5 → cv vs' (pl t x k) = c (pl t x k) := fun x k x0 x1 k0 k5 => hcv _ (by unfold pl; omega) (by unfold pl; omega)
  have hhp : Hp t P (cv vs') := h.hp.congr (by omega) hcv
  have hu' : ∀ v ∈ vs', VS.U32 v := by
    intro v hv
    obtain ⟨i, hi2, he⟩ := List.getElem_of_mem hv
    have := hat i (by omega)
    rw [List.getElem?_eq_getElem hi2, he] at this
    rw [Option.some.inj this]
    exact h.au _
  -- beyond the pages nothing is asked: cells that there are not read 0 in both
  have hout : ∀ x, 0 ≤ x → ¬ x < (P : Int) → ∀ k, 0 ≤ k → k ≤ 5 → cv vs' (pl t x k) = 0 ∧ cv vs (pl t x k) = 0 := by
    intro x x0 x1 k k0 k5
    unfold cv pl
    constructor
    · rw [List.getD, List.getElem?_eq_none (by omega)]; rfl
    · rw [List.getD, List.getElem?_eq_none (by omega)]; rfl
  have hkp : Kp t (cv vs) (cv vs') := by
    refine ⟨fun x x0 => ?_, fun x x0 => ?_, fun i hi2 => ?_⟩
    · by_cases x1 : x < (P : Int)
      · rw [hpg x 4 x0 x1 (by omega) (by omega)]; exact h.kp.s4 x x0
      · rw [(hout x x0 x1 4 (by omega) (by omega)).1, (hout x x0 x1 4 (by omega) (by omega)).2]
    · by_cases x1 : x < (P : Int)
      · rw [hpg x 0 x0 x1 (by omega) (by omega)]; exact h.kp.k0 x x0
      · rw [(hout x x0 x1 0 (by omega) (by omega)).1, (hout x x0 x1 0 (by omega) (by omega)).2]; exact Or.inl rfl
    · rw [hcv i (by omega) (by omega)]; exact h.kp.low i hi2
  obtain ⟨k1, k2, k3⟩ := kept_chk (by omega) hc hhp hkp
  exact ⟨by omega, hu', hcv, hhp, k1, k2, k3⟩
/-- all pages swept: so many pages are free. -/
theorem SwV.free_all (h : SwV t s P vs P c st) : c 0 = cv vs 0 + zN t (cv vs) P := by
  rw [← h.fr, zN_clean (P := (P : Int)) (fun x x0 x1 e => ⟨h.cl x x0 x1 x1 e, ?_⟩) P (by omega)]
  · omega
  · obtain ⟨L, l, hh⟩ := h.hp
    exact hh.taken x x0 x1 (by omega) e
/-- values of which all slabs are clean: no slot is idle. -/
theorem idle_none (hcl : ∀ x : Nat, x < P → iK (gv vs t x 0) = 3 → gv vs t x 4 = gv vs t x 5) : idleL (partsF vs t P s) = [] := by
  have hsl : ∀ (q k : Int), gv vs t q 4 = gv vs t q 5 → ∀ b : Nat, ∀ x ∈ slabL vs t s q k b, x.1 ≠ 4 := by
    intro q k he b
    induction b with
    | zero => intro x hx; cases hx
    | succ b ih =>
      intro x hx
      unfold slabL at hx
      rcases List.mem_append.1 hx with hx | hx
      · exact ih x hx
      · simp only [List.mem_singleton] at hx
        subst hx
        show kindF _ _ ≠ 4
        rw [he]
        unfold kindF
        cases bitB (gv vs t q 5) b <;> simp
  have key : ∀ k : Nat, k ≤ P → ∀ x ∈ partsL vs t s k, x.1 ≠ 4 := by
    intro k
    induction k with
    | zero => intro _ x hx; cases hx
    | succ k ih =>
      intro hk x hx
      unfold partsL at hx
      rcases List.mem_append.1 hx with hx | hx
      · exact ih (by omega) x hx
      · unfold partQ at hx
        split at hx
        · simp only [List.mem_singleton] at hx
          subst hx
          show iK (gv vs t k 0) ≠ 4
          have := inf_bd (gv vs t k 0); omega
        · split at hx
          · rename_i h3
            unfold slabF at hx
            rcases List.mem_append.1 hx with hx | hx
            · exact hsl k _ (hcl k (by omega) h3) _ x hx
            · split at hx
              · simp only [List.mem_singleton] at hx
                subst hx
                simp
              · cases hx
          · cases hx
  unfold idleL partsF
  rw [List.filterMap_eq_nil_iff]
  intro x hx
  rw [if_neg (key _ (by omega) x hx)]
/-- empty pockets fit what has no idle slot. -/
theorem fits_none (sz : Nat → Int) {all : List (List (List Int))} {l : List (Int × Int × Int)} (hl : idleL l = []) (he : ∀ k, k < 9 → haveF all k = []) (hb : ∀ k, lensB all k = true) : fitsD sz all l = true := by
  have key : ∀ k, k ≤ 9 → docR sz all l k = some 0 := by
    intro k
    induction k with
    | zero => intro _; rfl
    | succ k ih =>
      intro hk
      unfold docR
      rw [ih (by omega)]
      show (if lensB all k = true then dPart (sz k) (haveF all k) l (0 + (haveF all k).length) else none) = _
      rw [if_pos (hb k), he k (by omega), dPart_iff, hl]
      simp
  unfold fitsD
  rw [key 9 (Nat.le_refl _)]; rfl
end
end Go.Proofs.YtpmoajhpgekhcaaGreat
/- sweep of the program: All. -/
set_option linter.unusedSimpArgs false
set_option linter.unusedVariables false
namespace Go.Proofs.YtpmoajhpgekhcaaGreat
open Go.RowKit

structure SwRel (w : World) (b : Nat) (S : Nat → Prop) (t p s : Int) (st : VS) (k : Nat) (n i : Value) (wr : World) : Prop where
  le : k ≤ p.toNat
  n : n = .int .i64 ((sweepN t p s k st).1 : Nat)
  i : i = .int .i64 k
  v : VSt PV w b S [w.heap.size] (sweepN t p s k st).2 wr
  c : ∀ o : Nat, wr.cell? ⟨w.heap.size, o, none⟩ = (#[.int .i64 t, .int .i64 p, .int .i64 s] : Array Value)[o]?
def SwRelE (w : World) (b : Nat) (S : Nat → Prop) (t p s : Int) (st : VS) (n i : Value) (wr : World) : Prop := ∃ k, SwRel w b S t p s st k n i wr

set_option maxHeartbeats 1000000 in
set_option maxRecDepth 100000 in
theorem sall_any (b : Nat) (t p s : Int) (w : World) (S : Nat → Prop) (st : VS) (h : PV w b S st) (hp : p ≤ 1024) (hp0 : 0 ≤ p) :
    Calls Tryz.prog 10 #[.pointer (some ⟨b, 0, none⟩), .agg #[.int .i64 t, .int .i64 p, .int .i64 s]] w fun e w' => e = .returned (.int .i64 (sweepN t p s p.toNat st).1) ∧ Now w b S (sweepN t p s p.toNat st).2 w' := by
  have hV := (VSt.start keepsPV h).alloc keepsPV (.cells #[.int .i64 t, .int .i64 p, .int .i64 s] 23)
  have c0 := loc_alloc w #[.int .i64 t, .int .i64 p, .int .i64 s] 23
  have HN := Lib.hid hp0
  clear h
  go_enter Tryz.func10, Tryz.ntmps10
  go_wp2_with fail
  go_loopw [5, 6, 9] (fun v5 _ v9 wr => SwRelE w b S t p s st v5 v9 wr) (fun _ _ v9 _ => p.toNat - (intOf v9).toNat)
  case atStart => exact ⟨0, Nat.zero_le _, rfl, rfl, hV, c0⟩
  case round =>
    obtain ⟨k, hk, rfl, rfl, hV1, c1⟩ := hrel
    clear hV c0
    have hN := sweepN_le t p s st k
    by_cases hlt : k < p.toNat
    · have hkp : (k : Int) < p := by omega
      have HP := fun (w : World) (S1 : Nat → Prop) (h1 : PV w b S1 (sweepN t p s k st).2) => spage_any b t p s k w S1 _ h1 hp
      have hs : sweepN t p s (k + 1) st = ((if (sweepF t p s k (sweepN t p s k st).2).1 = true then (sweepN t p s k st).1 + 1 else (sweepN t p s k st).1), (sweepF t p s k (sweepN t p s k st).2).2) := rfl
      have HK := Lib.hid hs
      clear hs
      generalize hm : (sweepN t p s k st).1 = m at *
      generalize hx : (sweepN t p s k st).2 = x at *
      clear hm hx
      obtain ⟨rb, y, hy⟩ : ∃ rb y, sweepF t p s k x = (rb, y) := ⟨_, _, rfl⟩
      rw [hy] at HP HK
      dsimp only at HP HK
      have HQ := Lib.hid HP
      clear HP hy
      cases rb
      · go_wp2_with fail
        refine (calls_st hV1 (HQ.out _)).mono ?_
        rintro e w2 ⟨rfl, hV2, hV2l⟩
        have c2 := loc_step hV2l (by simp) c1
        clear hV2l
        go_wp2_with fail
        go_roundw
        case rel => exact ⟨k + 1, by omega, by rw [HK.out]; simp, by go_num, by rw [HK.out]; exact hV2, c2⟩
        case measure => simp [intOf]; omega
      · have hw : IntKind.i64.wrap ((m : Int) + 1) = (m : Int) + 1 := wrap_in _ (by omega)
        go_wp2_with fail
        refine (calls_st hV1 (HQ.out _)).mono ?_
        rintro e w2 ⟨rfl, hV2, hV2l⟩
        have c2 := loc_step hV2l (by simp) c1
        clear hV2l
        go_wp2_with fail
        go_roundw
        case rel => exact ⟨k + 1, by omega, by rw [HK.out]; simp, by go_num, by rw [HK.out]; exact hV2, c2⟩
        case measure => simp [intOf]; omega
    · have hke : k = p.toNat := by omega
      subst hke
      have hkp : ((p.toNat : Nat) : Int) = p := by omega
      have HD := Lib.hid (hV1.done keepsPV)
      clear hV1 c1 hlt hk
      rw [hkp]
      go_wp2
      go_ret
      exact ⟨rfl, HD.out⟩
end Go.Proofs.YtpmoajhpgekhcaaGreat
/- fresh: the program's Vals. -/
set_option linter.unusedSimpArgs false
set_option linter.unusedVariables false
namespace Go.Proofs.YtpmoajhpgekhcaaGreat
open Go.RowKit

theorem put_nk (s : VS) (i v : Int) : (s.put i v).n = s.n ∧ (s.put i v).known = s.known := by unfold VS.put; split <;> exact ⟨rfl, rfl⟩
theorem get_nk (s : VS) (i : Int) : (s.get i).2.n = s.n ∧ (s.get i).2.known = s.known := by
  unfold VS.get
  split
  · split
    · exact ⟨rfl, rfl⟩
    · split
      · unfold VS.read1; split <;> exact ⟨rfl, rfl⟩
      · exact ⟨rfl, rfl⟩
  · exact ⟨rfl, rfl⟩
theorem push_nk (t p s h q : Int) (st : VS) : (pushF t p s h q st).n = st.n ∧ (pushF t p s h q st).known = st.known := by
  unfold pushF
  split
  · simp only
    split
    · simp only [put_nk, get_nk, and_self]
    · simp only [put_nk, get_nk, and_self]
  · exact ⟨rfl, rfl⟩
theorem add_nk (t p s : Int) (q n : Nat) (st : VS) : (addF t p s q n st).n = st.n ∧ (addF t p s q n st).known = st.known := by
  unfold addF
  simp only [push_nk, put_nk, and_self]
end Go.Proofs.YtpmoajhpgekhcaaGreat
/- the program's audit: Check, Parts, Live. -/
set_option linter.unusedSimpArgs false
set_option linter.unusedVariables false
namespace Go.Proofs.YtpmoajhpgekhcaaGreat
open Go.RowKit
section
variable {w : World} {t p s : Int}
end
section
variable {w : World} {t s : Int} {P : Nat} {ad : Addr} {n : Nat} {vs : List Int}
theorem XV.old (h : XV w t P s ad n vs) : ad.block < w.heap.size := by
  have hn := h.bd
  have := World.block_lt_of_cell? _ _ (h.cells 0 (by omega))
  rwa [add_block] at this
end
end Go.Proofs.YtpmoajhpgekhcaaGreat
/- the laws of the audit: the page's example; Few; the same parts; values among the arguments. -/
set_option linter.unusedSimpArgs false
set_option linter.unusedVariables false
namespace Go.Proofs.YtpmoajhpgekhcaaGreat
open Go.ChangeShapes Go.RowKit

theorem few12_any (t p s : Int) (w : World) :
    Calls Tryz.prog 5 #[.agg #[.int .i64 t, .int .i64 p, .int .i64 s]] w fun e w' => e = .returned (.bool (decide (p ≤ 64))) ∧ Below w.heap.size w w' := by
  go_enter Tryz.func5, Tryz.ntmps5
  go_wp2
  go_ret
  refine ⟨rfl, ?_⟩
  (repeat (first | exact Below.refl _ _ | assumption | refine Below.setCell ?_ (by first | omega | (simp; done) | (simp; omega)) _ | refine Below.alloc ?_ (by first | omega | (simp; done) | (simp; omega)) _ | refine Below.drew ?_ | refine Below.trans ?_ (Below.mono ‹Below _ _ _› (by first | omega | (simp; done) | (simp; omega)))))
section
variable {H : Type} {enc : TypeId × Value → H} {w : World} {base : Nat} {spare : Nat → Bool} {held : Bool}
theorem rd12_u32 {fuel : Nat} {cs : List Value} {x : DataW H × List MemPlace} (h : DataW.trod enc Tryz.prog w base spare held fuel 24 cs = some x) :
    ∃ v vals, cs = [v] ∧ Rd w v 1 vals.length (uints vals) ∧ ∀ u ∈ vals, VS.U32 u := by
  rcases open_ints Tryz.underlying24 Tryz.underlying41 (by kernel_rfl) h with ⟨rfl, -⟩ | ⟨a, len, cap, zs, rfl, -, hl, -, hz, -, hc, hw⟩
  · exact ⟨_, [], rfl, ⟨rfl, Or.inl ⟨rfl, rfl⟩⟩, by simp⟩
  · have hle : len ≤ zs.length := by rw [hz]; split <;> omega
    have e : (zs.take len).length = len := by simp; omega
    refine ⟨_, zs.take len, rfl, ⟨by simp [uints], Or.inr ⟨a, cap, by rw [e], ?_⟩⟩, ?_⟩
    · intro j u hj
      have hjl : j < len := by
        have := (List.getElem?_eq_some_iff.1 hj).1
        simp [uints] at this; omega
      rw [hc j (by omega), ← hj]
      simp [uints, hjl, show j < zs.length by omega]
    · intro u hu
      have := hw u (List.mem_of_mem_take hu)
      simp [Lit.wf] at this
      have e1 : IntKind.u32.min = 0 := by decide
      have e2 : IntKind.u32.max = 4294967295 := by decide
      exact ⟨by omega, by omega⟩
end
theorem rd12_len {w : World} {v : Value} {sz n : Nat} {xs : List Value} (h : Rd w v sz n xs) : ∃ a c, v = .slice a n c := by
  rcases h.2 with ⟨rfl, rfl⟩ | ⟨ad, c, rfl, -⟩
  · exact ⟨_, _, rfl⟩
  · exact ⟨_, _, rfl⟩
theorem Rd.keepB {w w' : World} {v : Value} {sz n : Nat} {xs : List Value} (h : Rd w v sz n xs) (hb : Below w.heap.size w w') : Rd w' v sz n xs :=
  ⟨h.1, h.2.imp id fun ⟨ad, c, e, hc⟩ => ⟨ad, c, e, fun j u hj => (hb.cell (World.block_lt_of_cell? _ _ (hc j u hj))).trans (hc j u hj)⟩⟩
/-- values that are as many as there must be. -/
theorem Rd.xv {w : World} {v : Value} {vals : List Int} {t p s : Int} (h : Rd w v 1 vals.length (uints vals)) (hu : ∀ u ∈ vals, VS.U32 u) (hr : rightB t p s = true) (hp : p ≤ 1024) (hn : (vals.length : Int) = cellsN t p) :
    ∃ ad c, v = .slice (some ad) vals.length c ∧ XV w t p s ad vals.length vals := by
  have bd := right_bd hr
  rcases h.2 with ⟨-, h0⟩ | ⟨ad, c, rfl, hc⟩
  · unfold cellsN at hn; omega
  · refine ⟨ad, c, rfl, hr, hp, rfl, by rw [hn]; rfl, hu, fun k hk => hc k _ ?_⟩
    simp [uints, hk]

end Go.Proofs.YtpmoajhpgekhcaaGreat
/- sweep: the page's example. -/
set_option linter.unusedSimpArgs false
set_option linter.unusedVariables false
namespace Go.Proofs.YtpmoajhpgekhcaaGreat
open Go.RowKit

def eiWs : List Int := ((((List.replicate 82 (0 : Int)).set 0 8).set 5 1).set 34 129).set 77 1
def evWs : List Int := ((((((((((eiWs.set 0 7).set 5 0).set 12 0).set 21 1).set 34 524307).set 35 1).set 39 1).set 40 113).set 77 2).set 4 2)
theorem ev_n : (sweepN 1 8 10 8 (wholeVS evWs)).1 = 1 := by decide +kernel
theorem ev_chk : chkF (setN evWs (sweepN 1 8 10 8 (wholeVS evWs)).2.writes (sweepN 1 8 10 8 (wholeVS evWs)).2.writes.length) 1 8 10 = (0, true) := by decide +kernel
theorem ev_get0 : ((sweepN 1 8 10 8 (wholeVS evWs)).2.get 0).1 = 8 := by decide +kernel
theorem ev_get21 : (((sweepN 1 8 10 8 (wholeVS evWs)).2.get 0).2.get 21).1 = 0 := by decide +kernel


theorem pull_nk (t p s h q : Int) (st : VS) : (pullF t p s h q st).n = st.n ∧ (pullF t p s h q st).known = st.known := by
  unfold pullF
  split
  · dsimp only
    have h1 := get_nk st (ofF t p s q 2)
    have h2 := get_nk (st.get (ofF t p s q 2)).2 (ofF t p s q 3)
    generalize ((st.get (ofF t p s q 2)).2.get (ofF t p s q 3)) = f at *
    generalize (st.get (ofF t p s q 2)).1 = g at *
    rw [h1.1, h1.2] at h2
    have h3 : (if f.1 = 0 then f.2.put h g else f.2.put (ofF t p s (f.1 - 1) 2) g).n = st.n ∧ (if f.1 = 0 then f.2.put h g else f.2.put (ofF t p s (f.1 - 1) 2) g).known = st.known := by
      split <;> simp only [put_nk, h2, and_self]
    generalize (if f.1 = 0 then f.2.put h g else f.2.put (ofF t p s (f.1 - 1) 2) g) = s3 at *
    have h4 : (if g = 0 then s3 else s3.put (ofF t p s (g - 1) 3) f.1).n = st.n ∧ (if g = 0 then s3 else s3.put (ofF t p s (g - 1) 3) f.1).known = st.known := by
      split <;> simp only [put_nk, h3, and_self]
    generalize (if g = 0 then s3 else s3.put (ofF t p s (g - 1) 3) f.1) = s4 at *
    simp only [put_nk, h4, and_self]
  · exact ⟨rfl, rfl⟩
theorem drop_nk (t p s q : Int) (st : VS) : (dropF t p s q st).2.n = st.n ∧ (dropF t p s q st).2.known = st.known := by
  unfold dropF freeAt
  split
  · dsimp only
    split
    · exact get_nk _ _
    · simp only [pull_nk, get_nk, and_self]
  · exact ⟨rfl, rfl⟩
theorem join_nk (t p s q b : Int) (st : VS) : (joinF t p s q b st).2.n = st.n ∧ (joinF t p s q b st).2.known = st.known := by
  unfold joinF; simp only [put_nk, drop_nk, and_self]
theorem addG_nk (t p s q n : Int) (st : VS) : (addG t p s q n st).n = st.n ∧ (addG t p s q n st).known = st.known := by
  unfold addG; split
  · exact add_nk _ _ _ _ _ _
  · exact ⟨rfl, rfl⟩
theorem freeAt_nk (t p s q : Int) (st : VS) : (freeAt t p s q st).2.n = st.n ∧ (freeAt t p s q st).2.known = st.known := by
  unfold freeAt; exact get_nk _ _
theorem ahead_nk (t p s q : Int) (st : VS) : (aheadF t p s q st).2.n = st.n ∧ (aheadF t p s q st).2.known = st.known := by
  unfold aheadF; split
  · exact ⟨rfl, rfl⟩
  · exact get_nk _ _
theorem back_nk (t p s q n : Int) (st : VS) : (backF t p s q n st).2.n = st.n ∧ (backF t p s q n st).2.known = st.known := by
  unfold backF
  dsimp only
  split
  · exact ahead_nk _ _ _ _ _
  · split
    · simp only [freeAt_nk, ahead_nk, and_self]
    · simp only [join_nk, freeAt_nk, ahead_nk, and_self]
theorem fore_nk (t p s r l : Int) (st : VS) : (foreF t p s r l st).2.n = st.n ∧ (foreF t p s r l st).2.known = st.known := by
  unfold foreF
  dsimp only
  split
  · split
    · exact freeAt_nk _ _ _ _ _
    · simp only [join_nk, freeAt_nk, and_self]
  · exact ⟨rfl, rfl⟩
theorem release_nk (t p s q n : Int) (st : VS) : (releaseF t p s q n st).n = st.n ∧ (releaseF t p s q n st).known = st.known := by
  unfold releaseF countF
  dsimp only
  simp only [put_nk, get_nk, addG_nk, fore_nk, back_nk, and_self]
theorem sweep_nk (t p s q : Int) (st : VS) : (sweepF t p s q st).2.n = st.n ∧ (sweepF t p s q st).2.known = st.known := by
  unfold sweepF
  dsimp only
  split
  · split
    · split
      · simp only [get_nk, and_self]
      · dsimp only
        split
        · split <;> simp only [release_nk, pull_nk, put_nk, get_nk, and_self]
        · split <;> simp only [push_nk, put_nk, get_nk, and_self]
    · exact get_nk _ _
  · exact ⟨rfl, rfl⟩
theorem sweepN_nk (t p s : Int) (st : VS) (k : Nat) : (sweepN t p s k st).2.n = st.n ∧ (sweepN t p s k st).2.known = st.known := by
  induction k with
  | zero => exact ⟨rfl, rfl⟩
  | succ k ih => unfold sweepN; dsimp only; simp only [sweep_nk, ih, and_self]

theorem ei_len : eiWs.length = 82 := by decide
def EightP (w : World) (e : Ending) (w' : World) : Prop := ∃ g : Nat, e = .returned (.tuple #[.agg #[.int .i64 1, .int .i64 8, .int .i64 10], .slice (some ⟨g, 0, none⟩) 82 82]) ∧ WtAt w' g eiWs ∧ w.heap.size ≤ g ∧ Below w.heap.size w w'
set_option maxHeartbeats 1000000 in
set_option maxRecDepth 100000 in
theorem eight_any (w : World) : Calls Tryz.prog 17 #[] w (EightP w) := by
  have hmk : ∀ w : World, (Instr.makeSlice 24 (.int .i64 82) (.int .i64 82)).run Tryz.prog w = .ok (.slice (some ⟨w.heap.size, 0, none⟩) 82 82) (w.alloc (.cells (madeCells #[.int .u32 0] 82) 41)) := run_make_row' (P := Tryz.prog) 24 41 (.int .u32 0) 4 Tryz.underlying24 infoU32 rfl .i64 .i64 82 (by omega) (by omega)
  simp only [made_u32] at hmk
  obtain ⟨A0, hA0⟩ : ∃ A, (uints (List.replicate 82 0)).toArray = A := ⟨_, rfl⟩
  rw [hA0] at hmk
  have hsz : A0.size = 82 := by rw [← hA0]; simp [uints]
  obtain ⟨z0, k0⟩ : ∃ z, A0[0]? = some z := ⟨_, Array.getElem?_eq_getElem (by omega)⟩
  obtain ⟨z5, k5⟩ : ∃ z, A0[5]? = some z := ⟨_, Array.getElem?_eq_getElem (by omega)⟩
  obtain ⟨z34, k34⟩ : ∃ z, A0[34]? = some z := ⟨_, Array.getElem?_eq_getElem (by omega)⟩
  obtain ⟨z77, k77⟩ : ∃ z, A0[77]? = some z := ⟨_, Array.getElem?_eq_getElem (by omega)⟩
  have hSet : (((A0.setIfInBounds 0 (.int .u32 8)).setIfInBounds 5 (.int .u32 1)).setIfInBounds 34 (.int .u32 129)).setIfInBounds 77 (.int .u32 1) = (uints eiWs).toArray := by rw [← hA0]; kernel_rfl
  have HSet := Lib.hid (fun _ : Unit => hSet)
  clear hSet hA0
  go_enter Tryz.func17, Tryz.ntmps17
  go_wp2
  rw [HSet.out ()]
  refine bodyPost_ret (v := .tuple #[.agg #[.int .i64 1, .int .i64 8, .int .i64 10], .slice (some ⟨w.heap.size + 1, 0, none⟩) 82 82]) (by simp [results, Tryz.results17, go_sem]) rfl ⟨_, rfl, ?_, by omega, ?_⟩
  · exact hb_alloc _ _ _ (by simp)
  · exact ((Below.refl _ _).alloc (Nat.le_refl _) _).alloc (by simp) _

theorem ev_len : evWs.length = 82 := by decide
theorem ev_u32 : ∀ v ∈ evWs, VS.U32 v := by unfold VS.U32; decide
theorem ev_xv {W : World} {ad : Addr} {vs : List Int} (hl : vs.length = 82) (hu : ∀ v ∈ vs, VS.U32 v) (hc : ∀ k, k < 82 → W.cell? (ad.add k) = some (.int .u32 (vs.getD k 0))) : XV W 1 8 10 ad 82 vs :=
  ⟨by decide, by decide, hl, by decide, hu, hc⟩

theorem wt_rd {W : World} {g : Nat} {ws : List Int} {n c : Nat} (h : WtAt W g ws) (hn : n = ws.length) : Rd W (.slice (some ⟨g, 0, none⟩) n c) 1 ws.length (uints ws) := by
  subst hn
  refine ⟨by simp [uints], Or.inr ⟨⟨g, 0, none⟩, c, rfl, fun j u hj => ?_⟩⟩
  have e : (⟨g, 0, none⟩ : Addr).add j = ⟨g, j, none⟩ := by unfold Addr.add; split <;> simp_all
  rw [e]
  exact (cell?_of_heap h).trans (by simpa using hj)
/-- the program's view, made in a call that has boxes. -/
theorem NewV.vst {w wz w2 : World} {b : Nat} {st : VS} {Ls : List Nat} (hB : BS w Ls wz) (h : PV w2 b (fun k => wz.heap.size ≤ k ∧ k < w2.heap.size) st) (hb : Below wz.heap.size wz w2) : VSt PV w b (fun _ => False) Ls st w2 := by
  refine ⟨⟨_, h, fun k hk => Or.inr (Nat.le_trans hB.bel.size hk.1), fun L hL x => by have := (hB.ls L hL).1; omega⟩, Fr.of_below (hB.bel.trans (hb.mono hB.bel.size)), fun L hL => ⟨Nat.lt_of_lt_of_le (hB.ls L hL).1 hb.size, (hB.ls L hL).2⟩, fun _ x => x.elim⟩
theorem VSt.bel {w w2 : World} {b : Nat} {st : VS} {Ls : List Nat} {R : World → Nat → (Nat → Prop) → VS → Prop} (h : VSt R w b (fun _ => False) Ls st w2) : Below w.heap.size w w2 := h.fr.below (Nat.le_refl _) (fun _ x => x.elim)
def evSt : VS := (sweepN 1 8 10 8 (wholeVS evWs)).2
theorem ev_nk : evSt.n = 82 ∧ evSt.known = fun i => evWs[i]? := by
  have h := sweepN_nk 1 8 10 (wholeVS evWs) 8
  unfold evSt
  rw [h.1, h.2]
  exact ⟨ev_len, rfl⟩
theorem ev_vals (vals : List Int) (h1 : vals.length = evSt.n) (h2 : ∀ i, i < evSt.n → evSt.known i = vals[i]?) : vals = evWs := by
  obtain ⟨hn, hk⟩ := ev_nk
  rw [hn] at h1 h2
  rw [hk] at h2
  apply List.ext_getElem?
  intro i
  by_cases hi : i < 82
  · exact (h2 i hi).symm
  · rw [List.getElem?_eq_none (by omega), List.getElem?_eq_none (by rw [ev_len]; omega)]

theorem ev_g0 : (evSt.get 0).1 = 8 := by unfold evSt; exact ev_get0
theorem ev_g21 : ((evSt.get 0).2.get 21).1 = 0 := by unfold evSt; exact ev_get21
theorem ev_out (s3 : VS) : sweepF 1 8 10 (-1) s3 = (false, s3) := by unfold sweepF; rw [if_neg (by decide)]
theorem calls_gen {P : Program} {f : FuncId} {args : Array Value} {Q : Ending → World → Prop} {W : World} (h : ∀ W', W' = W → Calls P f args W' Q) : Calls P f args W Q := h W rfl
theorem ev_all (b : Nat) (w : World) (S1 : Nat → Prop) (h1 : PV w b S1 (wholeVS evWs)) : Calls Tryz.prog 10 #[.pointer (some ⟨b, 0, none⟩), .agg #[.int .i64 1, .int .i64 8, .int .i64 10]] w fun e w' => e = .returned (.int .i64 1) ∧ Now w b S1 evSt w' := by
  have := sall_any b 1 8 10 w S1 _ h1 (by omega) (by omega)
  rw [show (8 : Int).toNat = 8 from rfl, ev_n] at this
  exact this
def evEnd : List Int := setN evWs evSt.writes evSt.writes.length
theorem ev_end_len : evEnd.length = 82 := by decide +kernel
theorem ev_end_u32 : ∀ v ∈ evEnd, VS.U32 v := by
  have h : ∀ v ∈ evEnd, 0 ≤ v ∧ v < 4294967296 := by decide +kernel
  exact h
theorem ev_valsC (b : Nat) (w : World) (S1 : Nat → Prop) (h1 : PV w b S1 evSt) : Calls Tryz.prog 12 #[.pointer (some ⟨b, 0, none⟩)] w (ValsP w evEnd) := by
  obtain ⟨vals, hl, hk, hc⟩ := vals_any b w S1 evSt h1 (by rw [ev_nk.1]; omega) (by rw [ev_nk.1]; omega)
  obtain rfl := ev_vals vals hl hk
  exact hc
theorem ev_check (g2 c2 : Nat) (w : World) (h : w.ownsRow 0 41 1 (.slice (some ⟨g2, 0, none⟩) 82 c2) 82 (uints evEnd)) : Calls Tryz.prog 16 #[.agg #[.int .i64 1, .int .i64 8, .int .i64 10], .slice (some ⟨g2, 0, none⟩) 82 c2] w fun e w' => e = .returned (.tuple #[.int .i64 0, .bool true]) ∧ Below w.heap.size w w' := by
  have hx : XV w 1 8 10 ⟨g2, 0, none⟩ 82 evEnd := ev_xv ev_end_len ev_end_u32 (fun k hk => by
    have e : (⟨g2, 0, none⟩ : Addr).add k = ⟨g2, k, none⟩ := by unfold Addr.add; split <;> simp_all
    have hl := ev_end_len
    rw [e]
    exact (h.cellAt k (by omega)).trans (by simp [uints, show k < evEnd.length by omega]))
  have := rcheck_any c2 w hx
  rw [show chkF evEnd 1 8 10 = (0, true) from (by unfold evEnd evSt; exact ev_chk)] at this
  exact this
set_option maxHeartbeats 4000000 in
set_option maxRecDepth 100000 in
theorem swlive_any (w : World) : Calls Tryz.prog 7 #[] w fun e w' => e = .returned (.bool true) ∧ Below w.heap.size w w' := by
  have H8 := Lib.hid (fun w => eight_any w)
  have HL := Lib.hid ei_len
  have hE : ((((((((((eiWs.set 0 7).set 5 0).set 12 0).set 21 1).set 34 524307).set 35 1).set 39 1).set 40 113).set 77 2).set 4 2) = evWs := rfl
  have HE := Lib.hid (fun _ : Unit => hE)
  clear hE
  unfold EightP at H8
  generalize eiWs = ws at *
  go_enter Tryz.func7, Tryz.ntmps7
  go_wp2_with fail
  refine (H8.out _).mono ?_
  rintro e w1 ⟨g, rfl, hg1, gl, r1⟩
  obtain ⟨z0, q0⟩ : ∃ z, w1.cell? ⟨g, 0, none⟩ = some z := ⟨_, hg1.cell (by rw [HL.out]; decide)⟩
  have f0 := hg1.frozen 0
  obtain ⟨z5, q5⟩ : ∃ z, w1.cell? ⟨g, 5, none⟩ = some z := ⟨_, hg1.cell (by rw [HL.out]; decide)⟩
  have f5 := hg1.frozen 5
  obtain ⟨z12, q12⟩ : ∃ z, w1.cell? ⟨g, 12, none⟩ = some z := ⟨_, hg1.cell (by rw [HL.out]; decide)⟩
  have f12 := hg1.frozen 12
  obtain ⟨z21, q21⟩ : ∃ z, w1.cell? ⟨g, 21, none⟩ = some z := ⟨_, hg1.cell (by rw [HL.out]; decide)⟩
  have f21 := hg1.frozen 21
  obtain ⟨z34, q34⟩ : ∃ z, w1.cell? ⟨g, 34, none⟩ = some z := ⟨_, hg1.cell (by rw [HL.out]; decide)⟩
  have f34 := hg1.frozen 34
  obtain ⟨z35, q35⟩ : ∃ z, w1.cell? ⟨g, 35, none⟩ = some z := ⟨_, hg1.cell (by rw [HL.out]; decide)⟩
  have f35 := hg1.frozen 35
  obtain ⟨z39, q39⟩ : ∃ z, w1.cell? ⟨g, 39, none⟩ = some z := ⟨_, hg1.cell (by rw [HL.out]; decide)⟩
  have f39 := hg1.frozen 39
  obtain ⟨z40, q40⟩ : ∃ z, w1.cell? ⟨g, 40, none⟩ = some z := ⟨_, hg1.cell (by rw [HL.out]; decide)⟩
  have f40 := hg1.frozen 40
  obtain ⟨z77, q77⟩ : ∃ z, w1.cell? ⟨g, 77, none⟩ = some z := ⟨_, hg1.cell (by rw [HL.out]; decide)⟩
  have f77 := hg1.frozen 77
  obtain ⟨z4, q4⟩ : ∃ z, w1.cell? ⟨g, 4, none⟩ = some z := ⟨_, hg1.cell (by rw [HL.out]; decide)⟩
  have f4 := hg1.frozen 4
  have HG := Lib.hid hg1
  have HR := Lib.hid r1
  have hgw := hg1.lt
  have hgw2 : g ≠ w1.heap.size := by omega
  clear hg1 r1 H8
  go_wp2_with fail
  have hWt := WtAt.alloc ((((((((((HG.out.set 0 7).set 5 0).set 12 0).set 21 1).set 34 524307).set 35 1).set 39 1).set 40 113).set 77 2).set 4 2) (.cells #[.int .i64 1, .int .i64 8, .int .i64 10] 23)
  rw [HE.out ()] at hWt
  refine calls_gen ?_
  intro wz hwz
  rw [← hwz] at hWt
  have hBel : Below w.heap.size w wz := by
    rw [hwz]
    have hR := HR.out
    have hRz := hR.size
    refine Below.alloc ?_ (by simpa using hRz) _
    iterate 10 refine Below.setCell ?_ (by exact gl) _
    exact hR
  have cz : ∀ o : Nat, wz.cell? ⟨w1.heap.size, o, none⟩ = (#[.int .i64 1, .int .i64 8, .int .i64 10] : Array Value)[o]? := by
    rw [hwz]; intro o
    exact cell?_of_heap (hb_alloc _ _ _ (by simp))
  have sz : wz.heap.size = w1.heap.size + 1 := by rw [hwz]; simp
  have hBS : BS w [w1.heap.size] wz := ⟨hBel, fun L hL => by simp at hL; subst hL; exact ⟨by omega, HR.out.size⟩⟩
  clear hwz hBel q0 f0 q5 f5 q12 f12 q21 f21 q34 f34 q35 f35 q39 f39 q40 f40 q77 f77 q4 f4 z0 z5 z12 z21 z34 z35 z39 z40 z77 z4
  have hRd := Lib.hid (wt_rd (n := 82) (c := 82) hWt ev_len.symm)
  have HU := Lib.hid ev_u32
  have HAll := Lib.hid ev_all
  have HVals := Lib.hid ev_valsC
  have HChk := Lib.hid ev_check
  have h82 := ev_len
  have e82 := ev_end_len
  have hg0 : (evSt.get 0).1 = 8 := ev_g0
  have hg1 : ((evSt.get 0).2.get 21).1 = 0 := ev_g21
  obtain ⟨v0, s2, hs2⟩ : ∃ v s, evSt.get 0 = (v, s) := ⟨_, _, rfl⟩
  rw [hs2] at hg0 hg1
  obtain ⟨v1, s3, hs3⟩ : ∃ v s, s2.get 21 = (v, s) := ⟨_, _, rfl⟩
  rw [show (v0, s2).2 = s2 from rfl, hs3] at hg1
  dsimp only at hg0 hg1
  subst hg0 hg1
  have G0 := fun b => Lib.hid (get_as (b := b) hs2)
  have G1 := fun b => Lib.hid (get_as (b := b) hs3)
  have HO := Lib.hid (fun (b : Nat) (w : World) (S1 : Nat → Prop) (h1 : PV w b S1 s3) => spage_out b 1 8 10 (-1) w S1 s3 h1 (by decide))
  rw [ev_out] at HO
  clear hs2 hs3
  generalize evSt = st1 at *
  generalize hE1 : evEnd = vE at *
  generalize evWs = vs at *
  clear hE1 HE
  refine (whole_any _ vs wz hRd.out (by omega) HU.out).mono ?_
  rintro e w2 ⟨b1, rfl, P2, B2⟩
  have hV := NewV.vst hBS P2 B2
  have c2 : ∀ o : Nat, w2.cell? ⟨w1.heap.size, o, none⟩ = (#[.int .i64 1, .int .i64 8, .int .i64 10] : Array Value)[o]? := fun o => (B2.cell (p := ⟨w1.heap.size, o, none⟩) (by show w1.heap.size < _; omega)).trans (cz o)
  clear P2 B2 hBS hRd hWt
  go_wp2_with fail
  refine (calls_st hV (HAll.out _ _)).mono ?_
  rintro e w3 ⟨rfl, hV3, hV3l⟩
  have c3 := loc_step hV3l (by simp) c2
  clear hV3l
  go_wp2_with fail
  have hX := hV3.drew keepsPV
  refine wp_region_noPanic ?_
  refine wp_region_held_drew (S := fun w' => (∀ o : Nat, w'.cell? ⟨w1.heap.size, o, none⟩ = (#[.int .i64 1, .int .i64 8, .int .i64 10] : Array Value)[o]?)) (by kernel_rfl) ?_ (fun hHeld => ?_)
  · exact c3
  refine wT 0 ?_
  refine wT 1 ?_
  refine wR 2 fun K hK => ?_
  go_simp
  obtain ⟨S1, p1, -, -⟩ := hX.ex
  refine (HVals.out _ _ _ p1).mono ?_
  rintro e w4 ⟨v4, rfl, o4, n4, B4⟩
  have hY := hX.below keepsPV B4
  have c4 := fun o => (B4.cell (p := ⟨w1.heap.size, o, none⟩) (hX.ls _ (by simp)).1).trans (hHeld o)
  rw [e82] at o4
  obtain ⟨g2, cp2, rfl⟩ := Joins.ownsRow_form o4 (by omega)
  clear n4 B4 p1
  dsimp only
  refine hK.out _ _ ?_ (fun hHeld => ?_)
  · exact c4
  clear hK K
  try simp only [Act.put, zA, zB, zC, zD, zE, zF]
  refine wR 3 fun K hK => ?_
  go_simp
  refine (HChk.out _ _ _ o4).mono ?_
  rintro e w5 ⟨rfl, B5⟩
  have hZ := hY.below keepsPV B5
  have c5 := fun o => (B5.cell (p := ⟨w1.heap.size, o, none⟩) (hY.ls _ (by simp)).1).trans (hHeld o)
  dsimp only
  refine hK.out _ _ ?_ (fun hHeld => ?_)
  · exact c5
  clear hK K
  try simp only [Act.put, zA, zB, zC, zD, zE, zF]
  refine wT 4 ?_
  refine wT 5 ?_
  refine wT 6 ?_
  refine wT 7 ?_
  refine wT 8 ?_
  refine wpAnyH_done (by kernel_rfl) (NoPanic.normal ?_) _
  clear hX hY hV3 c3 c4 o4
  go_wp2_with fail
  refine (calls_st hZ ((G0 b1).out _)).mono ?_
  rintro e w6 ⟨rfl, hV6, hV6l⟩
  have c6 := loc_step hV6l (by simp) c5
  clear hV6l
  go_wp2_with fail
  refine (calls_st hV6 ((G1 b1).out _)).mono ?_
  rintro e w7 ⟨rfl, hV7, hV7l⟩
  have c7 := loc_step hV7l (by simp) c6
  clear hV7l
  go_wp2_with fail
  refine (calls_st hV7 (HO.out _ _)).mono ?_
  rintro e w8 ⟨rfl, hV8, hV8l⟩
  have c8 := loc_step hV8l (by simp) c7
  clear hV8l
  go_wp2
  go_ret
  exact ⟨rfl, hV8.bel⟩
end Go.Proofs.YtpmoajhpgekhcaaGreat
