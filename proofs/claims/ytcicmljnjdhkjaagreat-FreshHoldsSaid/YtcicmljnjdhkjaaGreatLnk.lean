/- lists of pages in a heap, as plain data: what Pull, Push and Walk make of them. -/
import Derived.Test.YtcicmljnjdhkjaaGreatWalkGen
import Derived.Test.YtcicmljnjdhkjaaGreatViewWhole
namespace Go.Proofs.YtcicmljnjdhkjaaGreat
open Go.RowKit

def upI (f : Int → Int) (a v : Int) : Int → Int := fun x => if x = a then v else f x
theorem upI_same (f : Int → Int) (a v : Int) : upI f a v a = v := by simp [upI]
theorem upI_other {f : Int → Int} {a x : Int} (v : Int) (h : x ≠ a) : upI f a v x = f x := by simp [upI, h]

/-- from q, behind which ah stands ahead, through l to r, behind which e stands. -/
def seg (nx pv : Int → Int) (q ah : Int) : List Int → Int → Int → Prop
  | [], r, e => r = q ∧ e = ah
  | x :: l, r, e => q = x + 1 ∧ pv x = ah ∧ seg nx pv (nx x) (x + 1) l r e

theorem seg_app {nx pv : Int → Int} : ∀ (A B : List Int) (q ah r e : Int), seg nx pv q ah (A ++ B) r e ↔ ∃ m am, seg nx pv q ah A m am ∧ seg nx pv m am B r e
  | [], B, q, ah, r, e => ⟨fun h => ⟨q, ah, ⟨rfl, rfl⟩, h⟩, fun ⟨_, _, h1, h⟩ => by obtain ⟨rfl, rfl⟩ := h1; exact h⟩
  | x :: A, B, q, ah, r, e => by
    simp only [List.cons_append, seg]
    rw [seg_app A B]
    constructor
    · rintro ⟨h1, h2, m, am, h3, h4⟩; exact ⟨m, am, ⟨h1, h2, h3⟩, h4⟩
    · rintro ⟨m, am, ⟨h1, h2, h3⟩, h4⟩; exact ⟨h1, h2, m, am, h3, h4⟩
theorem seg_congr {nx pv nx' pv' : Int → Int} : ∀ (l : List Int) (q ah r e : Int), (∀ x ∈ l, nx' x = nx x ∧ pv' x = pv x) → seg nx pv q ah l r e → seg nx' pv' q ah l r e
  | [], _, _, _, _, _, h => h
  | x :: l, q, ah, r, e, hc, h => by
    obtain ⟨h1, h2, h3⟩ := h
    obtain ⟨c1, c2⟩ := hc x (by simp)
    refine ⟨h1, by rw [c2]; exact h2, ?_⟩
    rw [c1]
    exact seg_congr l _ _ _ _ (fun y hy => hc y (by simp [hy])) h3
/-- what stands ahead behind A: its last page, or what stood ahead of it. -/
theorem seg_last {nx pv : Int → Int} : ∀ (A : List Int) (q ah m am : Int), seg nx pv q ah A m am → (A = [] ∧ m = q ∧ am = ah) ∨ ∃ A' z, A = A' ++ [z] ∧ am = z + 1 ∧ m = nx z
  | [], q, ah, m, am, h => Or.inl ⟨rfl, h.1, h.2⟩
  | x :: A, q, ah, m, am, h => by
    obtain ⟨h1, h2, h3⟩ := h
    rcases seg_last A _ _ _ _ h3 with ⟨e, h4, h5⟩ | ⟨A', z, e, h4, h5⟩
    · subst e; exact Or.inr ⟨[], x, rfl, h5, h4⟩
    · subst e; exact Or.inr ⟨x :: A', z, rfl, h4, h5⟩

/-- a list of a head: its first link leads through l, to 0. -/
def LsOK (p : Int) (hd : Int → Int) (nx pv : Int → Int) (h : Int) (l : List Int) : Prop :=
  (∃ e, seg nx pv (hd h) 0 l 0 e) ∧ l.Nodup ∧ ∀ x ∈ l, 0 ≤ x ∧ x < p

def pullHd (hd nx pv : Int → Int) (h q : Int) : Int → Int := if pv q = 0 then upI hd h (nx q) else hd
def pullNx (nx pv : Int → Int) (q : Int) : Int → Int := upI (if pv q = 0 then nx else upI nx (pv q - 1) (nx q)) q 0
def pullPv (nx pv : Int → Int) (q : Int) : Int → Int := upI (if nx q = 0 then pv else upI pv (nx q - 1) (pv q)) q 0

/-- where the links at a page of a list lead. -/
theorem at_page {p : Int} {hd nx pv : Int → Int} {h q : Int} {A B : List Int} (hl : LsOK p hd nx pv h (A ++ q :: B)) :
    ((A = [] ∧ pv q = 0 ∧ hd h = q + 1) ∨ ∃ A' z, A = A' ++ [z] ∧ pv q = z + 1 ∧ nx z = q + 1 ∧ 0 ≤ z ∧ z < p) ∧
    ((B = [] ∧ nx q = 0) ∨ ∃ y B', B = y :: B' ∧ nx q = y + 1 ∧ 0 ≤ y ∧ y < p) := by
  obtain ⟨⟨e, hs⟩, hn, hb⟩ := hl
  obtain ⟨m, am, h1, h2⟩ := (seg_app _ _ _ _ _ _).1 hs
  obtain ⟨h3, h4, h5⟩ := h2
  constructor
  · rcases seg_last _ _ _ _ _ h1 with ⟨e1, e2, e3⟩ | ⟨A', z, e1, e2, e3⟩
    · exact Or.inl ⟨e1, by omega, by omega⟩
    · subst e1
      have := hb z (by simp)
      exact Or.inr ⟨A', z, rfl, by omega, by omega, this⟩
  · cases B with
    | nil => exact Or.inl ⟨rfl, h5.1.symm⟩
    | cons y B' =>
      have := hb y (by simp)
      exact Or.inr ⟨y, B', rfl, h5.1, this⟩

theorem pull_law {p : Int} {hd nx pv : Int → Int} {h q : Int} {A B : List Int} (hl : LsOK p hd nx pv h (A ++ q :: B)) :
    LsOK p (pullHd hd nx pv h q) (pullNx nx pv q) (pullPv nx pv q) h (A ++ B) := by
  obtain ⟨⟨e, hs⟩, hn, hb⟩ := hl
  have hn2 : (A ++ B).Nodup := by
    simp only [List.nodup_append, List.nodup_cons, List.mem_cons] at hn ⊢
    exact ⟨hn.1, hn.2.1.2, fun a ha b hb => hn.2.2 a ha b (Or.inr hb)⟩
  refine ⟨?_, hn2, fun x hx => hb x (by simp only [List.mem_append, List.mem_cons] at hx ⊢; rcases hx with h | h <;> simp [h])⟩
  obtain ⟨m, am, h1, h3, h4, h5⟩ := (seg_app _ _ _ _ _ _).1 hs
  have hqA : q ∉ A := by
    simp only [List.nodup_append, List.mem_cons] at hn
    exact fun hq => hn.2.2 q hq q (Or.inl rfl) rfl
  have hqB : q ∉ B := by
    simp only [List.nodup_append, List.nodup_cons] at hn
    exact hn.2.1.1
  have hAB : ∀ a ∈ A, ∀ b ∈ B, a ≠ b := by
    simp only [List.nodup_append] at hn2
    exact hn2.2.2
  -- behind A stands n, with am ahead
  have key : seg (pullNx nx pv q) (pullPv nx pv q) (pullHd hd nx pv h q h) 0 A (nx q) am := by
    rcases seg_last _ _ _ _ _ h1 with ⟨e1, e2, e3⟩ | ⟨A', z, e1, e2, e3⟩
    · subst e1
      have hp0 : pv q = 0 := by omega
      simp [seg, pullHd, hp0, upI_same]
      omega
    · subst e1
      have hzq : z ≠ q := fun e => hqA (by simp [e])
      have hz := hb z (by simp)
      have hp0 : pv q ≠ 0 := by omega
      have hpz : pv q - 1 = z := by omega
      obtain ⟨m2, am2, g1, g2, g3, g4, g5⟩ := (seg_app _ _ _ _ _ _).1 h1
      have hzA : z ∉ A' := by
        have : (A' ++ [z]).Nodup := by simp only [List.nodup_append] at hn2 ⊢; exact hn2.1
        simp only [List.nodup_append, List.mem_singleton] at this
        exact fun hz => this.2.2 z hz z rfl rfl
      have hnp : ∀ x ∈ A' ++ [z], pullPv nx pv q x = pv x := by
        intro x hx
        have hxq : x ≠ q := fun e => hqA (e ▸ hx)
        unfold pullPv
        rw [upI_other _ hxq]
        split
        · rfl
        · refine upI_other _ fun e => ?_
          cases B with
          | nil => have := h5.1; omega
          | cons y B' => have := h5.1; exact hAB x hx y (by simp) (by omega)
      rw [show pullHd hd nx pv h q h = hd h by unfold pullHd; rw [if_neg hp0]]
      refine (seg_app _ _ _ _ _ _).2 ⟨m2, am2, seg_congr _ _ _ _ _ (fun x hx => ⟨?_, hnp x (by simp [hx])⟩) g1, g2, by rw [hnp z (by simp)]; exact g3, ?_, e2⟩
      · have hxq : x ≠ q := fun e => hqA (by simp [← e, hx])
        have hxz : x ≠ pv q - 1 := fun e => hzA (by rw [← hpz, ← e]; exact hx)
        unfold pullNx
        rw [upI_other _ hxq, if_neg hp0, upI_other _ hxz]
      · unfold pullNx
        rw [upI_other _ hzq, if_neg hp0, hpz, upI_same]
  -- B, with am ahead
  have hBn : ∀ x ∈ B, pullNx nx pv q x = nx x := by
    intro x hx
    have hxq : x ≠ q := fun e => hqB (e ▸ hx)
    unfold pullNx
    rw [upI_other _ hxq]
    split
    · rfl
    · refine upI_other _ fun e => ?_
      rcases seg_last _ _ _ _ _ h1 with ⟨e1, e2, e3⟩ | ⟨A', z, e1, e2, e3⟩
      · omega
      · exact hAB z (by rw [e1]; simp) x hx (by omega)
  have hpam : pv q = am := by omega
  cases B with
  | nil =>
    refine ⟨am, (seg_app _ _ _ _ _ _).2 ⟨nx q, am, key, ?_⟩⟩
    exact ⟨h5.1, rfl⟩
  | cons y B' =>
    obtain ⟨g1, g2, g3⟩ := h5
    have hy := hb y (by simp)
    have hyq : y ≠ q := fun e => hqB (by simp [e])
    have hyB : y ∉ B' := by
      simp only [List.nodup_append, List.nodup_cons] at hn2
      exact hn2.2.1.1
    refine ⟨e, (seg_app _ _ _ _ _ _).2 ⟨nx q, am, key, g1, ?_, ?_⟩⟩
    · unfold pullPv
      rw [upI_other _ hyq, if_neg (by omega), show nx q - 1 = y by omega, upI_same, hpam]
    · rw [hBn y (by simp)]
      refine seg_congr _ _ _ _ _ (fun x hx => ⟨hBn x (by simp [hx]), ?_⟩) g3
      have hxq : x ≠ q := fun e => hqB (by simp [← e, hx])
      unfold pullPv
      rw [upI_other _ hxq, if_neg (by omega), upI_other _ (fun e => hyB (by rw [show y = x by omega]; exact hx))]

/-- the list of another head, none of whose pages is in this one. -/
theorem pull_other {p : Int} {hd nx pv : Int → Int} {h h' q : Int} {A B l : List Int} (hl : LsOK p hd nx pv h (A ++ q :: B)) (hl' : LsOK p hd nx pv h' l) (hh : h' ≠ h) (hd' : ∀ x ∈ l, x ∉ A ++ q :: B) :
    LsOK p (pullHd hd nx pv h q) (pullNx nx pv q) (pullPv nx pv q) h' l := by
  obtain ⟨c1, c2⟩ := at_page hl
  obtain ⟨⟨e, hs⟩, hn, hb⟩ := hl'
  have e1 : pullHd hd nx pv h q h' = hd h' := by unfold pullHd; split; · exact upI_other _ hh
                                                 · rfl
  refine ⟨⟨e, ?_⟩, hn, hb⟩
  rw [e1]
  refine seg_congr _ _ _ _ _ (fun x hx => ?_) hs
  have hx2 := hd' x hx
  have hxq : x ≠ q := fun e => hx2 (by simp [e])
  constructor
  · unfold pullNx
    rw [upI_other _ hxq]
    split
    · rfl
    · rename_i h0
      refine upI_other _ fun e => hx2 ?_
      rcases c1 with ⟨_, h3, _⟩ | ⟨A', z, h3, h4, _⟩
      · exact absurd h3 h0
      · rw [h3, show x = z by omega]; simp
  · unfold pullPv
    rw [upI_other _ hxq]
    split
    · rfl
    · rename_i h0
      refine upI_other _ fun e => hx2 ?_
      rcases c2 with ⟨_, h3⟩ | ⟨y, B', h3, h4, _⟩
      · exact absurd h3 h0
      · rw [h3, show x = y by omega]; simp

def pushNx (hd nx : Int → Int) (h q : Int) : Int → Int := upI nx q (hd h)
def pushPv (hd pv : Int → Int) (h q : Int) : Int → Int := if hd h = 0 then upI pv q 0 else upI (upI pv q 0) (hd h - 1) (q + 1)
theorem push_law {p : Int} {hd nx pv : Int → Int} {h q : Int} {l : List Int} (hl : LsOK p hd nx pv h l) (hq : q ∉ l) (h0 : 0 ≤ q) (h1 : q < p) :
    LsOK p (upI hd h (q + 1)) (pushNx hd nx h q) (pushPv hd pv h q) h (q :: l) := by
  obtain ⟨⟨e, hs⟩, hn, hb⟩ := hl
  refine ⟨?_, List.nodup_cons.2 ⟨hq, hn⟩, fun x hx => ?_⟩
  · cases l with
    | nil =>
      have h2 : hd h = 0 := hs.1.symm
      refine ⟨q + 1, by simp [upI_same], ?_, ?_, rfl⟩
      · simp [pushPv, h2, upI_same]
      · simp [pushNx, upI_same, h2]
    | cons y l =>
      obtain ⟨g1, g2, g3⟩ := hs
      have hy := hb y (by simp)
      have hyq : y ≠ q := fun e => hq (by simp [e])
      have hyl : y ∉ l := (List.nodup_cons.1 hn).1
      refine ⟨e, by simp [upI_same], ?_, ?_⟩
      · unfold pushPv
        rw [if_neg (by omega), upI_other _ (by omega), upI_same]
      · refine ⟨by simp [pushNx, upI_same]; omega, ?_, ?_⟩
        · unfold pushPv
          rw [if_neg (by omega), show hd h - 1 = y by omega, upI_same]
        · have e1 : pushNx hd nx h q y = nx y := upI_other _ hyq
          rw [e1]
          refine seg_congr _ _ _ _ _ (fun x hx => ?_) g3
          have hxq : x ≠ q := fun e => hq (by simp [← e, hx])
          refine ⟨upI_other _ hxq, ?_⟩
          unfold pushPv
          rw [if_neg (by omega), upI_other _ (fun e => hyl (by rw [show y = x by omega]; exact hx)), upI_other _ hxq]
  · simp at hx
    rcases hx with rfl | hx
    · exact ⟨h0, h1⟩
    · exact hb x hx

/-- a head's list is one alone. -/
theorem seg_one {nx pv : Int → Int} : ∀ (l l' : List Int) (q ah e e' : Int), (∀ x ∈ l, 0 ≤ x) → (∀ x ∈ l', 0 ≤ x) → seg nx pv q ah l 0 e → seg nx pv q ah l' 0 e' → l = l'
  | [], [], _, _, _, _, _, _, _, _ => rfl
  | [], y :: l', q, ah, e, e', _, hb, h, h' => by have := h.1; have := h'.1; have := hb y (by simp); omega
  | x :: l, [], q, ah, e, e', hb, _, h, h' => by have := h.1; have := h'.1; have := hb x (by simp); omega
  | x :: l, y :: l', q, ah, e, e', hb, hb', h, h' => by
    have h1 := h.1
    have h2 := h'.1
    have exy : x = y := by omega
    subst exy
    rw [seg_one l l' _ _ _ _ (fun z hz => hb z (by simp [hz])) (fun z hz => hb' z (by simp [hz])) h.2.2 h'.2.2]

end Go.Proofs.YtcicmljnjdhkjaaGreat
