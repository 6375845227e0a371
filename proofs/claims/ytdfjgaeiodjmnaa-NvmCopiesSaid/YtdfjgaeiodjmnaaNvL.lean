/- memories that keep what was written back: plain data. -/
import Derived.Test.YtdfjgaeiodjmnaaRows
import Derived.Lib.Hide
set_option linter.unusedSimpArgs false
set_option linter.unusedVariables false
namespace Go.Proofs.Ytdfjgaeiodjmnaa

structure NM where
  W : List Int
  K : List Int
  P : List (Int × Int)

namespace NM

def th (s : NM) (at_ : Int) : Bool := decide (0 ≤ at_) && decide (at_ < s.W.length)
def som (who : Int) : Bool := decide (0 ≤ who) && decide (who ≤ 16)
def bitB (m : Int) (i : Nat) : Bool := m.toNat.testBit i
/-- the words of a line, as far as i, that the mask names. -/
def keepI (W : List Int) (l : Nat) (m : Int) : Nat → List Int → List Int
  | 0, K => K
  | i + 1, K => if bitB m i = true then (keepI W l m i K).set (8 * l + i) (W.getD (8 * l + i) 0) else keepI W l m i K
def addP (l : List (Int × Int)) (p : Int × Int) : List (Int × Int) := if p ∈ l then l else l ++ [p]
def delP (l : List (Int × Int)) (p : Int × Int) : List (Int × Int) := l.filter fun q => q ≠ p
def pend (s : NM) (who : Int) : List Nat := (List.range (s.W.length / 8)).filter fun l => decide ((who, (l : Int)) ∈ s.P)

def load (s : NM) (at_ : Int) : Int × Bool := if s.th at_ = true then (s.W.getD at_.toNat 0, true) else (0, false)
def store (s : NM) (at_ v : Int) : Bool × NM := if s.th at_ = true then (true, { s with W := s.W.set at_.toNat v }) else (false, s)
def swap (s : NM) (at_ old v : Int) : Bool × NM := if s.th at_ = true ∧ s.W.getD at_.toNat 0 = old then (true, { s with W := s.W.set at_.toNat v }) else (false, s)
def flush (s : NM) (who at_ : Int) : Bool × NM := if s.th at_ = true ∧ som who = true then (true, { s with P := addP s.P (who, at_ / 8) }) else (false, s)
def step (who : Int) (s : NM) (l : Nat) : NM := { s with K := keepI s.W l 255 8 s.K, P := delP s.P (who, (l : Int)) }
def fence (s : NM) (who : Int) : Int × NM := (((s.pend who).length : Nat), (s.pend who).foldl (step who) s)
def okE (s : NM) (line mask : Int) : Bool := decide (0 ≤ line) && decide (line < ((s.W.length / 8 : Nat) : Int)) && decide (1 ≤ mask) && decide (mask ≤ 255)
def evict (s : NM) (line mask : Int) : Bool × NM := if s.okE line mask = true then (true, { s with K := keepI s.W line.toNat mask 8 s.K }) else (false, s)
def crash (s : NM) : NM := { s with W := s.K, P := [] }

/-- an act. -/
structure A where
  d : Int
  who : Int
  at_ : Int
  mask : Int
  old : Int
  val : Int

def act (s : NM) (a : A) : (Int × Bool) × NM :=
  if a.d = 1 then (s.load a.at_, s)
  else if a.d = 2 then ((0, (s.store a.at_ a.val).1), (s.store a.at_ a.val).2)
  else if a.d = 3 then ((0, (s.swap a.at_ a.old a.val).1), (s.swap a.at_ a.old a.val).2)
  else if a.d = 4 then ((0, (s.flush a.who a.at_).1), (s.flush a.who a.at_).2)
  else if a.d = 5 then (((s.fence a.who).1, true), (s.fence a.who).2)
  else if a.d = 6 then ((0, (s.evict a.at_ a.mask).1), (s.evict a.at_ a.mask).2)
  else if a.d = 7 then ((0, true), s.crash)
  else ((0, true), s)

def U64 (v : Int) : Prop := 0 ≤ v ∧ v < 18446744073709551616

structure Inv (s : NM) : Prop where
  kl : s.K.length = s.W.length
  pos : 0 < s.W.length
  small : s.W.length ≤ 65536
  oct : s.W.length % 8 = 0
  wu : ∀ v ∈ s.W, U64 v
  ku : ∀ v ∈ s.K, U64 v
  nd : s.P.Nodup
  pb : ∀ p ∈ s.P, 0 ≤ p.1 ∧ p.1 ≤ 16 ∧ 0 ≤ p.2 ∧ p.2 < ((s.W.length / 8 : Nat) : Int)

theorem keepI_len (W : List Int) (l : Nat) (m : Int) : ∀ (i : Nat) (K : List Int), (keepI W l m i K).length = K.length
  | 0, _ => rfl
  | i + 1, K => by
    unfold keepI
    split
    · rw [List.length_set, keepI_len W l m i K]
    · exact keepI_len W l m i K
theorem getD_u {l : List Int} (h : ∀ v ∈ l, U64 v) (k : Nat) : U64 (l.getD k 0) := by
  by_cases hk : k < l.length
  · have e : l.getD k 0 = l[k] := by simp [hk]
    rw [e]; exact h _ (List.getElem_mem hk)
  · have e : l.getD k 0 = 0 := by simp [show ¬ k < l.length from hk]
    rw [e]; exact ⟨by omega, by omega⟩
theorem set_u {l : List Int} (h : ∀ v ∈ l, U64 v) (k : Nat) {v : Int} (hv : U64 v) : ∀ x ∈ l.set k v, U64 x := by
  intro x hx
  rcases List.mem_or_eq_of_mem_set hx with hx | rfl
  · exact h x hx
  · exact hv
theorem keepI_u {W : List Int} (hW : ∀ v ∈ W, U64 v) (l : Nat) (m : Int) : ∀ (i : Nat) (K : List Int), (∀ v ∈ K, U64 v) → ∀ v ∈ keepI W l m i K, U64 v
  | 0, _, h => h
  | i + 1, K, h => by
    unfold keepI
    split
    · exact set_u (keepI_u hW l m i K h) _ (getD_u hW _)
    · exact keepI_u hW l m i K h
theorem addP_nd {l : List (Int × Int)} (h : l.Nodup) (p : Int × Int) : (addP l p).Nodup := by
  unfold addP
  split
  · exact h
  · rename_i hp
    rw [List.nodup_append]
    exact ⟨h, by simp, fun a ha b hb => by simp at hb; subst hb; exact fun e => hp (e ▸ ha)⟩
theorem mem_addP {l : List (Int × Int)} {p q : Int × Int} : q ∈ addP l p ↔ q ∈ l ∨ q = p := by
  unfold addP
  split
  · rename_i hp
    exact ⟨Or.inl, fun h => by rcases h with h | rfl; exact h; exact hp⟩
  · simp
theorem mem_delP {l : List (Int × Int)} {p q : Int × Int} : q ∈ delP l p ↔ q ∈ l ∧ q ≠ p := by simp [delP]

theorem th_iff {s : NM} {i : Int} : s.th i = true ↔ 0 ≤ i ∧ i < s.W.length := by simp [th]

theorem Inv.store {s : NM} (h : s.Inv) (i : Int) {v : Int} (hv : U64 v) : (s.store i v).2.Inv := by
  unfold NM.store
  split
  · exact ⟨by simpa using h.kl, by simpa using h.pos, by simpa using h.small, by simpa using h.oct, set_u h.wu _ hv, h.ku, h.nd, by simpa using h.pb⟩
  · exact h
theorem Inv.swap {s : NM} (h : s.Inv) (i o : Int) {v : Int} (hv : U64 v) : (s.swap i o v).2.Inv := by
  unfold NM.swap
  split
  · exact ⟨by simpa using h.kl, by simpa using h.pos, by simpa using h.small, by simpa using h.oct, set_u h.wu _ hv, h.ku, h.nd, by simpa using h.pb⟩
  · exact h
theorem Inv.flush {s : NM} (h : s.Inv) (who i : Int) : (s.flush who i).2.Inv := by
  unfold NM.flush
  split
  · rename_i ht
    obtain ⟨h0, h1⟩ := th_iff.1 ht.1
    have hw : 0 ≤ who ∧ who ≤ 16 := by simpa [som] using ht.2
    have ho := h.oct
    refine ⟨h.kl, h.pos, h.small, h.oct, h.wu, h.ku, addP_nd h.nd _, ?_⟩
    intro p hp
    rcases mem_addP.1 hp with hp | rfl
    · exact h.pb p hp
    · exact ⟨hw.1, hw.2, by show 0 ≤ i / 8; omega, by show i / 8 < ((s.W.length / 8 : Nat) : Int); omega⟩
  · exact h
theorem Inv.step {s : NM} (h : s.Inv) (who : Int) (l : Nat) : (step who s l).Inv :=
  ⟨(keepI_len _ _ _ _ _).trans h.kl, h.pos, h.small, h.oct, h.wu, keepI_u h.wu _ _ _ _ h.ku, List.Pairwise.filter _ h.nd, fun p hp => h.pb p (mem_delP.1 hp).1⟩
theorem Inv.steps (who : Int) : ∀ (l : List Nat) (s : NM), s.Inv → (l.foldl (NM.step who) s).Inv
  | [], _, h => h
  | a :: l, s, h => Inv.steps who l (NM.step who s a) (h.step who a)
theorem Inv.fence {s : NM} (h : s.Inv) (who : Int) : (s.fence who).2.Inv := Inv.steps who _ s h
theorem Inv.evict {s : NM} (h : s.Inv) (l m : Int) : (s.evict l m).2.Inv := by
  unfold NM.evict
  split
  · exact ⟨(keepI_len _ _ _ _ _).trans h.kl, h.pos, h.small, h.oct, h.wu, keepI_u h.wu _ _ _ _ h.ku, h.nd, h.pb⟩
  · exact h
theorem Inv.crash {s : NM} (h : s.Inv) : s.crash.Inv :=
  ⟨rfl, by show 0 < s.K.length; rw [h.kl]; exact h.pos, by show s.K.length ≤ _; rw [h.kl]; exact h.small, by show s.K.length % 8 = 0; rw [h.kl]; exact h.oct, h.ku, h.ku, by simp [NM.crash], by simp [NM.crash]⟩
theorem Inv.act {s : NM} (h : s.Inv) (a : A) (hv : U64 a.val) : (s.act a).2.Inv := by
  unfold NM.act
  repeat' split
  · exact h
  · exact h.store _ hv
  · exact h.swap _ _ hv
  · exact h.flush _ _
  · exact h.fence _
  · exact h.evict _ _
  · exact h.crash
  · exact h

/-- what stays of a line that a fence goes past. -/
theorem steps_W (who : Int) : ∀ (l : List Nat) (s : NM), (l.foldl (NM.step who) s).W = s.W
  | [], _ => rfl
  | a :: l, s => steps_W who l (NM.step who s a)
theorem fence_W (s : NM) (who : Int) : (s.fence who).2.W = s.W := steps_W who _ s
theorem pend_le {s : NM} (h : s.Inv) (who : Int) : (s.pend who).length ≤ s.W.length / 8 := by
  unfold pend
  have := List.length_filter_le (fun l : Nat => decide ((who, (l : Int)) ∈ s.P)) (List.range (s.W.length / 8))
  simpa using this
theorem pend_lt {s : NM} {who : Int} {l : Nat} (h : l ∈ s.pend who) : l < s.W.length / 8 ∧ (who, (l : Int)) ∈ s.P := by
  simpa [pend] using h
theorem act_W_len {s : NM} (h : s.Inv) (a : A) : (s.act a).2.W.length = s.W.length := by
  unfold NM.act NM.store NM.swap NM.flush NM.evict
  repeat' split
  all_goals first | rfl | (simp; done) | exact congrArg List.length (fence_W _ _) | exact h.kl
end NM
end Go.Proofs.Ytdfjgaeiodjmnaa
