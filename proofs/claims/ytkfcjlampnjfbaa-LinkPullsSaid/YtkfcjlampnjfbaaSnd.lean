/- what the document's audit tells of the lists of a heap. -/
import Derived.Test.YtkfcjlampnjfbaaAudP
import Derived.Test.YtkfcjlampnjfbaaLnkV
namespace Go.Proofs.Ytkfcjlampnjfbaa
open Go.RowKit

theorem listL_seg {vs : List Int} {t p : Int} (hu : ∀ v ∈ vs, VS.U32 v) : ∀ (f : Nat) (q ah : Int) (out : List Int), 0 ≤ q → (listL vs t p f q ah out).2 = true →
    ∃ l e, (listL vs t p f q ah out).1 = out ++ l ∧ seg (fun x => gv vs t x 2) (fun x => gv vs t x 3) q ah l 0 e ∧ ∀ x ∈ l, 0 ≤ x ∧ x < p := by
  intro f
  induction f with
  | zero => intro q ah out _ h; simp [listL] at h
  | succ f ih =>
    intro q ah out hq h
    unfold listL at h ⊢
    by_cases h0 : q = 0
    · subst h0
      rw [if_pos rfl] at h ⊢
      exact ⟨[], ah, by simp, ⟨rfl, rfl⟩, by simp⟩
    · rw [if_neg h0] at h ⊢
      by_cases h1 : p < q ∨ p ≤ out.length
      · rw [if_pos h1] at h; simp at h
      · rw [if_neg h1] at h ⊢
        by_cases h2 : gv vs t (q - 1) 3 ≠ ah
        · rw [if_pos h2] at h; simp at h
        · rw [if_neg h2] at h ⊢
          obtain ⟨l, e, e1, e2, e3⟩ := ih (gv vs t (q - 1) 2) q (out ++ [q - 1]) (getD_u32 hu _).1 h
          refine ⟨(q - 1) :: l, e, by rw [e1]; simp, ⟨by omega, by simpa using h2, ?_⟩, ?_⟩
          · show seg _ _ (gv vs t (q - 1) 2) (q - 1 + 1) l 0 e
            rw [show q - 1 + 1 = q by omega]; exact e2
          · intro x hx
            simp at hx
            rcases hx with rfl | hx
            · omega
            · exact e3 x hx

/-- whose list a page must be in. -/
def ownB (vs : List Int) (t : Int) (a q : Nat) : Bool := if a < 13 then binnedB (gv vs t (q : Int) 0) ((a - 2 : Nat) : Int) else rackedB (gv vs t (q : Int) 0) (gv vs t (q : Int) 5) ((a - 13 : Nat) : Int)
theorem own_one {vs : List Int} {t : Int} {a b q : Nat} (ha : 2 ≤ a) (hb : 2 ≤ b) (h1 : ownB vs t a q = true) (h2 : ownB vs t b q = true) : a = b := by
  unfold ownB binnedB rackedB at h1 h2
  split at h1 <;> split at h2 <;> simp at h1 h2 <;> omega

theorem chk_parts {vs : List Int} {t p s : Int} (h : (chkF vs t p s).2 = true) : binsF vs t p = true ∧ racksF vs t p = true := by
  unfold chkF at h
  cases h1 : tilesF vs t p <;> simp [h1] at h
  cases h2 : feetF vs t p <;> simp [h2] at h
  cases h3 : apartF vs t p <;> simp [h3] at h
  cases h4 : slotsAll vs t p <;> simp [h4] at h
  cases h5 : binsF vs t p <;> simp [h5] at h
  cases h6 : racksF vs t p <;> simp [h6] at h
  exact ⟨rfl, rfl⟩

theorem sound_list {vs : List Int} {t p s : Int} (h : (chkF vs t p s).2 = true) (a : Nat) (h2 : 2 ≤ a) (h21 : a ≤ 21) :
    (listF vs t p a).2 = true ∧ ∀ q : Nat, q < p.toNat → (((listF vs t p a).1.count (q : Int) : Nat) : Int) = wantI (ownB vs t a q) := by
  obtain ⟨hb, hr⟩ := chk_parts h
  by_cases ha : a < 13
  · have := allN_iff.1 hb (a - 2) (by omega)
    unfold binsB at this
    rw [show 2 + (a - 2) = a by omega] at this
    simp only [Bool.and_eq_true] at this
    refine ⟨this.1, fun q hq => ?_⟩
    have h3 := allN_iff.1 this.2 q hq
    unfold binsInB at h3
    unfold ownB
    rw [if_pos ha]
    simpa using h3
  · have := allN_iff.1 hr (a - 13) (by omega)
    unfold racksB at this
    rw [show 13 + (a - 13) = a by omega] at this
    simp only [Bool.and_eq_true] at this
    refine ⟨this.1, fun q hq => ?_⟩
    have h3 := allN_iff.1 this.2 q hq
    unfold racksInB at h3
    unfold ownB
    rw [if_neg ha]
    simpa using h3

theorem sound_ok {vs : List Int} {t p s : Int} (hu : ∀ v ∈ vs, VS.U32 v) (hp : 0 ≤ p) (h : (chkF vs t p s).2 = true) (a : Nat) (h2 : 2 ≤ a) (h21 : a ≤ 21) :
    LsOK p (fun x => vs.getD x.toNat 0) (fun x => gv vs t x 2) (fun x => gv vs t x 3) (a : Int) (listF vs t p a).1 := by
  obtain ⟨h3, h4⟩ := sound_list h a h2 h21
  obtain ⟨l, e, e1, e2, e3⟩ := listL_seg hu _ _ _ _ (getD_u32 hu a).1 h3
  have e4 : (listF vs t p a).1 = l := by unfold listF; rw [e1]; rfl
  refine ⟨⟨e, by rw [e4]; exact e2⟩, ?_, by rw [e4]; exact e3⟩
  rw [List.nodup_iff_count]
  intro x
  by_cases hx : x ∈ l
  · obtain ⟨b1, b2⟩ := e3 x hx
    have h5 := h4 x.toNat (by omega)
    rw [show ((x.toNat : Nat) : Int) = x by omega] at h5
    have h6 : wantI (ownB vs t a x.toNat) ≤ 1 := by unfold wantI; split <;> omega
    omega
  · rw [e4, List.count_eq_zero_of_not_mem hx]; omega

theorem sound_apart {vs : List Int} {t p s : Int} (hu : ∀ v ∈ vs, VS.U32 v) (hp : 0 ≤ p) (h : (chkF vs t p s).2 = true) (a b : Nat) (h2 : 2 ≤ a) (h21 : a ≤ 21) (h3 : 2 ≤ b) (h31 : b ≤ 21) (hab : a ≠ b) :
    ∀ x ∈ (listF vs t p a).1, x ∉ (listF vs t p b).1 := by
  intro x hx hy
  obtain ⟨b1, b2⟩ := (sound_ok hu hp h a h2 h21).2.2 x hx
  have c1 := (sound_list h a h2 h21).2 x.toNat (by omega)
  have c2 := (sound_list h b h3 h31).2 x.toNat (by omega)
  rw [show ((x.toNat : Nat) : Int) = x by omega] at c1 c2
  have d1 := List.count_pos_iff.2 hx
  have d2 := List.count_pos_iff.2 hy
  cases e1 : ownB vs t a x.toNat
  · rw [e1] at c1; simp [wantI] at c1; omega
  · cases e2 : ownB vs t b x.toNat
    · rw [e2] at c2; simp [wantI] at c2; omega
    · exact hab (own_one h2 h3 e1 e2)

theorem whole_hv {vs : List Int} {t p s : Int} (hr : rightB t p s = true) (hn : (vs.length : Int) = 30 + 4 * t + 6 * p) :
    HV t p s (fun x => vs.getD x.toNat 0) (fun x => gv vs t x 2) (fun x => gv vs t x 3) (wholeVS vs) := by
  have b := right_bd hr
  have hv : ∀ i : Nat, i < vs.length → vat (wholeVS vs) i = some (vs.getD i 0) := by
    intro i hi
    show (match wl [] i with | some v => some v | none => vs[i]?) = _
    have : wl [] i = none := rfl
    rw [this]
    simp [hi]
  refine ⟨hr, hn, rfl, fun h h2 h21 => hv _ (by omega), fun q h0 h1 => ?_, fun q h0 h1 => ?_⟩
  · rw [hv _ (by omega)]; rfl
  · rw [hv _ (by omega)]; rfl
end Go.Proofs.Ytkfcjlampnjfbaa
