/- lists of pages in a view's values: what Pull, Push and Walk make of them. -/
import Derived.Test.YtcicmljnjdhkjaaGreatLnk
namespace Go.Proofs.YtcicmljnjdhkjaaGreat
open Go.RowKit

def wl (l : List (Nat × Int)) (i : Nat) : Option Int := (wix l i).bind fun j => l[j]?.map (·.2)
theorem wl_cons (x : Nat × Int) (l : List (Nat × Int)) (i : Nat) : wl (x :: l) i = if x.1 = i then some x.2 else wl l i := by
  unfold wl
  by_cases h : x.1 = i
  · simp [wix, h]
  · simp only [wix, h, if_false]
    cases wix l i <;> simp
theorem setW_cons (x : Nat × Int) (l : List (Nat × Int)) (i : Nat) (v : Int) : VS.setW (x :: l) i v = if x.1 = i then (i, v) :: l else x :: VS.setW l i v := by
  unfold VS.setW
  by_cases h : x.1 = i
  · simp [wix, h]
  · simp only [wix, h, if_false]
    cases wix l i <;> simp
theorem wl_setW (i : Nat) (v : Int) (j : Nat) : ∀ l : List (Nat × Int), wl (VS.setW l i v) j = if j = i then some v else wl l j
  | [] => by
    have : VS.setW [] i v = [(i, v)] := rfl
    rw [this, wl_cons]
    by_cases h : j = i
    · simp [h]
    · rw [if_neg (fun e => h e.symm), if_neg h]
  | x :: l => by
    rw [setW_cons]
    by_cases h : x.1 = i
    · rw [if_pos h, wl_cons, wl_cons]
      by_cases h2 : j = i
      · simp [h2]
      · rw [if_neg (fun e => h2 e.symm), if_neg h2, if_neg (fun e => h2 (by rw [← e, h]))]
    · rw [if_neg h, wl_cons, wl_cons, wl_setW i v j l]
      by_cases h2 : j = i
      · subst h2; simp [h]
      · by_cases h3 : x.1 = j
        · simp [h3, h2]
        · simp [h3, h2]

/-- the value of a cell, in a view. -/
def vat (s : VS) (i : Nat) : Option Int := match wl s.writes i with | some v => some v | none => s.known i
theorem vat_get {s : VS} {i : Int} {v : Int} (h0 : 0 ≤ i) (h1 : i < s.n) (hm : s.miss = none) (hv : vat s i.toNat = some v) :
    (s.get i).1 = v ∧ (∀ j, vat (s.get i).2 j = vat s j) ∧ (s.get i).2.n = s.n ∧ (s.get i).2.miss = none := by
  have ht : s.there i = true := VS.there_iff.2 ⟨h0, h1, hm⟩
  unfold VS.get
  rw [if_pos ht]
  have hw : s.wr i.toNat = wl s.writes i.toNat := rfl
  rw [hw]
  unfold vat at hv
  cases hx : wl s.writes i.toNat with
  | some u => rw [hx] at hv; simp at hv; subst hv; exact ⟨rfl, fun _ => rfl, rfl, hm⟩
  | none =>
    rw [hx] at hv
    simp only at hv
    simp only [hv]
    refine ⟨trivial, fun j => ?_, ?_, ?_⟩
    all_goals
      unfold VS.read1
      split
      · first | rfl | exact hm
      · first | rfl | exact hm
theorem vat_put {s : VS} {i : Int} (v : Int) (h0 : 0 ≤ i) (h1 : i < s.n) (hm : s.miss = none) :
    (∀ j, vat (s.put i v) j = if j = i.toNat then some v else vat s j) ∧ (s.put i v).n = s.n ∧ (s.put i v).miss = none := by
  have ht : s.there i = true := VS.there_iff.2 ⟨h0, h1, hm⟩
  unfold VS.put
  rw [if_pos ht]
  refine ⟨fun j => ?_, rfl, hm⟩
  unfold vat
  simp only [wl_setW]
  by_cases h : j = i.toNat
  · simp [h]
  · simp [h]

/-- a heap's lists in a view. -/
structure HV (t p s : Int) (hd nx pv : Int → Int) (st : VS) : Prop where
  right : rightB t p s = true
  num : (st.n : Int) = 30 + 4 * t + 6 * p
  miss : st.miss = none
  hd : ∀ h, 2 ≤ h → h ≤ 21 → vat st h.toNat = some (hd h)
  nx : ∀ q, 0 ≤ q → q < p → vat st (30 + 4 * t + 6 * q + 2).toNat = some (nx q)
  pv : ∀ q, 0 ≤ q → q < p → vat st (30 + 4 * t + 6 * q + 3).toNat = some (pv q)

section
variable {t p s : Int} {hd nx pv : Int → Int} {st : VS}
theorem HV.of (h : HV t p s hd nx pv st) {q part : Int} (h0 : 0 ≤ q) (h1 : q < p) : ofF t p s q part = 30 + 4 * t + 6 * q + part := by
  simp [ofF, h.right, h0, h1]
theorem HV.tk (h : HV t p s hd nx pv st) {i v : Int} (h0 : 0 ≤ i) (h1 : i < st.n) (hv : vat st i.toNat = some v) : (st.get i).1 = v ∧ HV t p s hd nx pv (st.get i).2 := by
  obtain ⟨e1, e2, e3, e4⟩ := vat_get h0 h1 h.miss hv
  exact ⟨e1, h.right, by rw [e3]; exact h.num, e4, fun a b c => by rw [e2]; exact h.hd a b c, fun a b c => by rw [e2]; exact h.nx a b c, fun a b c => by rw [e2]; exact h.pv a b c⟩
theorem HV.get_hd (h : HV t p s hd nx pv st) {a : Int} (h2 : 2 ≤ a) (h21 : a ≤ 21) : (st.get a).1 = hd a ∧ HV t p s hd nx pv (st.get a).2 := by
  have := h.num
  have := right_bd h.right
  exact h.tk (by omega) (by omega) (h.hd a h2 h21)
theorem HV.get_nx (h : HV t p s hd nx pv st) {q : Int} (h0 : 0 ≤ q) (h1 : q < p) : (st.get (ofF t p s q 2)).1 = nx q ∧ HV t p s hd nx pv (st.get (ofF t p s q 2)).2 := by
  have := h.num
  have := right_bd h.right
  rw [h.of h0 h1]
  exact h.tk (by omega) (by omega) (h.nx q h0 h1)
theorem HV.get_pv (h : HV t p s hd nx pv st) {q : Int} (h0 : 0 ≤ q) (h1 : q < p) : (st.get (ofF t p s q 3)).1 = pv q ∧ HV t p s hd nx pv (st.get (ofF t p s q 3)).2 := by
  have := h.num
  have := right_bd h.right
  rw [h.of h0 h1]
  exact h.tk (by omega) (by omega) (h.pv q h0 h1)
theorem HV.put_hd (h : HV t p s hd nx pv st) {a : Int} (v : Int) (h2 : 2 ≤ a) (h21 : a ≤ 21) : HV t p s (upI hd a v) nx pv (st.put a v) := by
  have hn := h.num
  have hr := right_bd h.right
  obtain ⟨e1, e2, e3⟩ := vat_put (s := st) (i := a) v (by omega) (by omega) h.miss
  refine ⟨h.right, by rw [e2]; exact hn, e3, fun b c d => ?_, fun b c d => ?_, fun b c d => ?_⟩
  · rw [e1]
    by_cases e : b = a
    · subst e; rw [if_pos rfl, upI_same]
    · rw [if_neg (by omega), upI_other _ e]; exact h.hd b c d
  · rw [e1, if_neg (by omega)]; exact h.nx b c d
  · rw [e1, if_neg (by omega)]; exact h.pv b c d
theorem HV.put_nx (h : HV t p s hd nx pv st) {q : Int} (v : Int) (h0 : 0 ≤ q) (h1 : q < p) : HV t p s hd (upI nx q v) pv (st.put (ofF t p s q 2) v) := by
  have hn := h.num
  have hr := right_bd h.right
  rw [h.of h0 h1]
  obtain ⟨e1, e2, e3⟩ := vat_put (s := st) (i := 30 + 4 * t + 6 * q + 2) v (by omega) (by omega) h.miss
  refine ⟨h.right, by rw [e2]; exact hn, e3, fun b c d => ?_, fun b c d => ?_, fun b c d => ?_⟩
  · rw [e1, if_neg (by omega)]; exact h.hd b c d
  · rw [e1]
    by_cases e : b = q
    · subst e; rw [if_pos rfl, upI_same]
    · rw [if_neg (by omega), upI_other _ e]; exact h.nx b c d
  · rw [e1, if_neg (by omega)]; exact h.pv b c d
theorem HV.put_pv (h : HV t p s hd nx pv st) {q : Int} (v : Int) (h0 : 0 ≤ q) (h1 : q < p) : HV t p s hd nx (upI pv q v) (st.put (ofF t p s q 3) v) := by
  have hn := h.num
  have hr := right_bd h.right
  rw [h.of h0 h1]
  obtain ⟨e1, e2, e3⟩ := vat_put (s := st) (i := 30 + 4 * t + 6 * q + 3) v (by omega) (by omega) h.miss
  refine ⟨h.right, by rw [e2]; exact hn, e3, fun b c d => ?_, fun b c d => ?_, fun b c d => ?_⟩
  · rw [e1, if_neg (by omega)]; exact h.hd b c d
  · rw [e1, if_neg (by omega)]; exact h.nx b c d
  · rw [e1]
    by_cases e : b = q
    · subst e; rw [if_pos rfl, upI_same]
    · rw [if_neg (by omega), upI_other _ e]; exact h.pv b c d

theorem pageB_t {q : Int} (h0 : 0 ≤ q) (h1 : q < p) : pageB p q = true := by simp [pageB, h0, h1]

theorem HV.pull (h : HV t p s hd nx pv st) {a q : Int} {A B : List Int} (h2 : 2 ≤ a) (h21 : a ≤ 21) (hl : LsOK p hd nx pv a (A ++ q :: B)) :
    HV t p s (pullHd hd nx pv a q) (pullNx nx pv q) (pullPv nx pv q) (pullF t p s a q st) := by
  obtain ⟨c1, c2⟩ := at_page hl
  have hq := hl.2.2 q (by simp)
  unfold pullF
  rw [if_pos (pageB_t hq.1 hq.2)]
  obtain ⟨g1, g2⟩ := h.get_nx hq.1 hq.2
  obtain ⟨f1, f2⟩ := g2.get_pv hq.1 hq.2
  simp only [g1, f1]
  unfold pullHd pullNx pullPv
  by_cases hb : pv q = 0
  · have k1 := f2.put_hd (nx q) h2 h21
    by_cases hn : nx q = 0
    · simp only [hb, hn, if_true] at k1 ⊢
      exact (k1.put_nx 0 hq.1 hq.2).put_pv 0 hq.1 hq.2
    · have hy : 0 ≤ nx q - 1 ∧ nx q - 1 < p := by
        rcases c2 with ⟨_, h3⟩ | ⟨y, B', h3, h4, h5⟩
        · exact absurd h3 hn
        · omega
      simp only [hb, hn, if_true, if_false] at k1 ⊢
      exact ((k1.put_pv 0 hy.1 hy.2).put_nx 0 hq.1 hq.2).put_pv 0 hq.1 hq.2
  · have hz : 0 ≤ pv q - 1 ∧ pv q - 1 < p := by
      rcases c1 with ⟨_, h3, _⟩ | ⟨A', z, h3, h4, h5, h6⟩
      · exact absurd h3 hb
      · omega
    have k1 := f2.put_nx (nx q) hz.1 hz.2
    by_cases hn : nx q = 0
    · simp only [hb, hn, if_true, if_false] at k1 ⊢
      exact (k1.put_nx 0 hq.1 hq.2).put_pv 0 hq.1 hq.2
    · have hy : 0 ≤ nx q - 1 ∧ nx q - 1 < p := by
        rcases c2 with ⟨_, h3⟩ | ⟨y, B', h3, h4, h5⟩
        · exact absurd h3 hn
        · omega
      simp only [hb, hn, if_false] at k1 ⊢
      exact ((k1.put_pv (pv q) hy.1 hy.2).put_nx 0 hq.1 hq.2).put_pv 0 hq.1 hq.2

theorem HV.push (h : HV t p s hd nx pv st) {a q : Int} {l : List Int} (h2 : 2 ≤ a) (h21 : a ≤ 21) (hl : LsOK p hd nx pv a l) (h0 : 0 ≤ q) (h1 : q < p) :
    HV t p s (upI hd a (q + 1)) (pushNx hd nx a q) (pushPv hd pv a q) (pushF t p s a q st) := by
  unfold pushF
  rw [if_pos (pageB_t h0 h1)]
  obtain ⟨g1, g2⟩ := h.get_hd h2 h21
  simp only [g1]
  have k2 := (g2.put_nx (hd a) h0 h1).put_pv 0 h0 h1
  unfold pushNx pushPv
  by_cases hz : hd a = 0
  · simp only [hz, if_true] at k2 ⊢
    exact k2.put_hd (q + 1) h2 h21
  · have hy : 0 ≤ hd a - 1 ∧ hd a - 1 < p := by
      obtain ⟨⟨e, hs⟩, -, hb⟩ := hl
      cases l with
      | nil => exact absurd hs.1.symm hz
      | cons y l => have := hb y (by simp); have := hs.1; omega
    simp only [hz, if_false]
    exact (k2.put_pv (q + 1) hy.1 hy.2).put_hd (q + 1) h2 h21

theorem HV.walkL : ∀ (l : List Int) (f : Nat) (out : List Int) (q ah e : Int) (st : VS), HV t p s hd nx pv st → l.length ≤ f → (∀ x ∈ l, 0 ≤ x ∧ x < p) → seg nx pv q ah l 0 e →
    (walkL t p s f out q st).1 = out ++ l ∧ HV t p s hd nx pv (walkL t p s f out q st).2
  | [], f, out, q, ah, e, st, h, _, _, hs => by
    have hq : q = 0 := hs.1.symm
    subst hq
    cases f with
    | zero => exact ⟨by simp [Proofs.YtcicmljnjdhkjaaGreat.walkL], h⟩
    | succ f => simp [Proofs.YtcicmljnjdhkjaaGreat.walkL, pageB]; exact h
  | x :: l, 0, out, q, ah, e, st, h, hf, _, _ => by simp at hf
  | x :: l, f + 1, out, q, ah, e, st, h, hf, hb, hs => by
    obtain ⟨h1, h2, h3⟩ := hs
    have hx := hb x (by simp)
    have e1 : q - 1 = x := by omega
    have e2 : pageB p x = true := pageB_t hx.1 hx.2
    obtain ⟨g1, g2⟩ := h.get_nx hx.1 hx.2
    have ih := HV.walkL l f (out ++ [x]) (nx x) (x + 1) e _ g2 (by simp at hf; omega) (fun y hy => hb y (by simp [hy])) h3
    simp only [Proofs.YtcicmljnjdhkjaaGreat.walkL, e1, e2, if_true, g1]
    simpa using ih
theorem HV.walk (h : HV t p s hd nx pv st) {a : Int} {l : List Int} (h2 : 2 ≤ a) (h21 : a ≤ 21) (hl : LsOK p hd nx pv a l) :
    (walkF t p s a st).1 = l ∧ HV t p s hd nx pv (walkF t p s a st).2 := by
  obtain ⟨⟨e, hs⟩, hn, hb⟩ := hl
  obtain ⟨g1, g2⟩ := h.get_hd h2 h21
  have hlen : l.length ≤ p.toNat := by
    have := VS.length_le_of_nodup p.toNat (l.map Int.toNat) ((List.pairwise_map).2 (List.Pairwise.imp_of_mem (fun {x y} hx hy hxy => by
      have := hb x hx
      have := hb y hy
      omega) hn)) (by
      intro x hx
      obtain ⟨y, hy, rfl⟩ := List.mem_map.1 hx
      have := hb y hy
      omega)
    simpa using this
  unfold walkF
  have := HV.walkL l p.toNat [] (hd a) 0 e _ g2 hlen hb hs
  rw [g1]
  simpa using this
end
end Go.Proofs.YtcicmljnjdhkjaaGreat
