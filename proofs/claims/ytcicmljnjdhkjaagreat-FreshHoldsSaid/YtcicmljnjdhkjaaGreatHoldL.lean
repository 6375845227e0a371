/- fresh: the plain law: the fresh values are a heap that holds nothing. -/
import Derived.Test.YtcicmljnjdhkjaaGreatAudP
import Derived.Test.YtcicmljnjdhkjaaGreatFreshV
namespace Go.Proofs.YtcicmljnjdhkjaaGreat
open Go.RowKit

/-- values of a heap of which all pages are free. -/
structure FV (vs : List Int) (t : Int) (P K : Nat) : Prop where
  p4 : 4 ≤ P
  p64 : P ≤ 1024
  h0 : ∀ q : Nat, q < P → gv vs t q 0 = if q = 0 then 1 + 16 * (P : Int) else 0
  h1 : ∀ q : Nat, q < P → gv vs t q 1 = if q + 1 = P then 1 else 0
  h2 : ∀ q : Nat, q < P → gv vs t q 2 = 0
  h3 : ∀ q : Nat, q < P → gv vs t q 3 = 0
  h4 : ∀ q : Nat, q < P → gv vs t q 4 = 0
  h5 : ∀ q : Nat, q < P → gv vs t q 5 = 0
  c0 : vs.getD 0 0 = P
  c1 : vs.getD 1 0 = 0
  bins : ∀ k : Nat, k < 11 → vs.getD (2 + k) 0 = if k = K then 1 else 0
  hK : logF P = K
  K11 : K < 11
  racks : ∀ k : Nat, k < 9 → vs.getD (13 + k) 0 = 0
  roots : ∀ i : Nat, i < 8 → vs.getD (22 + i) 0 = 0

theorem i0_info : okI 0 = true ∧ iK 0 = 0 ∧ iL 0 = 0 ∧ iC 0 = 0 := by decide
theorem iP_info {P : Nat} (h4 : 4 ≤ P) (h : P ≤ 1024) : okI (1 + 16 * (P : Int)) = true ∧ iK (1 + 16 * (P : Int)) = 1 ∧ iL (1 + 16 * (P : Int)) = P ∧ iC (1 + 16 * (P : Int)) = 0 := by
  have e1 : (1 + 16 * (P : Int)) % 16 = 1 := by omega
  have e2 : (1 + 16 * (P : Int)) / 16 % 4096 = P := by omega
  have e3 : (1 + 16 * (P : Int)) / 65536 = 0 := by omega
  have ho : okI (1 + 16 * (P : Int)) = true := by
    unfold okI
    rw [e1, e2, e3]
    simp [rightI]
    omega
  unfold iK iL iC
  rw [ho, e1, e2, e3]
  simp

section
variable {vs : List Int} {t s : Int} {P K : Nat}
theorem FV.first (h : FV vs t P K) : gv vs t 0 0 = 1 + 16 * (P : Int) := by
  have := h.h0 0 (by have := h.p4; omega)
  simpa using this
theorem FV.other (h : FV vs t P K) {q : Nat} (h1 : q ≠ 0) (h2 : q < P) : gv vs t q 0 = 0 := by
  rw [h.h0 q h2, if_neg h1]
theorem FV.kind (h : FV vs t P K) {q : Nat} (h2 : q < P) : iK (gv vs t q 0) = if q = 0 then 1 else 0 := by
  by_cases e : q = 0
  · subst e
    rw [if_pos rfl, show ((0 : Nat) : Int) = 0 from rfl, h.first]
    exact (iP_info h.p4 h.p64).2.1
  · rw [if_neg e, h.other e h2]
    exact i0_info.2.1
theorem FV.starts (h : FV vs t P K) : startsF (fun q => gv vs t q 0) P = ([0], true) := by
  have hp := h.p4
  obtain ⟨a, b, c, d⟩ := iP_info h.p4 h.p64
  obtain ⟨m, hm⟩ : ∃ m, P = m + 1 := ⟨P - 1, by omega⟩
  unfold startsF
  rw [show (P : Int).toNat + 1 = (m + 1) + 1 by omega]
  unfold startsL
  simp only [h.first]
  rw [if_pos (by omega), if_neg (by rw [a, b]; simp), c]
  unfold startsL
  rw [if_neg (by omega)]
  simp
theorem FV.tiles (h : FV vs t P K) : tilesF vs t P = true := by
  have hT : ∀ q, q ≤ P → tilesN vs t [0] q = some (if q = 0 then 0 else 1) := by
    intro q
    induction q with
    | zero => intro _; rfl
    | succ q ih =>
      intro hq
      unfold tilesN
      rw [ih (by omega)]
      by_cases e : q = 0
      · subst e; simp
      · simp only [if_neg e]
        rw [if_neg (by simp), if_pos (h.other e (by omega))]
        simp
  unfold tilesF
  rw [h.starts]
  have := hT P (Nat.le_refl _)
  simp [this]
theorem FV.feet (h : FV vs t P K) : feetF vs t P = true := by
  have hp := h.p4
  obtain ⟨a, b, c, d⟩ := iP_info h.p4 h.p64
  have hT : ∀ q, q ≤ P → feetN vs t [0] q = some 0 := by
    intro q
    induction q with
    | zero => intro _; rfl
    | succ q ih =>
      intro hq
      unfold feetN
      rw [ih (by omega)]
      have ha : advN [0] 0 (q : Int) = 0 := by simp [advN]
      have hw : wantF vs t [0] 0 (q : Int) = if q + 1 = P then 1 else 0 := by
        unfold wantF
        simp only [List.getD_cons_zero]
        rw [h.first, c]
        by_cases e : q + 1 = P
        · rw [if_pos e, if_pos (by omega)]; omega
        · rw [if_neg e, if_neg (by omega)]
      simp only
      rw [ha, hw, h.h1 q (by omega), if_pos rfl]
  unfold feetF
  rw [h.starts]
  have := hT P (Nat.le_refl _)
  simp [this]
theorem FV.apart (h : FV vs t P K) : apartF vs t P = true := by
  unfold apartF
  rw [h.starts]
  rfl
theorem bitB_zero (b : Nat) : bitB 0 b = false := by simp [bitB]
theorem FV.slots (h : FV vs t P K) : slotsAll vs t P = true := by
  unfold slotsAll
  rw [allN_iff]
  intro q hq
  have hq2 : q < P := by omega
  unfold slotsQ
  have hk := h.kind hq2
  have hk3 : (iK (gv vs t q 0) == 3) = false := by rw [hk]; split <;> rfl
  rw [hk3]
  simp only [Bool.false_and, Bool.not_false, Bool.and_true]
  rw [allN_iff]
  intro b _
  unfold slotB badB
  rw [h.h4 q hq2, h.h5 q hq2, bitB_zero]
  rfl
theorem FV.binned (h : FV vs t P K) {q k : Nat} (hq : q < P) : binnedB (gv vs t q 0) k = (q == 0 && k == K) := by
  unfold binnedB
  rw [h.kind hq]
  by_cases e : q = 0
  · subst e
    rw [show ((0 : Nat) : Int) = 0 from rfl, h.first, (iP_info h.p4 h.p64).2.2.1, h.hK]
    by_cases e2 : k = K
    · simp [e2]
    · have : ((K : Int) == (k : Int)) = false := by simp; omega
      simp [this, e2]
  · simp [e]
theorem FV.bin (h : FV vs t P K) {k : Nat} (hk : k < 11) : listF vs t P (2 + k) = (if k = K then [0] else [], true) := by
  have hp := h.p4
  unfold listF
  rw [h.bins k hk]
  by_cases e : k = K
  · rw [if_pos e, if_pos e]
    rw [show (P : Int).toNat + 1 = ((P - 1) + 1) + 1 by omega]
    unfold listL
    rw [if_neg (by omega), if_neg (by simp; omega), if_neg (by have := h.h3 0 (by omega); simpa using this)]
    rw [show ((1 : Int) - 1) = ((0 : Nat) : Int) by rfl, h.h2 0 (by omega)]
    unfold listL
    rw [if_pos rfl]
    rfl
  · rw [if_neg e, if_neg e]
    unfold listL
    rw [if_pos rfl]
theorem FV.binsT (h : FV vs t P K) : binsF vs t P = true := by
  unfold binsF
  rw [allN_iff]
  intro k hk
  unfold binsB
  rw [h.bin hk]
  simp only [Bool.true_and]
  rw [allN_iff]
  intro q hq
  have hq2 : q < P := by omega
  unfold binsInB
  rw [h.binned hq2]
  by_cases e : k = K
  · simp only [if_pos e]
    by_cases e2 : q = 0
    · subst e2; subst e; simp [wantI]
    · have : List.count (q : Int) [0] = 0 := by rw [List.count_eq_zero]; simp; omega
      rw [this]
      simp [wantI, e2]
  · simp only [if_neg e]
    simp [wantI, e]
theorem FV.racksT (h : FV vs t P K) : racksF vs t P = true := by
  have hp := h.p4
  unfold racksF
  rw [allN_iff]
  intro k hk
  have hl : listF vs t P (13 + k) = ([], true) := by
    unfold listF
    rw [h.racks k hk]
    unfold listL
    rw [if_pos rfl]
  unfold racksB
  rw [hl]
  simp only [Bool.true_and]
  rw [allN_iff]
  intro q hq
  have hq2 : q < P := by omega
  unfold racksInB rackedB
  rw [h.kind hq2]
  by_cases e : q = 0 <;> simp [e, wantI]
theorem FV.loose (h : FV vs t P K) : looseF vs t P = true := by
  unfold looseF
  rw [allN_iff]
  intro q hq
  have hq2 : q < P := by omega
  unfold looseQ
  rw [h.h2 q hq2, h.h3 q hq2]
  simp
theorem onesN_zero (k : Nat) : onesN 0 k = 0 := by
  induction k with
  | zero => rfl
  | succ k ih => simp [onesN, ih, bitB_zero]
theorem FV.counts (h : FV vs t P K) : countsF vs t P = true := by
  have hp := h.p4
  have hF : ∀ q, q ≤ P → freeN vs t q = if q = 0 then 0 else P := by
    intro q
    induction q with
    | zero => intro _; rfl
    | succ q ih =>
      intro hq
      unfold freeN
      rw [ih (by omega), h.kind (q := q) (by omega)]
      by_cases e : q = 0
      · subst e
        rw [show ((0 : Nat) : Int) = 0 from rfl, h.first, (iP_info h.p4 h.p64).2.2.1]
        simp
      · simp [e]
  have hL : ∀ q, q ≤ P → liveN vs t q = 0 := by
    intro q
    induction q with
    | zero => intro _; rfl
    | succ q ih =>
      intro hq
      unfold liveN
      rw [ih (by omega), h.kind (q := q) (by omega), h.h4 q (by omega), onesN_zero]
      by_cases e : q = 0 <;> simp [e]
  unfold countsF
  rw [show (P : Int).toNat = P by omega, hF P (Nat.le_refl _), hL P (Nat.le_refl _), h.c0, h.c1, if_neg (by omega)]
  simp
theorem FV.parts (h : FV vs t P K) : partsF vs t P s = [(1, addrF s 0 0, (P : Int) * pageF s)] := by
  have hp := h.p4
  have hT : ∀ q, q ≤ P → partsL vs t s q = if q = 0 then [] else [(1, addrF s 0 0, (P : Int) * pageF s)] := by
    intro q
    induction q with
    | zero => intro _; rfl
    | succ q ih =>
      intro hq
      unfold partsL
      rw [ih (by omega)]
      have hk := h.kind (q := q) (by omega)
      by_cases e : q = 0
      · subst e
        unfold partQ
        rw [hk, show ((0 : Nat) : Int) = 0 from rfl, h.first, (iP_info h.p4 h.p64).2.2.1]
        simp
      · unfold partQ
        rw [hk]
        simp [e]
  unfold partsF
  rw [show (P : Int).toNat = P by omega, hT P (Nat.le_refl _), if_neg (by omega)]
theorem FV.blocks (h : FV vs t P K) : blocksF vs t P s = [] := by
  unfold blocksF
  rw [h.parts]
  rfl
theorem FV.rootsT (h : FV vs t P K) : rootsF vs t P s = true := by
  unfold rootsF
  rw [allN_iff]
  intro i hi
  unfold rootB
  rw [h.roots i hi]
  rfl
theorem FV.check (h : FV vs t P K) : chkF vs t P s = (0, true) := by
  unfold chkF
  rw [h.tiles, h.feet, h.apart, h.slots, h.binsT, h.racksT, h.loose, h.counts, h.rootsT]
  rfl
end

/-- the fresh values are such. -/
theorem refL_get (N i0 i1 K P j : Nat) (h0 : 0 < N) (hK : 2 + K < N) (hi0 : i0 < N) (hi1 : i1 < N) : (refL N i0 i1 K P).getD j 0 = if j = i1 then 1 else if j = i0 then 1 + 16 * (P : Int) else if j = 2 + K then 1 else if j = 0 then (P : Int) else 0 := by
  unfold refL
  rw [List.getD_eq_getElem?_getD]
  by_cases e1 : j = i1
  · subst e1; rw [List.getElem?_set_self (by simpa using hi1), if_pos rfl]; rfl
  rw [List.getElem?_set_ne (Ne.symm e1), if_neg e1]
  by_cases e2 : j = i0
  · subst e2; rw [List.getElem?_set_self (by simpa using hi0), if_pos rfl]; rfl
  rw [List.getElem?_set_ne (Ne.symm e2), if_neg e2]
  by_cases e3 : j = 2 + K
  · subst e3; rw [List.getElem?_set_self (by simpa using hK), if_pos rfl]; rfl
  rw [List.getElem?_set_ne (Ne.symm e3), if_neg e3]
  by_cases e4 : j = 0
  · subst e4; rw [List.getElem?_set_self (by simpa using h0), if_pos rfl]; rfl
  rw [List.getElem?_set_ne (Ne.symm e4), if_neg e4, List.getElem?_replicate]
  split <;> rfl
theorem fresh_FV {t : Int} {P N i0 i1 K : Nat} (ht : 1 ≤ t) (h4 : 4 ≤ P) (h64 : P ≤ 1024) (hN : (N : Int) = 30 + 4 * t + 6 * P) (e0 : (i0 : Int) = 30 + 4 * t) (e1 : (i1 : Int) = 30 + 4 * t + 6 * (P - 1) + 1) (hK : logF P = K) (hK2 : K < 11) : FV (refL N i0 i1 K P) t P K := by
  have hg : ∀ j, (refL N i0 i1 K P).getD j 0 = if j = i1 then 1 else if j = i0 then 1 + 16 * (P : Int) else if j = 2 + K then 1 else if j = 0 then (P : Int) else 0 := fun j => refL_get N i0 i1 K P j (by omega) (by omega) (by omega) (by omega)
  have hx : ∀ (q part : Nat), q < P → part ≤ 5 → cix t q part = i0 + 6 * q + part := by
    intro q part _ _
    unfold cix
    omega
  have hgv : ∀ (q part : Nat), q < P → part ≤ 5 → gv (refL N i0 i1 K P) t q part = if i0 + 6 * q + part = i1 then 1 else if 6 * q + part = 0 then 1 + 16 * (P : Int) else 0 := by
    intro q part h1 h2
    unfold gv
    rw [hx q part h1 h2, hg]
    by_cases a : i0 + 6 * q + part = i1
    · rw [if_pos a, if_pos a]
    · rw [if_neg a, if_neg a]
      by_cases b : 6 * q + part = 0
      · rw [if_pos (by omega), if_pos b]
      · rw [if_neg (by omega), if_neg b, if_neg (by omega), if_neg (by omega)]
  refine ⟨h4, h64, ?_, ?_, ?_, ?_, ?_, ?_, ?_, ?_, ?_, hK, hK2, ?_, ?_⟩
  · intro q hq
    have := hgv q 0 hq (by omega)
    simp only [Nat.add_zero] at this
    rw [show ((0 : Nat) : Int) = 0 from rfl] at this
    rw [this, if_neg (by omega)]
    by_cases e : q = 0
    · rw [if_pos e, if_pos (by omega)]
    · rw [if_neg e, if_neg (by omega)]
  · intro q hq
    have := hgv q 1 hq (by omega)
    rw [show ((1 : Nat) : Int) = 1 from rfl] at this
    rw [this]
    by_cases e : q + 1 = P
    · rw [if_pos e, if_pos (by omega)]
    · rw [if_neg e, if_neg (by omega), if_neg (by omega)]
  · intro q hq
    have := hgv q 2 hq (by omega)
    rw [show ((2 : Nat) : Int) = 2 from rfl] at this
    rw [this, if_neg (by omega), if_neg (by omega)]
  · intro q hq
    have := hgv q 3 hq (by omega)
    rw [show ((3 : Nat) : Int) = 3 from rfl] at this
    rw [this, if_neg (by omega), if_neg (by omega)]
  · intro q hq
    have := hgv q 4 hq (by omega)
    rw [show ((4 : Nat) : Int) = 4 from rfl] at this
    rw [this, if_neg (by omega), if_neg (by omega)]
  · intro q hq
    have := hgv q 5 hq (by omega)
    rw [show ((5 : Nat) : Int) = 5 from rfl] at this
    rw [this, if_neg (by omega), if_neg (by omega)]
  · rw [hg, if_neg (by omega), if_neg (by omega), if_neg (by omega), if_pos rfl]
  · rw [hg, if_neg (by omega), if_neg (by omega), if_neg (by omega), if_neg (by omega)]
  · intro k hk
    rw [hg, if_neg (by omega), if_neg (by omega)]
    by_cases e : k = K
    · rw [if_pos e, if_pos (by omega)]
    · rw [if_neg e, if_neg (by omega), if_neg (by omega)]
  · intro k hk
    rw [hg, if_neg (by omega), if_neg (by omega), if_neg (by omega), if_neg (by omega)]
  · intro k hk
    rw [hg, if_neg (by omega), if_neg (by omega), if_neg (by omega), if_neg (by omega)]
end Go.Proofs.YtcicmljnjdhkjaaGreat
