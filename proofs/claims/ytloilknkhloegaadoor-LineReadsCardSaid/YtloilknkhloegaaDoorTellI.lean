/- texts of right operations, plain results and marks: no two are one. -/
import Derived.Test.YtloilknkhloegaaDoorTxtF
set_option linter.unusedSimpArgs false
set_option linter.unusedVariables false
namespace Go.Proofs.YtloilknkhloegaaDoor

theorem dec_big {u : Nat} (h : ¬ u < 10) : Lib.decDigits u = Lib.decDigits (u / 10) ++ [UInt8.ofNat (48 + u % 10)] := by rw [Lib.decDigits.eq_1 u, dif_neg h]
theorem dec_digit (u : Nat) : ∀ c ∈ Lib.decDigits u, 48 ≤ c.toNat ∧ c.toNat ≤ 57 := by
  induction u using Nat.strongRecOn with
  | _ u ih =>
    intro c hc
    by_cases h : u < 10
    · rw [Lib.decDigits_one h] at hc
      simp at hc
      subst hc
      simp
      omega
    · rw [dec_big h] at hc
      rcases List.mem_append.1 hc with hc | hc
      · exact ih (u / 10) (by omega) c hc
      · simp at hc
        subst hc
        simp
        omega
def valD (l : List UInt8) : Nat := l.foldl (fun a c => a * 10 + (c.toNat - 48)) 0
theorem valD_snoc (l : List UInt8) (c : UInt8) : valD (l ++ [c]) = valD l * 10 + (c.toNat - 48) := by simp [valD]
theorem valD_dec (u : Nat) : valD (Lib.decDigits u) = u := by
  induction u using Nat.strongRecOn with
  | _ u ih =>
    by_cases h : u < 10
    · rw [Lib.decDigits_one h]
      simp [valD]
      omega
    · rw [dec_big h, valD_snoc, ih (u / 10) (by omega)]
      simp
      omega
theorem dec_inj {a b : Nat} (h : Lib.decDigits a = Lib.decDigits b) : a = b := by rw [← valD_dec a, h, valD_dec]
theorem itoa_inj {m n : Int} (h : Lib.itoa m = Lib.itoa n) : m = n := by
  unfold Lib.itoa at h
  split at h <;> split at h
  · have := dec_inj (List.cons.inj h).2
    omega
  · have := dec_digit n.toNat 45 (by rw [← h]; simp)
    have e : (45 : UInt8).toNat = 45 := rfl
    omega
  · have := dec_digit m.toNat 45 (by rw [h]; simp)
    have e : (45 : UInt8).toNat = 45 := rfl
    omega
  · have := dec_inj h
    omega
theorem itoa_blank (n : Int) : (32 : UInt8) ∉ Lib.itoa n := by
  intro h
  have e : (32 : UInt8).toNat = 32 := rfl
  unfold Lib.itoa at h
  split at h
  · rcases List.mem_cons.1 h with h | h
    · exact absurd h (by decide)
    · have := dec_digit _ _ h; omega
  · have := dec_digit _ _ h; omega

/-- what stands behind a word: nothing, or a blank and more. -/
def Rest (r : List UInt8) : Prop := r = [] ∨ ∃ t, r = 32 :: t
theorem rest_nm (n : Int) (r : List UInt8) : Rest (nm n ++ r) := Or.inr ⟨Lib.itoa n ++ r, rfl⟩
theorem rest_nm0 (n : Int) : Rest (nm n) := Or.inr ⟨Lib.itoa n, rfl⟩
theorem rest_nil : Rest [] := Or.inl rfl
theorem cut_eq {a b r s : List UInt8} (ha : (32 : UInt8) ∉ a) (hb : (32 : UInt8) ∉ b) (hr : Rest r) (hs : Rest s) (h : a ++ r = b ++ s) : a = b ∧ r = s := by
  induction a generalizing b with
  | nil =>
    cases b with
    | nil => exact ⟨rfl, by simpa using h⟩
    | cons y b =>
      rcases hr with rfl | ⟨t, rfl⟩
      · simp at h
      · simp only [List.nil_append, List.cons_append, List.cons.injEq] at h
        exact absurd (by rw [← h.1]; simp) hb
  | cons x a ih =>
    cases b with
    | nil =>
      rcases hs with rfl | ⟨t, rfl⟩
      · simp at h
      · simp only [List.nil_append, List.cons_append, List.cons.injEq] at h
        exact absurd (by rw [h.1]; simp) ha
    | cons y b =>
      simp only [List.cons_append, List.cons.injEq] at h
      obtain ⟨h1, h2⟩ := ih (fun hm => ha (List.mem_cons_of_mem _ hm)) (fun hm => hb (List.mem_cons_of_mem _ hm)) h.2
      exact ⟨by rw [h.1, h1], h2⟩
/-- a number and what stands behind it. -/
theorem nm_cut {m n : Int} {r s : List UInt8} (hr : Rest r) (hs : Rest s) (h : nm m ++ r = nm n ++ s) : m = n ∧ r = s := by
  simp only [nm, List.cons_append, List.cons.injEq, true_and] at h
  obtain ⟨h1, h2⟩ := cut_eq (itoa_blank m) (itoa_blank n) hr hs h
  exact ⟨itoa_inj h1, h2⟩
theorem nm_inj {m n : Int} (h : nm m = nm n) : m = n := itoa_inj (List.cons.inj h).2

/-- how many of A and B an operation uses; -1: there is no such one. -/
def usesN (k : Int) : Int := if k = 8 then 0 else if k = 1 ∨ k = 2 ∨ k = 6 ∨ k = 7 ∨ k = 9 then 1 else if k = 3 ∨ k = 4 ∨ k = 5 then 2 else -1
def rightOp (o : POp) : Bool := decide (0 ≤ usesN o.k) && (decide (1 ≤ usesN o.k) || o.a == 0) && (decide (2 ≤ usesN o.k) || o.b == 0)
def plainRes (r : PRes) : Bool := r.e == 0 || (r.o == 0 && r.x == 0)
theorem word_blank (k : Int) : (32 : UInt8) ∉ wordB k := by
  rcases kinds k with rfl | rfl | rfl | rfl | rfl | rfl | rfl | rfl | rfl | h
  all_goals first | decide | (rw [(wordB_no h).1]; simp)
theorem usesN_no {k : Int} (h : k < 1 ∨ 9 < k) : usesN k = -1 := by
  unfold usesN
  rw [if_neg (by omega), if_neg (by omega), if_neg (by omega)]
theorem uses_eq {k : Int} (h : 1 ≤ k ∧ k ≤ 9) : usesN k = usesB k ∧ wordB k ≠ [] := by
  rcases kinds k with rfl | rfl | rfl | rfl | rfl | rfl | rfl | rfl | rfl | h2
  all_goals first | (exact ⟨by decide, by decide⟩) | omega
theorem right_kind {o : POp} (h : rightOp o = true) : 1 ≤ o.k ∧ o.k ≤ 9 := by
  by_cases h2 : o.k < 1 ∨ 9 < o.k
  · simp [rightOp, usesN_no h2] at h
  · omega
theorem word_inj {k j : Int} (hk : 1 ≤ k ∧ k ≤ 9) (hj : 1 ≤ j ∧ j ≤ 9) (h : wordB k = wordB j) : k = j := by
  rcases kinds k with rfl | rfl | rfl | rfl | rfl | rfl | rfl | rfl | rfl | h2
  all_goals first | omega | skip
  all_goals
    rcases kinds j with rfl | rfl | rfl | rfl | rfl | rfl | rfl | rfl | rfl | h3
    all_goals first | rfl | omega | exact absurd h (by decide)
theorem op_text {o : POp} (h : rightOp o = true) : opB o = wordB o.k ++ ((if 0 < usesB o.k then nm o.a else []) ++ (if 1 < usesB o.k then nm o.b else [])) := by
  unfold opB
  rw [if_neg (uses_eq (right_kind h)).2, List.append_assoc]
theorem rest_op (o : POp) : Rest ((if 0 < usesB o.k then nm o.a else []) ++ (if 1 < usesB o.k then nm o.b else [])) := by
  split
  · exact rest_nm _ _
  · split
    · exact rest_nm0 _
    · exact rest_nil
theorem op_inj {o p : POp} (ho : rightOp o = true) (hp : rightOp p = true) (h : opB o = opB p) : o = p := by
  rw [op_text ho, op_text hp] at h
  obtain ⟨h1, h2⟩ := cut_eq (word_blank _) (word_blank _) (rest_op o) (rest_op p) h
  have hk := word_inj (right_kind ho) (right_kind hp) h1
  have hu := uses_eq (right_kind ho)
  rw [← hk] at h2
  have a1 := ho
  have a2 := hp
  unfold rightOp at a1 a2
  rw [← hk] at a2
  rw [hu.1] at a1 a2
  obtain ⟨k1, a, b⟩ := o
  obtain ⟨k2, c, d⟩ := p
  simp only at hk h2 a1 a2
  subst hk
  rcases word_cases k1 with ⟨g, -⟩ | ⟨-, g | g | g⟩
  · exact absurd g hu.2
  · rw [g] at a1 a2
    simp at a1 a2
    rw [a1.1, a1.2, a2.1, a2.2]
  · rw [g] at a1 a2 h2
    simp at a1 a2 h2
    rw [a1, a2, nm_inj h2]
  · rw [g] at h2
    simp at h2
    obtain ⟨e1, e2⟩ := nm_cut (rest_nm0 _) (rest_nm0 _) h2
    rw [e1, nm_inj e2]
theorem res_inj {r s : PRes} (hr : plainRes r = true) (hs : plainRes s = true) (h : resB r = resB s) : r = s := by
  obtain ⟨e, o, x⟩ := r
  obtain ⟨f, p, y⟩ := s
  unfold resB at h
  unfold plainRes at hr hs
  simp only at h hr hs
  by_cases h1 : e = 0 <;> by_cases h2 : f = 0
  · rw [if_pos h1, if_pos h2, List.append_assoc, List.append_assoc] at h
    obtain ⟨-, h3⟩ := cut_eq (by decide) (by decide) (rest_nm _ _) (rest_nm _ _) h
    obtain ⟨e1, e2⟩ := nm_cut (rest_nm0 _) (rest_nm0 _) h3
    rw [h1, h2, e1, nm_inj e2]
  · rw [if_pos h1, if_neg h2, List.append_assoc] at h
    simp [nm] at h
  · rw [if_neg h1, if_pos h2, List.append_assoc] at h
    simp [nm] at h
  · rw [if_neg h1, if_neg h2] at h
    have e1 : (e == 0) = false := by simpa using h1
    have e2 : (f == 0) = false := by simpa using h2
    rw [e1] at hr
    rw [e2] at hs
    simp at hr hs
    rw [hr.1, hr.2, hs.1, hs.2, nm_inj (List.append_cancel_left h)]
theorem mark_inj {m n : PMark} (h : markB m = markB n) : m = n := by
  obtain ⟨a, b, c, d⟩ := m
  obtain ⟨e, f, g, i⟩ := n
  unfold markB at h
  simp only [List.append_assoc] at h
  obtain ⟨h1, h2⟩ := cut_eq (itoa_blank _) (itoa_blank _) (rest_nm _ _) (rest_nm _ _) h
  obtain ⟨h3, h4⟩ := nm_cut (rest_nm _ _) (rest_nm _ _) h2
  obtain ⟨h5, h6⟩ := nm_cut (rest_nm0 _) (rest_nm0 _) h4
  rw [itoa_inj h1, h3, h5, nm_inj h6]
end Go.Proofs.YtloilknkhloegaaDoor
