/- lines of entries, as plain data. -/
import Derived.Test.YtloilknkhloegaaDoorTellI
import Derived.Lib.SplitLaws
import Derived.Lib.ParseIntB
set_option linter.unusedSimpArgs false
set_option linter.unusedVariables false
namespace Go.Proofs.YtloilknkhloegaaDoor

/-! ### pieces -/
/-- what stands between the bytes c. -/
def cutAt (c : UInt8) : List UInt8 → List (List UInt8)
  | [] => [[]]
  | x :: r => if x = c then [] :: cutAt c r else match cutAt c r with
    | [] => [[x]]
    | h :: t => (x :: h) :: t
theorem cutAt_ne (c : UInt8) (s : List UInt8) : cutAt c s ≠ [] := by
  cases s with
  | nil => simp [cutAt]
  | cons x r =>
    unfold cutAt
    split
    · simp
    · split <;> simp
theorem cutAt_split (c : UInt8) (s : List UInt8) : Lib.splitK [c] 0 (Lib.count s [c]) s = cutAt c s := by
  induction s with
  | nil => rw [Lib.count_miss (by simp [Lib.index])]; rfl
  | cons b l ih =>
    by_cases h : b = c
    · subst h
      rw [Lib.count_cons_eq, Nat.add_comm 1, cutAt, if_pos rfl, ← ih]
      have hix : Lib.index (b :: l) [b] = ((0 : Nat) : Int) := by rw [Lib.index]; simp [List.isPrefixOf]
      rw [Lib.splitK, hix]
      simp
    · have hp : ([c] : List UInt8).isPrefixOf (b :: l) = false := by simp [List.isPrefixOf, Ne.symm h]
      have hix : Lib.index (b :: l) [c] = if Lib.index l [c] == -1 then -1 else Lib.index l [c] + 1 := by rw [Lib.index, hp]; simp
      rw [Lib.count_cons_ne b c l h, cutAt, if_neg h]
      by_cases hm : Lib.index l [c] = -1
      · rw [Lib.count_miss hm] at ih ⊢
        rw [← ih]
        rfl
      · have hge := Lib.index_ge l [c]
        obtain ⟨j, hj⟩ : ∃ j : Nat, Lib.index l [c] = j := ⟨(Lib.index l [c]).toNat, by omega⟩
        have hc := Lib.count_hit (sub := [c]) (by simp) hj
        rw [hc, Nat.add_comm 1] at ih ⊢
        have hix' : Lib.index (b :: l) [c] = ((j + 1 : Nat) : Int) := by rw [hix, if_neg (fun e => hm (beq_iff_eq.1 e)), hj]; omega
        have n1 : ¬ (((j : Nat) : Int) == -1) = true := by simp <;> omega
        have n2 : ¬ (((j + 1 : Nat) : Int) == -1) = true := by simp <;> omega
        rw [Lib.splitK, hj, if_neg n1] at ih
        rw [Lib.splitK, hix', if_neg n2, ← ih]
        have e1 : ((j : Nat) : Int).toNat = j := by omega
        have e2 : ((j + 1 : Nat) : Int).toNat = j + 1 := by omega
        rw [e1, e2]
        simp [Nat.add_right_comm]
/-- the pieces put together again. -/
def glue (c : UInt8) : List (List UInt8) → List UInt8
  | [] => []
  | h :: t => h ++ t.flatMap (fun x => c :: x)
theorem glue_cut (c : UInt8) (s : List UInt8) : glue c (cutAt c s) = s := by
  induction s with
  | nil => rfl
  | cons x r ih =>
    unfold cutAt
    split
    · rename_i h
      subst h
      have hn := cutAt_ne x r
      cases hq : cutAt x r with
      | nil => exact absurd hq hn
      | cons a t =>
        rw [hq] at ih
        simp only [glue, List.nil_append, List.flatMap_cons, List.cons_append] at ih ⊢
        rw [ih]
    · have hn := cutAt_ne c r
      cases hq : cutAt c r with
      | nil => exact absurd hq hn
      | cons a t =>
        rw [hq] at ih
        simp only [glue, List.cons_append] at ih ⊢
        rw [ih]

/-! ### numbers -/
def valFrom (a : Nat) (l : List UInt8) : Nat := l.foldl (fun a c => a * 10 + (c.toNat - 48)) a
theorem valD_from (l : List UInt8) : valD l = valFrom 0 l := rfl
theorem valFrom_ge (l : List UInt8) : ∀ a, a ≤ valFrom a l := by
  induction l with
  | nil => intro a; exact Nat.le_refl _
  | cons c r ih =>
    intro a
    have := ih (a * 10 + (c.toNat - 48))
    simp only [valFrom, List.foldl_cons] at this ⊢
    omega
def isDig (c : UInt8) : Prop := 48 ≤ c.toNat ∧ c.toNat ≤ 57
theorem uintM_ok (l : List UInt8) : ∀ a, (∀ c ∈ l, isDig c) → valFrom a l ≤ 18446744073709551615 → Lib.parseUintM 18446744073709551615 a l = .ok (valFrom a l) := by
  induction l with
  | nil => intro a _ _; rfl
  | cons c r ih =>
    intro a hd hv
    have hc : 48 ≤ c.toNat ∧ c.toNat ≤ 57 := hd c (by simp)
    have hge := valFrom_ge r (a * 10 + (c.toNat - 48))
    have hv2 : valFrom (a * 10 + (c.toNat - 48)) r ≤ 18446744073709551615 := hv
    unfold Lib.parseUintM
    rw [if_pos hc, if_neg (by omega), if_neg (by omega)]
    exact ih _ (fun x hx => hd x (List.mem_cons_of_mem _ hx)) hv2
theorem dec_cons (u : Nat) : ∃ c r, Lib.decDigits u = c :: r ∧ isDig c := by
  cases hq : Lib.decDigits u with
  | nil =>
    have := Lib.decDigits_length u
    have h2 := Lib.nDigits_pos u
    rw [hq] at this
    simp at this
    omega
  | cons c r => exact ⟨c, r, rfl, dec_digit u c (by rw [hq]; simp)⟩
theorem uintB_dec (u : Nat) (h : u ≤ 9223372036854775808) : Lib.parseUintB 64 (Lib.decDigits u) = .ok u := by
  obtain ⟨c, r, hq, -⟩ := dec_cons u
  unfold Lib.parseUintB
  rw [if_neg (by rw [hq]; simp)]
  have h2 := uintM_ok (Lib.decDigits u) 0 (dec_digit u) (by rw [← valD_from, valD_dec]; omega)
  rw [← valD_from, valD_dec] at h2
  exact h2
theorem parse_itoa (n : Int) (h : inI n) : Lib.parseIntB 64 (Lib.itoa n) = .ok n := by
  have h1 := h.1
  have h2 := h.2
  unfold Lib.itoa
  split
  · have hb := uintB_dec n.natAbs (by omega)
    unfold Lib.parseIntB
    have e : ((45 : UInt8).toNat = 43 ∨ (45 : UInt8).toNat = 45) := Or.inr rfl
    have e2 : (45 : UInt8).toNat = 45 := rfl
    simp only [if_pos e]
    simp only [hb]
    simp only [e2, not_true_eq_false, false_and, if_false, true_and, if_true]
    have p : (2 : Nat) ^ (64 - 1) = 9223372036854775808 := rfl
    rw [p, if_neg (by omega)]
    congr 1
    omega
  · have hb := uintB_dec n.toNat (by omega)
    obtain ⟨c, r, hq, hc⟩ := dec_cons n.toNat
    unfold Lib.parseIntB
    rw [hq] at hb ⊢
    have e : ¬ (c.toNat = 43 ∨ c.toNat = 45) := by have := hc.1; omega
    have e2 : ¬ c.toNat = 45 := by have := hc.1; omega
    simp only [if_neg e]
    simp only [hb]
    simp only [e2, not_false_eq_true, true_and, false_and, if_false]
    have p : (2 : Nat) ^ (64 - 1) = 9223372036854775808 := rfl
    rw [p, if_neg (by omega)]
    congr 1
    omega

/-- the number that a text may be. -/
def valS (l : List UInt8) : Int := match l with
  | [] => 0
  | c :: r => if c = 45 then -(valD r : Int) else valD l
theorem valS_itoa (n : Int) : valS (Lib.itoa n) = n := by
  unfold Lib.itoa
  split
  · show (if (45 : UInt8) = 45 then -(valD (Lib.decDigits n.natAbs) : Int) else valD (45 :: Lib.decDigits n.natAbs)) = n
    rw [if_pos rfl, valD_dec]
    omega
  · obtain ⟨c, r, hq, hc⟩ := dec_cons n.toNat
    have e : ¬ c = 45 := by intro e; subst e; exact absurd hc.1 (by decide)
    have hv := valD_dec n.toNat
    rw [hq] at hv ⊢
    show (if c = 45 then -(valD r : Int) else valD (c :: r)) = n
    rw [if_neg e, hv]
    omega
def inB (n : Int) : Bool := decide (-9223372036854775808 ≤ n) && decide (n ≤ 9223372036854775807)
theorem inB_iff (n : Int) : inB n = true ↔ inI n := by simp [inB, inI]
def numV (l : List UInt8) : Option Int := if inB (valS l) && (Lib.itoa (valS l) == l) then some (valS l) else none
theorem numV_some {l : List UInt8} {n : Int} : numV l = some n ↔ inI n ∧ l = Lib.itoa n := by
  unfold numV
  constructor
  · intro h
    split at h
    · rename_i hc
      simp only [Bool.and_eq_true, beq_iff_eq] at hc
      cases h
      exact ⟨(inB_iff _).1 hc.1, hc.2.symm⟩
    · cases h
  · rintro ⟨h, rfl⟩
    rw [valS_itoa, if_pos]
    rw [Bool.and_eq_true, inB_iff]
    exact ⟨h, by simp⟩
theorem numV_none {l : List UInt8} (h : numV l = none) (n : Int) (hn : inI n) : l ≠ Lib.itoa n := fun e => by
  have := numV_some.2 ⟨hn, e⟩
  rw [h] at this
  cases this

/-! ### entries -/
structure PEn where
  k : Int
  t : Int
  u : Int
  op : POp
  n : Int
  m : Int
def PEn.ok (e : PEn) : Prop := inI e.k ∧ inI e.t ∧ inI e.u ∧ e.op.ok ∧ inI e.n ∧ inI e.m
def eqEn (a b : PEn) : Bool := a.k == b.k && (a.t == b.t && (a.u == b.u && (a.op.k == b.op.k && (a.op.a == b.op.a && (a.op.b == b.op.b && (a.n == b.n && a.m == b.m))))))
theorem eqEn_iff (a b : PEn) : eqEn a b = true ↔ a = b := by
  obtain ⟨a1, a2, a3, ⟨a4, a5, a6⟩, a7, a8⟩ := a
  obtain ⟨b1, b2, b3, ⟨b4, b5, b6⟩, b7, b8⟩ := b
  simp only [eqEn, Bool.and_eq_true, beq_iff_eq, PEn.mk.injEq, POp.mk.injEq]
  constructor
  · rintro ⟨h1, h2, h3, h4, h5, h6, h7, h8⟩; exact ⟨h1, h2, h3, ⟨h4, h5, h6⟩, h7, h8⟩
  · rintro ⟨h1, h2, h3, ⟨h4, h5, h6⟩, h7, h8⟩; exact ⟨h1, h2, h3, h4, h5, h6, h7, h8⟩
structure Fm where
  w : List UInt8
  k : Int
  o : Int
  ns : List UInt8
def formsL : List Fm := [
  ⟨[97, 108, 108, 111, 99], 1, 1, [116, 117, 97]⟩, ⟨[102, 114, 101, 101], 1, 2, [116, 117, 97]⟩, ⟨[114, 101, 97, 108, 108, 111, 99], 1, 3, [116, 117, 97, 98]⟩,
  ⟨[97, 108, 108, 111, 99, 114, 111, 111, 116], 1, 4, [116, 117, 97, 98]⟩, ⟨[115, 101, 116, 114, 111, 111, 116], 1, 5, [116, 117, 97, 98]⟩, ⟨[103, 101, 116, 114, 111, 111, 116], 1, 6, [116, 117, 97]⟩,
  ⟨[117, 115, 97, 98, 108, 101], 1, 7, [116, 117, 97]⟩, ⟨[115, 116, 97, 116, 115], 1, 8, [116, 117]⟩, ⟨[102, 108, 117, 115, 104], 1, 9, [116, 117, 97]⟩,
  ⟨[115, 116, 101, 112], 2, 0, [116, 110]⟩, ⟨[101, 118, 105, 99, 116], 3, 0, [110, 109]⟩, ⟨[99, 114, 97, 115, 104], 4, 0, []⟩, ⟨[109, 101, 110, 100], 5, 0, [110]⟩, ⟨[114, 101, 115, 111, 108, 118, 101], 6, 0, [116, 117]⟩]
theorem forms14 {f : Fm} (h : f ∈ formsL) : f = formsL[0] ∨ f = formsL[1] ∨ f = formsL[2] ∨ f = formsL[3] ∨ f = formsL[4] ∨ f = formsL[5] ∨ f = formsL[6] ∨ f = formsL[7] ∨ f = formsL[8] ∨ f = formsL[9] ∨ f = formsL[10] ∨ f = formsL[11] ∨ f = formsL[12] ∨ f = formsL[13] := by
  simpa [formsL] using h
def putF (e : PEn) (c : UInt8) (v : Int) : PEn :=
  if c = 116 then { e with t := v } else if c = 117 then { e with u := v } else if c = 97 then { e with op := { e.op with a := v } } else if c = 98 then { e with op := { e.op with b := v } } else if c = 110 then { e with n := v } else { e with m := v }
def getF (e : PEn) (c : UInt8) : Int :=
  if c = 116 then e.t else if c = 117 then e.u else if c = 97 then e.op.a else if c = 98 then e.op.b else if c = 110 then e.n else e.m
def PEn.start (f : Fm) : PEn := ⟨f.k, 0, 0, ⟨f.o, 0, 0⟩, 0, 0⟩
def PEn.none : PEn := ⟨0, 0, 0, ⟨0, 0, 0⟩, 0, 0⟩
def fillF (e : PEn) : List UInt8 → List Int → PEn
  | c :: cs, v :: vs => fillF (putF e c v) cs vs
  | _, _ => e
def formOf (w : List UInt8) : Option Fm := formsL.find? fun f => f.w == w
def formBy (k o : Int) : Option Fm := formsL.find? fun f => f.k == k && f.o == o
def oneF (w : List UInt8) (ns : List Int) : Option PEn := match formOf w with
  | none => none
  | some f => if ns.length = f.ns.length then some (fillF (PEn.start f) f.ns ns) else none
def numsV : List (List UInt8) → Option (List Int)
  | [] => some []
  | x :: r => match numV x with
    | none => none
    | some n => match numsV r with
      | none => none
      | some l => some (n :: l)
def parseL : List (List UInt8) → Option PEn
  | [] => none
  | w :: r => match numsV r with
    | none => none
    | some ns => oneF w ns
def parseF (s : List UInt8) : Option PEn := parseL (cutAt 32 s)
def joinF (f : Fm) (e : PEn) : List UInt8 := f.w ++ f.ns.flatMap fun c => nm (getF e c)
/-- a text, if it is read as the entry. -/
def checkF (s : List UInt8) (e : PEn) : Option (List UInt8) := match parseF s with
  | none => none
  | some x => if eqEn x e then some s else none
def textF (e : PEn) : Option (List UInt8) := match formBy e.k e.op.k with
  | none => none
  | some f => checkF (joinF f e) e

theorem numsV_len {r : List (List UInt8)} {ns : List Int} (h : numsV r = some ns) : ns.length = r.length ∧ r = ns.map Lib.itoa ∧ ∀ n ∈ ns, inI n := by
  induction r generalizing ns with
  | nil => cases h; exact ⟨rfl, rfl, by simp⟩
  | cons x r ih =>
    unfold numsV at h
    split at h
    · cases h
    · rename_i n hn
      split at h
      · cases h
      · rename_i l hl
        cases h
        obtain ⟨a, b, c⟩ := ih hl
        obtain ⟨d, e⟩ := numV_some.1 hn
        refine ⟨by simp [a], by rw [List.map_cons, ← e, ← b], ?_⟩
        intro y hy
        rcases List.mem_cons.1 hy with rfl | hy
        · exact d
        · exact c y hy
theorem formOf_mem {w : List UInt8} {f : Fm} (h : formOf w = some f) : f ∈ formsL ∧ f.w = w := by
  unfold formOf at h
  exact ⟨List.mem_of_find?_eq_some h, by simpa using List.find?_some h⟩
theorem formBy_mem {k o : Int} {f : Fm} (h : formBy k o = some f) : f ∈ formsL ∧ f.k = k ∧ f.o = o := by
  unfold formBy at h
  exact ⟨List.mem_of_find?_eq_some h, by simpa using List.find?_some h⟩
theorem formBy_self {f : Fm} (h : f ∈ formsL) : formBy f.k f.o = some f := by
  rcases forms14 h with rfl | rfl | rfl | rfl | rfl | rfl | rfl | rfl | rfl | rfl | rfl | rfl | rfl | rfl <;> rfl
theorem formOf_self {f : Fm} (h : f ∈ formsL) : formOf f.w = some f := by
  rcases forms14 h with rfl | rfl | rfl | rfl | rfl | rfl | rfl | rfl | rfl | rfl | rfl | rfl | rfl | rfl <;> rfl
theorem fill_kind (cs : List UInt8) : ∀ (e : PEn) (vs : List Int), (fillF e cs vs).k = e.k ∧ (fillF e cs vs).op.k = e.op.k := by
  induction cs with
  | nil => intro e vs; exact ⟨rfl, rfl⟩
  | cons c cs ih =>
    intro e vs
    cases vs with
    | nil => exact ⟨rfl, rfl⟩
    | cons v vs =>
      obtain ⟨a, b⟩ := ih (putF e c v) vs
      have : (putF e c v).k = e.k ∧ (putF e c v).op.k = e.op.k := by
        unfold putF
        split
        · exact ⟨rfl, rfl⟩
        · split
          · exact ⟨rfl, rfl⟩
          · split
            · exact ⟨rfl, rfl⟩
            · split
              · exact ⟨rfl, rfl⟩
              · split <;> exact ⟨rfl, rfl⟩
      exact ⟨a.trans this.1, b.trans this.2⟩
theorem parseF_some {s : List UInt8} {e : PEn} (h : parseF s = some e) : ∃ f ns, f ∈ formsL ∧ ns.length = f.ns.length ∧ e = fillF (PEn.start f) f.ns ns ∧ s = f.w ++ ns.flatMap nm ∧ ∀ n ∈ ns, inI n := by
  unfold parseF at h
  have hg := glue_cut 32 s
  cases hq : cutAt 32 s with
  | nil => rw [hq] at h; cases h
  | cons w r =>
    rw [hq] at h hg
    simp only [parseL] at h
    cases hns : numsV r with
    | none => rw [hns] at h; cases h
    | some ns =>
      rw [hns] at h
      obtain ⟨a, b, c⟩ := numsV_len hns
      simp only [oneF] at h
      cases hf : formOf w with
      | none => rw [hf] at h; cases h
      | some f =>
        rw [hf] at h
        obtain ⟨d1, d2⟩ := formOf_mem hf
        simp only [] at h
        split at h
        · rename_i hl
          cases h
          refine ⟨f, ns, d1, hl, rfl, ?_, c⟩
          rw [← hg, d2, glue, b, List.flatMap_map]
          rfl
        · cases h
/-- a number read is a number of the entry. -/
theorem fill_get {f : Fm} (h : f ∈ formsL) (ns : List Int) (hl : ns.length = f.ns.length) : f.ns.map (getF (fillF (PEn.start f) f.ns ns)) = ns := by
  rcases forms14 h with rfl | rfl | rfl | rfl | rfl | rfl | rfl | rfl | rfl | rfl | rfl | rfl | rfl | rfl
  all_goals
    simp only [formsL, List.getElem_cons_zero, List.getElem_cons_succ] at hl ⊢
    simp only [List.length_cons, List.length_nil] at hl
    first
      | (match ns, hl with
          | [], _ => rfl)
      | (match ns, hl with
          | [_], _ => rfl)
      | (match ns, hl with
          | [_, _], _ => rfl)
      | (match ns, hl with
          | [_, _, _], _ => rfl)
      | (match ns, hl with
          | [_, _, _, _], _ => rfl)
/-- the entry of a line has that line. -/
theorem text_parse {s : List UInt8} {e : PEn} (h : parseF s = some e) : textF e = some s := by
  obtain ⟨f, ns, hf, hl, he, hs, -⟩ := parseF_some h
  have hk := fill_kind f.ns (PEn.start f) ns
  have hb : formBy e.k e.op.k = some f := by rw [he, hk.1, hk.2]; exact formBy_self hf
  have hj : joinF f e = s := by
    unfold joinF
    rw [hs]
    congr 1
    have hg := fill_get hf ns hl
    rw [← he] at hg
    conv => rhs; rw [← hg]
    rw [List.flatMap_map]
  unfold textF
  rw [hb]
  simp only []
  rw [hj]
  unfold checkF
  rw [h]
  simp [(eqEn_iff e e).2 rfl]
theorem check_some {s x : List UInt8} {e : PEn} (h : checkF s e = some x) : x = s ∧ parseF s = some e := by
  unfold checkF at h
  split at h
  · cases h
  · rename_i y hy
    split at h
    · rename_i hq
      cases h
      rw [eqEn_iff] at hq
      exact ⟨rfl, by rw [hy, hq]⟩
    · cases h
theorem text_some {x : List UInt8} {e : PEn} (h : textF e = some x) : parseF x = some e := by
  unfold textF at h
  split at h
  · cases h
  · obtain ⟨rfl, h2⟩ := check_some h
    exact h2
theorem text_inj {x : List UInt8} {d e : PEn} (h1 : textF d = some x) (h2 : textF e = some x) : d = e := by
  have := text_some h1
  rw [text_some h2] at this
  cases this
  rfl
/-- the document's text. -/
def candD (e : PEn) : List UInt8 :=
  if e.k = 1 then wordB e.op.k ++ nm e.t ++ nm e.u ++ (if 0 < usesB e.op.k then nm e.op.a else []) ++ (if 1 < usesB e.op.k then nm e.op.b else [])
  else if e.k = 2 then [115, 116, 101, 112] ++ nm e.t ++ nm e.n
  else if e.k = 3 then [101, 118, 105, 99, 116] ++ nm e.n ++ nm e.m
  else if e.k = 4 then [99, 114, 97, 115, 104]
  else if e.k = 5 then [109, 101, 110, 100] ++ nm e.n
  else if e.k = 6 then [114, 101, 115, 111, 108, 118, 101] ++ nm e.t ++ nm e.u
  else []
theorem cand_join {f : Fm} (h : f ∈ formsL) (e : PEn) (h1 : f.k = e.k) (h2 : f.o = e.op.k) : candD e = joinF f e := by
  obtain ⟨k, t, u, ⟨o, a, b⟩, n, m⟩ := e
  simp only at h1 h2
  subst h1 h2
  rcases forms14 h with rfl | rfl | rfl | rfl | rfl | rfl | rfl | rfl | rfl | rfl | rfl | rfl | rfl | rfl <;> simp [candD, joinF, formsL, wordB, usesB, getF]
theorem check_cand (e : PEn) : checkF (candD e) e = textF e := by
  unfold textF
  cases hq : formBy e.k e.op.k with
  | some f =>
    obtain ⟨a, b, c⟩ := formBy_mem hq
    simp only []
    rw [cand_join a e b c]
  | none =>
    simp only []
    cases hc : checkF (candD e) e with
    | none => rfl
    | some x =>
      obtain ⟨-, h2⟩ := check_some hc
      obtain ⟨f, ns, hf, hl, he, -, -⟩ := parseF_some h2
      have hk := fill_kind f.ns (PEn.start f) ns
      have := formBy_self hf
      rw [show f.k = e.k by rw [he, hk.1]; rfl, show f.o = e.op.k by rw [he, hk.2]; rfl, hq] at this
      cases this
end Go.Proofs.YtloilknkhloegaaDoor
