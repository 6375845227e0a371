/- parts of the proof, merged by a program. -/
import Derived.Test.YtkhanbedcmmlcaaGreatDoorMtp1
import Derived.Test.YtkhanbedcmmlcaaGreatDoorMtp2
import Derived.Test.YtkhanbedcmmlcaaGreatDoorMtp3
import Derived.Shelf.Strings.OnBuilder
import Derived.Shelf.Strings.BuilderK
import Derived.Shelf.Strings.BuilderRune
import Derived.Shelf.LaysM
import Derived.Shelf.Strconv.Itoa3
import Derived.Shelf.Strconv.Itoa4
import Derived.Test.YtkhanbedcmmlcaaGreatDoorProg
import Derived.Lib.ItoaLen
import Derived.Lib.Join
import Derived.Lib.AppendIntMem
set_option linter.unusedSimpArgs false
set_option linter.unusedVariables false
/- how a heap's spans tile its pages, as plain data. -/
set_option linter.unusedSimpArgs false
set_option linter.unusedVariables false
namespace Go.Proofs.YtkhanbedcmmlcaaGreatDoor
open Go.RowKit

/-- the spans that begin at the pages of the list fill what lies from a page on. -/
def Tile (g : Int → Int) (p : Int) : Int → List Int → Prop
  | a, [] => a = p
  | a, x :: r => x = a ∧ a < p ∧ iK (g a) ≠ 0 ∧ Tile g p (a + iL (g a)) r

theorem kind_no {v : Int} : (okI v = false ∨ iK v = 0) ↔ iK v = 0 := by
  have h := inf_bd v
  exact ⟨fun x => x.elim (fun y => h.2.2.2.2.2.2.2 y) id, Or.inr⟩

theorem tile_starts {g : Int → Int} {p : Int} : ∀ (l : List Int) (f : Nat) (a : Int) (out : List Int), 0 ≤ a → p - a < f → Tile g p a l → startsL g p f a out = (out ++ l, true)
  | [], f, a, out, h0, hf, h => by
    have e : a = p := h
    subst e
    cases f with
    | zero => simp [startsL]
    | succ f => simp [startsL]
  | x :: r, f, a, out, h0, hf, h => by
    obtain ⟨rfl, h1, h2, h3⟩ := h
    have hb := inf_bd (g x)
    have hl := hb.2.2.2.2.2.2.1 h2
    cases f with
    | zero => omega
    | succ f =>
      unfold startsL
      rw [if_pos h1, if_neg (fun e => h2 (kind_no.1 e)), tile_starts r f (x + iL (g x)) (out ++ [x]) (by omega) (by omega) h3]
      simp

theorem starts_tile {g : Int → Int} {p : Int} : ∀ (f : Nat) (a : Int) (out : List Int), (startsL g p f a out).2 = true → ∃ l, startsL g p f a out = (out ++ l, true) ∧ Tile g p a l
  | 0, a, out, h => by
    have e : a = p := by simpa [startsL] using h
    subst e
    exact ⟨[], by simp [startsL], rfl⟩
  | f + 1, a, out, h => by
    unfold startsL at h ⊢
    by_cases h1 : a < p
    · rw [if_pos h1] at h ⊢
      by_cases h2 : iK (g a) = 0
      · rw [if_pos (kind_no.2 h2)] at h; cases h
      · rw [if_neg (fun e => h2 (kind_no.1 e))] at h ⊢
        obtain ⟨l, e, ht⟩ := starts_tile f (a + iL (g a)) (out ++ [a]) h
        exact ⟨a :: l, by rw [e]; simp, rfl, h1, h2, ht⟩
    · rw [if_neg h1] at h ⊢
      have e : a = p := by simpa using h
      subst e
      exact ⟨[], by simp, rfl⟩
theorem startsF_tile {g : Int → Int} {p : Int} (hp : 0 ≤ p) {l : List Int} : startsF g p = (l, true) ↔ Tile g p 0 l := by
  unfold startsF
  constructor
  · intro h
    obtain ⟨l', e, ht⟩ := starts_tile (p.toNat + 1) 0 [] (by rw [h])
    rw [h] at e
    obtain rfl : l = l' := by simpa using e
    exact ht
  · intro h
    simpa using tile_starts l (p.toNat + 1) 0 [] (by omega) (by omega) h

/-- the pages of the list grow, and lie in what is filled. -/
theorem Tile.ge {g : Int → Int} {p : Int} : ∀ {l : List Int} {a : Int}, Tile g p a l → ∀ x ∈ l, a ≤ x ∧ x < p
  | [], _, _, x, hx => by cases hx
  | y :: r, a, h, x, hx => by
    obtain ⟨rfl, h1, h2, h3⟩ := h
    have hb := (inf_bd (g y)).2.2.2.2.2.2.1 h2
    rcases List.mem_cons.1 hx with rfl | hx
    · exact ⟨Int.le_refl _, h1⟩
    · have := h3.ge x hx; omega
theorem Tile.le {g : Int → Int} {p : Int} : ∀ {l : List Int} {a : Int}, Tile g p a l → a ≤ p
  | [], _, h => by have e : _ = p := h; omega
  | y :: r, a, h => by obtain ⟨rfl, h1, -, -⟩ := h; omega
theorem Tile.congr {g g' : Int → Int} {p : Int} : ∀ {l : List Int} {a : Int}, Tile g p a l → (∀ x ∈ l, g' x = g x) → Tile g' p a l
  | [], _, h, _ => h
  | y :: r, a, h, hg => by
    obtain ⟨rfl, h1, h2, h3⟩ := h
    have e := hg y (by simp)
    exact ⟨rfl, h1, by rw [e]; exact h2, by rw [e]; exact h3.congr (fun x hx => hg x (by simp [hx]))⟩
end Go.Proofs.YtkhanbedcmmlcaaGreatDoor
/- the rules of the audit on tiles and feet, page by page. -/
set_option linter.unusedSimpArgs false
set_option linter.unusedVariables false
namespace Go.Proofs.YtkhanbedcmmlcaaGreatDoor
open Go.RowKit

theorem Tile.sorted {g : Int → Int} {p : Int} : ∀ {l : List Int} {a : Int}, Tile g p a l → l.Pairwise (· < ·)
  | [], _, _ => List.Pairwise.nil
  | y :: r, a, h => by
    obtain ⟨rfl, h1, h2, h3⟩ := h
    have hb := (inf_bd (g y)).2.2.2.2.2.2.1 h2
    exact List.Pairwise.cons (fun x hx => by have := h3.ge x hx; omega) h3.sorted
def below (l : List Int) (q : Int) : Nat := (l.filter (fun x => decide (x < q))).length
theorem sorted_at {q : Int} : ∀ {l : List Int}, l.Pairwise (· < ·) → (l[below l q]? = some q ↔ q ∈ l)
  | [], _ => by simp [below]
  | x :: r, h => by
    have h1 := (List.pairwise_cons.1 h).1
    have h2 := (List.pairwise_cons.1 h).2
    by_cases hx : x < q
    · have e : below (x :: r) q = below r q + 1 := by simp [below, hx]
      rw [e]
      have ih := sorted_at (q := q) h2
      have hne : q ≠ x := by omega
      simpa [hne] using ih
    · have e : below (x :: r) q = 0 := by
        simp only [below, List.length_eq_zero_iff, List.filter_eq_nil_iff]
        intro y hy
        rcases List.mem_cons.1 hy with rfl | hy
        · simpa using hx
        · have := h1 y hy; simp; omega
      rw [e]
      simp only [List.getElem?_cons_zero, Option.some.injEq, List.mem_cons]
      constructor
      · intro e; exact Or.inl e.symm
      · rintro (e | e)
        · exact e.symm
        · have := h1 q e; omega
theorem below_succ {l : List Int} (h : l.Pairwise (· < ·)) (q : Int) : below l (q + 1) = if q ∈ l then below l q + 1 else below l q := by
  induction l with
  | nil => simp [below]
  | cons x r ih =>
    have h1 := (List.pairwise_cons.1 h).1
    have ih := ih (List.pairwise_cons.1 h).2
    have e : ∀ z, below (x :: r) z = (if x < z then 1 else 0) + below r z := by
      intro z
      by_cases hx : x < z <;> simp [below, hx]; omega
    rw [e, e, ih]
    by_cases hq : q ∈ r
    · have := h1 q hq
      have hne : x < q + 1 := by omega
      simp only [hq, List.mem_cons, or_true, if_true, if_pos this, if_pos hne]
      omega
    · by_cases hx : x = q
      · subst hx
        rw [if_neg hq, if_pos (show x < x + 1 by omega), if_pos (show x ∈ x :: r by simp), if_neg (show ¬ x < x by omega)]; omega
      · have hxq : q ∉ x :: r := by simp [hq, Ne.symm hx]
        rw [if_neg hq, if_neg hxq]
        by_cases h3 : x < q
        · rw [if_pos h3, if_pos (by omega)]
        · rw [if_neg h3, if_neg (by omega)]
/-- tiles: a page at which no span begins holds 0. -/
theorem tilesN_iff {vs : List Int} {t : Int} {l : List Int} (h : l.Pairwise (· < ·)) (h0 : ∀ x ∈ l, 0 ≤ x) : ∀ (k : Nat), (∀ q : Nat, q < k → (q : Int) ∉ l → gv vs t q 0 = 0) → tilesN vs t l k = some (below l k)
  | 0, _ => by
    have e : below l ((0 : Nat) : Int) = 0 := by
      simp only [below, List.length_eq_zero_iff, List.filter_eq_nil_iff]
      intro y hy
      have := h0 y hy
      simp; omega
    rw [e]; rfl
  | k + 1, hk => by
    unfold tilesN
    rw [tilesN_iff h h0 k (fun q hq => hk q (by omega))]
    dsimp only
    have hs := below_succ h (k : Int)
    have hs' : below l ((k + 1 : Nat) : Int) = if (k : Int) ∈ l then below l k + 1 else below l k := by rw [← hs]; congr 1
    rw [hs']
    by_cases hm : (k : Int) ∈ l
    · rw [if_pos ((sorted_at h).2 hm), if_pos hm]
    · rw [if_neg (fun e => hm ((sorted_at h).1 e)), if_neg hm, if_pos (hk k (by omega) hm)]
theorem tilesN_some {vs : List Int} {t : Int} {l : List Int} (h : l.Pairwise (· < ·)) (h0 : ∀ x ∈ l, 0 ≤ x) : ∀ (k n : Nat), tilesN vs t l k = some n → n = below l k ∧ ∀ q : Nat, q < k → (q : Int) ∉ l → gv vs t q 0 = 0
  | 0, n, hn => by
    have e := tilesN_iff (vs := vs) (t := t) h h0 0 (fun q hq => absurd hq (by omega))
    rw [e] at hn
    exact ⟨(Option.some.inj hn).symm, fun q hq => absurd hq (by omega)⟩
  | k + 1, n, hn => by
    unfold tilesN at hn
    cases hk : tilesN vs t l k with
    | none => rw [hk] at hn; cases hn
    | some m =>
      rw [hk] at hn
      dsimp only at hn
      obtain ⟨rfl, hz⟩ := tilesN_some h h0 k m hk
      have hs := below_succ h (k : Int)
      have hs' : below l ((k + 1 : Nat) : Int) = if (k : Int) ∈ l then below l k + 1 else below l k := by rw [← hs]; congr 1
      rw [hs']
      by_cases hm : (k : Int) ∈ l
      · rw [if_pos ((sorted_at h).2 hm)] at hn
        rw [if_pos hm]
        exact ⟨(Option.some.inj hn).symm, fun q hq hql => by
          by_cases e : q = k
          · subst e; exact absurd hm hql
          · exact hz q (by omega) hql⟩
      · rw [if_neg (fun e => hm ((sorted_at h).1 e))] at hn
        rw [if_neg hm]
        by_cases hg : gv vs t (k : Int) 0 = 0
        · rw [if_pos hg] at hn
          exact ⟨(Option.some.inj hn).symm, fun q hq hql => by
            by_cases e : q = k
            · subst e; exact hg
            · exact hz q (by omega) hql⟩
        · rw [if_neg hg] at hn; cases hn
end Go.Proofs.YtkhanbedcmmlcaaGreatDoor
/- the map of a heap, as plain data: one letter a page, in lines of 64. -/
set_option linter.unusedSimpArgs false
set_option linter.unusedVariables false
namespace Go.Proofs.YtkhanbedcmmlcaaGreatDoor
open Go.RowKit

/-- the letter at which a span begins; the letter of its further pages. -/
def letC (vs : List Int) (t q : Int) : Int :=
  if iK (gv vs t q 0) = 1 then 46 else if iK (gv vs t q 0) = 2 then 35 else (if fullB (gv vs t q 5) (iC (gv vs t q 0)) then 65 else 97) + iC (gv vs t q 0)
def restC (v : Int) : Int := if iK v = 2 then 61 else 46
def restN (vs : List Int) (t : Int) : Nat → Int
  | 0 => 46
  | q + 1 => if iK (gv vs t q 0) = 0 then restN vs t q else restC (gv vs t q 0)
def chN (vs : List Int) (t : Int) (q : Nat) : Int := if iK (gv vs t q 0) = 0 then restN vs t q else letC vs t q
def u8 (c : Int) : UInt8 := UInt8.ofNat c.toNat
def lets (vs : List Int) (t : Int) (n : Nat) : List UInt8 := (List.range n).map fun q => u8 (chN vs t q)
def feedN (q : Nat) : List UInt8 := if 0 < q ∧ q % 64 = 0 then [10] else []
def outN (vs : List Int) (t : Int) : Nat → List UInt8
  | 0 => []
  | q + 1 => outN vs t q ++ feedN q ++ [u8 (chN vs t q)]
def mapB (vs : List Int) (t : Int) (P : Nat) : List UInt8 := outN vs t P ++ [10]

theorem let_bd (vs : List Int) (t q : Int) : 35 ≤ letC vs t q ∧ letC vs t q ≤ 105 ∧ letC vs t q ≠ 61 := by
  have h := inf_bd (gv vs t q 0)
  unfold letC
  split
  · omega
  · split
    · omega
    · split <;> omega
theorem restC_bd (v : Int) : restC v = 61 ∨ restC v = 46 := by unfold restC; split <;> omega
theorem restN_bd (vs : List Int) (t : Int) : ∀ q, restN vs t q = 61 ∨ restN vs t q = 46
  | 0 => Or.inr rfl
  | q + 1 => by
    unfold restN
    split
    · exact restN_bd vs t q
    · exact restC_bd _
theorem ch_bd (vs : List Int) (t : Int) (q : Nat) : 35 ≤ chN vs t q ∧ chN vs t q ≤ 105 := by
  have h1 := let_bd vs t q
  have h2 := restN_bd vs t q
  unfold chN
  split <;> omega
theorem outN_len (vs : List Int) (t : Int) : ∀ q, (outN vs t q).length ≤ 2 * q
  | 0 => by simp [outN]
  | q + 1 => by
    have := outN_len vs t q
    have h2 : (feedN q).length ≤ 1 := by unfold feedN; split <;> simp
    simp [outN]; omega
theorem lets_succ (vs : List Int) (t : Int) (n : Nat) : lets vs t (n + 1) = lets vs t n ++ [u8 (chN vs t n)] := by
  simp [lets, List.range_succ]
theorem lets_len (vs : List Int) (t : Int) (n : Nat) : (lets vs t n).length = n := by simp [lets]
theorem lets_take (vs : List Int) (t : Int) (n k : Nat) (h : k ≤ n) : (lets vs t n).take k = lets vs t k := by
  unfold lets
  rw [← List.map_take, List.take_range, Nat.min_eq_left h]

/-- the letters of a span. -/
def spanS (vs : List Int) (t : Int) (q : Nat) : List UInt8 := u8 (letC vs t q) :: List.replicate ((iL (gv vs t q 0)).toNat - 1) (u8 (restC (gv vs t q 0)))

/-- from a page on, spans tile what lies there, and other pages hold 0. -/
def Tl (vs : List Int) (t : Int) (P q : Nat) : Prop := ∃ l, Tile (fun q => gv vs t q 0) P q l ∧ ∀ x : Nat, q ≤ x → x < P → (x : Int) ∉ l → gv vs t x 0 = 0
theorem iK_zero : iK 0 = 0 := by decide
theorem tl_start {vs : List Int} {t : Int} {P : Nat} (h : tilesF vs t P = true) : Tl vs t P 0 := by
  unfold tilesF at h
  rw [Bool.and_eq_true] at h
  obtain ⟨h1, h2⟩ := h
  generalize hl : startsF (fun q => gv vs t q 0) P = sl at h1 h2
  obtain ⟨l, b⟩ := sl
  simp only at h1 h2
  subst h1
  have ht := (startsF_tile (by omega)).1 hl
  obtain ⟨n, hn⟩ := Option.isSome_iff_exists.1 h2
  rw [show (P : Int).toNat = P by omega] at hn
  exact ⟨l, ht, fun x _ hx hxl => (tilesN_some ht.sorted (fun y hy => (ht.ge y hy).1) P n hn).2 x hx hxl⟩
theorem tl_step {vs : List Int} {t : Int} {P q : Nat} (h : Tl vs t P q) (hq : q < P) :
    iK (gv vs t q 0) ≠ 0 ∧ 1 ≤ (iL (gv vs t q 0)).toNat ∧ q + (iL (gv vs t q 0)).toNat ≤ P ∧ Tl vs t P (q + (iL (gv vs t q 0)).toNat) ∧ ∀ x : Nat, q < x → x < q + (iL (gv vs t q 0)).toNat → gv vs t x 0 = 0 := by
  obtain ⟨l, ht, hz⟩ := h
  cases l with
  | nil => have e : (q : Int) = P := ht; omega
  | cons y r =>
    obtain ⟨rfl, h1, h2, h3⟩ := ht
    have hb := (inf_bd (gv vs t q 0)).2.2.2.2.2.2.1 h2
    have e : (q : Int) + iL (gv vs t q 0) = ((q + (iL (gv vs t q 0)).toNat : Nat) : Int) := by omega
    have h3' : Tile (fun q => gv vs t q 0) P ((q + (iL (gv vs t q 0)).toNat : Nat) : Int) r := by rw [← e]; exact h3
    have hle := h3'.le
    refine ⟨h2, by omega, by omega, ⟨r, h3', fun x a b c => hz x (by omega) b ?_⟩, fun x a b => hz x (by omega) (by omega) ?_⟩
    · intro hm
      rcases List.mem_cons.1 hm with hm | hm
      · omega
      · exact c hm
    · intro hm
      rcases List.mem_cons.1 hm with hm | hm
      · omega
      · have := (h3'.ge x hm).1
        omega
theorem rest_in {vs : List Int} {t : Int} {q : Nat} (hk : iK (gv vs t q 0) ≠ 0) : ∀ (n : Nat), (∀ x : Nat, q < x → x < q + n → gv vs t x 0 = 0) → ∀ j, j < n → restN vs t (q + j + 1) = restC (gv vs t q 0)
  | n, h, 0, _ => by
    unfold restN
    exact if_neg hk
  | n, h, j + 1, hj => by
    unfold restN
    have hz : gv vs t ((q + (j + 1) : Nat) : Int) 0 = 0 := h (q + (j + 1)) (by omega) (by omega)
    rw [hz, if_pos iK_zero]
    exact rest_in hk n h j (by omega)
theorem lets_span {vs : List Int} {t : Int} {P q : Nat} (h : Tl vs t P q) (hq : q < P) : lets vs t (q + (iL (gv vs t q 0)).toNat) = lets vs t q ++ spanS vs t q := by
  obtain ⟨hk, h1, -, -, hz⟩ := tl_step h hq
  generalize hn : (iL (gv vs t q 0)).toNat = n at *
  have key : ∀ j, j < n → lets vs t (q + j + 1) = lets vs t q ++ u8 (letC vs t q) :: List.replicate j (u8 (restC (gv vs t q 0))) := by
    intro j
    induction j with
    | zero =>
      intro _
      rw [Nat.add_zero, lets_succ]
      have : chN vs t q = letC vs t q := by unfold chN; rw [if_neg hk]
      rw [this]; rfl
    | succ j ih =>
      intro hj
      rw [show q + (j + 1) + 1 = (q + j + 1) + 1 by omega, lets_succ, ih (by omega)]
      have hc : chN vs t (q + j + 1) = restC (gv vs t q 0) := by
        unfold chN
        rw [hz (q + j + 1) (by omega) (by omega), if_pos iK_zero]
        exact rest_in hk n hz j (by omega)
      rw [hc, List.replicate_succ']
      simp
  obtain ⟨m, rfl⟩ : ∃ m, n = m + 1 := ⟨n - 1, by omega⟩
  have := key m (by omega)
  rw [← Nat.add_assoc, this]
  unfold spanS
  rw [hn]
  simp

/-- a line of the map is what the document cuts. -/
theorem out_line (vs : List Int) (t : Int) (m : Nat) : ∀ j, j ≤ 64 → outN vs t (64 * m + j) = outN vs t (64 * m) ++ (if 0 < m ∧ 0 < j then [10] else []) ++ ((lets vs t (64 * m + j)).drop (64 * m))
  | 0, _ => by
    have : (lets vs t (64 * m)).drop (64 * m) = [] := by rw [List.drop_eq_nil_iff, lets_len]; omega
    simp [this]
  | j + 1, h => by
    have ih := out_line vs t m j (by omega)
    rw [← Nat.add_assoc, outN, ih, lets_succ, List.drop_append_of_le_length (by rw [lets_len]; omega)]
    have hf : feedN (64 * m + j) = if 0 < m ∧ j = 0 then [10] else [] := by
      unfold feedN
      by_cases hj : j = 0
      · subst hj; by_cases hm : 0 < m
        · rw [if_pos ⟨by omega, by omega⟩, if_pos ⟨hm, rfl⟩]
        · rw [if_neg (by omega), if_neg (by omega)]
      · rw [if_neg (by omega), if_neg (by omega)]
    rw [hf]
    by_cases hj : j = 0
    · subst hj
      have : (lets vs t (64 * m)).drop (64 * m) = [] := by rw [List.drop_eq_nil_iff, lets_len]; omega
      by_cases hm : 0 < m <;> simp [hm, this]
    · by_cases hm : 0 < m
      · have h1 : 0 < j := by omega
        simp [hm, hj, h1]
      · simp [hm]
/-- what the document has put together behind m lines. -/
def docL (vs : List Int) (t : Int) (P m : Nat) : List UInt8 := if m = 0 then [] else outN vs t (min P (64 * m)) ++ [10]
theorem doc_step (vs : List Int) (t : Int) (P m : Nat) (h : 64 * m < P) : docL vs t P (m + 1) = docL vs t P m ++ ((lets vs t P).take (min P (64 * m + 64))).drop (64 * m) ++ [10] := by
  have e1 : min P (64 * (m + 1)) = 64 * m + (min P (64 * m + 64) - 64 * m) := by omega
  have h0 := out_line vs t m (min P (64 * m + 64) - 64 * m) (by omega)
  have e2 : 64 * m + (min P (64 * m + 64) - 64 * m) = min P (64 * m + 64) := by omega
  rw [lets_take _ _ _ _ (Nat.min_le_left _ _)]
  unfold docL
  rw [if_neg (by omega), e1, h0, e2]
  by_cases hm : m = 0
  · subst hm
    simp [outN]
  · rw [if_neg hm, if_pos ⟨by omega, by omega⟩, show min P (64 * m) = 64 * m by omega]
theorem doc_end (vs : List Int) (t : Int) (P m : Nat) (h : P ≤ 64 * m) (hP : 0 < P) : docL vs t P m = mapB vs t P := by
  unfold docL mapB
  rw [if_neg (by omega), Nat.min_eq_left h]
end Go.Proofs.YtkhanbedcmmlcaaGreatDoor
/- the library's contracts at this seat, printed by the kit's lay-shelf and lay-plain. -/
namespace Go.Proofs
open Go.Shelf
def Tryz.lays169_ren : Go.Shelf.Ren := ⟨fun | 169 => 17 | n => n, fun | 70 => 31 | 9 => 9 | 0 => 0 | 72 => 34 | 37 => 32 | 127 => 79 | 3 => 3 | 5 => 5 | n => n, fun | n => n⟩
theorem Tryz.lays169 : Go.Proofs.Lays.n169 Tryz.prog Tryz.lays169_ren := {
  mixed := by kernel_rfl
  f169 := Tryz.func17.trans (congrArg some (by kernel_rfl))
  t0 := Tryz.underlying0
  a0 := Tryz.isAgg0
  z0 := Tryz.sizeOf0
  v0 := Tryz.zeroValue0
  t3 := Tryz.underlying3
  a3 := Tryz.isAgg3
  z3 := Tryz.sizeOf3
  v3 := Tryz.zeroValue3
  t9 := Tryz.underlying9
  a9 := Tryz.isAgg9
  z9 := Tryz.sizeOf9
  v9 := Tryz.zeroValue9
  t37 := Tryz.underlying32
  a37 := Tryz.isAgg32
  z37 := Tryz.sizeOf32
  v37 := Tryz.zeroValue32
  t70 := Tryz.underlying31
  a70 := Tryz.isAgg31
  z70 := Tryz.sizeOf31
  v70 := Tryz.zeroValue31
  t72 := Tryz.underlying34
  a72 := Tryz.isAgg34
  z72 := Tryz.sizeOf34
  v72 := Tryz.zeroValue34
  t127 := Tryz.underlying79
  a127 := Tryz.isAgg79
  z127 := Tryz.sizeOf79
  v127 := Tryz.zeroValue79 }
theorem Tryz.Builder_Extra_169 : Builder.Extra Tryz.prog Tryz.lays169_ren := {
  sizeBuilder := by kernel_rfl
  liesBuilder := by kernel_rfl
  t5 := Tryz.underlying5
  a5 := Tryz.isAgg5
  z5 := Tryz.sizeOf5
  v5 := Tryz.zeroValue5
  infoByte := by kernel_rfl
  cellsByte := by kernel_rfl
  sizeByte := by kernel_rfl
  neB5 := by decide }
def Tryz.lays156_ren : Go.Shelf.Ren := ⟨fun | 156 => 57 | 165 => 100 | 166 => 12 | 169 => 17 | 240 => 29 | 241 => 134 | 276 => 69 | 277 => 155 | n => n, fun | 31 => 67 | 9 => 9 | 3 => 3 | 4 => 4 | 0 => 0 | 20 => 20 | 72 => 34 | 76 => 37 | 70 => 31 | 37 => 32 | 75 => 36 | 127 => 79 | 164 => 98 | 5 => 5 | 80 => 46 | n => n, fun | n => n⟩
theorem Tryz.lays156 : Go.Proofs.Lays.n156 Tryz.prog Tryz.lays156_ren := {
  mixed := by kernel_rfl
  f156 := Tryz.func57.trans (congrArg some (by kernel_rfl))
  f165 := Tryz.func100.trans (congrArg some (by kernel_rfl))
  f166 := Tryz.func12.trans (congrArg some (by kernel_rfl))
  f169 := Tryz.func17.trans (congrArg some (by kernel_rfl))
  f240 := Tryz.func29.trans (congrArg some (by kernel_rfl))
  f241 := Tryz.func134.trans (congrArg some (by kernel_rfl))
  f276 := Tryz.func69.trans (congrArg some (by kernel_rfl))
  f277 := Tryz.func155.trans (congrArg some (by kernel_rfl))
  t0 := Tryz.underlying0
  a0 := Tryz.isAgg0
  z0 := Tryz.sizeOf0
  v0 := Tryz.zeroValue0
  t3 := Tryz.underlying3
  a3 := Tryz.isAgg3
  z3 := Tryz.sizeOf3
  v3 := Tryz.zeroValue3
  t4 := Tryz.underlying4
  a4 := Tryz.isAgg4
  z4 := Tryz.sizeOf4
  v4 := Tryz.zeroValue4
  t9 := Tryz.underlying9
  a9 := Tryz.isAgg9
  z9 := Tryz.sizeOf9
  v9 := Tryz.zeroValue9
  t20 := Tryz.underlying20
  a20 := Tryz.isAgg20
  z20 := Tryz.sizeOf20
  v20 := Tryz.zeroValue20
  t31 := Tryz.underlying67
  a31 := Tryz.isAgg67
  z31 := Tryz.sizeOf67
  v31 := Tryz.zeroValue67
  t37 := Tryz.underlying32
  a37 := Tryz.isAgg32
  z37 := Tryz.sizeOf32
  v37 := Tryz.zeroValue32
  t70 := Tryz.underlying31
  a70 := Tryz.isAgg31
  z70 := Tryz.sizeOf31
  v70 := Tryz.zeroValue31
  t72 := Tryz.underlying34
  a72 := Tryz.isAgg34
  z72 := Tryz.sizeOf34
  v72 := Tryz.zeroValue34
  t75 := Tryz.underlying36
  a75 := Tryz.isAgg36
  z75 := Tryz.sizeOf36
  v75 := Tryz.zeroValue36
  t76 := Tryz.underlying37
  a76 := Tryz.isAgg37
  z76 := Tryz.sizeOf37
  v76 := Tryz.zeroValue37
  t127 := Tryz.underlying79
  a127 := Tryz.isAgg79
  z127 := Tryz.sizeOf79
  v127 := Tryz.zeroValue79
  t164 := Tryz.underlying98
  a164 := Tryz.isAgg98
  z164 := Tryz.sizeOf98
  v164 := Tryz.zeroValue98 }
theorem Tryz.Builder_Extra_156 : Builder.Extra Tryz.prog Tryz.lays156_ren := {
  sizeBuilder := by kernel_rfl
  liesBuilder := by kernel_rfl
  t5 := Tryz.underlying5
  a5 := Tryz.isAgg5
  z5 := Tryz.sizeOf5
  v5 := Tryz.zeroValue5
  infoByte := by kernel_rfl
  cellsByte := by kernel_rfl
  sizeByte := by kernel_rfl
  neB5 := by decide }
open Go.RowKit in
/-- strings.Join: "Join concatenates the elements of its first argument to create a single string. The separator string sep is placed between elements in the resulting string.": HOWEVER MANY ELEMENTS. Below the heap's end the world is as it was. (LAID: no walk: one application.) -/
theorem Tryz.strings_Join (bk o c : Nat) (xs : List ByteArray) (sep : ByteArray) (w : World) (hcells : ∀ (j : Nat) x, xs[j]? = some x → w.cell? ⟨bk, o + j, none⟩ = some (.string x)) (hbk : bk < w.heap.size) (hN : xs.length ≤ 140737488355328) (hcap : xs.length ≤ c) (hlen : (Lib.join (xs.map (·.data.toList)) sep.data.toList).length ≤ 140737488355328) :
    Calls Tryz.prog 57 #[.slice (some ⟨bk, o, none⟩) xs.length c, .string sep] w fun e w' => e = .returned (.string ⟨(Lib.join (xs.map (·.data.toList)) sep.data.toList).toArray⟩) ∧ Below w.heap.size w w' := Any.strings_Join Tryz.lays156 Tryz.Builder_Extra_156 bk o c xs sep w hcells hbk hN hcap hlen
open Go.RowKit in
/-- (*strings.Builder).String: "String returns the accumulated string.": WHATEVER THE BUILDER HOLDS; THE FORM '_k': OVER 'Lib.IsBuilderF' (a builder that 'String()' may have read), AND WITH THE FRAME THAT REACHES ABOVE THE BUILDER: 'Lib.OthersKept': every block that is not b and is no row of uint8's stands as it stood: the iterator of a range among them. (LAID: no walk: one application.) -/
theorem Tryz.Builder_String_any_k (B b : Nat) (l : List UInt8) (w : World) (h : Lib.IsBuilderF 34 5 B b (Lib.byteCells l) w) (hBw : B ≤ w.heap.size) :
    Calls Tryz.prog 17 #[.pointer (some ⟨b, 0, none⟩)] w fun e w' => e = .returned (.string ⟨l.toArray⟩) ∧ (Lib.IsBuilderF 34 5 B b (Lib.byteCells l) w' ∧ Below B w w' ∧ Lib.OthersKept 5 (some b) w w') := Any.Builder_String_any_k Tryz.lays169 Tryz.Builder_Extra_169 B b l w h hBw
def Tryz.laysM171_ren : Go.Shelf.Ren := ⟨fun | 171 => 55 | 243 => 98 | 246 => 99 | 283 => 130 | 284 => 131 | 285 => 132 | 286 => 133 | 129 => 151 | 317 => 150 | 318 => 152 | 319 => 153 | 320 => 154 | 337 => 157 | 338 => 158 | n => n, fun | 3 => 3 | 9 => 9 | 2 => 2 | 4 => 4 | 171 => 136 | 0 => 0 | 53 => 72 | 37 => 32 | 5 => 5 | 173 => 139 | 212 => 155 | 51 => 28 | 20 => 20 | 213 => 156 | 46 => 133 | 232 => 160 | 233 => 161 | n => n, fun | 17 => 0 | 18 => 2 | 19 => 3 | n => n⟩
theorem Tryz.laysM171 : Go.Proofs.LaysM.n171 Tryz.prog Tryz.laysM171_ren := {
  mixed := by kernel_rfl
  f129 := Tryz.func151.trans (congrArg some (by kernel_rfl))
  f171 := Tryz.func55.trans (congrArg some (by kernel_rfl))
  f243 := Tryz.func98.trans (congrArg some (by kernel_rfl))
  f246 := Tryz.func99.trans (congrArg some (by kernel_rfl))
  f283 := Tryz.func130.trans (congrArg some (by kernel_rfl))
  f284 := Tryz.func131.trans (congrArg some (by kernel_rfl))
  f285 := Tryz.func132.trans (congrArg some (by kernel_rfl))
  f286 := Tryz.func133.trans (congrArg some (by kernel_rfl))
  f317 := Tryz.func150.trans (congrArg some (by kernel_rfl))
  f318 := Tryz.func152.trans (congrArg some (by kernel_rfl))
  f319 := Tryz.func153.trans (congrArg some (by kernel_rfl))
  f320 := Tryz.func154.trans (congrArg some (by kernel_rfl))
  f337 := Tryz.func157.trans (congrArg some (by kernel_rfl))
  f338 := Tryz.func158.trans (congrArg some (by kernel_rfl))
  t0 := Tryz.underlying0
  a0 := Tryz.isAgg0
  z0 := Tryz.sizeOf0
  v0 := Tryz.zeroValue0
  t2 := Tryz.underlying2
  a2 := Tryz.isAgg2
  z2 := Tryz.sizeOf2
  v2 := Tryz.zeroValue2
  t3 := Tryz.underlying3
  a3 := Tryz.isAgg3
  z3 := Tryz.sizeOf3
  v3 := Tryz.zeroValue3
  t4 := Tryz.underlying4
  a4 := Tryz.isAgg4
  z4 := Tryz.sizeOf4
  v4 := Tryz.zeroValue4
  t5 := Tryz.underlying5
  a5 := Tryz.isAgg5
  z5 := Tryz.sizeOf5
  v5 := Tryz.zeroValue5
  t9 := Tryz.underlying9
  a9 := Tryz.isAgg9
  z9 := Tryz.sizeOf9
  v9 := Tryz.zeroValue9
  t20 := Tryz.underlying20
  a20 := Tryz.isAgg20
  z20 := Tryz.sizeOf20
  v20 := Tryz.zeroValue20
  t37 := Tryz.underlying32
  a37 := Tryz.isAgg32
  z37 := Tryz.sizeOf32
  v37 := Tryz.zeroValue32
  t46 := Tryz.underlying133
  a46 := Tryz.isAgg133
  z46 := Tryz.sizeOf133
  v46 := Tryz.zeroValue133
  t51 := Tryz.underlying28
  a51 := Tryz.isAgg28
  z51 := Tryz.sizeOf28
  v51 := Tryz.zeroValue28
  t53 := Tryz.underlying72
  a53 := Tryz.isAgg72
  z53 := Tryz.sizeOf72
  v53 := Tryz.zeroValue72
  t171 := Tryz.underlying136
  a171 := Tryz.isAgg136
  z171 := Tryz.sizeOf136
  v171 := Tryz.zeroValue136
  t173 := Tryz.underlying139
  a173 := Tryz.isAgg139
  z173 := Tryz.sizeOf139
  v173 := Tryz.zeroValue139
  t212 := Tryz.underlying155
  a212 := Tryz.isAgg155
  z212 := Tryz.sizeOf155
  v212 := Tryz.zeroValue155
  t213 := Tryz.underlying156
  a213 := Tryz.isAgg156
  z213 := Tryz.sizeOf156
  t232 := Tryz.underlying160
  a232 := Tryz.isAgg160
  z232 := Tryz.sizeOf160
  v232 := Tryz.zeroValue160
  t233 := Tryz.underlying161
  a233 := Tryz.isAgg161
  z233 := Tryz.sizeOf161
  v233 := Tryz.zeroValue161
  g17 := by kernel_rfl
  g18 := by kernel_rfl
  g19 := by kernel_rfl
  i0 := by kernel_rfl
  i2 := by kernel_rfl
  i3 := by kernel_rfl
  i4 := by kernel_rfl
  i5 := by kernel_rfl
  i9 := by kernel_rfl
  i20 := by kernel_rfl
  i37 := by kernel_rfl
  i46 := by kernel_rfl
  i51 := by kernel_rfl
  i53 := by kernel_rfl
  i171 := by kernel_rfl
  i173 := by kernel_rfl
  i212 := by kernel_rfl
  i232 := by kernel_rfl
  i233 := by kernel_rfl
  m17 := by kernel_rfl
  m18 := by kernel_rfl
  m19 := by kernel_rfl }
open Go.RowKit Go.Sort Go.Lib in
/-- strconv.Itoa: "Itoa is equivalent to FormatInt(int64(i), 10).": i's DECIMAL NUMERAL ('Lib.itoa': a '-' where i is negative, then the digits), FOR EVERY int. The world behind the call: the world before it, new blocks behind the heap (the library's 'var a [24]byte'), draws. (LAID: no walk: one application.) -/
theorem Tryz.strconv_Itoa (n : Int) (h0 : -9223372036854775808 ≤ n) (h1 : n ≤ 9223372036854775807) (w : World) (htab : Lib.TabIs Tryz.prog w "internal/strconv.uint64pow10" .u64 Lib.pow10Tab) :
    Calls Tryz.prog 55 #[.int .i64 n] w fun e w' => e = .returned (.string ⟨(Lib.itoa n).toArray⟩) ∧ ∃ k os, w' = grow (w.drewN k) os := Any.strconv_Itoa Tryz.laysM171 n h0 h1 w htab
def Tryz.laysM173_ren : Go.Shelf.Ren := ⟨fun | 173 => 56 | 246 => 99 | 283 => 130 | 284 => 131 | 285 => 132 | 286 => 133 | 129 => 151 | 317 => 150 | 318 => 152 | 319 => 153 | 320 => 154 | 337 => 157 | 338 => 158 | n => n, fun | 2 => 2 | 3 => 3 | 9 => 9 | 4 => 4 | 171 => 136 | 0 => 0 | 53 => 72 | 37 => 32 | 5 => 5 | 173 => 139 | 212 => 155 | 51 => 28 | 20 => 20 | 213 => 156 | 46 => 133 | 232 => 160 | 233 => 161 | n => n, fun | 17 => 0 | 18 => 2 | 19 => 3 | n => n⟩
theorem Tryz.laysM173 : Go.Proofs.LaysM.n173 Tryz.prog Tryz.laysM173_ren := {
  mixed := by kernel_rfl
  f129 := Tryz.func151.trans (congrArg some (by kernel_rfl))
  f173 := Tryz.func56.trans (congrArg some (by kernel_rfl))
  f246 := Tryz.func99.trans (congrArg some (by kernel_rfl))
  f283 := Tryz.func130.trans (congrArg some (by kernel_rfl))
  f284 := Tryz.func131.trans (congrArg some (by kernel_rfl))
  f285 := Tryz.func132.trans (congrArg some (by kernel_rfl))
  f286 := Tryz.func133.trans (congrArg some (by kernel_rfl))
  f317 := Tryz.func150.trans (congrArg some (by kernel_rfl))
  f318 := Tryz.func152.trans (congrArg some (by kernel_rfl))
  f319 := Tryz.func153.trans (congrArg some (by kernel_rfl))
  f320 := Tryz.func154.trans (congrArg some (by kernel_rfl))
  f337 := Tryz.func157.trans (congrArg some (by kernel_rfl))
  f338 := Tryz.func158.trans (congrArg some (by kernel_rfl))
  t0 := Tryz.underlying0
  a0 := Tryz.isAgg0
  z0 := Tryz.sizeOf0
  v0 := Tryz.zeroValue0
  t2 := Tryz.underlying2
  a2 := Tryz.isAgg2
  z2 := Tryz.sizeOf2
  v2 := Tryz.zeroValue2
  t3 := Tryz.underlying3
  a3 := Tryz.isAgg3
  z3 := Tryz.sizeOf3
  v3 := Tryz.zeroValue3
  t4 := Tryz.underlying4
  a4 := Tryz.isAgg4
  z4 := Tryz.sizeOf4
  v4 := Tryz.zeroValue4
  t5 := Tryz.underlying5
  a5 := Tryz.isAgg5
  z5 := Tryz.sizeOf5
  v5 := Tryz.zeroValue5
  t9 := Tryz.underlying9
  a9 := Tryz.isAgg9
  z9 := Tryz.sizeOf9
  v9 := Tryz.zeroValue9
  t20 := Tryz.underlying20
  a20 := Tryz.isAgg20
  z20 := Tryz.sizeOf20
  v20 := Tryz.zeroValue20
  t37 := Tryz.underlying32
  a37 := Tryz.isAgg32
  z37 := Tryz.sizeOf32
  v37 := Tryz.zeroValue32
  t46 := Tryz.underlying133
  a46 := Tryz.isAgg133
  z46 := Tryz.sizeOf133
  v46 := Tryz.zeroValue133
  t51 := Tryz.underlying28
  a51 := Tryz.isAgg28
  z51 := Tryz.sizeOf28
  v51 := Tryz.zeroValue28
  t53 := Tryz.underlying72
  a53 := Tryz.isAgg72
  z53 := Tryz.sizeOf72
  v53 := Tryz.zeroValue72
  t171 := Tryz.underlying136
  a171 := Tryz.isAgg136
  z171 := Tryz.sizeOf136
  v171 := Tryz.zeroValue136
  t173 := Tryz.underlying139
  a173 := Tryz.isAgg139
  z173 := Tryz.sizeOf139
  v173 := Tryz.zeroValue139
  t212 := Tryz.underlying155
  a212 := Tryz.isAgg155
  z212 := Tryz.sizeOf155
  v212 := Tryz.zeroValue155
  t213 := Tryz.underlying156
  a213 := Tryz.isAgg156
  z213 := Tryz.sizeOf156
  t232 := Tryz.underlying160
  a232 := Tryz.isAgg160
  z232 := Tryz.sizeOf160
  v232 := Tryz.zeroValue160
  t233 := Tryz.underlying161
  a233 := Tryz.isAgg161
  z233 := Tryz.sizeOf161
  v233 := Tryz.zeroValue161
  g17 := by kernel_rfl
  g18 := by kernel_rfl
  g19 := by kernel_rfl
  i0 := by kernel_rfl
  i2 := by kernel_rfl
  i3 := by kernel_rfl
  i4 := by kernel_rfl
  i5 := by kernel_rfl
  i9 := by kernel_rfl
  i20 := by kernel_rfl
  i37 := by kernel_rfl
  i46 := by kernel_rfl
  i51 := by kernel_rfl
  i53 := by kernel_rfl
  i171 := by kernel_rfl
  i173 := by kernel_rfl
  i212 := by kernel_rfl
  i232 := by kernel_rfl
  i233 := by kernel_rfl
  m17 := by kernel_rfl
  m18 := by kernel_rfl
  m19 := by kernel_rfl }
open Go.RowKit Go.Sort Go.Lib in
/-- strconv.FormatInt: "FormatInt returns the string representation of i in the given base": AT BASE 10: i's decimal numeral, for every int64. (LAID: no walk: one application.) -/
theorem Tryz.strconv_FormatInt_10 (n : Int) (h0 : -9223372036854775808 ≤ n) (h1 : n ≤ 9223372036854775807) (w : World) (htab : Lib.TabIs Tryz.prog w "internal/strconv.uint64pow10" .u64 Lib.pow10Tab) :
    Calls Tryz.prog 56 #[.int .i64 n, .int .i64 10] w fun e w' => e = .returned (.string ⟨(Lib.itoa n).toArray⟩) ∧ ∃ k os, w' = grow (w.drewN k) os := Any.strconv_FormatInt_10 Tryz.laysM173 n h0 h1 w htab
end Go.Proofs
/- texts of operations, results, events and marks, as plain data. -/
set_option linter.unusedSimpArgs false
set_option linter.unusedVariables false
namespace Go.Proofs.YtkhanbedcmmlcaaGreatDoor

def inI (n : Int) : Prop := -9223372036854775808 ≤ n ∧ n ≤ 9223372036854775807
theorem itoa_len {n : Int} (h : inI n) : (Lib.itoa n).length ≤ 21 := Lib.itoa_length_le n h.1 h.2
/-- a number, with a blank ahead. -/
def nm (n : Int) : List UInt8 := 32 :: Lib.itoa n
theorem nm_len {n : Int} (h : inI n) : (nm n).length ≤ 22 := by have := itoa_len h; simp [nm]; omega
/-- an operation's word, and how many numbers it has. -/
def wordB (k : Int) : List UInt8 :=
  if k = 1 then [97, 108, 108, 111, 99] else if k = 2 then [102, 114, 101, 101] else if k = 3 then [114, 101, 97, 108, 108, 111, 99] else if k = 4 then [97, 108, 108, 111, 99, 114, 111, 111, 116]
  else if k = 5 then [115, 101, 116, 114, 111, 111, 116] else if k = 6 then [103, 101, 116, 114, 111, 111, 116] else if k = 7 then [117, 115, 97, 98, 108, 101] else if k = 8 then [115, 116, 97, 116, 115]
  else if k = 9 then [102, 108, 117, 115, 104] else []
def usesB (k : Int) : Int := if k = 1 ∨ k = 2 ∨ k = 6 ∨ k = 7 ∨ k = 9 then 1 else if k = 3 ∨ k = 4 ∨ k = 5 then 2 else 0
theorem kinds (k : Int) : k = 1 ∨ k = 2 ∨ k = 3 ∨ k = 4 ∨ k = 5 ∨ k = 6 ∨ k = 7 ∨ k = 8 ∨ k = 9 ∨ (k < 1 ∨ 9 < k) := by omega
theorem wordB_no {k : Int} (h : k < 1 ∨ 9 < k) : wordB k = [] ∧ usesB k = 0 := by
  unfold wordB usesB
  rw [if_neg (by omega), if_neg (by omega), if_neg (by omega), if_neg (by omega), if_neg (by omega), if_neg (by omega), if_neg (by omega), if_neg (by omega), if_neg (by omega), if_neg (by omega), if_neg (by omega)]
  exact ⟨rfl, rfl⟩
theorem word_cases (k : Int) : wordB k = [] ∧ usesB k = 0 ∨ wordB k ≠ [] ∧ (usesB k = 0 ∨ usesB k = 1 ∨ usesB k = 2) := by
  rcases kinds k with rfl | rfl | rfl | rfl | rfl | rfl | rfl | rfl | rfl | h
  all_goals first | (exact Or.inr ⟨by decide, by decide⟩) | (exact Or.inl (wordB_no h))
theorem word_len (k : Int) : (wordB k).length ≤ 9 := by
  rcases kinds k with rfl | rfl | rfl | rfl | rfl | rfl | rfl | rfl | rfl | h
  all_goals first | decide | (rw [(wordB_no h).1]; decide)

structure POp where
  k : Int
  a : Int
  b : Int
structure PRes where
  e : Int
  o : Int
  x : Int
structure PAns where
  k : Int
  op : POp
  res : PRes
structure PEv where
  k : Int
  epoch : Int
  t : Int
  num : Int
  op : POp
  res : PRes
  ans : PAns
structure PMark where
  epoch : Int
  stamp : Int
  t : Int
  num : Int
def POp.ok (o : POp) : Prop := inI o.k ∧ inI o.a ∧ inI o.b
def PRes.ok (r : PRes) : Prop := inI r.e ∧ inI r.o ∧ inI r.x
def PAns.ok (r : PAns) : Prop := inI r.k ∧ r.op.ok ∧ r.res.ok
def PEv.ok (e : PEv) : Prop := inI e.k ∧ inI e.epoch ∧ inI e.t ∧ inI e.num ∧ e.op.ok ∧ e.res.ok ∧ e.ans.ok
def PMark.ok (m : PMark) : Prop := inI m.epoch ∧ (0 ≤ m.stamp ∧ m.stamp ≤ 4294967295) ∧ inI m.t ∧ inI m.num
theorem PMark.st {m : PMark} (h : m.ok) : inI m.stamp := by have := h.2.1; unfold inI; omega

def opB (o : POp) : List UInt8 :=
  if wordB o.k = [] then [111, 112] ++ nm o.k ++ nm o.a ++ nm o.b else wordB o.k ++ (if 0 < usesB o.k then nm o.a else []) ++ (if 1 < usesB o.k then nm o.b else [])
def resB (r : PRes) : List UInt8 := if r.e = 0 then [111, 107] ++ nm r.o ++ nm r.x else [101, 114, 114, 111, 114] ++ nm r.e
/-- what became of an operation. -/
def ansB (a : PAns) : List UInt8 :=
  if a.k = 1 then [110, 111, 116, 32, 100, 111, 110, 101, 32] ++ opB a.op else if a.k = 2 then [100, 111, 110, 101, 32] ++ opB a.op ++ [32] ++ resB a.res else [117, 110, 107, 110, 111, 119, 110]
def whoB (e : PEv) : List UInt8 := Lib.itoa e.epoch ++ nm e.t ++ nm e.num
def evB (e : PEv) : List UInt8 :=
  if e.k = 1 then whoB e ++ [32, 98, 101, 103, 105, 110, 115, 32] ++ opB e.op
  else if e.k = 2 then whoB e ++ [32, 97, 110, 115, 119, 101, 114, 115, 32] ++ resB e.res
  else if e.k = 3 then whoB e ++ [32, 114, 101, 102, 117, 115, 101, 100]
  else if e.k = 4 then Lib.itoa e.epoch ++ [32, 99, 114, 97, 115, 104, 101, 100]
  else if e.k = 5 then Lib.itoa e.epoch ++ [32, 109, 101, 110, 100, 101, 100]
  else if e.k = 6 then whoB e ++ [32] ++ ansB e.ans
  else Lib.itoa e.epoch ++ [32, 101, 118, 101, 110, 116]
theorem op_len {o : POp} (h : o.ok) : (opB o).length ≤ 100 := by
  have h1 := nm_len h.1; have h2 := nm_len h.2.1; have h3 := nm_len h.2.2; have h4 := word_len o.k
  unfold opB
  split
  · simp; omega
  · simp only [List.length_append]
    split <;> split <;> simp <;> omega
theorem res_len {r : PRes} (h : r.ok) : (resB r).length ≤ 100 := by
  have h1 := nm_len h.1; have h2 := nm_len h.2.1; have h3 := nm_len h.2.2
  unfold resB
  split <;> simp <;> omega
theorem ans_len {a : PAns} (h : a.ok) : (ansB a).length ≤ 300 := by
  have h1 := op_len h.2.1; have h2 := res_len h.2.2
  unfold ansB
  split
  · simp; omega
  · split
    · simp; omega
    · simp

theorem ev_len {e : PEv} (h : e.ok) : (evB e).length ≤ 1000 := by
  obtain ⟨-, h1, h2, h3, h4, h5, h6⟩ := h
  have a1 := itoa_len h1; have a2 := nm_len h2; have a3 := nm_len h3
  have b1 := op_len h4; have b2 := res_len h5; have b3 := ans_len h6
  have w1 : (whoB e).length ≤ 100 := by simp only [whoB, List.length_append]; omega
  unfold evB
  repeat (first | split | (simp only [List.length_append, List.length_cons, List.length_nil]; omega))
/-- texts with blanks between. -/
def saidF (l : List ByteArray) : List UInt8 := Lib.join (l.map (·.data.toList)) [32]
end Go.Proofs.YtkhanbedcmmlcaaGreatDoor
/- texts: numerals, by the library's contracts. -/
set_option linter.unusedSimpArgs false
set_option linter.unusedVariables false
namespace Go.Proofs.YtkhanbedcmmlcaaGreatDoor
open Go.RowKit

/-- the table of powers of ten lies as its text lays it, whatever is done above this world's blocks. -/
def TabOk (w : World) : Prop := Lib.TabBelow Tryz.prog w.heap.size w "internal/strconv.uint64pow10" .u64 Lib.pow10Tab
theorem TabOk.step {w w' : World} (h : TabOk w) (hb : Below w.heap.size w w') : TabOk w' := fun w2 h2 => h w2 (hb.trans (h2.mono hb.size))
theorem TabOk.alloc {w : World} (h : TabOk w) (o : Obj) : TabOk (w.alloc o) := h.step ((Below.refl _ _).alloc (Nat.le_refl _) _)

/-- a text by its bytes. -/
abbrev bs (l : List UInt8) : ByteArray := ⟨l.toArray⟩
theorem bs_cat (a b : List UInt8) : bs a ++ bs b = bs (a ++ b) := ByteArray.mk_append_mk a b

theorem itoa_any (n : Int) (w : World) (hn : inI n) (hT : TabOk w) :
    Calls Tryz.prog 55 #[.int .i64 n] w fun e w' => e = .returned (.string (bs (Lib.itoa n))) ∧ Below w.heap.size w w' :=
  (Tryz.strconv_Itoa n hn.1 hn.2 w hT.here).mono fun _ _ ⟨he, k, os, hw⟩ => ⟨he, by rw [hw]; exact Lib.below_grow _ _ (Nat.le_refl _) _ _⟩
theorem format_any (n : Int) (w : World) (hn : inI n) (hT : TabOk w) :
    Calls Tryz.prog 56 #[.int .i64 n, .int .i64 10] w fun e w' => e = .returned (.string (bs (Lib.itoa n))) ∧ Below w.heap.size w w' :=
  (Tryz.strconv_FormatInt_10 n hn.1 hn.2 w hT.here).mono fun _ _ ⟨he, k, os, hw⟩ => ⟨he, by rw [hw]; exact Lib.below_grow _ _ (Nat.le_refl _) _ _⟩

theorem srow_shape {w : World} {e sz n : Nat} {v : Value} {xs : List Value} (h : w.ownsRow 0 e sz v n xs) : ∃ a c, v = .slice a n c := by
  rcases h.2 with ⟨rfl, rfl⟩ | ⟨g, cap, cur, rfl, -⟩
  · exact ⟨_, _, rfl⟩
  · exact ⟨_, _, rfl⟩
theorem row_below {w w' : World} {e sz n : Nat} {v : Value} {xs : List Value} (h : w.ownsRow 0 e sz v n xs) (hb : Below w.heap.size w w') : w'.ownsRow 0 e sz v n xs :=
  ownsRow_block h fun k hk => hb.block k (ownsRow_lt h hk)
end Go.Proofs.YtkhanbedcmmlcaaGreatDoor
/- strings.Builder: the library's contracts at this seat, laid by hand (the command finds no name for the empty interface at WriteString alone), and what keeps a builder. -/
set_option linter.unusedSimpArgs false
set_option linter.unusedVariables false
namespace Go.Proofs.YtkhanbedcmmlcaaGreatDoor
open Go.Shelf
theorem bld166 : Go.Proofs.Lays.n166 Tryz.prog Tryz.lays156_ren := {
  mixed := Tryz.lays156.mixed
  f166 := Tryz.lays156.f166
  f240 := Tryz.lays156.f240
  f276 := Tryz.lays156.f276
  t0 := Tryz.lays156.t0
  a0 := Tryz.lays156.a0
  z0 := Tryz.lays156.z0
  v0 := Tryz.lays156.v0
  t3 := Tryz.lays156.t3
  a3 := Tryz.lays156.a3
  z3 := Tryz.lays156.z3
  v3 := Tryz.lays156.v3
  t4 := Tryz.lays156.t4
  a4 := Tryz.lays156.a4
  z4 := Tryz.lays156.z4
  v4 := Tryz.lays156.v4
  t9 := Tryz.lays156.t9
  a9 := Tryz.lays156.a9
  z9 := Tryz.lays156.z9
  v9 := Tryz.lays156.v9
  t20 := Tryz.lays156.t20
  a20 := Tryz.lays156.a20
  z20 := Tryz.lays156.z20
  v20 := Tryz.lays156.v20
  t37 := Tryz.lays156.t37
  a37 := Tryz.lays156.a37
  z37 := Tryz.lays156.z37
  v37 := Tryz.lays156.v37
  t70 := Tryz.lays156.t70
  a70 := Tryz.lays156.a70
  z70 := Tryz.lays156.z70
  v70 := Tryz.lays156.v70
  t72 := Tryz.lays156.t72
  a72 := Tryz.lays156.a72
  z72 := Tryz.lays156.z72
  v72 := Tryz.lays156.v72
  t75 := Tryz.lays156.t75
  a75 := Tryz.lays156.a75
  z75 := Tryz.lays156.z75
  v75 := Tryz.lays156.v75
  t164 := Tryz.lays156.t164
  a164 := Tryz.lays156.a164
  z164 := Tryz.lays156.z164
  v164 := Tryz.lays156.v164 }
def bld_ren : Go.Shelf.Ren := ⟨fun | 168 => 15 | 240 => 29 | 242 => 33 | 276 => 69 | 278 => 73 | n => n, fun | 9 => 9 | 3 => 3 | 4 => 4 | 0 => 0 | 20 => 20 | 21 => 21 | 46 => 133 | 51 => 28 | 72 => 34 | 70 => 31 | 37 => 32 | 75 => 36 | 164 => 98 | 5 => 5 | 80 => 46 | n => n, fun | n => n⟩
theorem bld168 : Go.Proofs.Lays.n168 Tryz.prog bld_ren := {
  mixed := by kernel_rfl
  f168 := Tryz.func15.trans (congrArg some (by kernel_rfl))
  f240 := Tryz.func29.trans (congrArg some (by kernel_rfl))
  f242 := Tryz.func33.trans (congrArg some (by kernel_rfl))
  f276 := Tryz.func69.trans (congrArg some (by kernel_rfl))
  f278 := Tryz.func73.trans (congrArg some (by kernel_rfl))
  t0 := Tryz.underlying0
  a0 := Tryz.isAgg0
  z0 := Tryz.sizeOf0
  v0 := Tryz.zeroValue0
  t3 := Tryz.underlying3
  a3 := Tryz.isAgg3
  z3 := Tryz.sizeOf3
  v3 := Tryz.zeroValue3
  t4 := Tryz.underlying4
  a4 := Tryz.isAgg4
  z4 := Tryz.sizeOf4
  v4 := Tryz.zeroValue4
  t5 := Tryz.underlying5
  a5 := Tryz.isAgg5
  z5 := Tryz.sizeOf5
  v5 := Tryz.zeroValue5
  t9 := Tryz.underlying9
  a9 := Tryz.isAgg9
  z9 := Tryz.sizeOf9
  v9 := Tryz.zeroValue9
  t20 := Tryz.underlying20
  a20 := Tryz.isAgg20
  z20 := Tryz.sizeOf20
  v20 := Tryz.zeroValue20
  t21 := Tryz.underlying21
  a21 := Tryz.isAgg21
  z21 := Tryz.sizeOf21
  v21 := Tryz.zeroValue21
  t37 := Tryz.underlying32
  a37 := Tryz.isAgg32
  z37 := Tryz.sizeOf32
  v37 := Tryz.zeroValue32
  t46 := Tryz.underlying133
  a46 := Tryz.isAgg133
  z46 := Tryz.sizeOf133
  v46 := Tryz.zeroValue133
  t51 := Tryz.underlying28
  a51 := Tryz.isAgg28
  z51 := Tryz.sizeOf28
  v51 := Tryz.zeroValue28
  t70 := Tryz.underlying31
  a70 := Tryz.isAgg31
  z70 := Tryz.sizeOf31
  v70 := Tryz.zeroValue31
  t72 := Tryz.underlying34
  a72 := Tryz.isAgg34
  z72 := Tryz.sizeOf34
  v72 := Tryz.zeroValue34
  t75 := Tryz.underlying36
  a75 := Tryz.isAgg36
  z75 := Tryz.sizeOf36
  v75 := Tryz.zeroValue36
  t164 := Tryz.underlying98
  a164 := Tryz.isAgg98
  z164 := Tryz.sizeOf98
  v164 := Tryz.zeroValue98 }
theorem bldX : Builder.Extra Tryz.prog bld_ren := {
  sizeBuilder := by kernel_rfl
  liesBuilder := by kernel_rfl
  t5 := Tryz.underlying5
  a5 := Tryz.isAgg5
  z5 := Tryz.sizeOf5
  v5 := Tryz.zeroValue5
  infoByte := by kernel_rfl
  cellsByte := by kernel_rfl
  sizeByte := by kernel_rfl
  neB5 := by decide }
open Go.RowKit
/-- a builder that holds bytes; nothing below B has turned since w0. -/
structure Bld (w0 : World) (b : Nat) (l : List UInt8) (w : World) : Prop where
  is : Lib.IsBuilderF 34 5 w0.heap.size b (Lib.byteCells l) w
  bel : Below w0.heap.size w0 w
theorem bld_atf {w w' : World} {T e B b : Nat} {p : Value} {xs : List Value} (h : Lib.BuilderAtF T e B b p xs w) (hb : Below w.heap.size w w') : Lib.BuilderAtF T e B b p xs w' := by
  have hlt := h.lt
  obtain ⟨hB, v, hc, hown, hne⟩ := h
  refine ⟨hB, v, (hb.block b hlt).trans hc, ⟨hown.1, ?_⟩, hne⟩
  rcases hown.2 with hn | ⟨g, cap, cur, fz, hv, hbg, hg, rest⟩
  · exact .inl hn
  · exact .inr ⟨g, cap, cur, fz, hv, hbg, (hb.block g (Array.getElem?_eq_some_iff.1 hg).1).trans hg, rest⟩
section
variable {w0 w w' : World} {b : Nat} {l : List UInt8}
theorem Bld.below (h : Bld w0 b l w) (hb : Below w.heap.size w w') : Bld w0 b l w' :=
  ⟨h.is.elim (fun x => .inl (bld_atf x hb)) (fun x => .inr (bld_atf x hb)), h.bel.trans (hb.mono h.bel.size)⟩
theorem Bld.alloc (h : Bld w0 b l w) (o : Obj) : Bld w0 b l (w.alloc o) := h.below ((Below.refl _ _).alloc (Nat.le_refl _) _)
theorem Bld.drew (h : Bld w0 b l w) : Bld w0 b l w.drew := h.below ((Below.refl _ _).drew)
theorem Bld.fresh (h : Below w0.heap.size w0 w) : Bld w0 w.heap.size [] (w.alloc (.cells #[.pointer none, .slice none 0 0] 34)) :=
  ⟨.inl ⟨h.size, .slice none 0 0, heap_alloc_new w _, World.ownsRowF_of (World.ownsRow_nil _ _ _ _), by simp [Value.ownBlock]⟩, h.alloc h.size _⟩
theorem bld_str (s : ByteArray) : Lib.strCells s = Lib.byteCells s.data.toList := by
  simp [Lib.strCells, Lib.byteCells]
theorem bld_write (h : Bld w0 b l w) (s : List UInt8) (hl : l.length + s.length ≤ 140737488355328) :
    Calls Tryz.prog 12 #[.pointer (some ⟨b, 0, none⟩), .string (bs s)] w fun e w' => (∃ v, e = .returned v) ∧ Bld w0 b (l ++ s) w' :=
  (Any.Builder_WriteString_k bld166 Tryz.Builder_Extra_156 w0.heap.size b (Lib.byteCells l) (bs s) w h.is (by rw [Lib.byteCells_length]; simpa [ByteArray.size] using hl) h.bel.size).mono
    fun e w' ⟨he, h1, b1, _⟩ => ⟨⟨_, he⟩, ⟨by rw [Lib.byteCells_append, ← show Lib.strCells (bs s) = Lib.byteCells s from bld_str _]; exact Or.inr h1, h.bel.trans b1⟩⟩
theorem bld_rune (h : Bld w0 b l w) (r : Int) (h0 : 0 ≤ r) (h1 : r ≤ 127) (hl : l.length + 4 ≤ 140737488355328) :
    Calls Tryz.prog 15 #[.pointer (some ⟨b, 0, none⟩), .int .i32 r] w fun e w' => (∃ v, e = .returned v) ∧ Bld w0 b (l ++ [UInt8.ofNat r.toNat]) w' :=
  (Any.Builder_WriteRune_k bld168 bldX w0.heap.size b (Lib.byteCells l) r (by omega) (by omega) w h.is (by rw [Lib.byteCells_length]; exact hl) h.bel.size).mono
    fun e w' ⟨he, h2, b1, _⟩ => ⟨⟨_, he⟩, ⟨by
      rw [Lib.byteCells_append]
      have e1 : Lib.byteCells [UInt8.ofNat r.toNat] = Lib.runeCells r := by
        simp only [Lib.runeCells, Lib.encodeRuneZ_one h0 h1, Lib.byteCells, List.map_cons, List.map_nil]
        congr 2
        simp only [UInt8.toNat_ofNat']
        omega
      rw [e1]; exact Or.inr h2, h.bel.trans b1⟩⟩
/-- the blocks that are no rows of bytes, but the builder, stand. -/
def Oth (b : Nat) (w w' : World) : Prop := Lib.OthersKept 5 (some b) w w'
theorem Oth.refl (b : Nat) (w : World) : Oth b w w := Lib.OthersKept.refl _ _ _
theorem Oth.trans {b : Nat} {w w' w2 : World} (h : Oth b w w') (h2 : Oth b w' w2) : Oth b w w2 := Lib.OthersKept.trans h h2
theorem Oth.of {b : Nat} {w w' : World} (h : Below w.heap.size w w') : Oth b w w' := fun k _ hk _ _ => (h.block k (Array.getElem?_eq_some_iff.1 hk).1).trans hk
theorem Oth.box {b L : Nat} {w w' : World} {cs : Array Value} {T : TypeId} {fz : Nat × Nat} (h : Oth b w w') (hb : L ≠ b) (hT : T ≠ 5) (hc : w.heap[L]? = some (.cells cs T fz)) : w'.heap[L]? = some (.cells cs T fz) :=
  h L _ hc (fun e => hb (Option.some.inj e)) (fun _ _ e => hT (by cases e; rfl))
theorem bld_writeK (h : Bld w0 b l w) (s : List UInt8) (hl : l.length + s.length ≤ 140737488355328) :
    Calls Tryz.prog 12 #[.pointer (some ⟨b, 0, none⟩), .string (bs s)] w fun e w' => (∃ v, e = .returned v) ∧ Bld w0 b (l ++ s) w' ∧ Oth b w w' :=
  (Any.Builder_WriteString_k bld166 Tryz.Builder_Extra_156 w0.heap.size b (Lib.byteCells l) (bs s) w h.is (by rw [Lib.byteCells_length]; simpa [ByteArray.size] using hl) h.bel.size).mono
    fun e w' ⟨he, h1, b1, k1⟩ => ⟨⟨_, he⟩, ⟨by rw [Lib.byteCells_append, ← show Lib.strCells (bs s) = Lib.byteCells s from bld_str _]; exact Or.inr h1, h.bel.trans b1⟩, k1⟩
theorem bld_string (h : Bld w0 b l w) :
    Calls Tryz.prog 17 #[.pointer (some ⟨b, 0, none⟩)] w fun e w' => e = .returned (.string (bs l)) ∧ Below w0.heap.size w0 w' :=
  (Any.Builder_String_any_k Tryz.lays169 Tryz.Builder_Extra_169 w0.heap.size b l w h.is h.bel.size).mono fun e w' ⟨he, _, b1, _⟩ => ⟨he, h.bel.trans b1⟩
end
end Go.Proofs.YtkhanbedcmmlcaaGreatDoor
/- the program's map of a heap. -/
set_option linter.unusedSimpArgs false
set_option linter.unusedVariables false
namespace Go.Proofs.YtkhanbedcmmlcaaGreatDoor
open Go.RowKit
section
variable {t p s : Int} {ad : Addr} {n c : Nat} {vs : List Int}
theorem letC_2 {vs : List Int} {t q : Int} (h : iK (gv vs t q 0) = 2) : letC vs t q = 35 := by unfold letC; rw [if_neg (by omega), if_pos h]
theorem letC_1 {vs : List Int} {t q : Int} (h : iK (gv vs t q 0) = 1) : letC vs t q = 46 := by unfold letC; rw [if_pos h]
theorem letC_3 {vs : List Int} {t q : Int} (h1 : iK (gv vs t q 0) ≠ 1) (h2 : iK (gv vs t q 0) ≠ 2) : letC vs t q = (if fullB (gv vs t q 5) (iC (gv vs t q 0)) then 65 else 97) + iC (gv vs t q 0) := by unfold letC; rw [if_neg h1, if_neg h2]

set_option maxHeartbeats 1000000 in
set_option maxRecDepth 100000 in
theorem pletter_any (c : Nat) (w : World) (h : XV w t p s ad n vs) (q : Int) (h0 : 0 ≤ q) (h1 : q < p) :
    Calls Tryz.prog 16 #[.agg #[.int .i64 t, .int .i64 p, .int .i64 s], .slice (some ad) n c, .int .i64 q, .agg #[.int .i64 (iK (gv vs t q 0)), .int .i64 (iL (gv vs t q 0)), .int .i64 (iC (gv vs t q 0))]] w fun e w' => e = .returned (.int .i32 (letC vs t q)) ∧ Below w.heap.size w w' := by
  obtain ⟨hx1, hx2⟩ := h.cx h0 h1 (part := 5) (by omega) (by omega)
  have hc0 := h.cells _ hx1
  have hI := fun w => pptaken_any t p s q w
  rw [hx2] at hI
  have hd : vs.getD (cix t q 5) 0 = gv vs t q 5 := rfl
  rw [hd] at hc0
  have gu := h.gu q 5
  have bd := inf_bd (gv vs t q 0)
  have HO := Lib.hid (fun w => pones_any (gv vs t q 5) w gu.1 gu.2)
  have HS := Lib.hid (fun w => pslots_any (iC (gv vs t q 0)) w)
  have H1 := Lib.hid hI
  by_cases e2 : iK (gv vs t q 0) = 2
  · have hL := letC_2 e2
    rw [e2, hL]
    generalize iL (gv vs t q 0) = y2
    generalize iC (gv vs t q 0) = y3
    clear HS HO H1 hI hc0 hd gu bd h
    go_enter Tryz.func16, Tryz.ntmps16
    go_wp2
    go_ret
    refine ⟨rfl, ?_⟩
    (repeat (first | exact Below.refl _ _ | assumption | refine Below.setCell ?_ (by first | omega | (simp; done) | (simp; omega)) _ | refine Below.alloc ?_ (by first | omega | (simp; done) | (simp; omega)) _ | refine Below.drew ?_ | refine Below.trans ?_ (Below.mono ‹Below _ _ _› (by first | omega | (simp; done) | (simp; omega)))))
  by_cases e1 : iK (gv vs t q 0) = 1
  · have hL := letC_1 e1
    rw [e1, hL]
    generalize iL (gv vs t q 0) = y2
    generalize iC (gv vs t q 0) = y3
    clear HS HO H1 hI hc0 hd gu bd h e2
    go_enter Tryz.func16, Tryz.ntmps16
    go_wp2
    go_ret
    refine ⟨rfl, ?_⟩
    (repeat (first | exact Below.refl _ _ | assumption | refine Below.setCell ?_ (by first | omega | (simp; done) | (simp; omega)) _ | refine Below.alloc ?_ (by first | omega | (simp; done) | (simp; omega)) _ | refine Below.drew ?_ | refine Below.trans ?_ (Below.mono ‹Below _ _ _› (by first | omega | (simp; done) | (simp; omega)))))
  have hL := letC_3 e1 e2
  have HB := Lib.hid (show (((onesN (gv vs t q 5) 32 : Nat) : Int) == slotsF (iC (gv vs t q 0))) = fullB (gv vs t q 5) (iC (gv vs t q 0)) from rfl)
  rw [hL]
  have b1 : (iK (gv vs t q 0) == 1) = false := by simpa using e1
  have b2 : (iK (gv vs t q 0) == 2) = false := by simpa using e2
  have b3 : 0 ≤ iC (gv vs t q 0) ∧ iC (gv vs t q 0) ≤ 8 := by omega
  clear hL e1 e2 bd gu hd hI h
  generalize fullB (gv vs t q 5) (iC (gv vs t q 0)) = r at *
  generalize iK (gv vs t q 0) = y1 at *
  generalize iL (gv vs t q 0) = y2 at *
  generalize hy3 : iC (gv vs t q 0) = y3 at *
  generalize slotsF y3 = z at *
  generalize gv vs t q 5 = v at *
  generalize onesN v 32 = m at *
  generalize cix t q 5 = k at *
  have hw1 : IntKind.i32.wrap y3 = y3 := by rw [IntKind.wrap_i32]; omega
  obtain ⟨g1, g2⟩ := b3
  clear hy3
  have S0 := (BS.start w).alloc (.cells #[.int .i64 t, .int .i64 p, .int .i64 s] 23)
  have S1 := S0.alloc (.cells #[.int .i64 y1, .int .i64 y2, .int .i64 y3] 40)
  have d0 := loc_old (.cells #[.int .i64 y1, .int .i64 y2, .int .i64 y3] 40) (by simp) (loc_alloc w #[.int .i64 t, .int .i64 p, .int .i64 s] 23)
  have d1 := loc_alloc (w.alloc (.cells #[.int .i64 t, .int .i64 p, .int .i64 s] 23)) #[.int .i64 y1, .int .i64 y2, .int .i64 y3] 40
  simp only [World.size_alloc] at S1 d1
  have hr := HB.out
  cases r
  all_goals
    have hr2 := HB.out
    clear HB hr
    go_enter Tryz.func16, Tryz.ntmps16
    go_wp2_with fail
    refine wp_region_noPanic ?_
    refine wp_region_held_drew (S := fun w' => BS w [w.heap.size + 1, w.heap.size] w' ∧ (∀ o : Nat, w'.cell? ⟨w.heap.size, o, none⟩ = (#[.int .i64 t, .int .i64 p, .int .i64 s] : Array Value)[o]?) ∧ (∀ o : Nat, w'.cell? ⟨w.heap.size + 1, o, none⟩ = (#[.int .i64 y1, .int .i64 y2, .int .i64 y3] : Array Value)[o]?) ∧ w'.cell? (ad.add k) = some (.int .u32 v)) (by kernel_rfl) ?_ (fun hHeld => ?_)
    · exact ⟨S1.drew, d0, d1, S1.drew.old hc0⟩
    refine wT 0 ?_
    refine wT 1 ?_
    refine wT 2 ?_
    refine wT 7 ?_
    refine wT 8 ?_
    refine wR 3 fun K hK => ?_
    go_simp
    refine (calls_b hHeld.1 (H1.out _)).mono ?_
    rintro e wr1 ⟨rfl, hV, hVl⟩
    dsimp only
    refine hK.out _ _ ?_ (fun hHeld2 => ?_)
    · exact ⟨hV, loc_step hVl (by simp) hHeld.2.1, loc_step hVl (by simp) hHeld.2.2.1, hV.old hc0⟩
    clear hK K hV hVl hHeld
    have hHeld := hHeld2
    clear hHeld2
    try simp only [Act.put, zA, zB, zC, zD, zE, zF]
    refine wT 4 ?_
    refine wT 5 ?_
    refine wR 6 fun K hK => ?_
    go_simp
    refine (calls_b hHeld.1 (HO.out _)).mono ?_
    rintro e wr2 ⟨rfl, hV, hVl⟩
    dsimp only
    refine hK.out _ _ ?_ (fun hHeld2 => ?_)
    · exact ⟨hV, loc_step hVl (by simp) hHeld.2.1, loc_step hVl (by simp) hHeld.2.2.1, hV.old hc0⟩
    clear hK K hV hVl hHeld
    have hHeld := hHeld2
    clear hHeld2
    try simp only [Act.put, zA, zB, zC, zD, zE, zF]
    refine wR 9 fun K hK => ?_
    go_simp
    refine (calls_b hHeld.1 (HS.out _)).mono ?_
    rintro e wr3 ⟨rfl, hV, hVl⟩
    dsimp only
    refine hK.out _ _ ?_ (fun hHeld2 => ?_)
    · exact ⟨hV, loc_step hVl (by simp) hHeld.2.1, loc_step hVl (by simp) hHeld.2.2.1, hV.old hc0⟩
    clear hK K hV hVl hHeld
    have hHeld := hHeld2
    clear hHeld2
    try simp only [Act.put, zA, zB, zC, zD, zE, zF]
    refine wT 10 ?_
    refine wpAnyH_done (by kernel_rfl) (NoPanic.normal ?_) _
    refine world_gen ?_
    intro wz hwz
    rw [← hwz] at hHeld
    clear hwz
    have bel := hHeld.1.bel
    have q0 := hHeld.2.2.1 2
    simp at q0
    clear hHeld
    go_wp2
    go_ret
    exact ⟨by simp, bel⟩
end
end Go.Proofs.YtkhanbedcmmlcaaGreatDoor
/- the program's map of a heap: the walk. -/
set_option linter.unusedSimpArgs false
set_option linter.unusedVariables false
namespace Go.Proofs.YtkhanbedcmmlcaaGreatDoor
open Go.RowKit
section
variable {t p s : Int} {ad : Addr} {n c : Nat} {vs : List Int}

def TmRel (w1 : World) (vs : List Int) (t : Int) (P : Nat) (v8 v22 : Value) (wr : World) : Prop :=
  ∃ q : Nat, q ≤ P ∧ v22 = .int .i64 q ∧ v8 = .int .i32 (restN vs t q) ∧ Bld w1 w1.heap.size (outN vs t q) wr

set_option maxHeartbeats 800000 in
set_option maxRecDepth 100000 in
theorem tmap_any (P : Nat) (c : Nat) (w : World) (h : XV w t P s ad n vs) (hs : tilesF vs t P = true) (r : Int)
    (HC : ∀ W, XV W t P s ad n vs → Calls Tryz.prog 11 #[.agg #[.int .i64 t, .int .i64 P, .int .i64 s], .slice (some ad) n c] W fun e W' => e = .returned (.tuple #[.int .i64 r, .bool true]) ∧ Below W.heap.size W W') :
    Calls Tryz.prog 5 #[.agg #[.int .i64 t, .int .i64 P, .int .i64 s], .slice (some ad) n c] w fun e w' => e = .returned (.string (bs (mapB vs t P))) ∧ Below w.heap.size w w' := by
  have HCk := Lib.hid HC
  have S0 := (BS.start w).alloc (.cells #[.int .i64 t, .int .i64 P, .int .i64 s] 23)
  have c0 := loc_alloc w #[.int .i64 t, .int .i64 P, .int .i64 s] 23
  have bd := h.bd
  have X0 := Lib.hid h
  clear h HC
  go_enter Tryz.func5, Tryz.ntmps5
  go_wp2_with fail
  refine (calls_b S0 (HCk.out _ (X0.out.keep S0.bel))).mono ?_
  rintro e w1 ⟨rfl, S1, S1l⟩
  have c1 := loc_step S1l (by simp) c0
  have q0 := c1 0
  have q1 := c1 1
  have q2 := c1 2
  simp at q0 q1 q2
  have hz1 : w.heap.size < w1.heap.size := (S1.ls w.heap.size (by simp)).1
  go_wp2_with fail
  go_wp2
  go_loopw [8, 9, 22] (fun v8 _ v22 wr => TmRel w1 vs t P v8 v22 wr) (fun _ _ v22 _ => P - (intOf v22).toNat)
  case atStart => exact ⟨0, by omega, rfl, rfl, Bld.fresh (Below.refl _ _)⟩
  case round =>
    obtain ⟨q, hq, rfl, rfl, hB⟩ := hrel
    have z1 : w.heap.size < _ := Nat.lt_of_lt_of_le hz1 hB.bel.size
    have r0 := (hB.bel.cell (p := ⟨w.heap.size, 0, none⟩) hz1).trans q0
    have r1 := (hB.bel.cell (p := ⟨w.heap.size, 1, none⟩) hz1).trans q1
    have r2 := (hB.bel.cell (p := ⟨w.heap.size, 2, none⟩) hz1).trans q2
    have hlen := outN_len vs t q
    by_cases hlt : q < P
    · have hql : (q : Int) < P := by omega
      obtain ⟨hx1, hx2⟩ := X0.out.cx (q := q) (part := 0) (by omega) hql (by omega) (by omega)
      have hI := fun w => pinfo_any t P s q w
      rw [hx2] at hI
      have HI := Lib.hid hI
      have hd : vs.getD (cix t q 0) 0 = gv vs t q 0 := rfl
      have gu := X0.out.gu q 0
      have HG := Lib.hid (fun w => iget_any (gv vs t q 0) w gu.1 gu.2)
      have HL := Lib.hid (fun (w : World) (h : XV w t P s ad n vs) => pletter_any c w h q (by omega) hql)
      have HX := Lib.hid (fun (W : World) (hW : Below w1.heap.size w1 W) => (X0.out.keep S1.bel).keep hW)
      have HO : Hid (outN vs t (q + 1) = outN vs t q ++ feedN q ++ [UInt8.ofNat (chN vs t q).toNat]) := Lib.hid rfl
      have hlb := let_bd vs t q
      have hrb := restN_bd vs t q
      have hcase : iK (gv vs t q 0) = 0 ∧ restN vs t (q + 1) = restN vs t q ∧ chN vs t q = restN vs t q ∨ iK (gv vs t q 0) ≠ 0 ∧ iK (gv vs t q 0) = 2 ∧ restN vs t (q + 1) = 61 ∧ chN vs t q = letC vs t q ∨ iK (gv vs t q 0) ≠ 0 ∧ iK (gv vs t q 0) ≠ 2 ∧ restN vs t (q + 1) = 46 ∧ chN vs t q = letC vs t q := by
        by_cases e0 : iK (gv vs t q 0) = 0
        · exact Or.inl ⟨e0, if_pos e0, if_pos e0⟩
        · by_cases e2 : iK (gv vs t q 0) = 2
          · exact Or.inr (Or.inl ⟨e0, e2, (if_neg e0).trans (if_pos e2), if_neg e0⟩)
          · exact Or.inr (Or.inr ⟨e0, e2, (if_neg e0).trans (if_neg e2), if_neg e0⟩)
      clear hI
      generalize iK (gv vs t q 0) = y1 at *
      generalize iL (gv vs t q 0) = y2 at *
      generalize iC (gv vs t q 0) = y3 at *
      generalize okI (gv vs t q 0) = y4 at *
      generalize gv vs t q 0 = v at *
      generalize letC vs t q = lc at *
      generalize restN vs t q = rc at *
      generalize cix t q 0 = k at *
      by_cases hf : 0 < q ∧ q % 64 = 0
      · have hfd : feedN q = [10] := if_pos hf
        rw [hfd] at HO
        go_wp2_with fail
        refine (bld_write hB [10] (by simp; omega)).mono ?_
        rintro e wf ⟨⟨vf, rfl⟩, hBf⟩
        have rf0 := (hBf.bel.cell (p := ⟨w.heap.size, 0, none⟩) hz1).trans q0
        have rf1 := (hBf.bel.cell (p := ⟨w.heap.size, 1, none⟩) hz1).trans q1
        have rf2 := (hBf.bel.cell (p := ⟨w.heap.size, 2, none⟩) hz1).trans q2
        have zf : w.heap.size < _ := Nat.lt_of_lt_of_le hz1 hBf.bel.size
        have hlen2 : (outN vs t q ++ [10]).length ≤ 3000 := by simp; omega
        go_wp2_with fail
        refine (HI.out _).mono ?_
        rintro e wa ⟨rfl, ba⟩
        have hBa := hBf.below ba
        have hca := ((HX.out wa hBa.bel).cells _ hx1)
        rw [hd] at hca
        have ra0 := (hBa.bel.cell (p := ⟨w.heap.size, 0, none⟩) hz1).trans q0
        have ra1 := (hBa.bel.cell (p := ⟨w.heap.size, 1, none⟩) hz1).trans q1
        have ra2 := (hBa.bel.cell (p := ⟨w.heap.size, 2, none⟩) hz1).trans q2
        have za : w.heap.size < _ := Nat.lt_of_lt_of_le hz1 hBa.bel.size
        clear ba
        go_wp2_with fail
        refine (HG.out _).mono ?_
        rintro e wb ⟨rfl, bb⟩
        have hBb := hBa.below bb
        have rb0 := (hBb.bel.cell (p := ⟨w.heap.size, 0, none⟩) hz1).trans q0
        have rb1 := (hBb.bel.cell (p := ⟨w.heap.size, 1, none⟩) hz1).trans q1
        have rb2 := (hBb.bel.cell (p := ⟨w.heap.size, 2, none⟩) hz1).trans q2
        have zb : w.heap.size < _ := Nat.lt_of_lt_of_le hz1 hBb.bel.size
        clear bb
        rcases hcase with ⟨rfl, er, ec⟩ | ⟨e0, rfl, er, ec⟩ | ⟨e0, e2, er, ec⟩
        · go_wp2_with fail
          refine (bld_rune (hBb.alloc _) rc (by omega) (by omega) (by omega)).mono ?_
          rintro e wd ⟨⟨vd, rfl⟩, hBc⟩
          have HBc := Lib.hid hBc
          clear hBc hBb hBa
          go_wp2
          go_roundw
          case rel =>
            refine ⟨q + 1, by omega, by go_num, by rw [er], ?_⟩
            have HB2 := HBc.out
            rw [HO.out, ec]
            exact HB2
          case measure => simp [intOf]; omega
        · go_wp2_with fail
          refine (HL.out _ (HX.out _ (hBb.alloc _).bel)).mono ?_
          rintro e wc ⟨rfl, bc⟩
          have hBc0 := (hBb.alloc _).below bc
          clear bc
          go_wp2_with fail
          refine (bld_rune hBc0 lc (by omega) (by omega) (by omega)).mono ?_
          rintro e wd ⟨⟨vd, rfl⟩, hBc⟩
          clear hBc0
          have HBc := Lib.hid hBc
          clear hBc hBb hBa
          go_wp2
          go_roundw
          case rel =>
            refine ⟨q + 1, by omega, by go_num, by rw [er], ?_⟩
            have HB2 := HBc.out
            rw [HO.out, ec]
            exact HB2
          case measure => simp [intOf]; omega
        · go_wp2_with fail
          refine (HL.out _ (HX.out _ (hBb.alloc _).bel)).mono ?_
          rintro e wc ⟨rfl, bc⟩
          have hBc0 := (hBb.alloc _).below bc
          clear bc
          go_wp2_with fail
          refine (bld_rune hBc0 lc (by omega) (by omega) (by omega)).mono ?_
          rintro e wd ⟨⟨vd, rfl⟩, hBc⟩
          clear hBc0
          have HBc := Lib.hid hBc
          clear hBc hBb hBa
          go_wp2
          go_roundw
          case rel =>
            refine ⟨q + 1, by omega, by go_num, by rw [er], ?_⟩
            have HB2 := HBc.out
            rw [HO.out, ec]
            exact HB2
          case measure => simp [intOf]; omega
      · have hfd : feedN q = [] := if_neg hf
        rw [hfd, List.append_nil] at HO
        have hlen2 : (outN vs t q).length ≤ 3000 := by omega
        go_wp2_with fail
        all_goals
          refine (HI.out _).mono ?_
          rintro e wa ⟨rfl, ba⟩
          have hBa := hB.below ba
          have hca := ((HX.out wa hBa.bel).cells _ hx1)
          rw [hd] at hca
          have ra0 := (hBa.bel.cell (p := ⟨w.heap.size, 0, none⟩) hz1).trans q0
          have ra1 := (hBa.bel.cell (p := ⟨w.heap.size, 1, none⟩) hz1).trans q1
          have ra2 := (hBa.bel.cell (p := ⟨w.heap.size, 2, none⟩) hz1).trans q2
          have za : w.heap.size < _ := Nat.lt_of_lt_of_le hz1 hBa.bel.size
          clear ba
          go_wp2_with fail
          refine (HG.out _).mono ?_
          rintro e wb ⟨rfl, bb⟩
          have hBb := hBa.below bb
          have rb0 := (hBb.bel.cell (p := ⟨w.heap.size, 0, none⟩) hz1).trans q0
          have rb1 := (hBb.bel.cell (p := ⟨w.heap.size, 1, none⟩) hz1).trans q1
          have rb2 := (hBb.bel.cell (p := ⟨w.heap.size, 2, none⟩) hz1).trans q2
          have zb : w.heap.size < _ := Nat.lt_of_lt_of_le hz1 hBb.bel.size
          clear bb
          rcases hcase with ⟨rfl, er, ec⟩ | ⟨e0, rfl, er, ec⟩ | ⟨e0, e2, er, ec⟩
          · go_wp2_with fail
            refine (bld_rune (hBb.alloc _) rc (by omega) (by omega) (by omega)).mono ?_
            rintro e wd ⟨⟨vd, rfl⟩, hBc⟩
            have HBc := Lib.hid hBc
            clear hBc hBb hBa
            go_wp2
            go_roundw
            case rel =>
              refine ⟨q + 1, by omega, by go_num, by rw [er], ?_⟩
              have HB2 := HBc.out
              rw [HO.out, ec]
              exact HB2
            case measure => simp [intOf]; omega
          · go_wp2_with fail
            refine (HL.out _ (HX.out _ (hBb.alloc _).bel)).mono ?_
            rintro e wc ⟨rfl, bc⟩
            have hBc0 := (hBb.alloc _).below bc
            clear bc
            go_wp2_with fail
            refine (bld_rune hBc0 lc (by omega) (by omega) (by omega)).mono ?_
            rintro e wd ⟨⟨vd, rfl⟩, hBc⟩
            clear hBc0
            have HBc := Lib.hid hBc
            clear hBc hBb hBa
            go_wp2
            go_roundw
            case rel =>
              refine ⟨q + 1, by omega, by go_num, by rw [er], ?_⟩
              have HB2 := HBc.out
              rw [HO.out, ec]
              exact HB2
            case measure => simp [intOf]; omega
          · go_wp2_with fail
            refine (HL.out _ (HX.out _ (hBb.alloc _).bel)).mono ?_
            rintro e wc ⟨rfl, bc⟩
            have hBc0 := (hBb.alloc _).below bc
            clear bc
            go_wp2_with fail
            refine (bld_rune hBc0 lc (by omega) (by omega) (by omega)).mono ?_
            rintro e wd ⟨⟨vd, rfl⟩, hBc⟩
            clear hBc0
            have HBc := Lib.hid hBc
            clear hBc hBb hBa
            go_wp2
            go_roundw
            case rel =>
              refine ⟨q + 1, by omega, by go_num, by rw [er], ?_⟩
              have HB2 := HBc.out
              rw [HO.out, ec]
              exact HB2
            case measure => simp [intOf]; omega
    · obtain rfl : q = P := by omega
      go_wp2_with fail
      refine (bld_string hB).mono ?_
      rintro e wf ⟨rfl, bf⟩
      go_wp2
      go_ret
      exact ⟨by simp [mapB, bs_cat], S1.bel.trans (bf.mono S1.bel.size)⟩
end
end Go.Proofs.YtkhanbedcmmlcaaGreatDoor
/- the program's map of what is no heap. -/
set_option linter.unusedSimpArgs false
set_option linter.unusedVariables false
namespace Go.Proofs.YtkhanbedcmmlcaaGreatDoor
open Go.RowKit
set_option maxRecDepth 100000 in
theorem tmap_none (t p s : Int) (sa : Option Addr) (m c : Nat) (w : World) (r : Int)
    (HC : ∀ W, Below w.heap.size w W → Calls Tryz.prog 11 #[.agg #[.int .i64 t, .int .i64 p, .int .i64 s], .slice sa m c] W fun e W' => e = .returned (.tuple #[.int .i64 r, .bool false]) ∧ Below W.heap.size W W') :
    Calls Tryz.prog 5 #[.agg #[.int .i64 t, .int .i64 p, .int .i64 s], .slice sa m c] w fun e w' => e = .returned (.string (bs [])) ∧ Below w.heap.size w w' := by
  have H := Lib.hid HC
  clear HC
  go_enter Tryz.func5, Tryz.ntmps5
  go_wp2_with fail
  refine (H.out _ ((Below.refl _ _).alloc (Nat.le_refl _) _)).mono ?_
  rintro e w1 ⟨rfl, r1⟩
  go_wp2
  go_ret
  exact ⟨rfl, ((Below.refl _ _).alloc (Nat.le_refl _) _).trans (r1.mono (by simp))⟩
end Go.Proofs.YtkhanbedcmmlcaaGreatDoor
