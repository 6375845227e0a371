/- slices among the arguments, opened as rows that can be read: any element. -/
import Derived.Test.YtdfjgaeiodjmnaaViewWhole
import Derived.ProofKit
import Derived.OpenShut
import Derived.Deep.Slices
set_option linter.unusedSimpArgs false
set_option linter.unusedVariables false
namespace Go.Proofs.Ytdfjgaeiodjmnaa
open Go.ChangeShapes Go.RowKit

theorem addr_add_add (a : Addr) (m j : Nat) : (a.add m).add j = a.add (m + j) := by
  by_cases h : m = 0
  · subst h; simp [Addr.add]
  · by_cases h2 : j = 0
    · subst h2; simp [Addr.add]
    · simp [Addr.add, h, h2]; omega
theorem addr_more (ad : Addr) (m j : Nat) : ad.add (m + (j + 1)) = ⟨(ad.add m).block, (ad.add m).off + (j + 1), none⟩ := by
  by_cases h : m = 0
  · subst h; simp [Addr.add]
  · simp [Addr.add, h]; omega
theorem flat_len {α : Type} (f : α → List Value) (sz : Nat) (hf : ∀ a, (f a).length = sz) (l : List α) : (l.flatMap f).length = l.length * sz := by
  induction l with
  | nil => simp
  | cons y ys ih => simp [ih, hf, Nat.succ_mul]; omega
theorem flat_cell {α : Type} (f : α → List Value) (sz : Nat) (hf : ∀ a, (f a).length = sz) {l : List α} {k : Nat} {a : α} (h : l[k]? = some a) {j : Nat} {u : Value} (hj : (f a)[j]? = some u) : (l.flatMap f)[k * sz + j]? = some u := by
  induction l generalizing k with
  | nil => simp at h
  | cons p r ih =>
    have hjl : j < sz := by have := (List.getElem?_eq_some_iff.1 hj).1; rw [hf] at this; exact this
    cases k with
    | zero =>
      simp at h; subst h
      rw [List.flatMap_cons, List.getElem?_append_left (by rw [hf]; omega), Nat.zero_mul, Nat.zero_add]
      exact hj
    | succ k =>
      rw [List.flatMap_cons, List.getElem?_append_right (by rw [hf, Nat.succ_mul]; omega), hf]
      rw [show (k + 1) * sz + j - sz = k * sz + j by rw [Nat.succ_mul]; omega]
      exact ih (by simpa using h)

section
variable {H : Type} {enc : TypeId × Value → H} {w : World} {base : Nat} {spare : Nat → Bool} {held : Bool}
theorem rd_list {α : Type} {T E : TypeId} (f : α → List Value) (P : α → Prop) (sz : Nat) (hf : ∀ a, (f a).length = sz) (hT : Try.prog.underlying T = some (.slice E)) (hE : Try.prog.cellsOf E = sz)
    (hel : ∀ {m : Nat} {cs : List Value} {y : DataW H × List MemPlace}, DataW.trod enc Try.prog w base spare held m E cs = some y → ∃ a, P a ∧ cs = f a)
    {fuel : Nat} {cs : List Value} {x : DataW H × List MemPlace} (h : DataW.trod enc Try.prog w base spare held fuel T cs = some x) :
    ∃ (v : Value) (l : List α), cs = [v] ∧ Rd w v sz l.length (l.flatMap f) ∧ ∀ a ∈ l, P a := by
  rcases Go.Deep.open_slice hT h with ⟨rfl, -⟩ | ⟨a, len, cap, m, n, D, Pl, rfl, -, hl, -, hm, -, hx⟩
  · exact ⟨_, [], rfl, ⟨by simp, Or.inl ⟨rfl, rfl⟩⟩, by simp⟩
  · have hle : len ≤ m := by rw [hm]; split <;> omega
    rw [hE] at hx
    have hq : ∀ k, k ≤ len → ∃ l : List α, l.length = k ∧ (∀ j u, (l.flatMap f)[j]? = some u → w.cell? (a.add j) = some u) ∧ ∀ a ∈ l, P a := by
      intro k
      induction k with
      | zero => intro _; exact ⟨[], rfl, by simp, by simp⟩
      | succ k ih =>
        intro hk
        obtain ⟨l, hll, hlc, hlp⟩ := ih (by omega)
        obtain ⟨cs', h1, h2⟩ := hx k (by omega)
        obtain ⟨b, hb, rfl⟩ := hel h2
        have hsl : (l.flatMap f).length = k * sz := by rw [flat_len f sz hf, hll]
        refine ⟨l ++ [b], by simp [hll], ?_, ?_⟩
        · intro j u hj
          rw [List.flatMap_append] at hj
          by_cases hjl : j < k * sz
          · exact hlc j u (by rw [← hj, List.getElem?_append_left (by omega)])
          · have hju : (f b)[j - k * sz]? = some u := by
              rw [List.getElem?_append_right (by omega), hsl] at hj
              simpa using hj
            have hi : j - k * sz < sz := by have := (List.getElem?_eq_some_iff.1 hju).1; rw [hf] at this; exact this
            have h5 := (World.cells?_some h1).2.2 (j - k * sz) hi
            rw [addr_add_add, hju] at h5
            rw [← h5]
            congr 2
            omega
        · intro x hx
          rcases List.mem_append.1 hx with hx | hx
          · exact hlp x hx
          · simp at hx; subst hx; exact hb
    obtain ⟨l, hs, hc, hp⟩ := hq len (Nat.le_refl _)
    exact ⟨_, l, rfl, ⟨flat_len f sz hf l, Or.inr ⟨a, cap, by rw [hs], hc⟩⟩, hp⟩
end

theorem Rd.keepB {w w' : World} {v : Value} {sz n : Nat} {xs : List Value} {B : Nat} (hh : Rd w v sz n xs) (hb : Below B w w') (hB : w.heap.size ≤ B) : Rd w' v sz n xs := by
  obtain ⟨hl, hh⟩ := hh
  refine ⟨hl, hh.imp_right ?_⟩
  rintro ⟨ad, c, rfl, hcc⟩
  exact ⟨ad, c, rfl, fun j u hj => (hb.cell (Nat.lt_of_lt_of_le (World.block_lt_of_cell? w _ (hcc j u hj)) hB)).trans (hcc j u hj)⟩
theorem Rd.len {w : World} {v : Value} {sz n : Nat} {xs : List Value} (h : Rd w v sz n xs) : ∃ a c, v = .slice a n c := by
  obtain ⟨hl, ⟨rfl, h0⟩ | ⟨ad, c, rfl, hcc⟩⟩ := h
  · exact ⟨_, _, by rw [h0]⟩
  · exact ⟨_, _, rfl⟩
end Go.Proofs.Ytdfjgaeiodjmnaa
