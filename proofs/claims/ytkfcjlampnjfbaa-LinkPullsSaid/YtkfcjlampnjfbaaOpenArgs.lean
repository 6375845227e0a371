/- slices among the arguments, opened as rows that can be read. -/
import Derived.Test.YtkfcjlampnjfbaaLinkDoesW
import Derived.ProofKit
import Derived.OpenShut
import Derived.Deep.Slices
namespace Go.Proofs.Ytkfcjlampnjfbaa
open Go.ChangeShapes Go.RowKit

section
variable {H : Type} {enc : TypeId × Value → H} {w : World} {base : Nat} {spare : Nat → Bool} {held : Bool}

theorem rd_u32 {fuel : Nat} {cs : List Value} {x : DataW H × List MemPlace} (h : DataW.trod enc Try.prog w base spare held fuel 27 cs = some x) :
    ∃ v vals, cs = [v] ∧ Rd w v 1 vals.length (uints vals) ∧ ∀ u ∈ vals, VS.U32 u := by
  rcases open_ints Try.underlying27 Try.underlying72 (by kernel_rfl) h with ⟨rfl, -⟩ | ⟨a, len, cap, zs, rfl, -, hl, -, hz, -, hc, hw⟩
  · exact ⟨_, [], rfl, ⟨rfl, Or.inl ⟨rfl, rfl⟩⟩, by simp⟩
  · have hle : len ≤ zs.length := by rw [hz]; split <;> omega
    have e : (zs.take len).length = len := by simp; omega
    refine ⟨_, zs.take len, rfl, ⟨by simp [uints], Or.inr ⟨a, cap, by rw [e], ?_⟩⟩, ?_⟩
    · intro j u hj
      have hjl : j < len := by
        have := (List.getElem?_eq_some_iff.1 hj).1
        simp [uints] at this; omega
      rw [hc j (by omega), ← hj]
      simp [uints, hjl, show j < zs.length by omega]
    · intro u hu
      have := hw u (List.mem_of_mem_take hu)
      simp [Lit.wf] at this
      have e1 : IntKind.u32.min = 0 := by decide
      have e2 : IntKind.u32.max = 4294967295 := by decide
      exact ⟨by omega, by omega⟩

set_option maxRecDepth 100000 in
theorem step_one {fuel : Nat} {cs : List Value} {x : DataW H × List MemPlace} (h : DataW.trod enc Try.prog w base spare held fuel 46 cs = some x) :
    ∃ (a : Bool) (b c : Int), cs = [.bool a, .int .i64 b, .int .i64 c] := by
  obtain ⟨xs, m, -, -, hl, hn, hf⟩ := DataW.trod_struct Try.underlying46 h
  have h3 : cs.length = 3 := hl.trans (by kernel_rfl)
  have cb : Try.prog.cellsOf 4 = 1 := by kernel_rfl
  have ci : Try.prog.cellsOf 3 = 1 := by kernel_rfl
  clear hl h
  match cs, h3, xs, hn with
  | [u0, u1, u2], _, [y0, y1, y2], _ =>
    have f0 : DataW.trod enc Try.prog w base spare held m 4 [u0] = some y0 := by simpa [cb] using hf 0 _ rfl
    have f1 : DataW.trod enc Try.prog w base spare held m 3 [u1] = some y1 := by simpa [ci] using hf 1 _ rfl
    have f2 : DataW.trod enc Try.prog w base spare held m 3 [u2] = some y2 := by simpa [ci] using hf 2 _ rfl
    obtain ⟨a, e0, -⟩ := DataW.trod_bool Try.underlying4 f0
    obtain ⟨b, e1, -⟩ := DataW.trod_int Try.underlying3 f1
    obtain ⟨c, e2, -⟩ := DataW.trod_int Try.underlying3 f2
    simp at e0 e1 e2
    exact ⟨a, b, c, by rw [e0, e1, e2]⟩

theorem stepCells_len (l : List (Bool × Int × Int)) : (stepCells l).length = l.length * 3 := by
  induction l with
  | nil => rfl
  | cons y ys ih => unfold stepCells at ih ⊢; simp [ih]; omega
theorem add_add (a : Addr) (m j : Nat) : (a.add m).add j = a.add (m + j) := by
  by_cases h : m = 0
  · subst h; simp [Addr.add]
  · by_cases h2 : j = 0
    · subst h2; simp [Addr.add]
    · simp [Addr.add, h, h2]; omega

set_option maxRecDepth 100000 in
theorem rd_steps {fuel : Nat} {cs : List Value} {x : DataW H × List MemPlace} (h : DataW.trod enc Try.prog w base spare held fuel 42 cs = some x) :
    ∃ v steps, cs = [v] ∧ Rd w v 3 steps.length (stepCells steps) := by
  have c3 : Try.prog.cellsOf 46 = 3 := by kernel_rfl
  rcases Go.Deep.open_slice Try.underlying42 h with ⟨rfl, -⟩ | ⟨a, len, cap, m, n, D, Pl, rfl, -, hl, -, hm, -, hx⟩
  · exact ⟨_, [], rfl, rfl, Or.inl ⟨rfl, rfl⟩⟩
  · have hle : len ≤ m := by rw [hm]; split <;> omega
    rw [c3] at hx
    have hq : ∀ k, k ≤ len → ∃ steps : List (Bool × Int × Int), steps.length = k ∧ ∀ j u, (stepCells steps)[j]? = some u → w.cell? (a.add j) = some u := by
      intro k
      induction k with
      | zero => intro _; exact ⟨[], rfl, by simp [stepCells]⟩
      | succ k ih =>
        intro hk
        obtain ⟨l, hll, hlc⟩ := ih (by omega)
        obtain ⟨cs', h1, h2⟩ := hx k (by omega)
        obtain ⟨p, q, r, rfl⟩ := step_one h2
        have hsl : (stepCells l).length = k * 3 := by rw [stepCells_len, hll]
        refine ⟨l ++ [(p, q, r)], by simp [hll], ?_⟩
        intro j u hj
        by_cases hjl : j < k * 3
        · exact hlc j u (by rw [← hj, show stepCells (l ++ [(p, q, r)]) = stepCells l ++ [Value.bool p, Value.int .i64 q, Value.int .i64 r] by simp [stepCells], List.getElem?_append_left (by omega)])
        · have hju : [Value.bool p, Value.int .i64 q, Value.int .i64 r][j - k * 3]? = some u := by
            rw [← hj]
            have e : stepCells (l ++ [(p, q, r)]) = stepCells l ++ [Value.bool p, Value.int .i64 q, Value.int .i64 r] := by simp [stepCells]
            rw [e, List.getElem?_append_right (by omega), hsl]
          have hi : j - k * 3 < 3 := (List.getElem?_eq_some_iff.1 hju).1
          have h5 := (World.cells?_some h1).2.2 (j - k * 3) hi
          rw [add_add, hju] at h5
          rw [← h5]
          congr 2
          omega
    obtain ⟨steps, hs, hc⟩ := hq len (Nat.le_refl _)
    exact ⟨_, steps, rfl, stepCells_len _, Or.inr ⟨a, cap, by rw [hs], hc⟩⟩
end
end Go.Proofs.Ytkfcjlampnjfbaa
