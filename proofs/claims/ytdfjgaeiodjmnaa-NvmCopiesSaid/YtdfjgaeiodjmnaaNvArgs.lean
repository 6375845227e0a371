/- memories: the arguments of the laws. -/
import Derived.Test.YtdfjgaeiodjmnaaNvLive
import Derived.Test.YtdfjgaeiodjmnaaRdList
set_option linter.unusedSimpArgs false
set_option linter.unusedVariables false
namespace Go.Proofs.Ytdfjgaeiodjmnaa
open Go.ChangeShapes Go.RowKit

def actC (a : NM.A) : List Value := [.int .i64 a.d, .int .i64 a.who, .int .i64 a.at_, .int .i64 a.mask, .int .u64 a.old, .int .u64 a.val]
theorem actV_eq (a : NM.A) : actV a = .agg (actC a).toArray := rfl

section
variable {H : Type} {enc : TypeId × Value → H} {w : World} {base : Nat} {spare : Nat → Bool} {held : Bool}
theorem u64_wf {n : Int} (h : (Lit.int .u64 n).wf = true) : NM.U64 n := by
  simp [Lit.wf] at h
  have e1 : IntKind.u64.min = 0 := by decide
  have e2 : IntKind.u64.max = 18446744073709551615 := by decide
  exact ⟨by omega, by omega⟩
theorem rd_u64 {fuel : Nat} {cs : List Value} {x : DataW H × List MemPlace} (h : DataW.trod enc Try.prog w base spare held fuel 22 cs = some x) :
    ∃ v vals, cs = [v] ∧ Rd w v 1 vals.length (u64s vals) ∧ ∀ u ∈ vals, NM.U64 u := by
  rcases open_ints Try.underlying22 Try.underlying24 (by kernel_rfl) h with ⟨rfl, -⟩ | ⟨a, len, cap, zs, rfl, -, hl, -, hz, -, hc, hw⟩
  · exact ⟨_, [], rfl, ⟨rfl, Or.inl ⟨rfl, rfl⟩⟩, by simp⟩
  · have hle : len ≤ zs.length := by rw [hz]; split <;> omega
    have e : (zs.take len).length = len := by simp; omega
    refine ⟨_, zs.take len, rfl, ⟨by simp [u64s], Or.inr ⟨a, cap, by rw [e], ?_⟩⟩, ?_⟩
    · intro j u hj
      have hjl : j < len := by
        have := (List.getElem?_eq_some_iff.1 hj).1
        simp [u64s] at this; omega
      rw [hc j (by omega), ← hj]
      simp [u64s, hjl, show j < zs.length by omega]
    · intro u hu
      exact u64_wf (hw u (List.mem_of_mem_take hu))

set_option maxRecDepth 100000 in
theorem act_one {fuel : Nat} {cs : List Value} {x : DataW H × List MemPlace} (h : DataW.trod enc Try.prog w base spare held fuel 26 cs = some x) :
    ∃ a : NM.A, (NM.U64 a.old ∧ NM.U64 a.val) ∧ cs = actC a := by
  obtain ⟨xs, m, -, -, hl, hn, hf⟩ := DataW.trod_struct Try.underlying26 h
  have h3 : cs.length = 6 := hl.trans (by kernel_rfl)
  have ci : Try.prog.cellsOf 3 = 1 := by kernel_rfl
  have cu : Try.prog.cellsOf 24 = 1 := by kernel_rfl
  clear hl h
  match cs, h3, xs, hn with
  | [u0, u1, u2, u3, u4, u5], _, [y0, y1, y2, y3, y4, y5], _ =>
    have f0 : DataW.trod enc Try.prog w base spare held m 3 [u0] = some y0 := by simpa [ci] using hf 0 _ rfl
    have f1 : DataW.trod enc Try.prog w base spare held m 3 [u1] = some y1 := by simpa [ci] using hf 1 _ rfl
    have f2 : DataW.trod enc Try.prog w base spare held m 3 [u2] = some y2 := by simpa [ci] using hf 2 _ rfl
    have f3 : DataW.trod enc Try.prog w base spare held m 3 [u3] = some y3 := by simpa [ci] using hf 3 _ rfl
    have f4 : DataW.trod enc Try.prog w base spare held m 24 [u4] = some y4 := by simpa [cu] using hf 4 _ rfl
    have f5 : DataW.trod enc Try.prog w base spare held m 24 [u5] = some y5 := by simpa [cu] using hf 5 _ rfl
    obtain ⟨a0, e0, -⟩ := DataW.trod_int Try.underlying3 f0
    obtain ⟨a1, e1, -⟩ := DataW.trod_int Try.underlying3 f1
    obtain ⟨a2, e2, -⟩ := DataW.trod_int Try.underlying3 f2
    obtain ⟨a3, e3, -⟩ := DataW.trod_int Try.underlying3 f3
    obtain ⟨a4, e4, w4⟩ := DataW.trod_int Try.underlying24 f4
    obtain ⟨a5, e5, w5⟩ := DataW.trod_int Try.underlying24 f5
    simp at e0 e1 e2 e3 e4 e5
    refine ⟨⟨a0, a1, a2, a3, a4, a5⟩, ⟨u64_wf ?_, u64_wf ?_⟩, by rw [e0, e1, e2, e3, e4, e5]; rfl⟩
    · first | exact w4 | exact w4.1 | exact w4.2
    · first | exact w5 | exact w5.1 | exact w5.2

theorem rd_acts {fuel : Nat} {cs : List Value} {x : DataW H × List MemPlace} (h : DataW.trod enc Try.prog w base spare held fuel 23 cs = some x) :
    ∃ (v : Value) (l : List NM.A), cs = [v] ∧ Rd w v 6 l.length (l.flatMap actC) ∧ ∀ a ∈ l, NM.U64 a.old ∧ NM.U64 a.val :=
  rd_list actC (fun a => NM.U64 a.old ∧ NM.U64 a.val) 6 (fun _ => rfl) Try.underlying23 (by kernel_rfl) (fun h => act_one h) h
end

theorem nfew_any (a1 a2 : Option Addr) (n1 n2 c1 c2 : Nat) (w : World) :
    Calls Try.prog 7 #[.slice a1 n1 c1, .slice a2 n2 c2] w fun e w' => e = .returned (.bool (decide (n1 ≤ 64) && decide (n2 ≤ 200))) ∧ w = w' := by
  by_cases h1 : n1 ≤ 64
  · have h1b : (n1 : Int) ≤ 64 := by omega
    by_cases h2 : n2 ≤ 200
    · have h2b : (n2 : Int) ≤ 200 := by omega
      have e : (decide (n1 ≤ 64) && decide (n2 ≤ 200)) = true := by simp; omega
      rw [e]
      go_enter Try.func7, Try.ntmps7
      go_wp2
      go_ret
      exact ⟨rfl, rfl⟩
    · have h2b : ¬ (n2 : Int) ≤ 200 := by omega
      have e : (decide (n1 ≤ 64) && decide (n2 ≤ 200)) = false := by simp; omega
      rw [e]
      go_enter Try.func7, Try.ntmps7
      go_wp2
      go_ret
      exact ⟨rfl, rfl⟩
  · have h1b : ¬ (n1 : Int) ≤ 64 := by omega
    have e : (decide (n1 ≤ 64) && decide (n2 ≤ 200)) = false := by simp; omega
    rw [e]
    go_enter Try.func7, Try.ntmps7
    go_wp2
    go_ret
    exact ⟨rfl, rfl⟩

/-- an element of a row of acts, cell by cell. -/
theorem act_cells {w : World} {v : Value} {l : List NM.A} (h : Rd w v 6 l.length (l.flatMap actC)) {k : Nat} {a : NM.A} (hk : l[k]? = some a) :
    ∃ ad c, v = .slice (some ad) l.length c ∧ w.cell? (ad.add (k * 6)) = some (.int .i64 a.d) ∧ w.cell? ⟨(ad.add (k * 6)).block, (ad.add (k * 6)).off + 1, none⟩ = some (.int .i64 a.who) ∧ w.cell? ⟨(ad.add (k * 6)).block, (ad.add (k * 6)).off + 2, none⟩ = some (.int .i64 a.at_) ∧ w.cell? ⟨(ad.add (k * 6)).block, (ad.add (k * 6)).off + 3, none⟩ = some (.int .i64 a.mask) ∧ w.cell? ⟨(ad.add (k * 6)).block, (ad.add (k * 6)).off + 4, none⟩ = some (.int .u64 a.old) ∧ w.cell? ⟨(ad.add (k * 6)).block, (ad.add (k * 6)).off + 5, none⟩ = some (.int .u64 a.val) := by
  obtain ⟨hl, ⟨-, h0⟩ | ⟨ad, c, rfl, hc⟩⟩ := h
  · have := (List.getElem?_eq_some_iff.1 hk).1; omega
  · have f := fun j u (hj : (actC a)[j]? = some u) => hc _ u (flat_cell actC 6 (fun _ => rfl) hk hj)
    refine ⟨ad, c, rfl, f 0 _ rfl, ?_, ?_, ?_, ?_, ?_⟩
    · rw [← addr_more]; exact f 1 _ rfl
    · rw [← addr_more]; exact f 2 _ rfl
    · rw [← addr_more]; exact f 3 _ rfl
    · rw [← addr_more]; exact f 4 _ rfl
    · rw [← addr_more]; exact f 5 _ rfl
theorem act_at {w : World} {ad : Addr} {c : Nat} {l : List NM.A} (h : Rd w (.slice (some ad) l.length c) 6 l.length (l.flatMap actC)) {k : Nat} {a : NM.A} (hk : l[k]? = some a) :
    w.cell? (ad.add (k * 6)) = some (.int .i64 a.d) ∧ w.cell? ⟨(ad.add (k * 6)).block, (ad.add (k * 6)).off + 1, none⟩ = some (.int .i64 a.who) ∧ w.cell? ⟨(ad.add (k * 6)).block, (ad.add (k * 6)).off + 2, none⟩ = some (.int .i64 a.at_) ∧ w.cell? ⟨(ad.add (k * 6)).block, (ad.add (k * 6)).off + 3, none⟩ = some (.int .i64 a.mask) ∧ w.cell? ⟨(ad.add (k * 6)).block, (ad.add (k * 6)).off + 4, none⟩ = some (.int .u64 a.old) ∧ w.cell? ⟨(ad.add (k * 6)).block, (ad.add (k * 6)).off + 5, none⟩ = some (.int .u64 a.val) := by
  obtain ⟨ad2, c2, e, h2⟩ := act_cells h hk
  simp only [Value.slice.injEq, Option.some.injEq, true_and] at e
  obtain ⟨rfl, rfl⟩ := e
  exact h2
end Go.Proofs.Ytdfjgaeiodjmnaa
