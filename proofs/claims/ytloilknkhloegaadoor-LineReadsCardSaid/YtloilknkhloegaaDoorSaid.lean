/- said: words and numbers, with blanks between. -/
import Derived.Test.YtloilknkhloegaaDoorTxt
set_option linter.unusedSimpArgs false
set_option linter.unusedVariables false
namespace Go.Proofs.YtloilknkhloegaaDoor
open Go.RowKit

/-- what may be said: a text, or a number, and its bytes. -/
def PcOk (v : Value) (b : ByteArray) : Prop :=
  v = .iface 9 (.string b) ∨ (∃ n, inI n ∧ v = .iface 3 (.int .i64 n) ∧ b = bs (Lib.itoa n)) ∨ ∃ n, inI n ∧ v = .iface 2 (.int .i64 n) ∧ b = bs (Lib.itoa n)
def strs (l : List ByteArray) : List Value := l.map Value.string
theorem infoStr : (Tryd.prog.info? 9).map (fun i => (i.zero, i.size, i.bytes)) = some (some (.string .empty), 1, 16) := by kernel_rfl

theorem as_ss (v : Value) (w : World) : (Instr.typeAssert (.iface 9 v) 20 9 true).run Tryd.prog w = .ok (.tuple #[v, .bool true]) w := by kernel_rfl
theorem as_is (v : Value) (w : World) : (Instr.typeAssert (.iface 3 v) 20 9 true).run Tryd.prog w = .ok (.tuple #[.string ⟨#[]⟩, .bool false]) w := by kernel_rfl
theorem as_ii (v : Value) (w : World) : (Instr.typeAssert (.iface 3 v) 20 3 true).run Tryd.prog w = .ok (.tuple #[v, .bool true]) w := by kernel_rfl
theorem as_ls (v : Value) (w : World) : (Instr.typeAssert (.iface 2 v) 20 9 true).run Tryd.prog w = .ok (.tuple #[.string ⟨#[]⟩, .bool false]) w := by kernel_rfl
theorem as_li (v : Value) (w : World) : (Instr.typeAssert (.iface 2 v) 20 3 true).run Tryd.prog w = .ok (.tuple #[.int .i64 0, .bool false]) w := by kernel_rfl
theorem as_ll (v : Value) (w : World) : (Instr.typeAssert (.iface 2 v) 20 2 true).run Tryd.prog w = .ok (.tuple #[v, .bool true]) w := by kernel_rfl

def SaidRel (w : World) (ps : List (Value × ByteArray)) (i out : Value) (wr : World) : Prop :=
  ∃ k : Nat, k ≤ ps.length ∧ i = .int .i64 k ∧ wr.ownsRow 0 9 1 out k (strs ((ps.take k).map (·.2))) ∧ (∀ x, out.ownBlock = some x → w.heap.size ≤ x) ∧ (0 < k → out ≠ .slice none 0 0) ∧ Below w.heap.size w wr

theorem cell_add0 (w : World) (g j : Nat) : w.cell? ((⟨g, 0, none⟩ : Addr).add j) = w.cell? ⟨g, 0 + j, none⟩ := by
  by_cases h : j = 0
  · subst h; simp [Addr.add]
  · simp [Addr.add, h]

set_option maxHeartbeats 1000000 in
set_option maxRecDepth 100000 in
theorem said_any (ps : List (Value × ByteArray)) (g : Nat) (w : World) (hT : TabOk w) (hg : g < w.heap.size) (hn : 0 < ps.length) (hl : ps.length ≤ 20)
    (hok : ∀ p ∈ ps, PcOk p.1 p.2) (hc : ∀ j p, ps[j]? = some p → w.cell? ⟨g, j, none⟩ = some p.1)
    (hlen : (saidF (ps.map (·.2))).length ≤ 140737488355328) :
    Calls Tryd.prog 28 #[.slice (some ⟨g, 0, none⟩) ps.length ps.length] w fun e w' => e = .returned (.string (bs (saidF (ps.map (·.2))))) ∧ Below w.heap.size w w' := by
  obtain ⟨i0, hi0, hi1, hi2, hi3⟩ := info_parts infoStr
  have HI := Lib.hid (And.intro hi0 (And.intro hi1 (And.intro hi2 hi3)))
  have HOK := Lib.hid hok
  have HC := Lib.hid hc
  have HLEN := Lib.hid hlen
  clear hi0 hi1 hi2 hi3 hok hc hlen
  have a1 := as_ss
  have a2 := as_is
  have a3 := as_ii
  have a4 := as_ls
  have a5 := as_li
  have a6 := as_ll
  go_enter Tryd.func28, Tryd.ntmps28
  go_wp2
  go_loopw [3, 11] (fun out i wr => SaidRel w ps i out wr) (fun _ i _ => ps.length - (intOf i).toNat)
  case atStart => exact ⟨0, by omega, rfl, World.ownsRow_nil _ _ _ _, by simp [Value.ownBlock], by simp, Below.refl _ _⟩
  case round =>
    obtain ⟨k, hk, rfl, hrow, hown, hnn, hb⟩ := hrel
    by_cases hlt : k < ps.length
    · have hkl : (k : Int) < ps.length := by omega
      obtain ⟨p, hp⟩ : ∃ p, ps[k]? = some p := ⟨_, List.getElem?_eq_getElem hlt⟩
      have hcell := (hb.cell (p := ⟨g, k, none⟩) hg).trans (HC.out k p hp)
      have hpok := HOK.out p (List.mem_of_getElem? hp)
      have hs : (strs ((ps.take (k + 1)).map (·.2))) = strs ((ps.take k).map (·.2)) ++ [.string p.2] := by
        rw [List.take_add_one, hp]; simp [strs]
      have HS := Lib.hid hs
      have HR := Lib.hid hrow
      have HOW := Lib.hid hown
      have HB := Lib.hid hb
      have HT := Lib.hid (hT.step hb)
      clear hrow hown hnn hs hb hT hp
      obtain ⟨pa, pc, rfl⟩ := srow_shape HR.out
      rcases hpok with h | ⟨n, hn, h, hb2⟩ | ⟨n, hn, h, hb2⟩
      · rw [h] at hcell
        go_wp2_with (at_builtin; go_must (refine wpL_append rfl _ _ rfl 9 i0 (.string .empty) 1 16 Tryd.underlying73 HI.out.1 HI.out.2.1 HI.out.2.2.1 HI.out.2.2.2 rfl (by decide) (.slice pa k pc) k (strs ((ps.take k).map (·.2))) rfl (HR.out.alloc _) ⟨wr.heap.size, 0, none⟩ 1 1 [.string p.2] rfl rfl (cell_one_new _ _ _) ?c1 ?c2 ?c3 ?_); go_must (case c1 => (simp [Value.oneCell'])); go_must (case c2 => (unfold maxLen; omega)); go_must (case c3 => (omega)); go_must (intro v' w5 hown5 hg5 hnew5 hnil5); go_must (clear hnil5); go_must (obtain ⟨g', cap', rfl⟩ := Joins.ownsRow_form hown5 (by omega)))
        go_roundw
        case rel =>
          refine ⟨k + 1, by omega, by go_num, by rw [HS.out]; exact hown5, fun x hx => ?_, by simp, (HB.out.alloc HB.out.size _).grown hg5 (by have := HB.out.size; simp; omega) HOW.out⟩
          have := HB.out.size
          rcases hnew5 x hx with h1 | h1
          · exact HOW.out x h1
          · simp at h1; omega
        case measure => simp [intOf]; omega
      · rw [h] at hcell
        have HB2 := Lib.hid hb2
        clear hb2
        go_wp2_with fail
        refine (itoa_any n wr hn HT.out).mono ?_
        rintro e w1 ⟨rfl, b1⟩
        have HR1 := Lib.hid (row_below HR.out b1)
        have B1 := Lib.hid (HB.out.trans (b1.mono HB.out.size))
        have z1 := b1.size
        clear b1
        go_wp2_with (at_builtin; go_must (refine wpL_append rfl _ _ rfl 9 i0 (.string .empty) 1 16 Tryd.underlying73 HI.out.1 HI.out.2.1 HI.out.2.2.1 HI.out.2.2.2 rfl (by decide) (.slice pa k pc) k (strs ((ps.take k).map (·.2))) rfl (HR1.out.alloc _) ⟨w1.heap.size, 0, none⟩ 1 1 [.string (bs (Lib.itoa n))] rfl rfl (cell_one_new _ _ _) ?c1 ?c2 ?c3 ?_); go_must (case c1 => (simp [Value.oneCell'])); go_must (case c2 => (unfold maxLen; omega)); go_must (case c3 => (omega)); go_must (intro v' w5 hown5 hg5 hnew5 hnil5); go_must (clear hnil5); go_must (obtain ⟨g', cap', rfl⟩ := Joins.ownsRow_form hown5 (by omega)))
        go_roundw
        case rel =>
          refine ⟨k + 1, by omega, by go_num, by rw [HS.out, HB2.out]; exact hown5, fun x hx => ?_, by simp, (B1.out.alloc B1.out.size _).grown hg5 (by have := B1.out.size; simp; omega) HOW.out⟩
          have := HB.out.size
          rcases hnew5 x hx with h1 | h1
          · exact HOW.out x h1
          · simp at h1; omega
        case measure => simp [intOf]; omega
      · rw [h] at hcell
        have HB2 := Lib.hid hb2
        clear hb2
        go_wp2_with fail
        refine (format_any n wr hn HT.out).mono ?_
        rintro e w1 ⟨rfl, b1⟩
        have HR1 := Lib.hid (row_below HR.out b1)
        have B1 := Lib.hid (HB.out.trans (b1.mono HB.out.size))
        have z1 := b1.size
        clear b1
        go_wp2_with (at_builtin; go_must (refine wpL_append rfl _ _ rfl 9 i0 (.string .empty) 1 16 Tryd.underlying73 HI.out.1 HI.out.2.1 HI.out.2.2.1 HI.out.2.2.2 rfl (by decide) (.slice pa k pc) k (strs ((ps.take k).map (·.2))) rfl (HR1.out.alloc _) ⟨w1.heap.size, 0, none⟩ 1 1 [.string (bs (Lib.itoa n))] rfl rfl (cell_one_new _ _ _) ?c1 ?c2 ?c3 ?_); go_must (case c1 => (simp [Value.oneCell'])); go_must (case c2 => (unfold maxLen; omega)); go_must (case c3 => (omega)); go_must (intro v' w5 hown5 hg5 hnew5 hnil5); go_must (clear hnil5); go_must (obtain ⟨g', cap', rfl⟩ := Joins.ownsRow_form hown5 (by omega)))
        go_roundw
        case rel =>
          refine ⟨k + 1, by omega, by go_num, by rw [HS.out, HB2.out]; exact hown5, fun x hx => ?_, by simp, (B1.out.alloc B1.out.size _).grown hg5 (by have := B1.out.size; simp; omega) HOW.out⟩
          have := HB.out.size
          rcases hnew5 x hx with h1 | h1
          · exact HOW.out x h1
          · simp at h1; omega
        case measure => simp [intOf]; omega
    · obtain rfl : k = ps.length := by omega
      have hne := hnn hn
      obtain ⟨go, co, rfl⟩ := Joins.ownsRow_form hrow hn
      have hcs := hrow.cells (g := go) rfl
      have hcap : ps.length ≤ co := by
        rcases hrow.2 with ⟨h1, -⟩ | ⟨g1, cap, cur, h1, -, -, h2, -⟩
        · cases h1
        · simp only [Value.slice.injEq, Option.some.injEq, Addr.mk.injEq] at h1
          obtain ⟨-, -, rfl⟩ := h1
          exact h2
      have hlt : go < wr.heap.size := ownsRow_lt hrow rfl
      rw [List.take_length] at hcs
      have HJ := Lib.hid (Tryd.strings_Join go 0 co (ps.map Prod.snd) (bs [32]) wr (fun j x hx => by
        have := hcs j (.string x) (by rw [strs, List.getElem?_map, hx]; rfl)
        rwa [cell_add0] at this) hlt (by simp; omega) (by simpa using hcap) HLEN.out)
      simp only [List.length_map] at HJ
      have HJ2 : Hid (Calls Tryd.prog 48 #[.slice (some ⟨go, 0, none⟩) ps.length co, .string ⟨#[32]⟩] wr fun e w' => e = .returned (.string (bs (saidF (ps.map (·.2))))) ∧ Below wr.heap.size wr w') := HJ
      clear HJ
      have HB := Lib.hid hb
      clear hrow hown hnn hne hcs hcap hb hT
      go_wp2_with fail
      refine HJ2.out.mono ?_
      rintro e w1 ⟨rfl, b1⟩
      go_wp2
      go_ret
      exact ⟨rfl, HB.out.trans (b1.mono HB.out.size)⟩
end Go.Proofs.YtloilknkhloegaaDoor
