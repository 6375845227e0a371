/- tell: the arguments of the laws; the tables that a row lists. -/
import Derived.Test.YtloilknkhloegaaDoorTxt
import Derived.ProofKit
import Derived.OpenShut
import Derived.Lib.SmallJoins
import Derived.Lib.LaidTab
import Derived.Stop.LaidErr
set_option linter.unusedSimpArgs false
set_option linter.unusedVariables false
namespace Go.Proofs.YtloilknkhloegaaDoor
open Go.ChangeShapes Go.RowKit Go.Joins

def opC (o : POp) : List Value := [.int .i64 o.k, .int .i64 o.a, .int .i64 o.b]
def resC (r : PRes) : List Value := [.int .i64 r.e, .int .i64 r.o, .int .i64 r.x]
def markC (m : PMark) : List Value := [.int .i64 m.epoch, .int .u32 m.stamp, .int .i64 m.t, .int .i64 m.num]
def ansC (a : PAns) : List Value := .int .i64 a.k :: (opC a.op ++ resC a.res)
def evC (e : PEv) : List Value := [.int .i64 e.k, .int .i64 e.epoch, .int .i64 e.t, .int .i64 e.num] ++ (opC e.op ++ (resC e.res ++ ansC e.ans))

theorem wf_inI {n : Int} (h : (Lit.int .i64 n).wf = true) : inI n := by
  simp [Lit.wf] at h
  have e1 : IntKind.i64.min = -9223372036854775808 := by decide
  have e2 : IntKind.i64.max = 9223372036854775807 := by decide
  exact ⟨by omega, by omega⟩
theorem wf_u32 {n : Int} (h : (Lit.int .u32 n).wf = true) : 0 ≤ n ∧ n ≤ 4294967295 := by
  simp [Lit.wf] at h
  have e1 : IntKind.u32.min = 0 := by decide
  have e2 : IntKind.u32.max = 4294967295 := by decide
  exact ⟨by omega, by omega⟩
section
variable {H : Type} {enc : TypeId × Value → H} {w : World} {base : Nat} {spare : Nat → Bool} {held : Bool}
theorem one_int {fuel : Nat} {cs : List Value} {x : DataW H × List MemPlace} (h : DataW.trod enc Tryd.prog w base spare held fuel 3 cs = some x) : ∃ n, inI n ∧ cs = [.int .i64 n] := by
  obtain ⟨n, e, -, wf⟩ := DataW.trod_int Tryd.underlying3 h
  exact ⟨n, wf_inI wf, e⟩
theorem one_i64 {fuel : Nat} {cs : List Value} {x : DataW H × List MemPlace} (h : DataW.trod enc Tryd.prog w base spare held fuel 2 cs = some x) : ∃ n, inI n ∧ cs = [.int .i64 n] := by
  obtain ⟨n, e, -, wf⟩ := DataW.trod_int Tryd.underlying2 h
  exact ⟨n, wf_inI wf, e⟩
theorem one_err {fuel : Nat} {cs : List Value} {x : DataW H × List MemPlace} (h : DataW.trod enc Tryd.prog w base spare held fuel 24 cs = some x) : ∃ n, inI n ∧ cs = [.int .i64 n] := by
  obtain ⟨n, e, -, wf⟩ := DataW.trod_int Tryd.underlying24 h
  exact ⟨n, wf_inI wf, e⟩
theorem one_u32 {fuel : Nat} {cs : List Value} {x : DataW H × List MemPlace} (h : DataW.trod enc Tryd.prog w base spare held fuel 31 cs = some x) : ∃ n, (0 ≤ n ∧ n ≤ 4294967295) ∧ cs = [.int .u32 n] := by
  obtain ⟨n, e, -, wf⟩ := DataW.trod_int Tryd.underlying31 h
  exact ⟨n, wf_u32 wf, e⟩
theorem c_int : Tryd.prog.cellsOf 3 = 1 := by kernel_rfl
theorem c_i64 : Tryd.prog.cellsOf 2 = 1 := by kernel_rfl
theorem c_u32 : Tryd.prog.cellsOf 31 = 1 := by kernel_rfl
theorem c_err : Tryd.prog.cellsOf 24 = 1 := by kernel_rfl
theorem c_op : Tryd.prog.cellsOf 23 = 3 := by kernel_rfl
theorem c_res : Tryd.prog.cellsOf 26 = 3 := by kernel_rfl
theorem c_ans : Tryd.prog.cellsOf 28 = 7 := by kernel_rfl
theorem c_ev : Tryd.prog.cellsOf 30 = 17 := by kernel_rfl
theorem c_mark : Tryd.prog.cellsOf 33 = 4 := by kernel_rfl

set_option maxRecDepth 100000 in
theorem one_op {fuel : Nat} {cs : List Value} {x : DataW H × List MemPlace} (h : DataW.trod enc Tryd.prog w base spare held fuel 23 cs = some x) : ∃ o : POp, o.ok ∧ cs = opC o := by
  obtain ⟨xs, m, -, -, hl, hn, hf⟩ := DataW.trod_struct Tryd.underlying23 h
  have h3 : cs.length = 3 := hl.trans c_op
  clear hl h
  match cs, h3, xs, hn with
  | [u0, u1, u2], _, [y0, y1, y2], _ =>
    obtain ⟨a, ha, e0⟩ := one_int (show DataW.trod enc Tryd.prog w base spare held m 3 [u0] = some y0 by simpa [c_int] using hf 0 _ rfl)
    obtain ⟨b, hb, e1⟩ := one_i64 (show DataW.trod enc Tryd.prog w base spare held m 2 [u1] = some y1 by simpa [c_i64] using hf 1 _ rfl)
    obtain ⟨c, hc, e2⟩ := one_i64 (show DataW.trod enc Tryd.prog w base spare held m 2 [u2] = some y2 by simpa [c_i64] using hf 2 _ rfl)
    simp only [List.cons.injEq, and_true] at e0 e1 e2
    exact ⟨⟨a, b, c⟩, ⟨ha, hb, hc⟩, by rw [e0, e1, e2]; rfl⟩
set_option maxRecDepth 100000 in
theorem one_res {fuel : Nat} {cs : List Value} {x : DataW H × List MemPlace} (h : DataW.trod enc Tryd.prog w base spare held fuel 26 cs = some x) : ∃ o : PRes, o.ok ∧ cs = resC o := by
  obtain ⟨xs, m, -, -, hl, hn, hf⟩ := DataW.trod_struct Tryd.underlying26 h
  have h3 : cs.length = 3 := hl.trans c_res
  clear hl h
  match cs, h3, xs, hn with
  | [u0, u1, u2], _, [y0, y1, y2], _ =>
    obtain ⟨a, ha, e0⟩ := one_err (show DataW.trod enc Tryd.prog w base spare held m 24 [u0] = some y0 by simpa [c_err] using hf 0 _ rfl)
    obtain ⟨b, hb, e1⟩ := one_i64 (show DataW.trod enc Tryd.prog w base spare held m 2 [u1] = some y1 by simpa [c_i64] using hf 1 _ rfl)
    obtain ⟨c, hc, e2⟩ := one_i64 (show DataW.trod enc Tryd.prog w base spare held m 2 [u2] = some y2 by simpa [c_i64] using hf 2 _ rfl)
    simp only [List.cons.injEq, and_true] at e0 e1 e2
    exact ⟨⟨a, b, c⟩, ⟨ha, hb, hc⟩, by rw [e0, e1, e2]; rfl⟩
set_option maxRecDepth 100000 in
theorem one_mark {fuel : Nat} {cs : List Value} {x : DataW H × List MemPlace} (h : DataW.trod enc Tryd.prog w base spare held fuel 33 cs = some x) : ∃ o : PMark, o.ok ∧ cs = markC o := by
  obtain ⟨xs, m, -, -, hl, hn, hf⟩ := DataW.trod_struct Tryd.underlying33 h
  have h3 : cs.length = 4 := hl.trans c_mark
  clear hl h
  match cs, h3, xs, hn with
  | [u0, u1, u2, u3], _, [y0, y1, y2, y3], _ =>
    obtain ⟨a, ha, e0⟩ := one_int (show DataW.trod enc Tryd.prog w base spare held m 3 [u0] = some y0 by simpa [c_int] using hf 0 _ rfl)
    obtain ⟨b, hb, e1⟩ := one_u32 (show DataW.trod enc Tryd.prog w base spare held m 31 [u1] = some y1 by simpa [c_u32] using hf 1 _ rfl)
    obtain ⟨c, hc, e2⟩ := one_int (show DataW.trod enc Tryd.prog w base spare held m 3 [u2] = some y2 by simpa [c_int] using hf 2 _ rfl)
    obtain ⟨d, hd, e3⟩ := one_int (show DataW.trod enc Tryd.prog w base spare held m 3 [u3] = some y3 by simpa [c_int] using hf 3 _ rfl)
    simp only [List.cons.injEq, and_true] at e0 e1 e2 e3
    exact ⟨⟨a, b, c, d⟩, ⟨ha, hb, hc, hd⟩, by rw [e0, e1, e2, e3]; rfl⟩
set_option maxRecDepth 100000 in
theorem one_ans {fuel : Nat} {cs : List Value} {x : DataW H × List MemPlace} (h : DataW.trod enc Tryd.prog w base spare held fuel 28 cs = some x) : ∃ o : PAns, o.ok ∧ cs = ansC o := by
  obtain ⟨xs, m, -, -, hl, hn, hf⟩ := DataW.trod_struct Tryd.underlying28 h
  have h3 : cs.length = 7 := hl.trans c_ans
  clear hl h
  match xs, hn with
  | [y0, y1, y2], _ =>
    have f0 : DataW.trod enc Tryd.prog w base spare held m 3 ((cs.drop 0).take 1) = some y0 := by simpa [c_int] using hf 0 _ rfl
    have f1 : DataW.trod enc Tryd.prog w base spare held m 23 ((cs.drop 1).take 3) = some y1 := by simpa [c_op] using hf 1 _ rfl
    have f2 : DataW.trod enc Tryd.prog w base spare held m 26 ((cs.drop 4).take 3) = some y2 := by simpa [c_res] using hf 2 _ rfl
    obtain ⟨a, ha, e0⟩ := one_int f0
    obtain ⟨b, hb, e1⟩ := one_op f1
    obtain ⟨c, hc, e2⟩ := one_res f2
    refine ⟨⟨a, b, c⟩, ⟨ha, hb, hc⟩, ?_⟩
    have hs : cs = cs.take 1 ++ ((cs.drop 1).take 3 ++ (cs.drop 4).take 3) := by
      have h4 : (cs.drop 4).take 3 = cs.drop 4 := List.take_of_length_le (by simp; omega)
      rw [h4, show cs.drop 4 = (cs.drop 1).drop 3 by simp, List.take_append_drop, List.take_append_drop]
    rw [hs]
    simp only [List.drop_zero] at e0
    rw [e0, e1, e2]
    rfl
set_option maxRecDepth 100000 in
theorem one_ev {fuel : Nat} {cs : List Value} {x : DataW H × List MemPlace} (h : DataW.trod enc Tryd.prog w base spare held fuel 30 cs = some x) : ∃ o : PEv, o.ok ∧ cs = evC o := by
  obtain ⟨xs, m, -, -, hl, hn, hf⟩ := DataW.trod_struct Tryd.underlying30 h
  have h3 : cs.length = 17 := hl.trans c_ev
  clear hl h
  match xs, hn with
  | [y0, y1, y2, y3, y4, y5, y6], _ =>
    have f0 : DataW.trod enc Tryd.prog w base spare held m 3 ((cs.drop 0).take 1) = some y0 := by simpa [c_int] using hf 0 _ rfl
    have f1 : DataW.trod enc Tryd.prog w base spare held m 3 ((cs.drop 1).take 1) = some y1 := by simpa [c_int] using hf 1 _ rfl
    have f2 : DataW.trod enc Tryd.prog w base spare held m 3 ((cs.drop 2).take 1) = some y2 := by simpa [c_int] using hf 2 _ rfl
    have f3 : DataW.trod enc Tryd.prog w base spare held m 3 ((cs.drop 3).take 1) = some y3 := by simpa [c_int] using hf 3 _ rfl
    have f4 : DataW.trod enc Tryd.prog w base spare held m 23 ((cs.drop 4).take 3) = some y4 := by simpa [c_op] using hf 4 _ rfl
    have f5 : DataW.trod enc Tryd.prog w base spare held m 26 ((cs.drop 7).take 3) = some y5 := by simpa [c_res] using hf 5 _ rfl
    have f6 : DataW.trod enc Tryd.prog w base spare held m 28 ((cs.drop 10).take 7) = some y6 := by simpa [c_ans] using hf 6 _ rfl
    obtain ⟨a, ha, e0⟩ := one_int f0
    obtain ⟨b, hb, e1⟩ := one_int f1
    obtain ⟨c, hc, e2⟩ := one_int f2
    obtain ⟨d, hd, e3⟩ := one_int f3
    obtain ⟨o, ho, e4⟩ := one_op f4
    obtain ⟨r, hr, e5⟩ := one_res f5
    obtain ⟨n, hn2, e6⟩ := one_ans f6
    refine ⟨⟨a, b, c, d, o, r, n⟩, ⟨ha, hb, hc, hd, ho, hr, hn2⟩, ?_⟩
    have hs : cs = cs.take 1 ++ ((cs.drop 1).take 1 ++ ((cs.drop 2).take 1 ++ ((cs.drop 3).take 1 ++ ((cs.drop 4).take 3 ++ ((cs.drop 7).take 3 ++ (cs.drop 10).take 7))))) := by
      have h4 : (cs.drop 10).take 7 = cs.drop 10 := List.take_of_length_le (by simp; omega)
      rw [h4, show cs.drop 10 = (cs.drop 7).drop 3 by simp, List.take_append_drop, show cs.drop 7 = (cs.drop 4).drop 3 by simp, List.take_append_drop, show cs.drop 4 = (cs.drop 3).drop 1 by simp, List.take_append_drop, show cs.drop 3 = (cs.drop 2).drop 1 by simp, List.take_append_drop, show cs.drop 2 = (cs.drop 1).drop 1 by simp, List.take_append_drop, List.take_append_drop]
    rw [hs]
    simp only [List.drop_zero] at e0
    rw [e0, e1, e2, e3, e4, e5, e6]
    rfl
end
/-- a struct's value is its cells. -/
theorem agg_of {v : Value} {P : Program} {W : World} {r : Reach} {b t : Nat} {fs : Array Field} {L : List Value} (hs : P.underlying t = some (.struct fs)) (hv : Value.okWide P W r b t v) (h : v.cells.toList = L) : v = .agg L.toArray := by
  obtain ⟨cs, rfl, -⟩ := Go.WideShapes.okWide_struct hs hv
  simp only [Value.cells] at h
  rw [← h]
end Go.Proofs.YtloilknkhloegaaDoor
