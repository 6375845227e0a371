/- texts of operations, results, events and marks, as plain data. -/
import Derived.Lib.ItoaLen
import Derived.Lib.Join
set_option linter.unusedSimpArgs false
set_option linter.unusedVariables false
namespace Go.Proofs.YtloilknkhloegaaDoor

def inI (n : Int) : Prop := -9223372036854775808 ≤ n ∧ n ≤ 9223372036854775807
theorem itoa_len {n : Int} (h : inI n) : (Lib.itoa n).length ≤ 21 := Lib.itoa_length_le n h.1 h.2
/-- a number, with a blank ahead. -/
def nm (n : Int) : List UInt8 := 32 :: Lib.itoa n
theorem nm_len {n : Int} (h : inI n) : (nm n).length ≤ 22 := by have := itoa_len h; simp [nm]; omega
/-- an operation's word, and how many numbers it has. -/
def wordB (k : Int) : List UInt8 :=
  if k = 1 then [97, 108, 108, 111, 99] else if k = 2 then [102, 114, 101, 101] else if k = 3 then [114, 101, 97, 108, 108, 111, 99] else if k = 4 then [97, 108, 108, 111, 99, 114, 111, 111, 116]
  else if k = 5 then [115, 101, 116, 114, 111, 111, 116] else if k = 6 then [103, 101, 116, 114, 111, 111, 116] else if k = 7 then [117, 115, 97, 98, 108, 101] else if k = 8 then [115, 116, 97, 116, 115]
  else if k = 9 then [102, 108, 117, 115, 104] else []
def usesB (k : Int) : Int := if k = 1 ∨ k = 2 ∨ k = 6 ∨ k = 7 ∨ k = 9 then 1 else if k = 3 ∨ k = 4 ∨ k = 5 then 2 else 0
theorem kinds (k : Int) : k = 1 ∨ k = 2 ∨ k = 3 ∨ k = 4 ∨ k = 5 ∨ k = 6 ∨ k = 7 ∨ k = 8 ∨ k = 9 ∨ (k < 1 ∨ 9 < k) := by omega
theorem wordB_no {k : Int} (h : k < 1 ∨ 9 < k) : wordB k = [] ∧ usesB k = 0 := by
  unfold wordB usesB
  rw [if_neg (by omega), if_neg (by omega), if_neg (by omega), if_neg (by omega), if_neg (by omega), if_neg (by omega), if_neg (by omega), if_neg (by omega), if_neg (by omega), if_neg (by omega), if_neg (by omega)]
  exact ⟨rfl, rfl⟩
theorem word_cases (k : Int) : wordB k = [] ∧ usesB k = 0 ∨ wordB k ≠ [] ∧ (usesB k = 0 ∨ usesB k = 1 ∨ usesB k = 2) := by
  rcases kinds k with rfl | rfl | rfl | rfl | rfl | rfl | rfl | rfl | rfl | h
  all_goals first | (exact Or.inr ⟨by decide, by decide⟩) | (exact Or.inl (wordB_no h))
theorem word_len (k : Int) : (wordB k).length ≤ 9 := by
  rcases kinds k with rfl | rfl | rfl | rfl | rfl | rfl | rfl | rfl | rfl | h
  all_goals first | decide | (rw [(wordB_no h).1]; decide)

structure POp where
  k : Int
  a : Int
  b : Int
structure PRes where
  e : Int
  o : Int
  x : Int
structure PAns where
  k : Int
  op : POp
  res : PRes
structure PEv where
  k : Int
  epoch : Int
  t : Int
  num : Int
  op : POp
  res : PRes
  ans : PAns
structure PMark where
  epoch : Int
  stamp : Int
  t : Int
  num : Int
def POp.ok (o : POp) : Prop := inI o.k ∧ inI o.a ∧ inI o.b
def PRes.ok (r : PRes) : Prop := inI r.e ∧ inI r.o ∧ inI r.x
def PAns.ok (r : PAns) : Prop := inI r.k ∧ r.op.ok ∧ r.res.ok
def PEv.ok (e : PEv) : Prop := inI e.k ∧ inI e.epoch ∧ inI e.t ∧ inI e.num ∧ e.op.ok ∧ e.res.ok ∧ e.ans.ok
def PMark.ok (m : PMark) : Prop := inI m.epoch ∧ (0 ≤ m.stamp ∧ m.stamp ≤ 4294967295) ∧ inI m.t ∧ inI m.num
theorem PMark.st {m : PMark} (h : m.ok) : inI m.stamp := by have := h.2.1; unfold inI; omega

def opB (o : POp) : List UInt8 :=
  if wordB o.k = [] then [111, 112] ++ nm o.k ++ nm o.a ++ nm o.b else wordB o.k ++ (if 0 < usesB o.k then nm o.a else []) ++ (if 1 < usesB o.k then nm o.b else [])
def resB (r : PRes) : List UInt8 := if r.e = 0 then [111, 107] ++ nm r.o ++ nm r.x else [101, 114, 114, 111, 114] ++ nm r.e
/-- what became of an operation. -/
def ansB (a : PAns) : List UInt8 :=
  if a.k = 1 then [110, 111, 116, 32, 100, 111, 110, 101, 32] ++ opB a.op else if a.k = 2 then [100, 111, 110, 101, 32] ++ opB a.op ++ [32] ++ resB a.res else [117, 110, 107, 110, 111, 119, 110]
def whoB (e : PEv) : List UInt8 := Lib.itoa e.epoch ++ nm e.t ++ nm e.num
def evB (e : PEv) : List UInt8 :=
  if e.k = 1 then whoB e ++ [32, 98, 101, 103, 105, 110, 115, 32] ++ opB e.op
  else if e.k = 2 then whoB e ++ [32, 97, 110, 115, 119, 101, 114, 115, 32] ++ resB e.res
  else if e.k = 3 then whoB e ++ [32, 114, 101, 102, 117, 115, 101, 100]
  else if e.k = 4 then Lib.itoa e.epoch ++ [32, 99, 114, 97, 115, 104, 101, 100]
  else if e.k = 5 then Lib.itoa e.epoch ++ [32, 109, 101, 110, 100, 101, 100]
  else if e.k = 6 then whoB e ++ [32] ++ ansB e.ans
  else Lib.itoa e.epoch ++ [32, 101, 118, 101, 110, 116]
def markB (m : PMark) : List UInt8 := Lib.itoa m.epoch ++ nm m.stamp ++ nm m.t ++ nm m.num

theorem op_len {o : POp} (h : o.ok) : (opB o).length ≤ 100 := by
  have h1 := nm_len h.1; have h2 := nm_len h.2.1; have h3 := nm_len h.2.2; have h4 := word_len o.k
  unfold opB
  split
  · simp; omega
  · simp only [List.length_append]
    split <;> split <;> simp <;> omega
theorem res_len {r : PRes} (h : r.ok) : (resB r).length ≤ 100 := by
  have h1 := nm_len h.1; have h2 := nm_len h.2.1; have h3 := nm_len h.2.2
  unfold resB
  split <;> simp <;> omega
theorem ans_len {a : PAns} (h : a.ok) : (ansB a).length ≤ 300 := by
  have h1 := op_len h.2.1; have h2 := res_len h.2.2
  unfold ansB
  split
  · simp; omega
  · split
    · simp; omega
    · simp

theorem ev_len {e : PEv} (h : e.ok) : (evB e).length ≤ 1000 := by
  obtain ⟨-, h1, h2, h3, h4, h5, h6⟩ := h
  have a1 := itoa_len h1; have a2 := nm_len h2; have a3 := nm_len h3
  have b1 := op_len h4; have b2 := res_len h5; have b3 := ans_len h6
  have w1 : (whoB e).length ≤ 100 := by simp only [whoB, List.length_append]; omega
  unfold evB
  repeat (first | split | (simp only [List.length_append, List.length_cons, List.length_nil]; omega))
/-- texts with blanks between. -/
def saidF (l : List ByteArray) : List UInt8 := Lib.join (l.map (·.data.toList)) [32]
theorem said1 (a : List UInt8) : saidF [⟨a.toArray⟩] = a := by simp [saidF, Lib.join, List.intercalate]
theorem said_more (a : List UInt8) (b : ByteArray) (r : List ByteArray) : saidF (⟨a.toArray⟩ :: b :: r) = a ++ 32 :: saidF (b :: r) := by
  simp [saidF, Lib.join, List.intercalate]
end Go.Proofs.YtloilknkhloegaaDoor
