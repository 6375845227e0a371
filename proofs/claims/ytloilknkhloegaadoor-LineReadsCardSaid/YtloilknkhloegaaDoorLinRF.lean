/- lines: what Read answers, as plain data. -/
import Derived.Test.YtloilknkhloegaaDoorLinS
set_option linter.unusedSimpArgs false
set_option linter.unusedVariables false
namespace Go.Proofs.YtloilknkhloegaaDoor
open Go.RowKit

/-- a line that tells nothing. -/
def skipB (t : List UInt8) : Bool := t.isEmpty || t.head? == some 35
def readL : List (List UInt8) → Nat → List PEn → List PEn × Nat × Int
  | [], n, out => (out, n, 0)
  | t :: r, n, out => if skipB t then readL r (n + 1) out else match parseF t with
    | none => ([], n + 1, 10)
    | some e => if out.length = 400 then ([], n + 1, 11) else readL r (n + 1) (out ++ [e])
def readF (s : List UInt8) : List PEn × Nat × Int := if s.length ≤ 65536 then readL (cutAt 10 s) 0 [] else ([], 0, 11)
theorem read_skip {t : List UInt8} (r : List (List UInt8)) (n : Nat) (out : List PEn) (h : skipB t = true) : readL (t :: r) n out = readL r (n + 1) out := by
  rw [readL, if_pos h]
theorem read_none {t : List UInt8} (r : List (List UInt8)) (n : Nat) (out : List PEn) (h : skipB t = false) (hp : parseF t = none) : readL (t :: r) n out = ([], n + 1, 10) := by
  rw [readL, if_neg (by rw [h]; simp), hp]
theorem read_many {t : List UInt8} {e : PEn} (r : List (List UInt8)) (n : Nat) (out : List PEn) (h : skipB t = false) (hp : parseF t = some e) (ho : out.length = 400) : readL (t :: r) n out = ([], n + 1, 11) := by
  rw [readL, if_neg (by rw [h]; simp), hp]
  exact if_pos ho
theorem read_more {t : List UInt8} {e : PEn} (r : List (List UInt8)) (n : Nat) (out : List PEn) (h : skipB t = false) (hp : parseF t = some e) (ho : out.length ≠ 400) : readL (t :: r) n out = readL r (n + 1) (out ++ [e]) := by
  rw [readL, if_neg (by rw [h]; simp), hp]
  exact if_neg ho
/-- how far the document's Read is. -/
structure RdF (s : List UInt8) (k m n : Nat) (out : List PEn) : Prop where
  mle : m ≤ k
  nk : n ≤ k
  few : out.length ≤ 400
  go : k ≤ s.length → readL (cutAt 10 (s.drop m)) n out = readL (cutAt 10 s) 0 [] ∧ noCut 10 s m k
  fin : k = s.length + 1 → (out, n, (0 : Int)) = readL (cutAt 10 s) 0 []
theorem rd_start (s : List UInt8) : RdF s 0 0 0 [] := ⟨Nat.le_refl _, Nat.le_refl _, by simp, fun _ => ⟨rfl, fun j _ h => absurd h (by omega)⟩, fun h => absurd h (by omega)⟩
theorem rd_pass {s : List UInt8} {k m n : Nat} {out : List PEn} (h : RdF s k m n out) (hk : k < s.length) (hc : s[k]? ≠ some 10) : RdF s (k + 1) m n out := by
  obtain ⟨a, b⟩ := h.go (by omega)
  have h1 := h.mle
  have h2 := h.nk
  refine ⟨by omega, by omega, h.few, fun _ => ⟨a, fun j h1 h2 => ?_⟩, fun h => absurd h (by omega)⟩
  by_cases hj : j = k
  · subst hj; exact hc
  · exact b j h1 (by omega)
/-- the line at hand, and what is behind it. -/
theorem rd_line {s : List UInt8} {k m n : Nat} {out : List PEn} (h : RdF s k m n out) (hk : k ≤ s.length) (hc : k < s.length → s[k]? = some 10) :
    ∃ r, readL ((s.drop m).take (k - m) :: r) n out = readL (cutAt 10 s) 0 [] ∧ ∀ n2 out2, n2 ≤ k + 1 → out2.length ≤ 400 → readL r n2 out2 = readL (cutAt 10 s) 0 [] → RdF s (k + 1) (k + 1) n2 out2 := by
  obtain ⟨a, b⟩ := h.go hk
  by_cases hlt : k < s.length
  · refine ⟨cutAt 10 (s.drop (k + 1)), by rw [← cut_step h.mle b (hc hlt)]; exact a, fun n2 out2 hn ho h2 => ⟨Nat.le_refl _, hn, ho, fun _ => ⟨h2, fun j h1 h2 => absurd h2 (by omega)⟩, fun h => absurd h (by omega)⟩⟩
  · obtain rfl : k = s.length := by omega
    refine ⟨[], by rw [← cut_end b]; exact a, fun n2 out2 hn ho h2 => ⟨Nat.le_refl _, hn, ho, fun h => absurd h (by omega), fun _ => h2⟩⟩
/-- the cells of entries in a row. -/
def entC (e : PEn) : List Value := [.int .i64 e.k, .int .i64 e.t, .int .i64 e.u, .int .i64 e.op.k, .int .i64 e.op.a, .int .i64 e.op.b, .int .i64 e.n, .int .i64 e.m]
def entL (l : List PEn) : List Value := l.flatMap entC
theorem entL_snoc (l : List PEn) (e : PEn) : entL (l ++ [e]) = entL l ++ entC e := by simp [entL]
theorem infoEnt : (Tryd.prog.info? 54).map (fun i => (i.zero, i.size, i.bytes)) = some (some (.agg #[.int .i64 0, .int .i64 0, .int .i64 0, .int .i64 0, .int .i64 0, .int .i64 0, .int .i64 0, .int .i64 0]), 8, 64) := by kernel_rfl
theorem cell_news (w : World) (l : List Value) (T : TypeId) : ∀ j u, l[j]? = some u → (w.alloc (.cells l.toArray T)).cell? ((⟨w.heap.size, 0, none⟩ : Addr).add j) = some u := by
  intro j u hj
  have h := cell?_of_heap (o := j) (heap_alloc_new w (.cells l.toArray T))
  have e : (⟨w.heap.size, 0, none⟩ : Addr).add j = ⟨w.heap.size, j, none⟩ := by
    by_cases h0 : j = 0
    · subst h0; simp [Addr.add]
    · simp [Addr.add, h0]
  rw [e, h]
  simpa using hj
end Go.Proofs.YtloilknkhloegaaDoor
