/- parts of the proof, merged by a program. -/
import Derived.Deep.RegionHeld3
import Derived.ProofKit
import Derived.WalkKit
import Derived.WalkSpells
import Derived.WalkLawsBesides
import Derived.Lib.Hide
import Derived.Maps.OwnOps
import Derived.Lib.SmallJoins
import Derived.Test.YtpmoajhpgekhcaaGreatRows
import Derived.Deep.AppendLies
import Derived.Deep.RegionLaw
set_option linter.unusedSimpArgs false
set_option linter.unusedVariables false
namespace Go.Proofs.YtpmoajhpgekhcaaGreat
open Go
theorem zA {α : Type _} {xs : List α} {i : Nat} (h : i < xs.toArray.size) : xs.toArray[i] = xs[i]'(by simpa using h) := rfl
theorem zB {α : Type _} (a : α) (bs : List α) (h : 0 < (a :: bs).length) : (a :: bs)[0] = a := rfl
theorem zC {α : Type _} (a : α) (bs : List α) (i : Nat) (h : i + 1 < (a :: bs).length) : (a :: bs)[i + 1] = bs[i]'(Nat.lt_of_succ_lt_succ h) := rfl
theorem zD {α : Type _} (l : List α) (i : Nat) (a : α) : l.toArray.setIfInBounds i a = (l.set i a).toArray := List.setIfInBounds_toArray l i a
theorem zE {α : Type _} {x : α} {xs : List α} {a : α} : (x :: xs).set 0 a = a :: xs := rfl
theorem zF {α : Type _} {x : α} {xs : List α} {i : Nat} {a : α} : (x :: xs).set (i + 1) a = x :: xs.set i a := rfl
section
variable {P : Program} {md : Region.Mode} {ops : Array Oper} {Q : Exit → Act → World → Prop} {S : World → Prop}
theorem wT (i : Nat) {oi : Oper} {v : Value} {fuel : Nat} {listed : Array Bool} {a a2 : Act} {w : World} (h : wpAnyH P md ops Q S fuel (listed.setIfInBounds i true) a2 w)
    (hi : ops[i]? = some oi := by exact rfl)
    (hs : Region.noSelect ops = true := by kernel_rfl) (hf : Region.free md ops listed i = true := by kernel_rfl) (hr : (Region.ready md ops listed).contains i = true := by kernel_rfl)
    (hQ : ∀ c a w, Q (.panic c) (a.put oi.dst v) w → Q (.panic c) a w := by exact fun _ _ _ h => h) (hg : Region.wanted oi (yielded ops a.tmps) = true := by rfl)
    (hy : ∀ w, S w → (execOp a.eval oi).run P w = .ok (.value v) w := by intro w hSw; (try dsimp only at hSw); go_simp; try with_reducible rfl) (hS : S w := by assumption)
    (hp : a.put oi.dst v = a2 := by first | (simp only [Act.put, zA, zB, zC, zD, zE, zF]; with_reducible rfl) | with_reducible rfl) : wpAnyH P md ops Q S (fuel + 1) listed a w :=
  wpAnyH_take hi hs hf hr hQ (Or.inl ⟨hg, hy⟩) hS (hp ▸ h)
theorem wU (i : Nat) {oi : Oper} {fuel : Nat} {listed : Array Bool} {a a2 : Act} {w : World} (h : wpAnyH P md ops Q S fuel (listed.setIfInBounds i true) a2 w)
    (hi : ops[i]? = some oi := by exact rfl)
    (hs : Region.noSelect ops = true := by kernel_rfl) (hf : Region.free md ops listed i = true := by kernel_rfl) (hr : (Region.ready md ops listed).contains i = true := by kernel_rfl)
    (hQ : ∀ c a w, Q (.panic c) (a.put oi.dst undef) w → Q (.panic c) a w := by exact fun _ _ _ h => h) (hg : Region.wanted oi (yielded ops a.tmps) = false := by rfl) (hS : S w := by assumption)
    (hp : a.put oi.dst undef = a2 := by first | (simp only [Act.put, zA, zB, zC, zD, zE, zF]; with_reducible rfl) | with_reducible rfl) : wpAnyH P md ops Q S (fuel + 1) listed a w :=
  wpAnyH_take hi hs hf hr hQ (Or.inr ⟨hg, rfl⟩) hS (hp ▸ h)
theorem wR (i : Nat) {o : Oper} {fuel : Nat} {listed : Array Bool} {a : Act} {w : World}
    (h : ∀ K' : Act → World → Prop, Shut (∀ a w, S w → (S w → wpAnyH P md ops Q S fuel (listed.setIfInBounds i true) a w) → K' a w) → if Region.wanted o (yielded ops a.tmps) = true then Oper.wp P o a w K' Q else K' (a.put o.dst undef) w)
    (ho : ops[i]? = some o := by exact rfl) (hr : Region.ready md ops listed = [i] := by kernel_rfl) : wpAnyH P md ops Q S (fuel + 1) listed a w :=
  wpAnyH_ready hr (by simp) (AllReadyH.cons ho h AllReadyH.nil)
end
end Go.Proofs.YtpmoajhpgekhcaaGreat
/- small laws on worlds, for all texts of this seat. -/
set_option linter.unusedSimpArgs false
set_option linter.unusedVariables false
namespace Go.Proofs.YtpmoajhpgekhcaaGreat
open Go.RowKit

theorem bcell {W w1 : World} (hb : Below W.heap.size W w1) : (∀ b o, b < W.heap.size → w1.cell? ⟨b, o, none⟩ = W.cell? ⟨b, o, none⟩) ∧ (∀ b o, b < W.heap.size → w1.frozen? ⟨b, o, none⟩ = W.frozen? ⟨b, o, none⟩) :=
  ⟨fun b o h => hb.cell (p := ⟨b, o, none⟩) h, fun b o h => hb.frozen (p := ⟨b, o, none⟩) h⟩

theorem hb_alloc (w : World) (o : Obj) (k : Nat) (h : k = w.heap.size) : (w.alloc o).heap[k]? = some o := by subst h; exact heap_alloc_new w o
theorem cell?_of_heap {w : World} {b o : Nat} {cs : Array Value} {T : TypeId} {fr : Nat × Nat} (h : w.heap[b]? = some (.cells cs T fr)) : w.cell? ⟨b, o, none⟩ = cs[o]? := by simp [World.cell?, h]

/-- what a drawn region keeps: the cells of the box b, and all below. -/
theorem keepB {W w' w0 : World} {b : Nat} {cs : Array Value} (hb : Below W.heap.size W w') (h : (∀ o : Nat, W.cell? ⟨b, o, none⟩ = cs[o]?) ∧ b < W.heap.size ∧ Below w0.heap.size w0 W) :
    (∀ o : Nat, w'.cell? ⟨b, o, none⟩ = cs[o]?) ∧ b < w'.heap.size ∧ Below w0.heap.size w0 w' :=
  ⟨fun o => (hb.cell (p := ⟨b, o, none⟩) h.2.1).trans (h.1 o), Nat.lt_of_lt_of_le h.2.1 hb.size, h.2.2.trans (hb.mono h.2.2.size)⟩
theorem wrap_in (n : Int) (h : -9223372036854775808 ≤ n ∧ n ≤ 9223372036854775807) : IntKind.i64.wrap n = n := IntWalk.i64_in _ h
theorem ret_bool {a b : Bool} (h : a = b) : Ending.returned (.bool a) = Ending.returned (.bool b) := by rw [h]
theorem ret_int {k : IntKind} {a b : Int} (h : a = b) : Ending.returned (.int k a) = Ending.returned (.int k b) := by rw [h]

end Go.Proofs.YtpmoajhpgekhcaaGreat
/- frames of worlds; maps from numbers to numbers; slices that grow: for all texts of this seat. -/
set_option linter.unusedSimpArgs false
set_option linter.unusedVariables false
namespace Go.Proofs.YtpmoajhpgekhcaaGreat
open Go.RowKit

/-! ### Frames -/

/-- But for the blocks of S, what was there is as it was. -/
structure Fr (S : Nat → Prop) (w w' : World) : Prop where
  os : w'.os = w.os
  tape : w'.tape = w.tape
  output : w'.output = w.output
  size : w.heap.size ≤ w'.heap.size
  block : ∀ k, k < w.heap.size → ¬ S k → w'.heap[k]? = w.heap[k]?

/-- S, and what has come since w. -/
def upd (S : Nat → Prop) (w w' : World) : Nat → Prop := fun k => S k ∨ (w.heap.size ≤ k ∧ k < w'.heap.size)

theorem Fr.refl (S : Nat → Prop) (w : World) : Fr S w w := ⟨rfl, rfl, rfl, Nat.le_refl _, fun _ _ _ => rfl⟩
theorem Fr.trans {S S1 : Nat → Prop} {a b c : World} (h : Fr S a b) (k : Fr S1 b c) (hs : ∀ i, S1 i → S i ∨ a.heap.size ≤ i) : Fr S a c :=
  ⟨k.os.trans h.os, k.tape.trans h.tape, k.output.trans h.output, Nat.le_trans h.size k.size, fun i hi hn => (k.block i (Nat.lt_of_lt_of_le hi h.size) (fun x => by rcases hs i x with y | y; exact hn y; omega)).trans (h.block i hi hn)⟩
theorem Fr.mono {S S1 : Nat → Prop} {a b : World} (h : Fr S a b) (hs : ∀ i, S i → S1 i) : Fr S1 a b := ⟨h.os, h.tape, h.output, h.size, fun i hi hn => h.block i hi (fun x => hn (hs i x))⟩
theorem Fr.of_below {S : Nat → Prop} {a b : World} (h : Below a.heap.size a b) : Fr S a b := ⟨h.os, h.tape, h.output, h.size, fun i hi _ => h.block i hi⟩
theorem Fr.below {S : Nat → Prop} {a b : World} {B : Nat} (h : Fr S a b) (hB : B ≤ a.heap.size) (hs : ∀ i, S i → B ≤ i) : Below B a b := ⟨h.os, h.tape, h.output, h.size, fun i hi => h.block i (by omega) (fun x => by have := hs i x; omega)⟩
theorem Fr.drew {S : Nat → Prop} {a b : World} (h : Fr S a b) : Fr S a b.drew := ⟨h.os, h.tape, h.output, h.size, h.block⟩
theorem Fr.alloc {S : Nat → Prop} {a b : World} (h : Fr S a b) (o : Obj) : Fr S a (b.alloc o) :=
  h.trans (S1 := S) (Fr.of_below ((Below.refl _ _).alloc (Nat.le_refl _) o)) (fun _ x => Or.inl x)
theorem Fr.setCell {S : Nat → Prop} {a b : World} (h : Fr S a b) (p : Addr) (u : Value) (hp : S p.block ∨ a.heap.size ≤ p.block) : Fr S a (b.setCell p u) :=
  h.trans (S1 := fun k => k = p.block) ⟨rfl, rfl, rfl, by simp, fun k _ hn => Below.heap_setCell _ _ _ _ hn⟩ (fun i hi => by rw [hi]; exact hp)
theorem Fr.grown {S : Nat → Prop} {a b c : World} {row : Option Nat} (h : Fr S a b) (g : b.grownBy c row) (hr : ∀ k, row = some k → S k ∨ a.heap.size ≤ k) : Fr S a c :=
  h.trans (S1 := fun k => row = some k) ⟨g.os, g.tape, g.output, g.size, fun k hk hn => g.block k hk (fun e => hn e.symm)⟩ hr
theorem Fr.cell {S : Nat → Prop} {a b : World} (h : Fr S a b) {k : Nat} (hk : k < a.heap.size) (hn : ¬ S k) (o : Nat) : b.cell? ⟨k, o, none⟩ = a.cell? ⟨k, o, none⟩ := World.cell?_of_block (h.block k hk hn)
theorem Fr.frozen {S : Nat → Prop} {a b : World} (h : Fr S a b) {k : Nat} (hk : k < a.heap.size) (hn : ¬ S k) (o : Nat) : b.frozen? ⟨k, o, none⟩ = a.frozen? ⟨k, o, none⟩ := World.frozen?_of_block (h.block k hk hn)

/-! ### Maps from int to int, as lists in the order in which keys came -/

def look : List (Int × Int) → Int → Nat → Option (Nat × Int)
  | [], _, _ => none
  | p :: r, k, i => if p.1 = k then some (i, p.2) else look r k (i + 1)
def assoc (l : List (Int × Int)) (k : Int) : Option Int := (look l k 0).map (·.2)
def upsert (l : List (Int × Int)) (k v : Int) : List (Int × Int) := match look l k 0 with
  | some (i, _) => l.set i (k, v)
  | none => l ++ [(k, v)]

def rowsOf (l : List (Int × Int)) : List (Value × Value) := l.map fun p => (.int .i64 p.1, .int .i64 p.2)
def MapIs (w : World) (b : Nat) (l : List (Int × Int)) : Prop := ∃ es clk, w.heap[b]? = some (.map es clk) ∧ es.toList.map (fun e => (e.key, e.val)) = rowsOf l

theorem findNow_look (k : Int) : ∀ (es : List MapEntry) (l : List (Int × Int)) (i : Nat), es.map (fun e => (e.key, e.val)) = rowsOf l →
    Instr.findNow (.int .i64) (.int .i64 k) es i = some ((look l k i).map fun x => (x.1, .int .i64 x.2))
  | [], [], _, _ => rfl
  | [], _ :: _, _, h => by simp [rowsOf] at h
  | _ :: _, [], _, h => by simp [rowsOf] at h
  | e :: es, p :: l, i, h => by
    simp only [rowsOf, List.map_cons, List.cons.injEq, Prod.mk.injEq] at h
    obtain ⟨⟨h1, h2⟩, h3⟩ := h
    simp only [Instr.findNow, h1, Instr.sameNow, if_true, look, h2]
    by_cases hk : p.1 = k
    · simp [hk]
    · have : (k == p.1) = false := by simp; exact fun x => hk x.symm
      simp only [this, if_neg hk]
      exact findNow_look k es l (i + 1) h3

theorem look_lt {k : Int} : ∀ {l : List (Int × Int)} {i j : Nat} {v : Int}, look l k i = some (j, v) → i ≤ j ∧ j < i + l.length ∧ l[j - i]? = some (k, v)
  | [], _, _, _, h => by simp [look] at h
  | p :: r, i, j, v, h => by
    simp only [look] at h
    split at h
    · rename_i hp
      simp only [Option.some.injEq, Prod.mk.injEq] at h
      obtain ⟨rfl, rfl⟩ := h
      subst hp
      exact ⟨Nat.le_refl _, by simp, by simp⟩
    · obtain ⟨h1, h2, h3⟩ := look_lt h
      refine ⟨by omega, by simp; omega, ?_⟩
      have : j - i = (j - (i + 1)) + 1 := by omega
      rw [this, List.getElem?_cons_succ]
      exact h3

section
variable {P : Program} {w : World} {t K E : TypeId}

theorem isKey_int (k : Int) : MapKept.IsKey (.int .i64) (.int .i64 k) := by simp [MapKept.IsKey]

theorem run_lookup_ok {b : Nat} {l : List (Int × Int)} (h : MapIs w b l) (ht : P.underlying t = some (.map K E)) (hK : P.underlying K = some (.int .i64)) (hz : (zeroValue E).run P w = .ok (.int .i64 0) w) (k : Int) (ok : Bool) :
    (Instr.lookup t (.map (some b)) (.int .i64 k) ok).run P w = .ok (if ok then .tuple #[.int .i64 ((assoc l k).getD 0), .bool (assoc l k).isSome] else .int .i64 ((assoc l k).getD 0)) w := by
  obtain ⟨es, clk, hb, hes⟩ := h
  have hf := findNow_look k es.toList l 0 hes
  have hck : ∀ e, (Instr.checkKey e 10000 K (.int .i64 k)).run P w = .ok () w := fun e => MapKept.run_checkKey hK (isKey_int k) e 9999
  have hfk : (Instr.findKey K (.int .i64 k) es.toList).run P w = .ok ((look l k 0).map fun x => (x.1, .int .i64 x.2)) w := by
    simp [Instr.findKey, run_underlying hK, hf]
  cases hl : look l k 0 with
  | none =>
    simp [hl] at hfk
    cases ok <;> simp [Instr.lookup, run_underlying ht, hck, hfk, MapKept.run_getObj_map hb, hz, assoc, hl, Result.andThen]
  | some x =>
    simp [hl] at hfk
    cases ok <;> simp [Instr.lookup, run_underlying ht, hck, hfk, MapKept.run_getObj_map hb, assoc, hl, Result.andThen]

theorem run_update {b : Nat} {l : List (Int × Int)} (h : MapIs w b l) (ht : P.underlying t = some (.map K E)) (hK : P.underlying K = some (.int .i64)) (k v : Int) :
    ∃ w', (Instr.mapUpdate t (.map (some b)) (.int .i64 k) (.int .i64 v)).run P w = .ok () w' ∧ MapIs w' b (upsert l k v) ∧ w.grownBy w' (some b) := by
  obtain ⟨es, clk, hb, hes⟩ := h
  have hf := findNow_look k es.toList l 0 hes
  have hck : ∀ e, (Instr.checkKey e 10000 K (.int .i64 k)).run P w = .ok () w := fun e => MapKept.run_checkKey hK (isKey_int k) e 9999
  have hfk : (Instr.findKey K (.int .i64 k) es.toList).run P w = .ok ((look l k 0).map fun x => (x.1, .int .i64 x.2)) w := by
    simp [Instr.findKey, run_underlying hK, hf]
  have hlt : b < w.heap.size := (Array.getElem?_eq_some_iff.1 hb).1
  have gr : ∀ o, w.grownBy { w with heap := w.heap.setIfInBounds b o } (some b) := fun o =>
    ⟨rfl, rfl, rfl, by simp, fun i _ hi => by simp only [Array.getElem?_setIfInBounds]; rw [if_neg (fun e => hi (by rw [e]))]⟩
  have at_ : ∀ o : Obj, ({ w with heap := w.heap.setIfInBounds b o } : World).heap[b]? = some o := fun o => by simp [hlt]
  cases hl : look l k 0 with
  | none =>
    simp [hl] at hfk
    refine ⟨{ w with heap := w.heap.setIfInBounds b (.map (es.push { key := .int .i64 k, val := .int .i64 v, born := clk }) (clk + 1)) }, ?_, ⟨_, _, at_ _, ?_⟩, gr _⟩
    · simp [Instr.mapUpdate, run_underlying ht, hck, hfk, MapKept.run_getObj_map hb, MapKept.run_setObj_map _ hb, Result.andThen]
    · simp [upsert, hl, hes, rowsOf]
  | some x =>
    obtain ⟨j, u⟩ := x
    simp [hl] at hfk
    obtain ⟨_, hj, hg⟩ := look_lt hl
    simp only [Nat.sub_zero, Nat.zero_add] at hg hj
    have hkey : (es[j]?).map (·.key) = some (.int .i64 k) := by
      have h1 : (es.toList.map (fun e => (e.key, e.val)))[j]? = some (.int .i64 k, .int .i64 u) := by rw [hes]; simp [rowsOf, hg]
      rw [List.getElem?_map] at h1
      simp at h1
      obtain ⟨e, he, h2, _⟩ := h1
      simp [he, h2]
    have hkey' : (Option.map (fun x => x.key) es[j]?) = some (.int .i64 k) := hkey
    have hst : (Instr.keyThatStays (((es[j]?).map (·.key)).getD (.int .i64 k)) (.int .i64 k)).run P w = .ok (.int .i64 k) w := by
      rw [hkey]; simp [Instr.keyThatStays, Instr.sameBits]
    refine ⟨{ w with heap := w.heap.setIfInBounds b (.map (es.modify j fun e => { e with key := .int .i64 k, val := .int .i64 v }) clk) }, ?_, ⟨_, _, at_ _, ?_⟩, gr _⟩
    · rw [hkey, Option.getD_some] at hst
      simp only [Instr.mapUpdate]
      simp [run_underlying ht, hck, hfk, MapKept.run_getObj_map hb, MapKept.run_setObj_map _ hb, hkey', hst, Result.andThen]
    · simp only [upsert, hl]
      apply List.ext_getElem?
      intro i
      have hi : (es.toList.map (fun e => (e.key, e.val)))[i]? = (rowsOf l)[i]? := by rw [hes]
      simp only [rowsOf, List.getElem?_map, Array.toList_modify, List.getElem?_modify, List.getElem?_set] at hi ⊢
      by_cases hij : j = i
      · subst hij
        rw [hg] at hi
        cases he : es.toList[j]? with
        | none => rw [he] at hi; simp at hi
        | some e => simp [hj]
      · simp only [if_neg hij]
        cases he : es.toList[i]? with
        | none => rw [he] at hi; simpa using hi
        | some e => rw [he] at hi; simpa using hi

/-- 'v, ok := m[k]' (ok true) | 'm[k]' (ok false), at the operation. -/
theorem wpL_lookup {ops : Array Oper} {rest : List Oper} {o : Oper} {a : Act} {Q : Exit → Act → World → Prop}
    (hg : o.guard = none) (m x : Operand) (ok : Bool) (hop : o.op = Op.lookup t m x ok)
    (ht : P.underlying t = some (.map K E)) (hK : P.underlying K = some (.int .i64)) (hz : (zeroValue E).run P w = .ok (.int .i64 0) w) (b : Nat) (l : List (Int × Int)) (k : Int)
    (hm : a.eval m = .map (some b)) (h : MapIs w b l) (hx : a.eval x = .int .i64 k)
    (hK' : wpList P ops Q rest (a.put o.dst (if ok then .tuple #[.int .i64 ((assoc l k).getD 0), .bool (assoc l k).isSome] else .int .i64 ((assoc l k).getD 0))) w) :
    wpList P ops Q (o :: rest) a w := by
  refine wpList_plain hg fun K2 hK2 => ?_
  have hrun := run_lookup_ok (P := P) h ht hK hz k ok
  unfold Oper.wp
  simp [execOp, hop, hm, hx, hrun, Result.andThen]
  exact hK2 _ _ hK'

/-- 'm[k] = v', at the operation. -/
theorem wpL_update {ops : Array Oper} {rest : List Oper} {o : Oper} {a : Act} {Q : Exit → Act → World → Prop}
    (hg : o.guard = none) (m x y : Operand) (hop : o.op = Op.mapUpdate t m x y)
    (ht : P.underlying t = some (.map K E)) (hK : P.underlying K = some (.int .i64)) (b : Nat) (l : List (Int × Int)) (k v : Int)
    (hm : a.eval m = .map (some b)) (h : MapIs w b l) (hx : a.eval x = .int .i64 k) (hy : a.eval y = .int .i64 v)
    (hK' : ∀ w', MapIs w' b (upsert l k v) → w.grownBy w' (some b) → wpList P ops Q rest (a.put o.dst undef) w') :
    wpList P ops Q (o :: rest) a w := by
  refine wpList_plain hg fun K2 hK2 => ?_
  obtain ⟨w', hrun, h1, h2⟩ := run_update (P := P) h ht hK k v
  unfold Oper.wp
  simp [execOp, hop, hm, hx, hy, hrun, Result.andThen]
  exact hK2 _ _ (hK' w' h1 h2)

/-- append to a slice of the call's own: where the new one lies. -/
theorem run_append_new (t ty e : TypeId) (i : TypeInfo) (z : Value) (size bytes : Nat) (ht : P.underlying t = some (.slice e)) (hi : P.info? e = some i) (hz : i.zero = some z)
    (hsize : i.size = size) (hby : i.bytes = bytes) (hzs : z.cells.size = size) (hsz : 0 < size)
    (v : Value) (n : Nat) (xs : List Value) (hown : w.ownsRow 0 e size v n xs)
    (a : Addr) (m c : Nat) (news : List Value) (hl : news.length = m * size) (hnews : ∀ j u, news[j]? = some u → w.cell? (a.add j) = some u) (h1 : ∀ u ∈ news, u.oneCell' = true)
    (h63 : n + m ≤ maxLen) (hbytes : (n + m) * bytes ≤ 140737488355328) :
    ∃ v' w', (Builtin.append_ #[t, t] ty #[v, .slice (some a) m c]).run P w = .ok v' w' ∧ w'.ownsRow 0 e size v' (n + m) (xs ++ news) ∧ w.grownBy w' v.ownBlock ∧
      (∀ k, v'.ownBlock = some k → v.ownBlock = some k ∨ w.heap.size ≤ k) ∧ (v' = .slice none 0 0 ↔ v = .slice none 0 0 ∧ m = 0) := by
  rcases hown.2 with ⟨rfl, rfl⟩ | ⟨g, cap, cur, rfl, hbg, hg, hnc, hcm, hcs, htake⟩
  · obtain ⟨v', w', hr, h2, h3, h4⟩ := run_append_own (P := P) w w.heap.size t ty e i z size bytes ht hi hz hsize hby hzs hsz (.slice none 0 0) 0 xs ⟨hown.1, .inl ⟨rfl, rfl⟩⟩ a m c news hl hnews h1 h63 hbytes (Nat.le_refl _)
    exact ⟨v', w', hr, Joins.ownsRow_le h2 (Nat.zero_le _), h3, fun k hk => Or.inr (h2.lt k hk).1, h4⟩
  · by_cases hroom : n + m ≤ cap
    · obtain ⟨v', w', hr, h2, h3, h4⟩ := run_append_own (P := P) w 0 t ty e i z size bytes ht hi hz hsize hby hzs hsz _ n xs hown a m c news hl hnews h1 h63 hbytes (Nat.zero_le _)
      subst hsize
      have hfit : n * i.size + news.length ≤ cur.size := by rw [hl, hcs, ← Nat.add_mul]; exact Nat.mul_le_mul_right _ hroom
      have hr2 := run_append_room (P := P) w t ty e i ht hi g n cap cur hg a m c news hl hnews h1 hroom hfit
      rw [hr] at hr2
      simp only [Result.ok.injEq] at hr2
      obtain ⟨rfl, _⟩ := hr2
      exact ⟨_, w', hr, h2, h3, fun k hk => Or.inl (by simpa [Value.ownBlock] using hk), h4⟩
    · obtain ⟨v', w', hr, h2, h3, h4⟩ := run_append_own (P := P) w 0 t ty e i z size bytes ht hi hz hsize hby hzs hsz _ n xs hown a m c news hl hnews h1 h63 hbytes (Nat.zero_le _)
      subst hsize
      have holds : ∀ j u, xs[j]? = some u → w.cell? ((⟨g, 0, none⟩ : Addr).add j) = some u := hown.cells (g := g) rfl
      have hsmall : n + m ≤ 9223372036854775807 := by simp only [maxLen] at h63; omega
      have hr2 := run_append_grow (P := P) w t ty e i z ht hi hz ⟨g, 0, none⟩ n cap xs hown.1 holds a m c news hl hnews (by omega) (by omega) (growslice_fits (by omega) (by rw [hby]; exact hbytes))
      rw [hr] at hr2
      simp only [Result.ok.injEq] at hr2
      obtain ⟨rfl, _⟩ := hr2
      exact ⟨_, w', hr, h2, h3, fun k hk => Or.inr (by simp [Value.ownBlock] at hk; omega), h4⟩

theorem wpL_append {ops : Array Oper} {rest : List Oper} {o : Oper} {a : Act} {Q : Exit → Act → World → Prop} (hgd : o.guard = none) (s x : Operand)
    (ho : o.op = .call { callee := .builtin .append, args := #[s, x], argTypes := #[t, t] })
    (e : TypeId) (i : TypeInfo) (z : Value) (size bytes : Nat) (ht : P.underlying t = some (.slice e)) (hi : P.info? e = some i) (hz : i.zero = some z)
    (hsize : i.size = size) (hby : i.bytes = bytes) (hzs : z.cells.size = size) (hsz : 0 < size)
    (v : Value) (n : Nat) (xs : List Value) (hs : a.eval s = v) (hown : w.ownsRow 0 e size v n xs)
    (ad : Addr) (m c : Nat) (news : List Value) (hx : a.eval x = .slice (some ad) m c) (hl : news.length = m * size) (hnews : ∀ j u, news[j]? = some u → w.cell? (ad.add j) = some u) (h1 : ∀ u ∈ news, u.oneCell' = true)
    (h63 : n + m ≤ maxLen) (hbytes : (n + m) * bytes ≤ 140737488355328)
    (h : ∀ v' w', w'.ownsRow 0 e size v' (n + m) (xs ++ news) → w.grownBy w' v.ownBlock → (∀ k, v'.ownBlock = some k → v.ownBlock = some k ∨ w.heap.size ≤ k) → (v' = .slice none 0 0 ↔ v = .slice none 0 0 ∧ m = 0) → wpList P ops Q rest (a.put o.dst v') w') : wpList P ops Q (o :: rest) a w := by
  refine wpList_plain hgd fun K2 hK2 => ?_
  obtain ⟨v', w', hr, h2, h3, h4, h5⟩ := run_append_new (P := P) (w := w) t o.type e i z size bytes ht hi hz hsize hby hzs hsz v n xs hown ad m c news hl hnews h1 h63 hbytes
  unfold Oper.wp execOp
  simp only [ho, resolve, invoke, builtin, Sem.run_bind, Sem.run_pure, Result.andThen_ok, List.map_toArray, List.map_cons, List.map_nil, hs, hx, hr]
  exact hK2 _ _ (h v' w' h2 h3 h4 h5)

end
end Go.Proofs.YtpmoajhpgekhcaaGreat
/- a view of cells, as plain data: what Get and Put do. -/
set_option linter.unusedSimpArgs false
set_option linter.unusedVariables false
namespace Go.Proofs.YtpmoajhpgekhcaaGreat
open Go.RowKit

def wix : List (Nat × Int) → Nat → Option Nat
  | [], _ => none
  | p :: r, i => if p.1 = i then some 0 else (wix r i).map (· + 1)

theorem wix_some {i : Nat} : ∀ {l : List (Nat × Int)} {j : Nat}, wix l i = some j → j < l.length ∧ ∃ v, l[j]? = some (i, v)
  | [], _, h => by simp [wix] at h
  | p :: r, j, h => by
    simp only [wix] at h
    split at h
    · rename_i hp
      cases h
      exact ⟨by simp, p.2, by simp [← hp]⟩
    · cases hr : wix r i with
      | none => simp [hr] at h
      | some k =>
        simp [hr] at h
        subst h
        obtain ⟨h1, v, h2⟩ := wix_some hr
        exact ⟨by simp; omega, v, by simpa using h2⟩
theorem wix_none {i : Nat} : ∀ {l : List (Nat × Int)}, wix l i = none ↔ i ∉ l.map (·.1)
  | [] => by simp [wix]
  | p :: r => by
    have ih := wix_none (i := i) (l := r)
    simp only [wix]
    split
    · rename_i h; simp [h]
    · rename_i h
      simp only [Option.map_eq_none_iff, List.map_cons, List.mem_cons, not_or, ih]
      exact ⟨fun x => ⟨fun y => h y.symm, x⟩, fun x => x.2⟩

structure VS where
  n : Nat
  known : Nat → Option Int
  reads : List Nat
  writes : List (Nat × Int)
  miss : Option Nat

namespace VS

def there (s : VS) (i : Int) : Bool := decide (0 ≤ i) && decide (i < s.n) && s.miss.isNone
def wr (s : VS) (i : Nat) : Option Int := (wix s.writes i).bind fun j => s.writes[j]?.map (·.2)
def read1 (s : VS) (i : Nat) : VS := if s.reads.contains i then s else { s with reads := s.reads ++ [i] }
def get (s : VS) (i : Int) : Int × VS :=
  if s.there i = true then
    match s.wr i.toNat with
    | some v => (v, s)
    | none => match s.known i.toNat with
      | some v => (v, s.read1 i.toNat)
      | none => (0, { s with miss := some i.toNat })
  else (0, s)
def setW (l : List (Nat × Int)) (i : Nat) (v : Int) : List (Nat × Int) := match wix l i with
  | some j => l.set j (i, v)
  | none => l ++ [(i, v)]
def put (s : VS) (i : Int) (v : Int) : VS := if s.there i = true then { s with writes := setW s.writes i.toNat v } else s

def U32 (v : Int) : Prop := 0 ≤ v ∧ v < 4294967296

theorem u32_zero : U32 0 := ⟨by decide, by decide⟩

structure Inv (s : VS) : Prop where
  small : s.n ≤ 2147483648
  rnd : s.reads.Nodup
  rlt : ∀ r ∈ s.reads, r < s.n
  wnd : (s.writes.map (·.1)).Nodup
  wlt : ∀ p ∈ s.writes, p.1 < s.n
  ku : ∀ i v, s.known i = some v → U32 v
  wu : ∀ p ∈ s.writes, U32 p.2

theorem there_iff {s : VS} {i : Int} : s.there i = true ↔ 0 ≤ i ∧ i < s.n ∧ s.miss = none := by
  simp [there, and_assoc]

theorem setW_keys_some {l : List (Nat × Int)} {i : Nat} {v : Int} {j : Nat} (h : wix l i = some j) : (l.set j (i, v)).map (·.1) = l.map (·.1) := by
  obtain ⟨h1, u, h2⟩ := wix_some h
  apply List.ext_getElem?
  intro k
  simp only [List.getElem?_map, List.getElem?_set]
  by_cases hk : j = k
  · subst hk
    have h3 : l[j] = (i, u) := by rw [List.getElem?_eq_getElem h1] at h2; exact Option.some.inj h2
    simp [h1, h3]
  · simp [hk]

theorem length_le_of_nodup : ∀ (n : Nat) (l : List Nat), l.Nodup → (∀ x ∈ l, x < n) → l.length ≤ n
  | 0, l, _, h => by
    cases l with
    | nil => simp
    | cons x r => have := h x (by simp); omega
  | n + 1, l, hn, h => by
    have h1 := length_le_of_nodup n (l.erase n) (hn.erase n) (fun x hx => by
      have h2 := h x (List.mem_of_mem_erase hx)
      have h3 : x ≠ n := fun e => by
        subst e
        exact (List.Nodup.not_mem_erase hn) hx
      omega)
    have h4 := List.length_erase (a := n) (l := l)
    split at h4 <;> omega

theorem Inv.reads_le {s : VS} (h : s.Inv) : s.reads.length ≤ s.n := length_le_of_nodup _ _ h.rnd h.rlt
theorem Inv.writes_le {s : VS} (h : s.Inv) : s.writes.length ≤ s.n := by
  have := length_le_of_nodup s.n _ h.wnd (fun x hx => by
    obtain ⟨p, hp, rfl⟩ := List.mem_map.1 hx
    exact h.wlt p hp)
  simpa using this

theorem Inv.get {s : VS} (h : s.Inv) (i : Int) : (s.get i).2.Inv := by
  unfold VS.get
  split
  · rename_i ht
    obtain ⟨h0, h1, _⟩ := there_iff.1 ht
    split
    · exact h
    · split
      · unfold read1
        split
        · exact h
        · rename_i hc
          have hc' : i.toNat ∉ s.reads := by simpa using hc
          refine ⟨h.small, ?_, ?_, h.wnd, h.wlt, h.ku, h.wu⟩
          · simp only [List.nodup_append]
            exact ⟨h.rnd, by simp, fun a ha b hb => by simp at hb; subst hb; exact fun e => hc' (e ▸ ha)⟩
          · intro r hr
            simp at hr
            rcases hr with hr | rfl
            · exact h.rlt r hr
            · show i.toNat < s.n; omega
      · exact ⟨h.small, h.rnd, h.rlt, h.wnd, h.wlt, h.ku, h.wu⟩
  · exact h

theorem Inv.put {s : VS} (h : s.Inv) (i v : Int) (hv : U32 v) : (s.put i v).Inv := by
  unfold VS.put
  split
  · rename_i ht
    obtain ⟨h0, h1, _⟩ := there_iff.1 ht
    unfold setW
    cases hw : wix s.writes i.toNat with
    | some j =>
      refine ⟨h.small, h.rnd, h.rlt, ?_, ?_, h.ku, ?_⟩
      · show ((s.writes.set j (i.toNat, v)).map (·.1)).Nodup
        rw [setW_keys_some hw]; exact h.wnd
      · intro p hp
        rcases List.mem_or_eq_of_mem_set hp with hp | rfl
        · exact h.wlt p hp
        · show i.toNat < s.n; omega
      · intro p hp
        rcases List.mem_or_eq_of_mem_set hp with hp | rfl
        · exact h.wu p hp
        · exact hv
    | none =>
      have hn := wix_none.1 hw
      refine ⟨h.small, h.rnd, h.rlt, ?_, ?_, h.ku, ?_⟩
      · show ((s.writes ++ [(i.toNat, v)]).map (·.1)).Nodup
        simp only [List.map_append, List.nodup_append]
        exact ⟨h.wnd, by simp, fun a ha b hb => by simp at hb; subst hb; exact fun e => hn (e ▸ ha)⟩
      · intro p hp
        simp only [List.mem_append, List.mem_singleton] at hp
        rcases hp with hp | rfl
        · exact h.wlt p hp
        · show i.toNat < s.n; omega
      · intro p hp
        simp only [List.mem_append, List.mem_singleton] at hp
        rcases hp with hp | rfl
        · exact h.wu p hp
        · exact hv
  · exact h

theorem get_u32 {s : VS} (h : s.Inv) (i : Int) : U32 (s.get i).1 := by
  unfold VS.get
  split
  · split
    · rename_i v hv
      unfold wr at hv
      cases hw : wix s.writes i.toNat with
      | none => simp [hw] at hv
      | some j =>
        obtain ⟨_, u, h2⟩ := wix_some hw
        simp [hw, h2] at hv
        subst hv
        exact h.wu _ (List.mem_of_getElem? h2)
    · split
      · rename_i v hv; exact h.ku _ _ hv
      · exact u32_zero
  · exact u32_zero

end VS

/-! ### how the program keeps it -/
def putRows (l : List (Nat × Int)) : List (Int × Int) := l.zipIdx.map fun x => ((x.1.1 : Int), (x.2 : Int))
def readRows (l : List Nat) : List (Int × Int) := l.map fun (r : Nat) => ((r : Int), (1 : Int))
def pairCells (l : List (Nat × Int)) : List Value := l.flatMap fun p => [.int .i64 p.1, .int .u32 p.2]
def intCells (l : List Nat) : List Value := l.map fun (r : Nat) => .int .i64 (r : Int)

theorem look_zip (i : Nat) : ∀ (l : List (Nat × Int)) (k m : Nat), look ((l.zipIdx k).map fun x => ((x.1.1 : Int), (x.2 : Int))) (i : Int) m = (wix l i).map fun j => (j + m, ((j + k : Nat) : Int))
  | [], _, _ => rfl
  | p :: r, k, m => by
    simp only [List.zipIdx_cons, List.map_cons, look, wix]
    by_cases h : p.1 = i
    · simp [h]
    · have h' : ¬ ((p.1 : Int) = (i : Int)) := by omega
      rw [if_neg h, if_neg h', look_zip i r (k + 1) (m + 1)]
      cases wix r i with
      | none => rfl
      | some j => simp; omega

theorem assoc_put (l : List (Nat × Int)) (i : Nat) : assoc (putRows l) (i : Int) = (wix l i).map fun j => (j : Int) := by
  unfold assoc putRows
  rw [look_zip]
  cases wix l i <;> simp
theorem putRows_some {l : List (Nat × Int)} {i j : Nat} (v : Int) (h : wix l i = some j) : putRows (l.set j (i, v)) = putRows l := by
  have hk := VS.setW_keys_some (v := v) h
  unfold putRows
  apply List.ext_getElem?
  intro k
  have := congrArg (fun x => x[k]?) hk
  simp only [List.getElem?_map, List.getElem?_zipIdx] at this ⊢
  cases h1 : (l.set j (i, v))[k]? <;> cases h2 : l[k]? <;> simp_all
theorem putRows_none {l : List (Nat × Int)} {i : Nat} (v : Int) (h : wix l i = none) : putRows (l ++ [(i, v)]) = upsert (putRows l) (i : Int) (l.length : Int) := by
  have hl : look (putRows l) (i : Int) 0 = none := by unfold putRows; rw [look_zip, h]; rfl
  unfold upsert
  rw [hl]
  simp [putRows, List.zipIdx_append]
theorem look_read (i : Nat) : ∀ (l : List Nat) (m : Nat), look (readRows l) (i : Int) m = none ↔ i ∉ l
  | [], _ => by simp [readRows, look]
  | r :: l, m => by
    simp only [readRows, List.map_cons, look]
    by_cases h : r = i
    · simp [h]
    · have h' : ¬ ((r : Int) = (i : Int)) := by omega
      rw [if_neg h']
      have := look_read i l (m + 1)
      unfold readRows at this
      rw [this]
      simp; exact fun _ => fun e => h e.symm
theorem look_read_one (i : Nat) : ∀ (l : List Nat) (m j : Nat) (v : Int), look (readRows l) (i : Int) m = some (j, v) → v = 1
  | [], _, _, _, h => by simp [readRows, look] at h
  | r :: l, m, j, v, h => by
    simp only [readRows, List.map_cons, look] at h
    split at h
    · simp at h; omega
    · exact look_read_one i l (m + 1) j v h
theorem assoc_read_in {l : List Nat} {i : Nat} (h : i ∈ l) : assoc (readRows l) (i : Int) = some 1 := by
  unfold assoc
  cases hl : look (readRows l) (i : Int) 0 with
  | none => exact absurd h ((look_read i l 0).1 hl)
  | some x => obtain ⟨j, v⟩ := x; have := look_read_one i l 0 j v hl; simp [this]
theorem assoc_read_out {l : List Nat} {i : Nat} (h : i ∉ l) : assoc (readRows l) (i : Int) = none := by
  unfold assoc
  rw [(look_read i l 0).2 h]; rfl
theorem readRows_add {l : List Nat} {i : Nat} (h : i ∉ l) : readRows (l ++ [i]) = upsert (readRows l) (i : Int) 1 := by
  unfold upsert
  rw [(look_read i l 0).2 h]
  simp [readRows]

end Go.Proofs.YtpmoajhpgekhcaaGreat
/- view: the program's view, as memory; Get and Put. -/
set_option linter.unusedSimpArgs false
set_option linter.unusedVariables false
namespace Go.Proofs.YtpmoajhpgekhcaaGreat
open Go.RowKit

def missI (s : VS) : Int := match s.miss with | none => -1 | some i => (i : Int)

def Src (w : World) (fv wv : Value) (S : Nat → Prop) (s : VS) : Prop :=
  ∃ (sv : Value) (vals : List Int), fv = .iface 52 sv ∧ w.ownsRow 0 41 1 sv s.n (vals.map (Value.int .u32)) ∧ (∀ i, i < s.n → s.known i = vals[i]?) ∧ (∀ k, sv.ownBlock = some k → S k) ∧ wv = sv

structure PVs (w : World) (b : Nat) (S : Nat → Prop) (s : VS) (fv wv rv pv : Value) (rd pt : Nat) : Prop where
  cells : w.heap[b]? = some (.cells #[.int .i64 s.n, fv, wv, .map (some rd), rv, .map (some pt), pv, .int .i64 (missI s), .bool s.miss.isSome] 59)
  mr : MapIs w rd (readRows s.reads)
  mp : MapIs w pt (putRows s.writes)
  rr : w.ownsRow 0 3 1 rv s.reads.length (intCells s.reads)
  pr : w.ownsRow 0 72 2 pv s.writes.length (pairCells s.writes)
  src : Src w fv wv S s
  ne : rd ≠ pt
  inb : S b
  inr : S rd
  inp : S pt
  inrv : ∀ k, rv.ownBlock = some k → S k
  inpv : ∀ k, pv.ownBlock = some k → S k
  lt : ∀ k, S k → k < w.heap.size
  inv : s.Inv

/-- the view at block b, over the blocks of S, is s. -/
def PV (w : World) (b : Nat) (S : Nat → Prop) (s : VS) : Prop := ∃ fv wv rv pv rd pt, PVs w b S s fv wv rv pv rd pt

theorem there_yes (b : Nat) (i : Int) (w : World) (n : Nat) (h0 : w.cell? ⟨b, 0, none⟩ = some (.int .i64 n)) (h8 : w.cell? ⟨b, 8, none⟩ = some (.bool false)) (h1 : 0 ≤ i) (h2 : i < n) :
    Calls Tryz.prog 45 #[.pointer (some ⟨b, 0, none⟩), .int .i64 i] w fun e w' => e = .returned (.bool true) ∧ w = w' := by
  go_enter Tryz.func45, Tryz.ntmps45
  go_wp2
  go_ret
  exact ⟨rfl, rfl⟩

theorem there_low (b : Nat) (i : Int) (w : World) (h1 : i < 0) :
    Calls Tryz.prog 45 #[.pointer (some ⟨b, 0, none⟩), .int .i64 i] w fun e w' => e = .returned (.bool false) ∧ w = w' := by
  go_enter Tryz.func45, Tryz.ntmps45
  go_wp2
  go_ret
  exact ⟨rfl, rfl⟩

theorem there_high (b : Nat) (i : Int) (w : World) (n : Nat) (h0 : w.cell? ⟨b, 0, none⟩ = some (.int .i64 n)) (h1 : 0 ≤ i) (h2 : (n : Int) ≤ i) :
    Calls Tryz.prog 45 #[.pointer (some ⟨b, 0, none⟩), .int .i64 i] w fun e w' => e = .returned (.bool false) ∧ w = w' := by
  go_enter Tryz.func45, Tryz.ntmps45
  go_wp2
  go_ret
  exact ⟨rfl, rfl⟩

theorem there_stuck (b : Nat) (i : Int) (w : World) (n : Nat) (h0 : w.cell? ⟨b, 0, none⟩ = some (.int .i64 n)) (h8 : w.cell? ⟨b, 8, none⟩ = some (.bool true)) (h1 : 0 ≤ i) (h2 : i < n) :
    Calls Tryz.prog 45 #[.pointer (some ⟨b, 0, none⟩), .int .i64 i] w fun e w' => e = .returned (.bool false) ∧ w = w' := by
  go_enter Tryz.func45, Tryz.ntmps45
  go_wp2
  go_ret
  exact ⟨rfl, rfl⟩

theorem PVs.cell {w : World} {b : Nat} {S : Nat → Prop} {s : VS} {fv wv rv pv : Value} {rd pt : Nat} (h : PVs w b S s fv wv rv pv rd pt) (o : Nat) :
    w.cell? ⟨b, o, none⟩ = (#[.int .i64 s.n, fv, wv, .map (some rd), rv, .map (some pt), pv, .int .i64 (missI s), .bool s.miss.isSome] : Array Value)[o]? := cell?_of_heap h.cells

theorem there_any (b : Nat) (i : Int) (w : World) (S : Nat → Prop) (s : VS) (h : PV w b S s) :
    Calls Tryz.prog 45 #[.pointer (some ⟨b, 0, none⟩), .int .i64 i] w fun e w' => e = .returned (.bool (s.there i)) ∧ w = w' := by
  obtain ⟨fv, wv, rv, pv, rd, pt, hv⟩ := h
  have h0 := hv.cell 0
  have h8 := hv.cell 8
  simp at h0 h8
  by_cases h1 : i < 0
  · have : s.there i = false := by simp [VS.there]; omega
    rw [this]; exact there_low b i w h1
  · by_cases h2 : (s.n : Int) ≤ i
    · have : s.there i = false := by simp [VS.there]; omega
      rw [this]; exact there_high b i w _ h0 (by omega) h2
    · cases hm : s.miss with
      | none =>
        have : s.there i = true := by simp [VS.there, hm]; omega
        rw [this]; rw [hm] at h8
        exact there_yes b i w _ h0 h8 (by omega) (by omega)
      | some j =>
        have : s.there i = false := by simp [VS.there, hm]
        rw [this]; rw [hm] at h8
        exact there_stuck b i w _ h0 h8 (by omega) (by omega)

theorem uMap : Tryz.prog.underlying 57 = some (.map 3 3) := by kernel_rfl
theorem zInt (w : World) : (zeroValue 3).run Tryz.prog w = .ok (.int .i64 0) w := by kernel_rfl

/-- the cell of the value of the j-th pair. -/
theorem pair_cell {l : List (Nat × Int)} {j i : Nat} {v : Int} (h : l[j]? = some (i, v)) : (pairCells l)[j * 2]? = some (.int .i64 i) ∧ (pairCells l)[j * 2 + 1]? = some (.int .u32 v) := by
  induction l generalizing j with
  | nil => simp at h
  | cons p r ih =>
    cases j with
    | zero => simp at h; subst h; simp [pairCells]
    | succ j =>
      have := ih (j := j) (by simpa using h)
      unfold pairCells at this ⊢
      simp only [List.flatMap_cons]
      have e1 : (j + 1) * 2 = j * 2 + 2 := by omega
      rw [e1]
      simpa using this
theorem pairCells_length (l : List (Nat × Int)) : (pairCells l).length = l.length * 2 := by
  induction l with
  | nil => rfl
  | cons p r ih => unfold pairCells at ih ⊢; simp [ih]; omega

theorem get_no (b : Nat) (i : Int) (w : World) (S : Nat → Prop) (s : VS) (h : PV w b S s) (ht : s.there i = false) :
    Calls Tryz.prog 18 #[.pointer (some ⟨b, 0, none⟩), .int .i64 i] w fun e w' => e = .returned (.int .u32 0) ∧ w = w' := by
  have H := there_any b i w S s h
  rw [ht] at H
  have HH := Lib.hid H
  clear H
  go_enter Tryz.func18, Tryz.ntmps18
  go_wp2_with fail
  refine HH.out.mono ?_
  rintro e w1 ⟨rfl, rfl⟩
  go_wp2
  go_ret
  exact ⟨rfl, rfl⟩

theorem get_put (b : Nat) (i : Int) (w : World) (S : Nat → Prop) (s : VS) (h : PV w b S s) (ht : s.there i = true) (j : Nat) (v : Int) (hj : wix s.writes i.toNat = some j) (hv : s.writes[j]? = some (i.toNat, v)) :
    Calls Tryz.prog 18 #[.pointer (some ⟨b, 0, none⟩), .int .i64 i] w fun e w' => e = .returned (.int .u32 v) ∧ w = w' := by
  have H := there_any b i w S s h
  rw [ht] at H
  have HH := Lib.hid H
  clear H
  obtain ⟨h0, h1, -⟩ := VS.there_iff.1 ht
  obtain ⟨n, rfl⟩ := Int.eq_ofNat_of_zero_le h0
  simp only [Int.toNat_natCast] at hj hv
  obtain ⟨fv, wv, rv, pv, rd, pt, hp⟩ := h
  obtain ⟨hjl, -⟩ := wix_some hj
  obtain ⟨g, cap, rfl⟩ := Joins.ownsRow_form hp.pr (by omega)
  have hc1 := (hp.pr.cellAt (j * 2 + 1) (by omega)).trans (pair_cell hv).2
  have ha : assoc (putRows s.writes) (n : Int) = some (j : Int) := by rw [assoc_put, hj]; rfl
  have c5 := hp.cell 5
  have c6 := hp.cell 6
  simp at c5 c6
  have hmp := Lib.hid hp.mp
  have hw := hp.inv.writes_le
  have hn := hp.inv.small
  clear hp ht hj hv
  go_enter Tryz.func18, Tryz.ntmps18
  go_wp2_with fail
  refine HH.out.mono ?_
  rintro e w1 ⟨rfl, rfl⟩
  go_wp2_with (at_lookup; refine wpL_lookup rfl _ _ true rfl uMap Tryz.underlying3 (zInt _) pt (putRows s.writes) n rfl hmp.out rfl ?_; simp only [ha, if_true, Option.getD_some, Option.isSome_some])
  go_ret
  exact ⟨rfl, rfl⟩

theorem met_known (T : Value) (w : World) : (method 262 52 T "nacre/view.known").run Tryz.prog w = .ok (139, T) w := by kernel_rfl

theorem known_any (g cap n i : Nat) (v : Int) (w : World) (hi : i < n) (_hn : n ≤ 2147483648) (hc : w.cell? ⟨g, i, none⟩ = some (.int .u32 v)) :
    Calls Tryz.prog 139 #[.slice (some ⟨g, 0, none⟩) n cap, .int .i64 i] w fun e w' => e = .returned (.tuple #[.int .u32 v, .bool true]) ∧ w = w' := by
  go_enter Tryz.func139, Tryz.ntmps139
  go_wp2
  go_ret2
  exact ⟨rfl, rfl⟩

set_option maxRecDepth 100000 in
theorem get_old (b : Nat) (i : Int) (w : World) (S : Nat → Prop) (s : VS) (h : PV w b S s) (ht : s.there i = true) (v : Int) (hj : wix s.writes i.toNat = none) (hk : s.known i.toNat = some v) (hr : i.toNat ∈ s.reads) :
    Calls Tryz.prog 18 #[.pointer (some ⟨b, 0, none⟩), .int .i64 i] w fun e w' => e = .returned (.int .u32 v) ∧ w = w' := by
  have H := there_any b i w S s h
  rw [ht] at H
  have HH := Lib.hid H
  clear H
  obtain ⟨h0, h1, -⟩ := VS.there_iff.1 ht
  obtain ⟨n, rfl⟩ := Int.eq_ofNat_of_zero_le h0
  simp only [Int.toNat_natCast] at hj hk hr
  obtain ⟨fv, wv, rv, pv, rd, pt, hp⟩ := h
  obtain ⟨sv, vals, rfl, hrow, hkn, -⟩ := hp.src
  obtain ⟨g, cap, rfl⟩ := Joins.ownsRow_form hrow (by omega)
  have hvn : vals[n]? = some v := by rw [← hkn n (by omega)]; exact hk
  have hc1 : w.cell? ⟨g, n, none⟩ = some (.int .u32 v) := by rw [hrow.cellAt n (by omega)]; simp [hvn]
  have ha : assoc (putRows s.writes) (n : Int) = none := by rw [assoc_put, hj]; rfl
  have hb : assoc (readRows s.reads) (n : Int) = some 1 := assoc_read_in hr
  have c1 := hp.cell 1
  have c3 := hp.cell 3
  have c5 := hp.cell 5
  simp at c1 c3 c5
  have hmp := Lib.hid hp.mp
  have hmr := Lib.hid hp.mr
  have hn := hp.inv.small
  have HK := Lib.hid (known_any g cap s.n n v w (by omega) hn hc1)
  have mk := met_known
  clear hp ht hj hk hr hrow hkn hvn hc1
  go_enter Tryz.func18, Tryz.ntmps18
  go_wp2_with fail
  refine HH.out.mono ?_
  rintro e w1 ⟨rfl, rfl⟩
  go_wp2_with (first | (at_lookup; refine wpL_lookup rfl _ _ true rfl uMap Tryz.underlying3 (zInt _) pt (putRows s.writes) n rfl hmp.out rfl ?_; simp only [ha, if_true, Option.getD_none, Option.isSome_none]) | (at_lookup; refine wpL_lookup rfl _ _ false rfl uMap Tryz.underlying3 (zInt _) rd (readRows s.reads) n rfl hmr.out rfl ?_; simp only [hb, Option.getD_some]) | (go_at_call 139; refine HK.out.mono ?_; rintro e w1 ⟨rfl, rfl⟩))
  go_ret
  exact ⟨rfl, rfl⟩

theorem frozen_of_cells (w : World) (b : Nat) (cs : Array Value) {T : TypeId} (h : w.heap[b]? = some (.cells cs T)) (o : Nat) : w.frozen? ⟨b, o, none⟩ = false := by simp [World.frozen?, h]

theorem infoInt : (Tryz.prog.info? 3).map (fun i => (i.zero, i.size, i.bytes)) = some (some (.int .i64 0), 1, 8) := by kernel_rfl

/-- nothing but S turned, and the view is t now. -/
def Now (w : World) (b : Nat) (S : Nat → Prop) (t : VS) (w' : World) : Prop := PV w' b (upd S w w') t ∧ Fr S w w'

theorem ownsRow_elem {w : World} {e e2 size g : Nat} {v : Value} {n : Nat} {xs : List Value} {cur : Array Value} {fr : Nat × Nat} (h : w.ownsRow 0 e size v n xs) (hg : w.heap[g]? = some (.cells cur e2 fr)) (hne : e ≠ e2) : v.ownBlock ≠ some g := by
  intro hv
  rcases h.2 with ⟨rfl, -⟩ | ⟨g', cap, cur', rfl, -, hg', -⟩
  · simp [Value.ownBlock] at hv
  · simp [Value.ownBlock] at hv
    subst hv
    rw [hg] at hg'
    simp only [Option.some.injEq, Obj.cells.injEq] at hg'
    exact hne hg'.2.1.symm
theorem ownsRow_map {w : World} {e size g : Nat} {v : Value} {n : Nat} {xs : List Value} {l : List (Int × Int)} (h : w.ownsRow 0 e size v n xs) (hg : MapIs w g l) : v.ownBlock ≠ some g := by
  intro hv
  obtain ⟨es, clk, hm, -⟩ := hg
  rcases h.2 with ⟨rfl, -⟩ | ⟨g', cap, cur', rfl, -, hg', -⟩
  · simp [Value.ownBlock] at hv
  · simp [Value.ownBlock] at hv
    subst hv
    rw [hm] at hg'
    simp at hg'
theorem cells_map {w : World} {b g : Nat} {cs : Array Value} {e : TypeId} {fr : Nat × Nat} {l : List (Int × Int)} (h : w.heap[b]? = some (.cells cs e fr)) (hg : MapIs w g l) : b ≠ g := by
  intro hv
  obtain ⟨es, clk, hm, -⟩ := hg
  subst hv
  rw [h] at hm
  simp at hm
theorem MapIs.block {w w' : World} {b : Nat} {l : List (Int × Int)} (h : MapIs w b l) (hb : w'.heap[b]? = w.heap[b]?) : MapIs w' b l := by
  obtain ⟨es, clk, h1, h2⟩ := h
  exact ⟨es, clk, hb.trans h1, h2⟩
theorem MapIs.lt {w : World} {b : Nat} {l : List (Int × Int)} (h : MapIs w b l) : b < w.heap.size := by
  obtain ⟨es, clk, h1, h2⟩ := h
  exact (Array.getElem?_eq_some_iff.1 h1).1

theorem ownsRow_lt {w : World} {e size : Nat} {v : Value} {n : Nat} {xs : List Value} (h : w.ownsRow 0 e size v n xs) {k : Nat} (hk : v.ownBlock = some k) : k < w.heap.size := (h.lt k hk).2
/-- an owned row in a world in which its block is as it was. -/
theorem ownsRow_block {w w' : World} {e size : Nat} {v : Value} {n : Nat} {xs : List Value} (h : w.ownsRow 0 e size v n xs) (hb : ∀ k, v.ownBlock = some k → w'.heap[k]? = w.heap[k]?) : w'.ownsRow 0 e size v n xs := by
  refine ⟨h.1, ?_⟩
  rcases h.2 with hn | ⟨g, cap, cur, rfl, hb', hgg, rest⟩
  · exact .inl hn
  · exact .inr ⟨g, cap, cur, rfl, hb', (hb g rfl).trans hgg, rest⟩
theorem Src.block {w w' : World} {fv wv : Value} {S S' : Nat → Prop} {s s' : VS} (h : Src w fv wv S s) (hn : s'.n = s.n) (hk : s'.known = s.known) (hS : ∀ k, S k → S' k) (hb : ∀ k, S k → w.heap[k]? ≠ none → w'.heap[k]? = w.heap[k]?) : Src w' fv wv S' s' := by
  obtain ⟨sv, vals, h1, h2, h3, h4, h5⟩ := h
  refine ⟨sv, vals, h1, ?_, ?_, fun k hk => hS k (h4 k hk), h5⟩
  · rw [hn]; exact ownsRow_block h2 fun k hk => hb k (h4 k hk) (by rw [Array.getElem?_eq_getElem (ownsRow_lt h2 hk)]; simp)
  · rw [hn, hk]; exact h3
theorem Src.elem {w : World} {fv wv : Value} {S : Nat → Prop} {s : VS} (h : Src w fv wv S s) : ∃ (F : Nat → Prop), (∀ k, F k → S k ∧ k < w.heap.size ∧ ∃ cur, w.heap[k]? = some (.cells cur 41 (0, 0))) ∧
    ∀ (w' : World) (S' : Nat → Prop) (s' : VS), s'.n = s.n → s'.known = s.known → (∀ k, F k → S' k) → (∀ k, F k → w'.heap[k]? = w.heap[k]?) → Src w' fv wv S' s' := by
  obtain ⟨sv, vals, h1, h2, h3, h4, h5⟩ := h
  refine ⟨fun k => sv.ownBlock = some k, ?_, ?_⟩
  · intro k hk
    refine ⟨h4 k hk, ownsRow_lt h2 hk, ?_⟩
    rcases h2.2 with ⟨rfl, -⟩ | ⟨g, cap, cur, rfl, -, hg, -⟩
    · simp [Value.ownBlock] at hk
    · simp [Value.ownBlock] at hk; subst hk; exact ⟨cur, hg⟩
  · intro w' S' s' hn hk hS hb
    exact ⟨sv, vals, h1, by rw [hn]; exact ownsRow_block h2 hb, by rw [hn, hk]; exact h3, hS, h5⟩

theorem now_read {w w1 w2 : World} {b : Nat} {S : Nat → Prop} {s : VS} {fv wv rv pv v' : Value} {rd pt n : Nat} (hv : PVs w b S s fv wv rv pv rd pt) (hn : n ∉ s.reads) (hlt : n < s.n) (X : Obj)
    (hm1 : MapIs w1 rd (upsert (readRows s.reads) n 1)) (hg1 : w.grownBy w1 (some rd)) (hown : w2.ownsRow 0 3 1 v' (s.reads.length + 1) (intCells s.reads ++ [.int .i64 n]))
    (hg2 : (w1.alloc X).grownBy w2 rv.ownBlock) (hnew : ∀ k, v'.ownBlock = some k → rv.ownBlock = some k ∨ (w1.alloc X).heap.size ≤ k) :
    Now w b S { s with reads := s.reads ++ [n] } (w2.setCell ⟨b, 4, none⟩ v') := by
  have hblt : b < w.heap.size := (Array.getElem?_eq_some_iff.1 hv.cells).1
  have hbr := cells_map hv.cells hv.mr
  have hbp := cells_map hv.cells hv.mp
  have hz1 := hg1.size
  have hz2 := hg2.size
  simp only [World.size_alloc] at hz2
  -- a block that is none of the three is as it was
  have blk : ∀ k, k < w.heap.size → k ≠ rd → rv.ownBlock ≠ some k → k ≠ b → (w2.setCell ⟨b, 4, none⟩ v').heap[k]? = w.heap[k]? := by
    intro k hk h1 h2 h3
    rw [Below.heap_setCell _ _ _ _ (by simpa using h3), hg2.block k (by simp; omega) (fun e => h2 e.symm), Below.heap_alloc _ _ _ (by omega), hg1.block k hk (by simpa using h1)]
  have bb : w2.heap[b]? = w.heap[b]? := by
    rw [hg2.block b (by simp; omega) (fun e => ownsRow_elem hv.rr hv.cells (by decide) e.symm), Below.heap_alloc _ _ _ (by omega), hg1.block b hblt (by simpa using hbr)]
  have hrnm := ownsRow_map hv.rr hv.mr
  have hrnp := ownsRow_map hv.rr hv.mp
  have F : Fr S w (w2.setCell ⟨b, 4, none⟩ v') :=
    ((((Fr.refl S w).grown hg1 (fun k hk => by cases hk; exact Or.inl hv.inr)).alloc X).grown hg2 (fun k hk => Or.inl (hv.inrv k hk))).setCell _ _ (Or.inl hv.inb)
  refine ⟨⟨fv, wv, v', pv, rd, pt, ?_⟩, F⟩
  obtain ⟨SF, hSF, mkSrc⟩ := hv.src.elem
  have su : ∀ k, S k → upd S w (w2.setCell ⟨b, 4, none⟩ v') k := fun k hk => Or.inl hk
  refine ⟨?_, ?_, ?_, ?_, ?_, ?_, hv.ne, su _ hv.inb, su _ hv.inr, su _ hv.inp, ?_, fun k hk => su _ (hv.inpv k hk), ?_, ?_⟩
  · have := Joins.block_setCell (i := 4) (bb.trans hv.cells) v'
    rw [this]
    rfl
  · rw [readRows_add hn]
    refine hm1.block ?_
    rw [Below.heap_setCell _ _ _ _ (by simpa using fun e => hbr e.symm), hg2.block rd (by simp; have := hm1.lt; omega) (fun e => hrnm e.symm), Below.heap_alloc _ _ _ hm1.lt]
  · exact hv.mp.block (blk pt hv.mp.lt (fun e => hv.ne e.symm) hrnp (fun e => hbp e.symm))
  · have e1 : (s.reads ++ [n]).length = s.reads.length + 1 := by simp
    have e2 : intCells (s.reads ++ [n]) = intCells s.reads ++ [.int .i64 n] := by simp [intCells]
    show (w2.setCell _ v').ownsRow 0 _ 1 v' (s.reads ++ [n]).length (intCells (s.reads ++ [n]))
    rw [e1, e2]
    refine ownsRow_block hown fun k hk => Below.heap_setCell _ _ _ _ ?_
    rcases hnew k hk with h | h
    · exact fun e => ownsRow_elem hv.rr hv.cells (by decide) (by rw [h]; exact congrArg some e)
    · simp at h; show k ≠ b; omega
  · refine ownsRow_block hv.pr fun k hk => ?_
    have hkl := ownsRow_lt hv.pr hk
    refine blk k hkl ?_ ?_ ?_
    · exact fun e => ownsRow_map hv.pr hv.mr (by rw [hk, e])
    · intro e
      rcases hv.rr.2 with ⟨h5, -⟩ | ⟨g, cap, cur, h5, -, hg, -⟩
      · rw [h5] at e; simp [Value.ownBlock] at e
      · rw [h5] at e
        simp [Value.ownBlock] at e
        subst e
        exact ownsRow_elem hv.pr hg (by decide) hk
    · exact fun e => ownsRow_elem hv.pr hv.cells (by decide) (by rw [hk, e])
  · refine mkSrc _ _ _ rfl rfl (fun k hk => su k (hSF k hk).1) (fun k hk => ?_)
    obtain ⟨-, hkl, cur, hcur⟩ := hSF k hk
    refine blk k hkl ?_ ?_ ?_
    · exact cells_map hcur hv.mr
    · exact fun e => ownsRow_elem hv.rr hcur (by decide) e
    · intro e
      subst e
      have := hv.cells
      rw [hcur] at this
      simp at this
  · intro k hk
    rcases hnew k hk with h | h
    · exact su k (hv.inrv k h)
    · refine Or.inr ⟨by simp at h; omega, ?_⟩
      have := ownsRow_lt hown hk
      simpa using this
  · intro k hk
    rcases hk with hk | hk
    · have := hv.lt k hk; simp; omega
    · exact hk.2
  · have h0 := hv.inv
    refine ⟨h0.small, ?_, ?_, h0.wnd, h0.wlt, h0.ku, h0.wu⟩
    · simp only [List.nodup_append]
      exact ⟨h0.rnd, by simp, fun a ha c hc => by simp at hc; subst hc; exact fun e => hn (e ▸ ha)⟩
    · intro r hr
      simp at hr
      rcases hr with hr | rfl
      · exact h0.rlt r hr
      · exact hlt

set_option maxRecDepth 100000 in
theorem get_new (b : Nat) (i : Int) (w : World) (S : Nat → Prop) (s : VS) (h : PV w b S s) (ht : s.there i = true) (v : Int) (hj : wix s.writes i.toNat = none) (hk : s.known i.toNat = some v) (hr : i.toNat ∉ s.reads) :
    Calls Tryz.prog 18 #[.pointer (some ⟨b, 0, none⟩), .int .i64 i] w fun e w' => e = .returned (.int .u32 v) ∧ Now w b S { s with reads := s.reads ++ [i.toNat] } w' := by
  have H := there_any b i w S s h
  rw [ht] at H
  have HH := Lib.hid H
  clear H
  have HP := Lib.hid h
  obtain ⟨h0, h1, -⟩ := VS.there_iff.1 ht
  obtain ⟨n, rfl⟩ := Int.eq_ofNat_of_zero_le h0
  simp only [Int.toNat_natCast] at hj hk hr ⊢
  obtain ⟨fv, wv, rv, pv, rd, pt, hp⟩ := h
  have HV := Lib.hid hp
  obtain ⟨sv, vals, rfl, hrow, hkn, -⟩ := hp.src
  obtain ⟨g, cap, rfl⟩ := Joins.ownsRow_form hrow (by omega)
  have hvn : vals[n]? = some v := by rw [← hkn n (by omega)]; exact hk
  have hc1 : w.cell? ⟨g, n, none⟩ = some (.int .u32 v) := by rw [hrow.cellAt n (by omega)]; simp [hvn]
  have ha : assoc (putRows s.writes) (n : Int) = none := by rw [assoc_put, hj]; rfl
  have hb : assoc (readRows s.reads) (n : Int) = none := assoc_read_out hr
  have c1 := hp.cell 1
  have c3 := hp.cell 3
  have c4 := hp.cell 4
  have c5 := hp.cell 5
  simp at c1 c3 c4 c5
  have hmp := Lib.hid hp.mp
  have hmr := Lib.hid hp.mr
  have hrr := Lib.hid hp.rr
  have hn := hp.inv.small
  have hrl := hp.inv.reads_le
  have hbr := cells_map hp.cells hp.mr
  have hblt : b < w.heap.size := (Array.getElem?_eq_some_iff.1 hp.cells).1
  have hrnb := Lib.hid (ownsRow_elem hp.rr hp.cells (by decide))
  have hrnm := Lib.hid (ownsRow_map hp.rr hp.mr)
  have HK := Lib.hid (known_any g cap s.n n v w (by omega) hn hc1)
  obtain ⟨i0, hi0, hi1, hi2, hi3⟩ := info_parts infoInt
  have HI := Lib.hid (And.intro hi0 (And.intro hi1 (And.intro hi2 hi3)))
  have mk := met_known
  clear hp ht hj hk hrow hkn hvn hc1 hi0 hi1 hi2 hi3
  go_enter Tryz.func18, Tryz.ntmps18
  go_wp2_with fail
  refine HH.out.mono ?_
  rintro e w1 ⟨rfl, rfl⟩
  go_wp2_with (first | (at_lookup; refine wpL_lookup rfl _ _ true rfl uMap Tryz.underlying3 (zInt _) pt (putRows s.writes) n rfl hmp.out rfl ?_; simp only [ha, if_true, Option.getD_none, Option.isSome_none]) | (at_lookup; refine wpL_lookup rfl _ _ false rfl uMap Tryz.underlying3 (zInt _) rd (readRows s.reads) n rfl hmr.out rfl ?_; simp only [hb, Option.getD_none]) | (go_at_call 139; refine HK.out.mono ?_; rintro e w1 ⟨rfl, rfl⟩) | (at_mapUpdate; refine wpL_update rfl _ _ _ rfl uMap Tryz.underlying3 rd (readRows s.reads) n 1 rfl hmr.out rfl rfl ?_; intro w1 hm1 hg1; have d4 : w1.cell? ⟨b, 4, none⟩ = some rv := hg1.cell c4 (by simpa using hbr)) | (at_builtin; go_must (refine wpL_append rfl _ _ rfl 3 i0 (.int .i64 0) 1 8 Tryz.underlying25 HI.out.1 HI.out.2.1 HI.out.2.2.1 HI.out.2.2.2 rfl (by decide) rv s.reads.length (intCells s.reads) rfl ((hrr.out.kept hg1 (Or.inr hrnm.out)).alloc _) ⟨w1.heap.size, 0, none⟩ 1 1 [.int .i64 n] rfl rfl (cell_one_new _ _ _) ?c1 ?c2 ?c3 ?_); go_must (case c1 => (simp [Value.oneCell'])); go_must (case c2 => (unfold maxLen; omega)); go_must (case c3 => (omega)); go_must (intro v' w2 hown2 hg2 hnew2 hnil2); clear hnil2; go_must (obtain ⟨g', cap', rfl⟩ := Joins.ownsRow_form hown2 (by omega)); go_must (have e4 : w2.cell? ⟨b, 4, none⟩ = some rv := hg2.cell ((World.cell?_alloc_lt _ _ _ (World.block_lt_of_cell? w1 _ d4)).trans d4) (fun e => hrnb.out e.symm)); go_must (have f4 : w2.frozen? ⟨b, 4, none⟩ = false := frozen_of_cells w2 b _ (by rw [hg2.block b (by have := World.block_lt_of_cell? w1 _ d4; simp at this ⊢; omega) (fun e => hrnb.out e.symm), Below.heap_alloc _ _ _ (World.block_lt_of_cell? w1 _ d4), hg1.block b hblt (by simpa using hbr)]; exact HV.out.cells) 4)))
  go_ret
  exact ⟨rfl, now_read HV.out hr (by omega) _ hm1 hg1 hown2 hg2 hnew2⟩

theorem PV.mono {w : World} {b : Nat} {S S' : Nat → Prop} {s : VS} (h : PV w b S s) (hS : ∀ k, S k → S' k) (hlt : ∀ k, S' k → k < w.heap.size) : PV w b S' s := by
  obtain ⟨fv, wv, rv, pv, rd, pt, hv⟩ := h
  refine ⟨fv, wv, rv, pv, rd, pt, hv.cells, hv.mr, hv.mp, hv.rr, hv.pr, ?_, hv.ne, hS _ hv.inb, hS _ hv.inr, hS _ hv.inp, fun k hk => hS _ (hv.inrv k hk), fun k hk => hS _ (hv.inpv k hk), hlt, hv.inv⟩
  exact hv.src.block rfl rfl hS (fun _ _ _ => rfl)
theorem PV.lt {w : World} {b : Nat} {S : Nat → Prop} {s : VS} (h : PV w b S s) : ∀ k, S k → k < w.heap.size := by
  obtain ⟨fv, wv, rv, pv, rd, pt, hv⟩ := h
  exact hv.lt
theorem PV.inv {w : World} {b : Nat} {S : Nat → Prop} {s : VS} (h : PV w b S s) : s.Inv := by
  obtain ⟨fv, wv, rv, pv, rd, pt, hv⟩ := h
  exact hv.inv
theorem Now.refl {w : World} {b : Nat} {S : Nat → Prop} {s : VS} (h : PV w b S s) : Now w b S s w :=
  ⟨h.mono (fun k hk => Or.inl hk) (fun k hk => by rcases hk with hk | hk; exact h.lt k hk; exact hk.2), Fr.refl _ _⟩
/-- a view whose blocks did not turn. -/
theorem PV.keep {w w' : World} {b : Nat} {S T : Nat → Prop} {s : VS} (h : PV w b S s) (F : Fr T w w') (hd : ∀ k, S k → ¬ T k) : PV w' b S s := by
  obtain ⟨fv, wv, rv, pv, rd, pt, hv⟩ := h
  have blk : ∀ k, S k → w'.heap[k]? = w.heap[k]? := fun k hk => F.block k (hv.lt k hk) (hd k hk)
  refine ⟨fv, wv, rv, pv, rd, pt, (blk b hv.inb).trans hv.cells, hv.mr.block (blk _ hv.inr), hv.mp.block (blk _ hv.inp), ownsRow_block hv.rr fun k hk => blk k (hv.inrv k hk), ownsRow_block hv.pr fun k hk => blk k (hv.inpv k hk), ?_, hv.ne, hv.inb, hv.inr, hv.inp, hv.inrv, hv.inpv, fun k hk => Nat.lt_of_lt_of_le (hv.lt k hk) F.size, hv.inv⟩
  exact hv.src.block rfl rfl (fun k hk => hk) (fun k hk _ => blk k hk)

theorem VS.known_some {w : World} {b : Nat} {S : Nat → Prop} {s : VS} (h : PV w b S s) {i : Nat} (hi : i < s.n) : ∃ v, s.known i = some v := by
  obtain ⟨fv, wv, rv, pv, rd, pt, hv⟩ := h
  obtain ⟨sv, vals, -, hrow, hkn, -⟩ := hv.src
  have hl := hrow.1
  simp at hl
  exact ⟨vals[i], by rw [hkn i hi]; exact List.getElem?_eq_getElem (by omega)⟩

theorem get_any (b : Nat) (i : Int) (w : World) (S : Nat → Prop) (s : VS) (h : PV w b S s) :
    Calls Tryz.prog 18 #[.pointer (some ⟨b, 0, none⟩), .int .i64 i] w fun e w' => e = .returned (.int .u32 (s.get i).1) ∧ Now w b S (s.get i).2 w' := by
  cases ht : s.there i with
  | false =>
    have e : s.get i = (0, s) := by simp [VS.get, ht]
    rw [e]
    exact (get_no b i w S s h ht).mono fun e w' ⟨h1, h2⟩ => ⟨h1, h2 ▸ Now.refl h⟩
  | true =>
    obtain ⟨h0, h1, -⟩ := VS.there_iff.1 ht
    cases hj : wix s.writes i.toNat with
    | some j =>
      obtain ⟨hjl, v, hv⟩ := wix_some hj
      have e : s.get i = (v, s) := by simp [VS.get, ht, VS.wr, hj, hv]
      rw [e]
      exact (get_put b i w S s h ht j v hj hv).mono fun e w' ⟨h1, h2⟩ => ⟨h1, h2 ▸ Now.refl h⟩
    | none =>
      obtain ⟨v, hk⟩ := VS.known_some h (i := i.toNat) (by omega)
      by_cases hr : i.toNat ∈ s.reads
      · have e : s.get i = (v, s) := by simp [VS.get, ht, VS.wr, hj, hk, VS.read1, hr]
        rw [e]
        exact (get_old b i w S s h ht v hj hk hr).mono fun e w' ⟨h1, h2⟩ => ⟨h1, h2 ▸ Now.refl h⟩
      · have e : s.get i = (v, { s with reads := s.reads ++ [i.toNat] }) := by simp [VS.get, ht, VS.wr, hj, hk, VS.read1, hr]
        rw [e]
        exact get_new b i w S s h ht v hj hk hr

end Go.Proofs.YtpmoajhpgekhcaaGreat
/- view: Put. -/
set_option linter.unusedSimpArgs false
set_option linter.unusedVariables false
namespace Go.Proofs.YtpmoajhpgekhcaaGreat
open Go.RowKit

/-- how a view is put together again behind a change. -/
theorem PVs.rebuild {w w' : World} {b : Nat} {S : Nat → Prop} {s s' : VS} {fv wv rv pv rv' pv' : Value} {rd pt : Nat} (hv : PVs w b S s fv wv rv pv rd pt) (F : Fr S w w')
    (hc : w'.heap[b]? = some (.cells #[.int .i64 s'.n, fv, wv, .map (some rd), rv', .map (some pt), pv', .int .i64 (missI s'), .bool s'.miss.isSome] 59))
    (hmr : MapIs w' rd (readRows s'.reads)) (hmp : MapIs w' pt (putRows s'.writes))
    (hrr : w'.ownsRow 0 3 1 rv' s'.reads.length (intCells s'.reads)) (hpr : w'.ownsRow 0 72 2 pv' s'.writes.length (pairCells s'.writes))
    (hir : ∀ k, rv'.ownBlock = some k → S k ∨ w.heap.size ≤ k) (hip : ∀ k, pv'.ownBlock = some k → S k ∨ w.heap.size ≤ k)
    (hsrc : ∀ k, k < w.heap.size → (∃ cur, w.heap[k]? = some (.cells cur 41 (0, 0))) → w'.heap[k]? = w.heap[k]?)
    (hn : s'.n = s.n) (hk : s'.known = s.known) (hi : s'.Inv) : Now w b S s' w' := by
  obtain ⟨SF, hSF, mkSrc⟩ := hv.src.elem
  have su : ∀ k, S k → upd S w w' k := fun k hk => Or.inl hk
  refine ⟨⟨fv, wv, rv', pv', rd, pt, hc, hmr, hmp, hrr, hpr, ?_, hv.ne, su _ hv.inb, su _ hv.inr, su _ hv.inp, ?_, ?_, ?_, hi⟩, F⟩
  · exact mkSrc _ _ _ hn hk (fun k hk => su k (hSF k hk).1) (fun k hk => hsrc k (hSF k hk).2.1 (hSF k hk).2.2)
  · intro k hk
    rcases hir k hk with h | h
    · exact Or.inl h
    · exact Or.inr ⟨h, ownsRow_lt hrr hk⟩
  · intro k hk
    rcases hip k hk with h | h
    · exact Or.inl h
    · exact Or.inr ⟨h, ownsRow_lt hpr hk⟩
  · intro k hk
    rcases hk with hk | hk
    · exact Nat.lt_of_lt_of_le (hv.lt k hk) F.size
    · exact hk.2

theorem put_no (b : Nat) (i v : Int) (w : World) (S : Nat → Prop) (s : VS) (h : PV w b S s) (ht : s.there i = false) :
    Calls Tryz.prog 49 #[.pointer (some ⟨b, 0, none⟩), .int .i64 i, .int .u32 v] w fun e w' => e = .returned (.tuple #[]) ∧ w = w' := by
  have H := there_any b i w S s h
  rw [ht] at H
  have HH := Lib.hid H
  clear H
  go_enter Tryz.func49, Tryz.ntmps49
  go_wp2_with fail
  refine HH.out.mono ?_
  rintro e w1 ⟨rfl, rfl⟩
  go_wp2
  refine bodyPost_ret (results_none rfl _ _ _) rfl ?_
  exact ⟨rfl, rfl⟩

theorem pairCells_set {l : List (Nat × Int)} {j i : Nat} {u v : Int} (h : l[j]? = some (i, u)) : pairCells (l.set j (i, v)) = (pairCells l).set (j * 2 + 1) (.int .u32 v) := by
  induction l generalizing j with
  | nil => simp at h
  | cons p r ih =>
    cases j with
    | zero => simp at h; subst h; simp [pairCells]
    | succ j =>
      have := ih (j := j) (by simpa using h)
      unfold pairCells at this ⊢
      have e1 : (j + 1) * 2 + 1 = (j * 2 + 1) + 2 := by omega
      rw [e1]
      simp [this]

theorem put_old (b : Nat) (i v : Int) (w : World) (S : Nat → Prop) (s : VS) (h : PV w b S s) (hv : VS.U32 v) (ht : s.there i = true) (j : Nat) (hj : wix s.writes i.toNat = some j) :
    Calls Tryz.prog 49 #[.pointer (some ⟨b, 0, none⟩), .int .i64 i, .int .u32 v] w fun e w' => e = .returned (.tuple #[]) ∧ Now w b S (s.put i v) w' := by
  have H := there_any b i w S s h
  rw [ht] at H
  have HH := Lib.hid H
  clear H
  have hinv := h.inv.put i v hv
  have hput : s.put i v = { s with writes := s.writes.set j (i.toNat, v) } := by simp [VS.put, ht, VS.setW, hj]
  rw [hput] at hinv ⊢
  obtain ⟨h0, h1, -⟩ := VS.there_iff.1 ht
  obtain ⟨n, rfl⟩ := Int.eq_ofNat_of_zero_le h0
  simp only [Int.toNat_natCast] at hj hinv ⊢
  obtain ⟨fv, wv, rv, pv, rd, pt, hp⟩ := h
  obtain ⟨hjl, u, hu⟩ := wix_some hj
  obtain ⟨g, cap, rfl⟩ := Joins.ownsRow_form hp.pr (by omega)
  have hc1 := (hp.pr.cellAt (j * 2 + 1) (by omega)).trans (pair_cell hu).2
  have hf1 := hp.pr.frozenAt (j * 2 + 1)
  have ha : assoc (putRows s.writes) (n : Int) = some (j : Int) := by rw [assoc_put, hj]; rfl
  have c5 := hp.cell 5
  have c6 := hp.cell 6
  simp at c5 c6
  have hmp := Lib.hid hp.mp
  have hw := hp.inv.writes_le
  have hn := hp.inv.small
  have HV := Lib.hid hp
  have hU := Lib.hid hu
  have HI := Lib.hid hinv
  have HJ := Lib.hid hj
  clear hp ht hj hv hu hinv hput
  go_enter Tryz.func49, Tryz.ntmps49
  go_wp2_with fail
  refine HH.out.mono ?_
  rintro e w1 ⟨rfl, rfl⟩
  go_wp2_with (at_lookup; refine wpL_lookup rfl _ _ true rfl uMap Tryz.underlying3 (zInt _) pt (putRows s.writes) n rfl hmp.out rfl ?_; simp only [ha, if_true, Option.getD_some, Option.isSome_some])
  go_end0
  refine ⟨rfl, HV.out.rebuild ((Fr.refl _ _).setCell _ _ (Or.inl (HV.out.inpv g rfl))) ?_ ?_ ?_ ?_ ?_ (fun k hk => Or.inl (HV.out.inrv k hk)) (fun k hk => Or.inl (HV.out.inpv k hk)) ?_ rfl rfl HI.out⟩
  · have hne : b ≠ g := fun e => ownsRow_elem HV.out.pr HV.out.cells (by decide) (congrArg some e.symm)
    exact (Below.heap_setCell w ⟨g, j * 2 + 1, none⟩ _ b hne).trans HV.out.cells
  · exact HV.out.mr.block (Below.heap_setCell _ _ _ _ (fun e => ownsRow_map HV.out.pr HV.out.mr (congrArg some e.symm)))
  · show MapIs _ pt (putRows (s.writes.set j (n, v)))
    rw [putRows_some v HJ.out]
    exact HV.out.mp.block (Below.heap_setCell _ _ _ _ (fun e => ownsRow_map HV.out.pr HV.out.mp (congrArg some e.symm)))
  · refine ownsRow_block HV.out.rr fun k hk => Below.heap_setCell _ _ _ _ ?_
    rintro rfl
    rcases HV.out.pr.2 with ⟨h5, -⟩ | ⟨g', cap', cur, h5, -, hg, -⟩
    · simp at h5
    · simp at h5
      obtain ⟨rfl, -⟩ := h5
      exact ownsRow_elem HV.out.rr hg (by decide) hk
  · show World.ownsRow _ 0 _ 2 _ (s.writes.set j (n, v)).length (pairCells (s.writes.set j (n, v)))
    rw [pairCells_set hU.out, List.length_set]
    exact (HV.out.pr.stored _ _).1
  · rintro k hk ⟨cur, hcur⟩
    refine Below.heap_setCell _ _ _ _ ?_
    rintro rfl
    exact ownsRow_elem HV.out.pr hcur (by decide) rfl

theorem infoPair : (Tryz.prog.info? 72).map (fun i => (i.zero, i.size, i.bytes)) = some (some (.agg #[.int .i64 0, .int .u32 0]), 2, 16) := by kernel_rfl

/-- where the walk of a new put stands behind the append. -/
theorem put_facts {w w1 w2 : World} {b : Nat} {S : Nat → Prop} {s : VS} {fv wv rv pv : Value} {rd pt n g' cap' : Nat} {T : TypeId} (hv : PVs w b S s fv wv rv pv rd pt) (hg1 : w.grownBy w1 (some pt))
    (hg2 : (w1.alloc (.cells #[.int .i64 n, .int .u32 0] T)).grownBy w2 pv.ownBlock) (hown : w2.ownsRow 0 72 2 (.slice (some ⟨g', 0, none⟩) (s.writes.length + 1) cap') (s.writes.length + 1) (pairCells s.writes ++ [.int .i64 n, .int .u32 0]))
    (hnew : ∀ k, (Value.slice (some ⟨g', 0, none⟩) (s.writes.length + 1) cap').ownBlock = some k → pv.ownBlock = some k ∨ (w1.alloc (.cells #[.int .i64 n, .int .u32 0] T)).heap.size ≤ k) :
    w2.cell? ⟨b, 6, none⟩ = some pv ∧ w2.frozen? ⟨b, 6, none⟩ = false ∧ w2.cell? ⟨g', s.writes.length * 2 + 1, none⟩ = some (.int .u32 0) ∧ w2.frozen? ⟨g', s.writes.length * 2 + 1, none⟩ = false ∧ b ≠ g' := by
  have hblt : b < w.heap.size := (Array.getElem?_eq_some_iff.1 hv.cells).1
  have hz1 := hg1.size
  have bb : w2.heap[b]? = w.heap[b]? := by
    rw [hg2.block b (by simp; omega) (fun e => ownsRow_elem hv.pr hv.cells (by decide) e.symm), Below.heap_alloc _ _ _ (by omega), hg1.block b hblt (by simpa using cells_map hv.cells hv.mp)]
  have hc := bb.trans hv.cells
  refine ⟨by rw [cell?_of_heap hc]; rfl, frozen_of_cells _ _ _ hc _, ?_, hown.frozenAt _, ?_⟩
  · rw [hown.cellAt _ (by omega)]
    have hl := pairCells_length s.writes
    rw [List.getElem?_append_right (by omega), hl]
    have : s.writes.length * 2 + 1 - s.writes.length * 2 = 1 := by omega
    rw [this]; rfl
  · rintro rfl
    rcases hnew b rfl with h | h
    · exact ownsRow_elem hv.pr hv.cells (by decide) h
    · simp at h; omega

theorem pairCells_add (l : List (Nat × Int)) (n : Nat) (v : Int) : pairCells (l ++ [(n, v)]) = pairCells l ++ [.int .i64 n, .int .u32 v] := by simp [pairCells]

theorem now_put {w w1 w2 : World} {b : Nat} {S : Nat → Prop} {s : VS} {fv wv rv pv : Value} {rd pt n g' cap' : Nat} {v : Int} {T : TypeId} (hv : PVs w b S s fv wv rv pv rd pt) (hg1 : w.grownBy w1 (some pt))
    (hg2 : (w1.alloc (.cells #[.int .i64 n, .int .u32 0] T)).grownBy w2 pv.ownBlock) (hown : w2.ownsRow 0 72 2 (.slice (some ⟨g', 0, none⟩) (s.writes.length + 1) cap') (s.writes.length + 1) (pairCells s.writes ++ [.int .i64 n, .int .u32 0]))
    (hnew : ∀ k, (Value.slice (some ⟨g', 0, none⟩) (s.writes.length + 1) cap').ownBlock = some k → pv.ownBlock = some k ∨ (w1.alloc (.cells #[.int .i64 n, .int .u32 0] T)).heap.size ≤ k)
    (hm1 : MapIs w1 pt (upsert (putRows s.writes) n s.writes.length)) (hbg : b ≠ g') (_hn : n ∉ s.writes.map (·.1)) (hj : wix s.writes n = none) (hi : VS.Inv { s with writes := s.writes ++ [(n, v)] }) :
    Now w b S { s with writes := s.writes ++ [(n, v)] } ((w2.setCell ⟨b, 6, none⟩ (.slice (some ⟨g', 0, none⟩) (s.writes.length + 1) cap')).setCell ⟨g', s.writes.length * 2 + 1, none⟩ (.int .u32 v)) := by
  have hblt : b < w.heap.size := (Array.getElem?_eq_some_iff.1 hv.cells).1
  have hbr := cells_map hv.cells hv.mr
  have hbp := cells_map hv.cells hv.mp
  have hz1 := hg1.size
  have hz2 := hg2.size
  simp only [World.size_alloc] at hz2
  have hg' := hnew g' rfl
  have hins : S g' ∨ w.heap.size ≤ g' := by
    rcases hg' with h | h
    · exact Or.inl (hv.inpv _ h)
    · simp at h; exact Or.inr (by omega)
  -- a block that is none of these is as it was
  have blk2 : ∀ k, k < w.heap.size → k ≠ pt → pv.ownBlock ≠ some k → w2.heap[k]? = w.heap[k]? := by
    intro k hk h1 h2
    rw [hg2.block k (by simp; omega) (fun e => h2 e.symm), Below.heap_alloc _ _ _ (by omega), hg1.block k hk (by simpa using h1)]
  have blk : ∀ k, k < w.heap.size → k ≠ pt → pv.ownBlock ≠ some k → k ≠ b → ((w2.setCell ⟨b, 6, none⟩ (.slice (some ⟨g', 0, none⟩) (s.writes.length + 1) cap')).setCell ⟨g', s.writes.length * 2 + 1, none⟩ (.int .u32 v)).heap[k]? = w.heap[k]? := by
    intro k hk h1 h2 h3
    have hkg : k ≠ g' := by
      rintro rfl
      rcases hg' with h | h
      · exact h2 h
      · simp at h; omega
    rw [Below.heap_setCell _ _ _ _ (by simpa using hkg), Below.heap_setCell _ _ _ _ (by simpa using h3)]
    exact blk2 k hk h1 h2
  have hpnm := ownsRow_map hv.pr hv.mp
  have hpnr := ownsRow_map hv.pr hv.mr
  have bb : w2.heap[b]? = w.heap[b]? := blk2 b hblt hbp (ownsRow_elem hv.pr hv.cells (by decide))
  have hc2 := Joins.block_setCell (i := 6) (bb.trans hv.cells) (.slice (some ⟨g', 0, none⟩) (s.writes.length + 1) cap')
  have F : Fr S w ((w2.setCell ⟨b, 6, none⟩ (.slice (some ⟨g', 0, none⟩) (s.writes.length + 1) cap')).setCell ⟨g', s.writes.length * 2 + 1, none⟩ (.int .u32 v)) :=
    ((((((Fr.refl S w).grown hg1 (fun k hk => by cases hk; exact Or.inl hv.inp)).alloc _).grown hg2 (fun k hk => Or.inl (hv.inpv k hk))).setCell _ _ (Or.inl hv.inb)).setCell _ _ hins)
  refine hv.rebuild (pv' := .slice (some ⟨g', 0, none⟩) (s.writes.length + 1) cap') F ?_ ?_ ?_ ?_ ?_ (fun k hk => Or.inl (hv.inrv k hk)) ?_ ?_ rfl rfl hi
  · rw [Below.heap_setCell _ _ _ _ (by simpa using hbg), hc2]
    rfl
  · refine hv.mr.block (blk rd hv.mr.lt hv.ne hpnr (fun e => hbr e.symm))
  · show MapIs _ pt (putRows (s.writes ++ [(n, v)]))
    rw [putRows_none v hj]
    have hpg : pt ≠ g' := by
      rintro rfl
      rcases hg' with h | h
      · exact hpnm h
      · simp at h; have := hv.mp.lt; omega
    refine hm1.block ?_
    rw [Below.heap_setCell _ _ _ _ (by simpa using hpg), Below.heap_setCell _ _ _ _ (by simpa using fun e => hbp e.symm), hg2.block pt (by simp; have := hm1.lt; omega) (fun e => hpnm e.symm), Below.heap_alloc _ _ _ hm1.lt]
  · refine ownsRow_block hv.rr fun k hk => blk k (ownsRow_lt hv.rr hk) ?_ ?_ ?_
    · exact fun e => ownsRow_map hv.rr hv.mp (by rw [hk, e])
    · intro e
      rcases hv.pr.2 with ⟨h5, -⟩ | ⟨g, cap, cur, h5, -, hg, -⟩
      · rw [h5] at e; simp [Value.ownBlock] at e
      · rw [h5] at e
        simp [Value.ownBlock] at e
        subst e
        exact ownsRow_elem hv.rr hg (by decide) hk
    · exact fun e => ownsRow_elem hv.rr hv.cells (by decide) (by rw [hk, e])
  · have h1 : (w2.setCell ⟨b, 6, none⟩ (.slice (some ⟨g', 0, none⟩) (s.writes.length + 1) cap')).ownsRow 0 72 2 (.slice (some ⟨g', 0, none⟩) (s.writes.length + 1) cap') (s.writes.length + 1) (pairCells s.writes ++ [.int .i64 n, .int .u32 0]) :=
      ownsRow_block hown fun k hk => Below.heap_setCell _ _ _ _ (by simp [Value.ownBlock] at hk; subst hk; simpa using fun e => hbg e.symm)
    have h2 := (h1.stored (s.writes.length * 2 + 1) (.int .u32 v)).1
    have h3 : (pairCells s.writes ++ [Value.int .i64 n, .int .u32 0]).set (s.writes.length * 2 + 1) (.int .u32 v) = pairCells (s.writes ++ [(n, v)]) := by
      have hl := pairCells_length s.writes
      rw [pairCells_add, List.set_append_right _ _ (by omega), hl]
      have : s.writes.length * 2 + 1 - s.writes.length * 2 = 1 := by omega
      rw [this]; rfl
    rw [h3] at h2
    simpa using h2
  · intro k hk
    simp [Value.ownBlock] at hk
    subst hk
    exact hins
  · rintro k hk ⟨cur, hcur⟩
    refine blk k hk (cells_map hcur hv.mp) (fun e => ownsRow_elem hv.pr hcur (by decide) e) ?_
    rintro rfl
    have := hv.cells
    rw [hcur] at this
    simp at this

set_option maxRecDepth 100000 in
theorem put_new (b : Nat) (i v : Int) (w : World) (S : Nat → Prop) (s : VS) (h : PV w b S s) (hv : VS.U32 v) (ht : s.there i = true) (hj : wix s.writes i.toNat = none) :
    Calls Tryz.prog 49 #[.pointer (some ⟨b, 0, none⟩), .int .i64 i, .int .u32 v] w fun e w' => e = .returned (.tuple #[]) ∧ Now w b S (s.put i v) w' := by
  have H := there_any b i w S s h
  rw [ht] at H
  have HH := Lib.hid H
  clear H
  have hinv := h.inv.put i v hv
  have hput : s.put i v = { s with writes := s.writes ++ [(i.toNat, v)] } := by simp [VS.put, ht, VS.setW, hj]
  rw [hput] at hinv ⊢
  obtain ⟨h0, h1, -⟩ := VS.there_iff.1 ht
  obtain ⟨n, rfl⟩ := Int.eq_ofNat_of_zero_le h0
  simp only [Int.toNat_natCast] at hj hinv ⊢
  obtain ⟨fv, wv, rv, pv, rd, pt, hp⟩ := h
  have hlen : ∃ a m c, pv = .slice a m c ∧ m = s.writes.length := by
    rcases hp.pr.2 with ⟨h5, h6⟩ | ⟨g', cap', cur, h5, -⟩
    · exact ⟨_, _, _, h5, h6.symm⟩
    · exact ⟨_, _, _, h5, rfl⟩
  obtain ⟨pa, pm, pc, rfl, rfl⟩ := hlen
  have ha : assoc (putRows s.writes) (n : Int) = none := by rw [assoc_put, hj]; rfl
  have c5 := hp.cell 5
  have c6 := hp.cell 6
  simp at c5 c6
  have hmp := Lib.hid hp.mp
  have hpr := Lib.hid hp.pr
  have hw := hp.inv.writes_le
  have hn := hp.inv.small
  have hbp := cells_map hp.cells hp.mp
  have hblt : b < w.heap.size := (Array.getElem?_eq_some_iff.1 hp.cells).1
  have hpnb := Lib.hid (ownsRow_elem hp.pr hp.cells (by decide))
  have hpnm := Lib.hid (ownsRow_map hp.pr hp.mp)
  have HV := Lib.hid hp
  have HI := Lib.hid hinv
  have HJ := Lib.hid hj
  obtain ⟨i0, hi0, hi1, hi2, hi3⟩ := info_parts infoPair
  have HT := Lib.hid (And.intro hi0 (And.intro hi1 (And.intro hi2 hi3)))
  clear hp ht hj hv hinv hput hi0 hi1 hi2 hi3
  go_enter Tryz.func49, Tryz.ntmps49
  go_wp2_with fail
  refine HH.out.mono ?_
  rintro e w1 ⟨rfl, rfl⟩
  go_wp2_with (first | (at_lookup; refine wpL_lookup rfl _ _ true rfl uMap Tryz.underlying3 (zInt _) pt (putRows s.writes) n rfl hmp.out rfl ?_; simp only [ha, if_true, Option.getD_none, Option.isSome_none]) | (at_mapUpdate; go_must (refine wpL_update rfl _ _ _ rfl uMap Tryz.underlying3 pt (putRows s.writes) n s.writes.length rfl hmp.out rfl rfl ?_); go_must (intro w1 hm1 hg1); go_must (have d6 : w1.cell? ⟨b, 6, none⟩ = some (.slice pa s.writes.length pc) := hg1.cell c6 (by simpa using hbp))) | (at_builtin; go_must (refine wpL_append rfl _ _ rfl 72 i0 (.agg #[.int .i64 0, .int .u32 0]) 2 16 Tryz.underlying45 HT.out.1 HT.out.2.1 HT.out.2.2.1 HT.out.2.2.2 rfl (by decide) (.slice pa s.writes.length pc) s.writes.length (pairCells s.writes) rfl ((hpr.out.kept hg1 (Or.inr hpnm.out)).alloc _) ⟨w1.heap.size, 0, none⟩ 1 1 [.int .i64 n, .int .u32 0] rfl rfl (World.news_of_block (heap_alloc_new w1 _)) ?c1 ?c2 ?c3 ?_); go_must (case c1 => (simp [Value.oneCell'])); go_must (case c2 => (unfold maxLen; omega)); go_must (case c3 => (omega)); go_must (intro v' w2 hown2 hg2 hnew2 hnil2); clear hnil2; go_must (obtain ⟨g', cap', rfl⟩ := Joins.ownsRow_form hown2 (by omega)); go_must (obtain ⟨e6, f6, x7, f7, hbg⟩ := put_facts HV.out hg1 hg2 hown2 hnew2)))
  go_end0
  exact ⟨rfl, now_put HV.out hg1 hg2 hown2 hnew2 hm1 hbg (wix_none.1 HJ.out) HJ.out HI.out⟩

theorem put_any (b : Nat) (i v : Int) (w : World) (S : Nat → Prop) (s : VS) (h : PV w b S s) (hv : VS.U32 v) :
    Calls Tryz.prog 49 #[.pointer (some ⟨b, 0, none⟩), .int .i64 i, .int .u32 v] w fun e w' => e = .returned (.tuple #[]) ∧ Now w b S (s.put i v) w' := by
  cases ht : s.there i with
  | false =>
    have e : s.put i v = s := by simp [VS.put, ht]
    rw [e]
    exact (put_no b i v w S s h ht).mono fun e w' ⟨h1, h2⟩ => ⟨h1, h2 ▸ Now.refl h⟩
  | true =>
    cases hj : wix s.writes i.toNat with
    | some j => exact put_old b i v w S s h hv ht j hj
    | none => exact put_new b i v w S s h hv ht hj

end Go.Proofs.YtpmoajhpgekhcaaGreat
/- views under way: a view, beside boxes of the call's own. -/
set_option linter.unusedSimpArgs false
set_option linter.unusedVariables false
namespace Go.Proofs.YtpmoajhpgekhcaaGreat
open Go.RowKit

/-- what a predicate of views must bear: it speaks of the blocks of S alone. -/
structure Keeps (R : World → Nat → (Nat → Prop) → VS → Prop) : Prop where
  keep : ∀ {w w' : World} {b : Nat} {S T : Nat → Prop} {s : VS}, R w b S s → Fr T w w' → (∀ k, S k → ¬ T k) → R w' b S s
  lt : ∀ {w : World} {b : Nat} {S : Nat → Prop} {s : VS}, R w b S s → ∀ k, S k → k < w.heap.size
  inv : ∀ {w : World} {b : Nat} {S : Nat → Prop} {s : VS}, R w b S s → s.Inv
  mono : ∀ {w : World} {b : Nat} {S S' : Nat → Prop} {s : VS}, R w b S s → (∀ k, S k → S' k) → (∀ k, S' k → k < w.heap.size) → R w b S' s

theorem keepsPV : Keeps PV := ⟨PV.keep, PV.lt, PV.inv, PV.mono⟩

/-- since w0 nothing but S has turned; the view at b is s; the boxes Ls are none of its. -/
structure VSt (R : World → Nat → (Nat → Prop) → VS → Prop) (w0 : World) (b : Nat) (S : Nat → Prop) (Ls : List Nat) (s : VS) (w : World) : Prop where
  ex : ∃ S1, R w b S1 s ∧ (∀ k, S1 k → S k ∨ w0.heap.size ≤ k) ∧ (∀ L ∈ Ls, ¬ S1 L)
  fr : Fr S w0 w
  ls : ∀ L ∈ Ls, L < w.heap.size ∧ w0.heap.size ≤ L
  s0 : ∀ k, S k → k < w0.heap.size

section
variable {R : World → Nat → (Nat → Prop) → VS → Prop} {w0 w w' : World} {b : Nat} {S : Nat → Prop} {Ls : List Nat} {s s' : VS}

theorem VSt.start (K : Keeps R) (h : R w b S s) : VSt R w b S [] s w := ⟨⟨S, h, fun _ hk => Or.inl hk, by simp⟩, Fr.refl _ _, by simp, K.lt h⟩

theorem VSt.below (K : Keeps R) (h : VSt R w0 b S Ls s w) (hb : Below w.heap.size w w') : VSt R w0 b S Ls s w' := by
  obtain ⟨S1, h1, h2, h4⟩ := h.ex
  exact ⟨⟨S1, K.keep (T := fun _ => False) h1 (Fr.of_below hb) (fun _ _ x => x), h2, h4⟩, h.fr.trans (S1 := fun _ => False) (Fr.of_below hb) (fun _ x => x.elim), fun L hL => ⟨Nat.lt_of_lt_of_le (h.ls L hL).1 hb.size, (h.ls L hL).2⟩, h.s0⟩

theorem VSt.alloc (K : Keeps R) (h : VSt R w0 b S Ls s w) (o : Obj) : VSt R w0 b S (w.heap.size :: Ls) s (w.alloc o) := by
  have hb : Below w.heap.size w (w.alloc o) := (Below.refl _ _).alloc (Nat.le_refl _) o
  obtain ⟨S1, h1, h2, h4⟩ := h.ex
  refine ⟨⟨S1, K.keep (T := fun _ => False) h1 (Fr.of_below hb) (fun _ _ x => x), h2, ?_⟩, h.fr.trans (S1 := fun _ => False) (Fr.of_below hb) (fun _ x => x.elim), ?_, h.s0⟩
  · intro L hL
    simp at hL
    rcases hL with rfl | hL
    · exact fun x => Nat.lt_irrefl _ (K.lt h1 _ x)
    · exact h4 L hL
  · intro L hL
    simp at hL
    rcases hL with rfl | hL
    · exact ⟨by simp, h.fr.size⟩
    · exact ⟨Nat.lt_of_lt_of_le (h.ls L hL).1 hb.size, (h.ls L hL).2⟩

theorem VSt.drew (K : Keeps R) (h : VSt R w0 b S Ls s w) : VSt R w0 b S Ls s w.drew := h.below K ((Below.refl _ _).drew)

theorem VSt.setCell (K : Keeps R) (h : VSt R w0 b S Ls s w) {L : Nat} (hL : L ∈ Ls) (o : Nat) (v : Value) : VSt R w0 b S Ls s (w.setCell ⟨L, o, none⟩ v) := by
  obtain ⟨S1, h1, h2, h4⟩ := h.ex
  have F : Fr (fun k => k = L) w (w.setCell ⟨L, o, none⟩ v) := (Fr.refl _ _).setCell _ _ (Or.inl rfl)
  exact ⟨⟨S1, K.keep h1 F (fun k hk e => h4 L hL (e ▸ hk)), h2, h4⟩, h.fr.setCell _ _ (Or.inr (h.ls L hL).2), fun M hM => ⟨by simpa using (h.ls M hM).1, (h.ls M hM).2⟩, h.s0⟩

theorem VSt.inv (K : Keeps R) (h : VSt R w0 b S Ls s w) : s.Inv := by
  obtain ⟨S1, h1, -⟩ := h.ex
  exact K.inv h1

/-- at the end: the boxes are let go. -/
theorem VSt.done (K : Keeps R) (h : VSt R w0 b S Ls s w) : R w b (upd S w0 w) s ∧ Fr S w0 w := by
  obtain ⟨S1, h1, h2, -⟩ := h.ex
  refine ⟨K.mono h1 (fun k hk => ?_) (fun k hk => ?_), h.fr⟩
  · rcases h2 k hk with h | h
    · exact Or.inl h
    · exact Or.inr ⟨h, K.lt h1 k hk⟩
  · rcases hk with hk | hk
    · exact Nat.lt_of_lt_of_le (h.s0 k hk) h.fr.size
    · exact hk.2

/-- a call that turns the view. -/
theorem calls_st {P : Program} {f : FuncId} {args : Array Value} {val : Value} (h : VSt R w0 b S Ls s w)
    (hc : ∀ S1, R w b S1 s → Calls P f args w fun e w' => e = .returned val ∧ (R w' b (upd S1 w w') s' ∧ Fr S1 w w')) :
    Calls P f args w fun e w' => e = .returned val ∧ VSt R w0 b S Ls s' w' ∧ ∀ L ∈ Ls, w'.heap[L]? = w.heap[L]? := by
  obtain ⟨S1, h1, h2, h4⟩ := h.ex
  refine (hc S1 h1).mono fun e w' ⟨he, hr, hf⟩ => ⟨he, ⟨⟨upd S1 w w', hr, ?_, ?_⟩, h.fr.trans hf h2, fun L hL => ⟨Nat.lt_of_lt_of_le (h.ls L hL).1 hf.size, (h.ls L hL).2⟩, h.s0⟩, fun L hL => hf.block L (h.ls L hL).1 (h4 L hL)⟩
  · intro k hk
    rcases hk with hk | hk
    · exact h2 k hk
    · have := h.fr.size; exact Or.inr (by omega)
  · intro L hL x
    rcases x with x | x
    · exact h4 L hL x
    · have := (h.ls L hL).1; omega

/-- a call that makes new blocks alone. -/
theorem calls_bl {P : Program} {f : FuncId} {args : Array Value} {val : Value} (K : Keeps R) (h : VSt R w0 b S Ls s w)
    (hc : Calls P f args w fun e w' => e = .returned val ∧ Below w.heap.size w w') :
    Calls P f args w fun e w' => e = .returned val ∧ VSt R w0 b S Ls s w' ∧ ∀ L ∈ Ls, w'.heap[L]? = w.heap[L]? :=
  hc.mono fun _ _ ⟨he, hb⟩ => ⟨he, h.below K hb, fun L hL => hb.block L (h.ls L hL).1⟩

theorem loc_step {L : Nat} {cs : Array Value} (hl : ∀ L ∈ Ls, w'.heap[L]? = w.heap[L]?) (hm : L ∈ Ls) (hc : ∀ o : Nat, w.cell? ⟨L, o, none⟩ = cs[o]?) : ∀ o : Nat, w'.cell? ⟨L, o, none⟩ = cs[o]? :=
  fun o => (World.cell?_of_block (a := ⟨L, o, none⟩) (hl L hm)).trans (hc o)
theorem loc_alloc (w : World) (cs : Array Value) (T : TypeId) : ∀ o : Nat, (w.alloc (.cells cs T)).cell? ⟨w.heap.size, o, none⟩ = cs[o]? := fun _ => cell?_of_heap (heap_alloc_new w _)
theorem loc_old {L : Nat} {cs : Array Value} (ob : Obj) (hL : L < w.heap.size) (hc : ∀ o : Nat, w.cell? ⟨L, o, none⟩ = cs[o]?) : ∀ i : Nat, (w.alloc ob).cell? ⟨L, i, none⟩ = cs[i]? :=
  fun i => (World.cell?_alloc_lt (a := ⟨L, i, none⟩) _ _ hL).trans (hc i)
theorem row_step {e size : Nat} {v : Value} {n : Nat} {xs : List Value} (hl : ∀ L ∈ Ls, w'.heap[L]? = w.heap[L]?) (hm : ∀ k, v.ownBlock = some k → k ∈ Ls) (h : w.ownsRow 0 e size v n xs) : w'.ownsRow 0 e size v n xs :=
  ownsRow_block h fun k hk => hl k (hm k hk)

/-- behind an append to a row of the call's own. -/
theorem VSt.grown (K : Keeps R) (h : VSt R w0 b S Ls s w) {row : Option Nat} (hg : w.grownBy w' row) (hr : ∀ k, row = some k → k ∈ Ls) (Ls' : List Nat) (hL : ∀ L ∈ Ls', L ∈ Ls ∨ (w.heap.size ≤ L ∧ L < w'.heap.size)) : VSt R w0 b S Ls' s w' := by
  obtain ⟨S1, h1, h2, h4⟩ := h.ex
  have F : Fr (fun k => row = some k) w w' := (Fr.refl _ _).grown hg (fun k hk => Or.inl hk)
  have hle := h.fr.size
  refine ⟨⟨S1, K.keep h1 F (fun k hk e => h4 k (hr k e) hk), h2, ?_⟩, h.fr.trans F (fun k hk => Or.inr (h.ls k (hr k hk)).2), ?_, h.s0⟩
  · intro L hm x
    rcases hL L hm with y | y
    · exact h4 L y x
    · exact absurd (K.lt h1 L x) (by omega)
  · intro L hm
    rcases hL L hm with y | y
    · exact ⟨Nat.lt_of_lt_of_le (h.ls L y).1 hg.size, (h.ls L y).2⟩
    · exact ⟨y.2, by omega⟩

theorem VSt.sub (h : VSt R w0 b S Ls s w) (Ls' : List Nat) (hL : ∀ L ∈ Ls', L ∈ Ls) : VSt R w0 b S Ls' s w := by
  obtain ⟨S1, h1, h2, h4⟩ := h.ex
  exact ⟨⟨S1, h1, h2, fun L hm => h4 L (hL L hm)⟩, h.fr, fun L hm => h.ls L (hL L hm), h.s0⟩

end
end Go.Proofs.YtpmoajhpgekhcaaGreat
/- conf: what Check answers of every configuration. -/
set_option linter.unusedSimpArgs false
set_option linter.unusedVariables false
namespace Go.Proofs.YtpmoajhpgekhcaaGreat
open Go.RowKit

def outB (n lo hi : Int) : Bool := decide (n < lo) || decide (hi < n)

/-- conf.Check$1 on a triple. -/
theorem check1_any (n lo hi : Int) (w : World) :
    Calls Tryz.prog 110 #[.agg #[.int .i64 n, .int .i64 lo, .int .i64 hi]] w fun e w' => e = .returned (.bool (outB n lo hi)) ∧ Below w.heap.size w w' := by
  go_enter Tryz.func110, Tryz.ntmps110
  go_wp2
  all_goals
    go_ret
    have h : w.heap.size ≤ w.heap.size := Nat.le_refl _
    refine ⟨by simp [outB, *], (Below.refl _ _).alloc h _⟩

def bndCells (t p s : Int) : Array Value := #[.int .i64 t, .int .i64 1, .int .i64 16, .int .i64 p, .int .i64 4, .int .i64 1024, .int .i64 s, .int .i64 10, .int .i64 20]

theorem bounds_any (t p s : Int) (w : World) :
    Calls Tryz.prog 109 #[.agg #[.int .i64 t, .int .i64 p, .int .i64 s]] w fun e w' => e = .returned (.slice (some ⟨w.heap.size + 1, 0, none⟩) 3 3) ∧ Below w.heap.size w w' ∧ w'.heap[w.heap.size + 1]? = some (.cells (bndCells t p s) 136) ∧ w'.heap.size = w.heap.size + 2 := by
  go_enter Tryz.func109, Tryz.ntmps109
  go_wp2
  exact bodyPost_ret (v := .slice (some ⟨w.heap.size + 1, 0, none⟩) 3 3) (by simp [results, Tryz.results109, go_sem]) rfl ⟨rfl, ((Below.refl _ _).alloc (Nat.le_refl _) _).alloc (by simp) _, by rw [← World.size_alloc w (.cells #[.int .i64 t, .int .i64 p, .int .i64 s] 23)]; exact heap_alloc_new (w.alloc _) _, by simp⟩

def rightB (t p s : Int) : Bool := !(outB t 1 16 || outB p 4 1024 || outB s 10 20)

def idxOf (t p s : Int) : Int := if outB t 1 16 then 0 else if outB p 4 1024 then 1 else if outB s 10 20 then 2 else -1

def IdxRel (t p s : Int) (w : World) (i : Value) (wr : World) : Prop := ∃ k : Nat, k ≤ 3 ∧ i = .int .i64 k ∧ (0 < k → outB t 1 16 = false) ∧ (1 < k → outB p 4 1024 = false) ∧ (2 < k → outB s 10 20 = false) ∧ Below w.heap.size w wr

theorem idx_any (t p s : Int) (g : Nat) (w : World) (h : w.heap[g]? = some (.cells (bndCells t p s) 136)) :
    Calls Tryz.prog 117 #[.slice (some ⟨g, 0, none⟩) 3 3, .func (.func 110) #[] #[]] w fun e w' => e = .returned (.int .i64 (idxOf t p s)) ∧ Below w.heap.size w w' := by
  have hlt : g < w.heap.size := (Array.getElem?_eq_some_iff.1 h).1
  have hcell : ∀ wr : World, Below w.heap.size w wr → ∀ o, wr.cell? ⟨g, o, none⟩ = (bndCells t p s)[o]? := by
    intro wr hb o
    rw [hb.cell (p := ⟨g, o, none⟩) hlt]
    simp [World.cell?, h]
  go_enter Tryz.func117, Tryz.ntmps117
  go_wp2
  go_loopw [5, 8] (fun _ i wr => IdxRel t p s w i wr) (fun _ i _ => 3 - (intOf i).toNat)
  case atStart => exact ⟨0, by omega, rfl, by omega, by omega, by omega, Below.refl _ _⟩
  case round =>
    obtain ⟨k, hk, rfl, h0, h1, h2, hb⟩ := hrel
    have hc := hcell _ hb
    clear hcell
    rcases (by omega : k = 0 ∨ k = 1 ∨ k = 2 ∨ k = 3) with rfl | rfl | rfl | rfl
    · have c0 := hc 0
      have c1 := hc 1
      have c2 := hc 2
      clear hc h0 h1 h2
      simp [bndCells] at c0 c1 c2
      cases hx : outB t 1 16
      · go_wp2_with (go_at_call 110; refine (check1_any _ _ _ _).mono ?_; rintro e w' ⟨rfl, hb'⟩)
        go_roundw
        case rel => exact ⟨1, by omega, rfl, fun _ => hx, by omega, by omega, hb.trans (hb'.mono hb.size)⟩
        case measure => simp [intOf]
      · go_wp2_with (go_at_call 110; refine (check1_any _ _ _ _).mono ?_; rintro e w' ⟨rfl, hb'⟩)
        go_ret
        exact ⟨by simp [idxOf, hx], hb.trans (hb'.mono hb.size)⟩
    · have c0 := hc 3
      have c1 := hc 4
      have c2 := hc 5
      have g0 := h0 (by omega)
      clear hc h0 h1 h2
      simp [bndCells] at c0 c1 c2
      cases hx : outB p 4 1024
      · go_wp2_with (go_at_call 110; refine (check1_any _ _ _ _).mono ?_; rintro e w' ⟨rfl, hb'⟩)
        go_roundw
        case rel => exact ⟨2, by omega, rfl, fun _ => g0, fun _ => hx, by omega, hb.trans (hb'.mono hb.size)⟩
        case measure => simp [intOf]
      · go_wp2_with (go_at_call 110; refine (check1_any _ _ _ _).mono ?_; rintro e w' ⟨rfl, hb'⟩)
        go_ret
        exact ⟨by simp [idxOf, hx, g0], hb.trans (hb'.mono hb.size)⟩
    · have c0 := hc 6
      have c1 := hc 7
      have c2 := hc 8
      have g0 := h0 (by omega)
      have g1 := h1 (by omega)
      clear hc h0 h1 h2
      simp [bndCells] at c0 c1 c2
      cases hx : outB s 10 20
      · go_wp2_with (go_at_call 110; refine (check1_any _ _ _ _).mono ?_; rintro e w' ⟨rfl, hb'⟩)
        go_roundw
        case rel => exact ⟨3, by omega, rfl, fun _ => g0, fun _ => g1, fun _ => hx, hb.trans (hb'.mono hb.size)⟩
        case measure => simp [intOf]
      · go_wp2_with (go_at_call 110; refine (check1_any _ _ _ _).mono ?_; rintro e w' ⟨rfl, hb'⟩)
        go_ret
        exact ⟨by simp [idxOf, hx, g0, g1], hb.trans (hb'.mono hb.size)⟩
    · have g0 := h0 (by omega)
      have g1 := h1 (by omega)
      have g2 := h2 (by omega)
      clear hc h0 h1 h2
      go_wp2
      go_ret
      exact ⟨by simp [idxOf, g0, g1, g2], hb⟩

theorem contains_any (t p s : Int) (g : Nat) (w : World) (h : w.heap[g]? = some (.cells (bndCells t p s) 136)) :
    Calls Tryz.prog 108 #[.slice (some ⟨g, 0, none⟩) 3 3, .func (.func 110) #[] #[]] w fun e w' => e = .returned (.bool (!rightB t p s)) ∧ Below w.heap.size w w' := by
  have hx : decide (0 ≤ idxOf t p s) = (!rightB t p s) := by
    unfold rightB idxOf
    cases outB t 1 16 <;> cases outB p 4 1024 <;> cases outB s 10 20 <;> rfl
  have H := idx_any t p s g w h
  generalize idxOf t p s = i at hx H
  rw [← hx]
  clear hx
  have HH := Lib.hid H; clear H
  go_enter Tryz.func108, Tryz.ntmps108
  go_wp2_with (go_at_call 117; refine (HH.out).mono ?_; rintro e w' ⟨rfl, hb⟩)
  go_ret
  exact ⟨rfl, hb⟩

theorem check_right (t p s : Int) (w : World) (hr : rightB t p s = true) :
    Calls Tryz.prog 95 #[.agg #[.int .i64 t, .int .i64 p, .int .i64 s]] w fun e w' => e = .returned (.int .i64 0) ∧ Below w.heap.size w w' := by
  go_enter Tryz.func95, Tryz.ntmps95
  go_wp2_with fail
  refine (bounds_any _ _ _ _).mono ?_
  rintro e w1 ⟨rfl, hb, hg, hs⟩
  go_wp2_with fail
  refine (contains_any t p s _ _ (by rw [World.size_alloc] at hg; exact hg)).mono ?_
  rintro e w2 ⟨rfl, hb2⟩
  go_wp2
  go_ret
  exact ⟨rfl, (((Below.refl _ _).alloc (Nat.le_refl _) _).trans (hb.mono (by simp))).trans (hb2.mono (by rw [hs]; simp; omega))⟩

theorem check_wrong (t p s : Int) (w : World) (hr : rightB t p s = false) :
    Calls Tryz.prog 95 #[.agg #[.int .i64 t, .int .i64 p, .int .i64 s]] w fun e w' => e = .returned (.int .i64 1) ∧ Below w.heap.size w w' := by
  go_enter Tryz.func95, Tryz.ntmps95
  go_wp2_with fail
  refine (bounds_any _ _ _ _).mono ?_
  rintro e w1 ⟨rfl, hb, hg, hs⟩
  go_wp2_with fail
  refine (contains_any t p s _ _ (by rw [World.size_alloc] at hg; exact hg)).mono ?_
  rintro e w2 ⟨rfl, hb2⟩
  go_wp2
  go_ret
  exact ⟨rfl, (((Below.refl _ _).alloc (Nat.le_refl _) _).trans (hb.mono (by simp))).trans (hb2.mono (by rw [hs]; simp; omega))⟩

end Go.Proofs.YtpmoajhpgekhcaaGreat
/- place: where cells and words lie. -/
set_option linter.unusedSimpArgs false
set_option linter.unusedVariables false
namespace Go.Proofs.YtpmoajhpgekhcaaGreat
open Go.RowKit

theorem right_bd {t p s : Int} (h : rightB t p s = true) : 1 ≤ t ∧ t ≤ 16 ∧ 4 ≤ p ∧ p ≤ 1024 ∧ 10 ≤ s ∧ s ≤ 20 := by
  simp [rightB, outB] at h; omega
theorem right_mk {t p s : Int} (h : 1 ≤ t ∧ t ≤ 16 ∧ 4 ≤ p ∧ p ≤ 1024 ∧ 10 ≤ s ∧ s ≤ 20) : rightB t p s = true := by
  simp [rightB, outB]; omega

def cellsN (t p : Int) : Int := 30 + 4 * t + 6 * p
def makersN (t p : Int) : Int := (16 + cellsN t p + 7) / 8 * 8
theorem lcells_any (t p s m : Int) (w : World) (hr : rightB t p s = true) :
    Calls Tryz.prog 96 #[.agg #[.int .i64 t, .int .i64 p, .int .i64 s, .int .i64 m]] w fun e w' => e = .returned (.int .i64 (cellsN t p)) ∧ Below w.heap.size w w' := by
  obtain ⟨b1, b2, b3, b4, b5, b6⟩ := right_bd hr
  clear hr
  go_enter Tryz.func96, Tryz.ntmps96
  go_wp2
  go_ret
  exact ⟨rfl, (Below.refl _ _).alloc (Nat.le_refl _) _⟩

theorem lay_right (t p s : Int) (w : World) (hr : rightB t p s = true) :
    Calls Tryz.prog 78 #[.agg #[.int .i64 t, .int .i64 p, .int .i64 s]] w fun e w' => e = .returned (.tuple #[.agg #[.int .i64 t, .int .i64 p, .int .i64 s, .int .i64 (makersN t p)], .bool true]) ∧ Below w.heap.size w w' := by
  have hb1 : 0 ≤ cellsN t p := by have := right_bd hr; unfold cellsN; omega
  have hb2 : cellsN t p ≤ 10000 := by have := right_bd hr; unfold cellsN; omega
  have hmk : (16 + cellsN t p + 8 - 1) / 8 * 8 = makersN t p := by unfold makersN; omega
  have Hmk := Lib.hid hmk
  clear hmk
  go_enter Tryz.func78, Tryz.ntmps78
  go_wp2_with fail
  refine (check_right _ _ _ _ hr).mono ?_
  rintro e w1 ⟨rfl, ha⟩
  obtain ⟨hac, haf⟩ := bcell ha
  have haz0 : w.heap.size < w1.heap.size := by have := ha.size; first | omega | (simp at this; omega)
  have haz1 : w.heap.size + 1 < w1.heap.size := by have := ha.size; first | omega | (simp at this; omega)
  go_wp2_with fail
  refine (lcells_any _ _ _ _ _ hr).mono ?_
  rintro e w2 ⟨rfl, hb⟩
  obtain ⟨hbc, hbf⟩ := bcell hb
  have hbz0 : w1.heap.size < w2.heap.size := by have := hb.size; first | omega | (simp at this; omega)
  go_wp2
  refine bodyPost_ret (v := .tuple #[.agg #[.int .i64 t, .int .i64 p, .int .i64 s, .int .i64 ((16 + cellsN t p + 8 - 1) / 8 * 8)], .bool true]) (by simp [results, Tryz.results78, go_sem, *]) rfl ⟨by rw [Hmk.out], ?_⟩
  (repeat (first | exact Below.refl _ _ | assumption | refine Below.setCell ?_ (by first | omega | (simp; done) | (simp; omega)) _ | refine Below.alloc ?_ (by first | omega | (simp; done) | (simp; omega)) _ | refine Below.drew ?_ | refine Below.trans ?_ (Below.mono ‹Below _ _ _› (by first | omega | (simp; done) | (simp; omega)))))

theorem lay_wrong (t p s : Int) (w : World) (hr : rightB t p s = false) :
    Calls Tryz.prog 78 #[.agg #[.int .i64 t, .int .i64 p, .int .i64 s]] w fun e w' => e = .returned (.tuple #[.agg #[.int .i64 0, .int .i64 0, .int .i64 0, .int .i64 0], .bool false]) ∧ Below w.heap.size w w' := by
  go_enter Tryz.func78, Tryz.ntmps78
  go_wp2_with fail
  refine (check_wrong _ _ _ _ hr).mono ?_
  rintro e w1 ⟨rfl, ha⟩
  obtain ⟨hac, haf⟩ := bcell ha
  have haz0 : w.heap.size < w1.heap.size := by have := ha.size; first | omega | (simp at this; omega)
  have haz1 : w.heap.size + 1 < w1.heap.size := by have := ha.size; first | omega | (simp at this; omega)
  go_wp2
  refine bodyPost_ret (v := .tuple #[.agg #[.int .i64 0, .int .i64 0, .int .i64 0, .int .i64 0], .bool false]) (by simp [results, Tryz.results78, go_sem, *]) rfl ⟨rfl, ?_⟩
  (repeat (first | exact Below.refl _ _ | assumption | refine Below.setCell ?_ (by first | omega | (simp; done) | (simp; omega)) _ | refine Below.alloc ?_ (by first | omega | (simp; done) | (simp; omega)) _ | refine Below.drew ?_ | refine Below.trans ?_ (Below.mono ‹Below _ _ _› (by first | omega | (simp; done) | (simp; omega)))))

def cellsF (t p s : Int) : Int := if rightB t p s then cellsN t p else 0
def withinF (f i m : Int) : Int := if i < 0 ∨ m ≤ i then -1 else f + i

theorem within_any (f i m : Int) (w : World) (h1 : 0 ≤ f) (h2 : f ≤ 1000000) (h3 : m ≤ 1000000) :
    Calls Tryz.prog 87 #[.int .i64 f, .int .i64 i, .int .i64 m] w fun e w' => e = .returned (.int .i64 (withinF f i m)) ∧ w = w' := by
  by_cases h4 : i < 0
  · have hF : withinF f i m = -1 := by simp [withinF, h4]
    rw [hF]
    go_enter Tryz.func87, Tryz.ntmps87
    go_wp2
    go_ret
    exact ⟨rfl, rfl⟩
  · by_cases h5 : m ≤ i
    · have hF : withinF f i m = -1 := by simp [withinF, h5]
      rw [hF]
      go_enter Tryz.func87, Tryz.ntmps87
      go_wp2
      go_ret
      exact ⟨rfl, rfl⟩
    · have hF : withinF f i m = f + i := by simp [withinF, h5, h4]
      rw [hF]
      go_enter Tryz.func87, Tryz.ntmps87
      go_wp2
      go_ret
      exact ⟨rfl, rfl⟩

def ofF (t p s q part : Int) : Int := if rightB t p s = true ∧ 0 ≤ q ∧ q < p then 30 + 4 * t + 6 * q + part else -1

theorem of_any (t p s q part : Int) (w : World) (h1 : 0 ≤ part) (h2 : part ≤ 5) :
    Calls Tryz.prog 48 #[.agg #[.int .i64 t, .int .i64 p, .int .i64 s], .int .i64 q, .int .i64 part] w fun e w' => e = .returned (.int .i64 (ofF t p s q part)) ∧ Below w.heap.size w w' := by
  cases hr : rightB t p s
  · have hF : ofF t p s q part = -1 := by simp [ofF, hr]
    rw [hF]
    go_enter Tryz.func48, Tryz.ntmps48
    go_wp2_with fail
    refine (lay_wrong _ _ _ _ hr).mono ?_
    rintro e w1 ⟨rfl, ha⟩
    obtain ⟨hac, haf⟩ := bcell ha
    have haz0 : w.heap.size < w1.heap.size := by have := ha.size; first | omega | (simp at this; omega)
    go_wp2
    go_ret
    refine ⟨rfl, ?_⟩
    (repeat (first | exact Below.refl _ _ | assumption | refine Below.setCell ?_ (by first | omega | (simp; done) | (simp; omega)) _ | refine Below.alloc ?_ (by first | omega | (simp; done) | (simp; omega)) _ | refine Below.drew ?_ | refine Below.trans ?_ (Below.mono ‹Below _ _ _› (by first | omega | (simp; done) | (simp; omega)))))
  · obtain ⟨b1, b2, b3, b4, b5, b6⟩ := right_bd hr
    by_cases h4 : q < 0
    · have hF : ofF t p s q part = -1 := by simp [ofF, hr]; omega
      rw [hF]
      go_enter Tryz.func48, Tryz.ntmps48
      go_wp2_with fail
      refine (lay_right _ _ _ _ hr).mono ?_
      rintro e w1 ⟨rfl, ha⟩
      obtain ⟨hac, haf⟩ := bcell ha
      have haz0 : w.heap.size < w1.heap.size := by have := ha.size; first | omega | (simp at this; omega)
      go_wp2
      go_ret
      refine ⟨rfl, ?_⟩
      (repeat (first | exact Below.refl _ _ | assumption | refine Below.setCell ?_ (by first | omega | (simp; done) | (simp; omega)) _ | refine Below.alloc ?_ (by first | omega | (simp; done) | (simp; omega)) _ | refine Below.drew ?_ | refine Below.trans ?_ (Below.mono ‹Below _ _ _› (by first | omega | (simp; done) | (simp; omega)))))
    · by_cases h5 : p ≤ q
      · have hF : ofF t p s q part = -1 := by simp [ofF, hr]; omega
        rw [hF]
        go_enter Tryz.func48, Tryz.ntmps48
        go_wp2_with fail
        refine (lay_right _ _ _ _ hr).mono ?_
        rintro e w1 ⟨rfl, ha⟩
        obtain ⟨hac, haf⟩ := bcell ha
        have haz0 : w.heap.size < w1.heap.size := by have := ha.size; first | omega | (simp at this; omega)
        go_wp2
        go_ret
        refine ⟨rfl, ?_⟩
        (repeat (first | exact Below.refl _ _ | assumption | refine Below.setCell ?_ (by first | omega | (simp; done) | (simp; omega)) _ | refine Below.alloc ?_ (by first | omega | (simp; done) | (simp; omega)) _ | refine Below.drew ?_ | refine Below.trans ?_ (Below.mono ‹Below _ _ _› (by first | omega | (simp; done) | (simp; omega)))))
      · have hF : ofF t p s q part = 30 + 4 * t + 6 * q + part := by simp [ofF, hr]; omega
        rw [hF]
        go_enter Tryz.func48, Tryz.ntmps48
        go_wp2_with fail
        refine (lay_right _ _ _ _ hr).mono ?_
        rintro e w1 ⟨rfl, ha⟩
        obtain ⟨hac, haf⟩ := bcell ha
        have haz0 : w.heap.size < w1.heap.size := by have := ha.size; first | omega | (simp at this; omega)
        go_wp2
        go_ret
        refine ⟨rfl, ?_⟩
        (repeat (first | exact Below.refl _ _ | assumption | refine Below.setCell ?_ (by first | omega | (simp; done) | (simp; omega)) _ | refine Below.alloc ?_ (by first | omega | (simp; done) | (simp; omega)) _ | refine Below.drew ?_ | refine Below.trans ?_ (Below.mono ‹Below _ _ _› (by first | omega | (simp; done) | (simp; omega)))))

end Go.Proofs.YtpmoajhpgekhcaaGreat
/- link: Push, Pull and Walk of the program. -/
set_option linter.unusedSimpArgs false
set_option linter.unusedVariables false
namespace Go.Proofs.YtpmoajhpgekhcaaGreat
open Go.RowKit

theorem next_any (t p s q : Int) (w : World) :
    Calls Tryz.prog 104 #[.agg #[.int .i64 t, .int .i64 p, .int .i64 s], .int .i64 q] w fun e w' => e = .returned (.int .i64 (ofF t p s q 2)) ∧ Below w.heap.size w w' := by
  go_enter Tryz.func104, Tryz.ntmps104
  go_wp2_with fail
  refine (of_any _ _ _ _ _ _ (by omega) (by omega)).mono ?_
  rintro e w1 ⟨rfl, ha⟩
  obtain ⟨hac, haf⟩ := bcell ha
  go_wp2
  go_ret
  refine ⟨rfl, ?_⟩
  (repeat (first | exact Below.refl _ _ | assumption | refine Below.setCell ?_ (by first | omega | (simp; done) | (simp; omega)) _ | refine Below.alloc ?_ (by first | omega | (simp; done) | (simp; omega)) _ | refine Below.drew ?_ | refine Below.trans ?_ (Below.mono ‹Below _ _ _› (by first | omega | (simp; done) | (simp; omega)))))
theorem prev_any (t p s q : Int) (w : World) :
    Calls Tryz.prog 105 #[.agg #[.int .i64 t, .int .i64 p, .int .i64 s], .int .i64 q] w fun e w' => e = .returned (.int .i64 (ofF t p s q 3)) ∧ Below w.heap.size w w' := by
  go_enter Tryz.func105, Tryz.ntmps105
  go_wp2_with fail
  refine (of_any _ _ _ _ _ _ (by omega) (by omega)).mono ?_
  rintro e w1 ⟨rfl, ha⟩
  obtain ⟨hac, haf⟩ := bcell ha
  go_wp2
  go_ret
  refine ⟨rfl, ?_⟩
  (repeat (first | exact Below.refl _ _ | assumption | refine Below.setCell ?_ (by first | omega | (simp; done) | (simp; omega)) _ | refine Below.alloc ?_ (by first | omega | (simp; done) | (simp; omega)) _ | refine Below.drew ?_ | refine Below.trans ?_ (Below.mono ‹Below _ _ _› (by first | omega | (simp; done) | (simp; omega)))))
theorem lnext_any (b : Nat) (t p s h q : Int) (w : World) :
    Calls Tryz.prog 84 #[.agg #[.pointer (some ⟨b, 0, none⟩), .int .i64 t, .int .i64 p, .int .i64 s, .int .i64 h], .int .i64 q] w fun e w' => e = .returned (.int .i64 (ofF t p s q 2)) ∧ Below w.heap.size w w' := by
  go_enter Tryz.func84, Tryz.ntmps84
  go_wp2_with fail
  refine (next_any _ _ _ _ _).mono ?_
  rintro e w1 ⟨rfl, ha⟩
  obtain ⟨hac, haf⟩ := bcell ha
  go_wp2
  go_ret
  refine ⟨rfl, ?_⟩
  (repeat (first | exact Below.refl _ _ | assumption | refine Below.setCell ?_ (by first | omega | (simp; done) | (simp; omega)) _ | refine Below.alloc ?_ (by first | omega | (simp; done) | (simp; omega)) _ | refine Below.drew ?_ | refine Below.trans ?_ (Below.mono ‹Below _ _ _› (by first | omega | (simp; done) | (simp; omega)))))
theorem lprev_any (b : Nat) (t p s h q : Int) (w : World) :
    Calls Tryz.prog 85 #[.agg #[.pointer (some ⟨b, 0, none⟩), .int .i64 t, .int .i64 p, .int .i64 s, .int .i64 h], .int .i64 q] w fun e w' => e = .returned (.int .i64 (ofF t p s q 3)) ∧ Below w.heap.size w w' := by
  go_enter Tryz.func85, Tryz.ntmps85
  go_wp2_with fail
  refine (prev_any _ _ _ _ _).mono ?_
  rintro e w1 ⟨rfl, ha⟩
  obtain ⟨hac, haf⟩ := bcell ha
  go_wp2
  go_ret
  refine ⟨rfl, ?_⟩
  (repeat (first | exact Below.refl _ _ | assumption | refine Below.setCell ?_ (by first | omega | (simp; done) | (simp; omega)) _ | refine Below.alloc ?_ (by first | omega | (simp; done) | (simp; omega)) _ | refine Below.drew ?_ | refine Below.trans ?_ (Below.mono ‹Below _ _ _› (by first | omega | (simp; done) | (simp; omega)))))
def pageB (p q : Int) : Bool := decide (0 ≤ q) && decide (q < p)
theorem lpage_any (b : Nat) (t p s h q : Int) (w : World) :
    Calls Tryz.prog 83 #[.agg #[.pointer (some ⟨b, 0, none⟩), .int .i64 t, .int .i64 p, .int .i64 s, .int .i64 h], .int .i64 q] w fun e w' => e = .returned (.bool (pageB p q)) ∧ Below w.heap.size w w' := by
  by_cases h1 : 0 ≤ q
  · have hF : pageB p q = decide (q < p) := by simp [pageB, h1]
    rw [hF]
    go_enter Tryz.func83, Tryz.ntmps83
    go_wp2
    go_ret
    refine ⟨rfl, ?_⟩
    (repeat (first | exact Below.refl _ _ | assumption | refine Below.setCell ?_ (by first | omega | (simp; done) | (simp; omega)) _ | refine Below.alloc ?_ (by first | omega | (simp; done) | (simp; omega)) _ | refine Below.drew ?_ | refine Below.trans ?_ (Below.mono ‹Below _ _ _› (by first | omega | (simp; done) | (simp; omega)))))
  · have hF : pageB p q = false := by simp [pageB, h1]
    rw [hF]
    go_enter Tryz.func83, Tryz.ntmps83
    go_wp2
    go_ret
    refine ⟨rfl, ?_⟩
    (repeat (first | exact Below.refl _ _ | assumption | refine Below.setCell ?_ (by first | omega | (simp; done) | (simp; omega)) _ | refine Below.alloc ?_ (by first | omega | (simp; done) | (simp; omega)) _ | refine Below.drew ?_ | refine Below.trans ?_ (Below.mono ‹Below _ _ _› (by first | omega | (simp; done) | (simp; omega)))))
theorem to_any (v : Int) (w : World) (hv : VS.U32 v) :
    Calls Tryz.prog 86 #[.int .u32 v] w fun e w' => e = .returned (.int .i64 (v - 1)) ∧ w = w' := by
  obtain ⟨h1, h2⟩ := hv
  go_enter Tryz.func86, Tryz.ntmps86
  go_wp2
  go_ret
  exact ⟨rfl, rfl⟩

/-- what Push does. -/
def pushF (t p s : Int) (head q : Int) (st : VS) : VS :=
  if pageB p q = true then
    let g := st.get head
    let s1 := g.2.put (ofF t p s q 2) g.1
    let s2 := s1.put (ofF t p s q 3) 0
    let s3 := if g.1 = 0 then s2 else s2.put (ofF t p s (g.1 - 1) 3) (q + 1)
    s3.put head (q + 1)
  else st

theorem push_no (b : Nat) (t p s head q : Int) (w : World) (S : Nat → Prop) (st : VS) (h : PV w b S st) (hq : pageB p q = false) :
    Calls Tryz.prog 52 #[.pointer (some ⟨b, 0, none⟩), .agg #[.int .i64 t, .int .i64 p, .int .i64 s], .int .i64 head, .int .i64 q] w fun e w' => e = .returned (.tuple #[]) ∧ Now w b S st w' := by
  have hV := ((VSt.start keepsPV h).alloc keepsPV (.cells #[.int .i64 t, .int .i64 p, .int .i64 s] 23)).alloc keepsPV (.cells #[.pointer (some ⟨b, 0, none⟩), .int .i64 t, .int .i64 p, .int .i64 s, .int .i64 head] 116)
  have H := fun w => lpage_any b t p s head q w
  rw [hq] at H
  have HH := Lib.hid H
  clear H h
  go_enter Tryz.func52, Tryz.ntmps52
  go_wp2_with fail
  refine (calls_bl keepsPV hV (HH.out _)).mono ?_
  rintro e w1 ⟨rfl, hV1, hl1⟩
  clear hl1
  go_wp2
  refine bodyPost_ret (results_none rfl _ _ _) rfl ?_
  exact ⟨rfl, hV1.done keepsPV⟩

end Go.Proofs.YtpmoajhpgekhcaaGreat
/- link: Push of the program, whole. -/
set_option linter.unusedSimpArgs false
set_option linter.unusedVariables false
namespace Go.Proofs.YtpmoajhpgekhcaaGreat
open Go.RowKit

theorem push_zero (b : Nat) (t p s head q : Int) (w : World) (S : Nat → Prop) (st : VS) (h : PV w b S st) (hq : pageB p q = true) (hp : p ≤ 1024) (h0 : (st.get head).1 = 0) :
    Calls Tryz.prog 52 #[.pointer (some ⟨b, 0, none⟩), .agg #[.int .i64 t, .int .i64 p, .int .i64 s], .int .i64 head, .int .i64 q] w fun e w' => e = .returned (.tuple #[]) ∧ Now w b S (pushF t p s head q st) w' := by
  have hV := ((VSt.start keepsPV h).alloc keepsPV (.cells #[.int .i64 t, .int .i64 p, .int .i64 s] 23)).alloc keepsPV (.cells #[.pointer (some ⟨b, 0, none⟩), .int .i64 t, .int .i64 p, .int .i64 s, .int .i64 head] 116)
  have c0 := loc_alloc (w.alloc (.cells #[.int .i64 t, .int .i64 p, .int .i64 s] 23)) #[.pointer (some ⟨b, 0, none⟩), .int .i64 t, .int .i64 p, .int .i64 s, .int .i64 head] 116
  simp only [World.size_alloc] at hV c0
  have H := fun w => lpage_any b t p s head q w
  rw [hq] at H
  have HH := Lib.hid H
  have hu := VS.get_u32 h.inv head
  have hF : pushF t p s head q st = (((st.get head).2.put (ofF t p s q 2) (st.get head).1).put (ofF t p s q 3) 0).put head (q + 1) := by simp [pushF, hq, h0]
  rw [hF]
  have hb : ((st.get head).1 != 0) = false := by simp [h0]
  have hq1 : 0 ≤ q := by simp [pageB] at hq; omega
  have hq2 : q < 1024 := by simp [pageB] at hq; omega
  have HU := Lib.hid hu
  have HQ : VS.U32 (q + 1) := ⟨by omega, by omega⟩
  have HQ' := Lib.hid HQ
  have hq3 : IntKind.i64.wrap (q + 1) = q + 1 := wrap_in _ (by omega)
  have hq4 : IntKind.u32.wrap (q + 1) = q + 1 := IntWalk.u32_in _ (by omega)
  have HG := Lib.hid (fun (w : World) (S1 : Nat → Prop) (h1 : PV w b S1 st) => get_any b head w S1 st h1)
  clear H h hF hu HQ h0 hq
  generalize (st.get head).2 = s1 at *
  generalize (st.get head).1 = v at *
  go_enter Tryz.func52, Tryz.ntmps52
  go_wp2_with fail
  refine (calls_bl keepsPV hV (HH.out _)).mono ?_
  rintro e w1 ⟨rfl, hV1, hV1l⟩
  have c1 := loc_step hV1l (by simp) c0
  clear hV1l
  go_wp2_with fail
  refine (calls_st hV1 (HG.out w1)).mono ?_
  rintro e w2 ⟨rfl, hV2, hV2l⟩
  have c2 := loc_step hV2l (by simp) c1
  clear hV2l
  go_wp2_with fail
  first | go_region_held3 (fun w' => (∀ o : Nat, w'.cell? ⟨w.heap.size + 1, o, none⟩ = (#[.pointer (some ⟨b, 0, none⟩), .int .i64 t, .int .i64 p, .int .i64 s, .int .i64 head] : Array Value)[o]?)) (first | assumption | exact c2) (first | (go_at_call 84; go_must (refine (calls_bl keepsPV (hV2.drew keepsPV) (lnext_any _ _ _ _ _ _ _)).mono ?_); go_must (rintro e w3 ⟨rfl, hV3, hV3l⟩); go_must (have c3 := loc_step hV3l (by simp) c2); clear hV3l) | (go_at_call 49; go_must (refine (calls_st hV3 (fun S1 h1 => put_any _ _ _ _ _ _ h1 HU.out)).mono ?_); go_must (rintro e w4 ⟨rfl, hV4, hV4l⟩); go_must (have c4 := loc_step hV4l (by simp) c3); clear hV4l)) | fail
  go_wp2_with fail
  first | go_region_held3 (fun w' => (∀ o : Nat, w'.cell? ⟨w.heap.size + 1, o, none⟩ = (#[.pointer (some ⟨b, 0, none⟩), .int .i64 t, .int .i64 p, .int .i64 s, .int .i64 head] : Array Value)[o]?)) (first | assumption | exact c4) (first | (go_at_call 85; go_must (refine (calls_bl keepsPV (hV4.drew keepsPV) (lprev_any _ _ _ _ _ _ _)).mono ?_); go_must (rintro e w5 ⟨rfl, hV5, hV5l⟩); go_must (have c5 := loc_step hV5l (by simp) c4); clear hV5l) | (go_at_call 49; go_must (refine (calls_st hV5 (fun S1 h1 => put_any _ _ _ _ _ _ h1 VS.u32_zero)).mono ?_); go_must (rintro e w6 ⟨rfl, hV6, hV6l⟩); go_must (have c6 := loc_step hV6l (by simp) c5); clear hV6l)) | fail
  go_wp2_with fail
  refine (calls_st hV6 (fun S1 h1 => put_any _ _ _ _ _ _ h1 HQ'.out)).mono ?_
  rintro e w7 ⟨rfl, hV7, hV7l⟩
  have c7 := loc_step hV7l (by simp) c6
  clear hV7l
  go_wp2
  go_end0
  exact ⟨rfl, hV7.done keepsPV⟩

set_option maxRecDepth 100000 in
theorem push_more (b : Nat) (t p s head q : Int) (w : World) (S : Nat → Prop) (st : VS) (h : PV w b S st) (hq : pageB p q = true) (hp : p ≤ 1024) (h0 : (st.get head).1 ≠ 0) :
    Calls Tryz.prog 52 #[.pointer (some ⟨b, 0, none⟩), .agg #[.int .i64 t, .int .i64 p, .int .i64 s], .int .i64 head, .int .i64 q] w fun e w' => e = .returned (.tuple #[]) ∧ Now w b S (pushF t p s head q st) w' := by
  have hV := ((VSt.start keepsPV h).alloc keepsPV (.cells #[.int .i64 t, .int .i64 p, .int .i64 s] 23)).alloc keepsPV (.cells #[.pointer (some ⟨b, 0, none⟩), .int .i64 t, .int .i64 p, .int .i64 s, .int .i64 head] 116)
  have c0 := loc_alloc (w.alloc (.cells #[.int .i64 t, .int .i64 p, .int .i64 s] 23)) #[.pointer (some ⟨b, 0, none⟩), .int .i64 t, .int .i64 p, .int .i64 s, .int .i64 head] 116
  simp only [World.size_alloc] at hV c0
  have H := fun w => lpage_any b t p s head q w
  rw [hq] at H
  have HH := Lib.hid H
  have hu := VS.get_u32 h.inv head
  have hF : pushF t p s head q st = ((((st.get head).2.put (ofF t p s q 2) (st.get head).1).put (ofF t p s q 3) 0).put (ofF t p s ((st.get head).1 - 1) 3) (q + 1)).put head (q + 1) := by simp [pushF, hq, h0]
  rw [hF]
  have hb : ((st.get head).1 != 0) = true := by simp [h0]
  have hq1 : 0 ≤ q := by simp [pageB] at hq; omega
  have hq2 : q < 1024 := by simp [pageB] at hq; omega
  have HU := Lib.hid hu
  have HQ : VS.U32 (q + 1) := ⟨by omega, by omega⟩
  have HQ' := Lib.hid HQ
  have hq3 : IntKind.i64.wrap (q + 1) = q + 1 := wrap_in _ (by omega)
  have hq4 : IntKind.u32.wrap (q + 1) = q + 1 := IntWalk.u32_in _ (by omega)
  have HG := Lib.hid (fun (w : World) (S1 : Nat → Prop) (h1 : PV w b S1 st) => get_any b head w S1 st h1)
  clear H h hF hu HQ h0 hq
  generalize (st.get head).2 = s1 at *
  generalize (st.get head).1 = v at *
  go_enter Tryz.func52, Tryz.ntmps52
  go_wp2_with fail
  refine (calls_bl keepsPV hV (HH.out _)).mono ?_
  rintro e w1 ⟨rfl, hV1, hV1l⟩
  have c1 := loc_step hV1l (by simp) c0
  clear hV1l
  go_wp2_with fail
  refine (calls_st hV1 (HG.out w1)).mono ?_
  rintro e w2 ⟨rfl, hV2, hV2l⟩
  have c2 := loc_step hV2l (by simp) c1
  clear hV2l
  go_wp2_with fail
  first | go_region_held3 (fun w' => (∀ o : Nat, w'.cell? ⟨w.heap.size + 1, o, none⟩ = (#[.pointer (some ⟨b, 0, none⟩), .int .i64 t, .int .i64 p, .int .i64 s, .int .i64 head] : Array Value)[o]?)) (first | assumption | exact c2) (first | (go_at_call 84; go_must (refine (calls_bl keepsPV (hV2.drew keepsPV) (lnext_any _ _ _ _ _ _ _)).mono ?_); go_must (rintro e w3 ⟨rfl, hV3, hV3l⟩); go_must (have c3 := loc_step hV3l (by simp) c2); clear hV3l) | (go_at_call 49; go_must (refine (calls_st hV3 (fun S1 h1 => put_any _ _ _ _ _ _ h1 HU.out)).mono ?_); go_must (rintro e w4 ⟨rfl, hV4, hV4l⟩); go_must (have c4 := loc_step hV4l (by simp) c3); clear hV4l)) | fail
  go_wp2_with fail
  first | go_region_held3 (fun w' => (∀ o : Nat, w'.cell? ⟨w.heap.size + 1, o, none⟩ = (#[.pointer (some ⟨b, 0, none⟩), .int .i64 t, .int .i64 p, .int .i64 s, .int .i64 head] : Array Value)[o]?)) (first | assumption | exact c4) (first | (go_at_call 85; go_must (refine (calls_bl keepsPV (hV4.drew keepsPV) (lprev_any _ _ _ _ _ _ _)).mono ?_); go_must (rintro e w5 ⟨rfl, hV5, hV5l⟩); go_must (have c5 := loc_step hV5l (by simp) c4); clear hV5l) | (go_at_call 49; go_must (refine (calls_st hV5 (fun S1 h1 => put_any _ _ _ _ _ _ h1 VS.u32_zero)).mono ?_); go_must (rintro e w6 ⟨rfl, hV6, hV6l⟩); go_must (have c6 := loc_step hV6l (by simp) c5); clear hV6l)) | fail
  go_wp2_with fail
  first | go_region_held3 (fun w' => (∀ o : Nat, w'.cell? ⟨w.heap.size + 1, o, none⟩ = (#[.pointer (some ⟨b, 0, none⟩), .int .i64 t, .int .i64 p, .int .i64 s, .int .i64 head] : Array Value)[o]?)) (first | assumption | exact c6) (first | (go_at_call 86; go_must (refine (calls_bl keepsPV (hV6.drew keepsPV) ((to_any _ _ HU.out).mono fun _ _ x => ⟨x.1, x.2 ▸ Below.refl _ _⟩)).mono ?_); go_must (rintro e w7 ⟨rfl, hV7, hV7l⟩); go_must (have c7 := loc_step hV7l (by simp) c6); clear hV7l) | (go_at_call 85; go_must (refine (calls_bl keepsPV hV7 (lprev_any _ _ _ _ _ _ _)).mono ?_); go_must (rintro e w8 ⟨rfl, hV8, hV8l⟩); go_must (have c8 := loc_step hV8l (by simp) c7); clear hV8l) | (go_at_call 49; go_must (refine (calls_st hV8 (fun S1 h1 => put_any _ _ _ _ _ _ h1 HQ'.out)).mono ?_); go_must (rintro e w9 ⟨rfl, hV9, hV9l⟩); go_must (have c9 := loc_step hV9l (by simp) c8); clear hV9l)) | fail
  go_wp2_with fail
  refine (calls_st hV9 (fun S1 h1 => put_any _ _ _ _ _ _ h1 HQ'.out)).mono ?_
  rintro e w10 ⟨rfl, hV10, hV10l⟩
  have c10 := loc_step hV10l (by simp) c9
  clear hV10l
  go_wp2
  go_end0
  exact ⟨rfl, hV10.done keepsPV⟩

theorem push_any (b : Nat) (t p s head q : Int) (w : World) (S : Nat → Prop) (st : VS) (h : PV w b S st) (hp : p ≤ 1024) :
    Calls Tryz.prog 52 #[.pointer (some ⟨b, 0, none⟩), .agg #[.int .i64 t, .int .i64 p, .int .i64 s], .int .i64 head, .int .i64 q] w fun e w' => e = .returned (.tuple #[]) ∧ Now w b S (pushF t p s head q st) w' := by
  cases hq : pageB p q with
  | false =>
    have hF : pushF t p s head q st = st := by simp [pushF, hq]
    rw [hF]
    exact push_no b t p s head q w S st h hq
  | true =>
    by_cases h0 : (st.get head).1 = 0
    · exact push_zero b t p s head q w S st h hq hp h0
    · exact push_more b t p s head q w S st h hq hp h0

end Go.Proofs.YtpmoajhpgekhcaaGreat
/- link: Pull of the program. -/
set_option linter.unusedSimpArgs false
set_option linter.unusedVariables false
namespace Go.Proofs.YtpmoajhpgekhcaaGreat
open Go.RowKit

/-- what Pull does. -/
def pullF (t p s : Int) (head q : Int) (st : VS) : VS :=
  if pageB p q = true then
    let g := st.get (ofF t p s q 2)
    let f := g.2.get (ofF t p s q 3)
    let s3 := if f.1 = 0 then f.2.put head g.1 else f.2.put (ofF t p s (f.1 - 1) 2) g.1
    let s4 := if g.1 = 0 then s3 else s3.put (ofF t p s (g.1 - 1) 3) f.1
    (s4.put (ofF t p s q 2) 0).put (ofF t p s q 3) 0
  else st

theorem pull_no (b : Nat) (t p s head q : Int) (w : World) (S : Nat → Prop) (st : VS) (h : PV w b S st) (hq : pageB p q = false) :
    Calls Tryz.prog 79 #[.pointer (some ⟨b, 0, none⟩), .agg #[.int .i64 t, .int .i64 p, .int .i64 s], .int .i64 head, .int .i64 q] w fun e w' => e = .returned (.tuple #[]) ∧ Now w b S st w' := by
  have hV := ((VSt.start keepsPV h).alloc keepsPV (.cells #[.int .i64 t, .int .i64 p, .int .i64 s] 23)).alloc keepsPV (.cells #[.pointer (some ⟨b, 0, none⟩), .int .i64 t, .int .i64 p, .int .i64 s, .int .i64 head] 116)
  have H := fun w => lpage_any b t p s head q w
  rw [hq] at H
  have HH := Lib.hid H
  clear H h
  go_enter Tryz.func79, Tryz.ntmps79
  go_wp2_with fail
  refine (calls_bl keepsPV hV (HH.out _)).mono ?_
  rintro e w1 ⟨rfl, hV1, hl1⟩
  clear hl1
  go_wp2
  refine bodyPost_ret (results_none rfl _ _ _) rfl ?_
  exact ⟨rfl, hV1.done keepsPV⟩

set_option maxRecDepth 100000 in
theorem pull_b0n0 (b : Nat) (t p s head q : Int) (w : World) (S : Nat → Prop) (st s1 s2 : VS) (v u : Int) (h : PV w b S st) (hq : pageB p q = true) (_hp : p ≤ 1024) (e1 : st.get (ofF t p s q 2) = (v, s1)) (e2 : s1.get (ofF t p s q 3) = (u, s2)) (h0 : u = 0) (h1 : v = 0) :
    Calls Tryz.prog 79 #[.pointer (some ⟨b, 0, none⟩), .agg #[.int .i64 t, .int .i64 p, .int .i64 s], .int .i64 head, .int .i64 q] w fun e w' => e = .returned (.tuple #[]) ∧ Now w b S (((s2.put head v).put (ofF t p s q 2) 0).put (ofF t p s q 3) 0) w' := by
  have hV := ((VSt.start keepsPV h).alloc keepsPV (.cells #[.int .i64 t, .int .i64 p, .int .i64 s] 23)).alloc keepsPV (.cells #[.pointer (some ⟨b, 0, none⟩), .int .i64 t, .int .i64 p, .int .i64 s, .int .i64 head] 116)
  have c0 := loc_alloc (w.alloc (.cells #[.int .i64 t, .int .i64 p, .int .i64 s] 23)) #[.pointer (some ⟨b, 0, none⟩), .int .i64 t, .int .i64 p, .int .i64 s, .int .i64 head] 116
  simp only [World.size_alloc] at hV c0
  have H := fun w => lpage_any b t p s head q w
  rw [hq] at H
  have HH := Lib.hid H
  have i1 := h.inv.get (ofF t p s q 2)
  have u1 := VS.get_u32 h.inv (ofF t p s q 2)
  rw [e1] at i1 u1
  have u2 := VS.get_u32 i1 (ofF t p s q 3)
  rw [e2] at u2
  have HU1 := Lib.hid u1
  have HU2 := Lib.hid u2
  have G1 := fun (w : World) (S1 : Nat → Prop) (h1 : PV w b S1 st) => get_any b (ofF t p s q 2) w S1 st h1
  have G2 := fun (w : World) (S1 : Nat → Prop) (h1 : PV w b S1 s1) => get_any b (ofF t p s q 3) w S1 s1 h1
  rw [e1] at G1
  rw [e2] at G2
  have HG1 := Lib.hid G1
  have HG2 := Lib.hid G2
  have hb : (u == 0) = true := by simp [h0]
  have hc : (v != 0) = false := by simp [h1]
  clear H h i1 u1 u2 G1 G2 e1 e2 h0 h1 hq
  go_enter Tryz.func79, Tryz.ntmps79
  go_wp2_with fail
  refine (calls_bl keepsPV hV (HH.out _)).mono ?_
  rintro e w1 ⟨rfl, hV1, hV1l⟩
  have c1 := loc_step hV1l (by simp) c0
  clear hV1l
  go_wp2_with fail
  first | go_region_held3 (fun w' => (∀ o : Nat, w'.cell? ⟨w.heap.size + 1, o, none⟩ = (#[.pointer (some ⟨b, 0, none⟩), .int .i64 t, .int .i64 p, .int .i64 s, .int .i64 head] : Array Value)[o]?)) (first | assumption | exact c1) (first | (go_at_call 84; go_must (refine (calls_bl keepsPV (hV1.drew keepsPV) (lnext_any _ _ _ _ _ _ _)).mono ?_); go_must (rintro e w2 ⟨rfl, hV2, hV2l⟩); go_must (have c2 := loc_step hV2l (by simp) c1); clear hV2l) | (go_at_call 18; go_must (refine (calls_st hV2 (HG1.out _)).mono ?_); go_must (rintro e w3 ⟨rfl, hV3, hV3l⟩); go_must (have c3 := loc_step hV3l (by simp) c2); clear hV3l)) | fail
  go_wp2_with fail
  first | go_region_held3 (fun w' => (∀ o : Nat, w'.cell? ⟨w.heap.size + 1, o, none⟩ = (#[.pointer (some ⟨b, 0, none⟩), .int .i64 t, .int .i64 p, .int .i64 s, .int .i64 head] : Array Value)[o]?)) (first | assumption | exact c3) (first | (go_at_call 85; go_must (refine (calls_bl keepsPV (hV3.drew keepsPV) (lprev_any _ _ _ _ _ _ _)).mono ?_); go_must (rintro e w4 ⟨rfl, hV4, hV4l⟩); go_must (have c4 := loc_step hV4l (by simp) c3); clear hV4l) | (go_at_call 18; go_must (refine (calls_st hV4 (HG2.out _)).mono ?_); go_must (rintro e w5 ⟨rfl, hV5, hV5l⟩); go_must (have c5 := loc_step hV5l (by simp) c4); clear hV5l)) | fail
  go_wp2_with fail
  refine (calls_st hV5 (fun S1 h1 => put_any _ _ _ _ _ _ h1 HU1.out)).mono ?_
  rintro e w6 ⟨rfl, hV6, hV6l⟩
  have c6 := loc_step hV6l (by simp) c5
  clear hV6l
  go_wp2_with fail
  first | go_region_held3 (fun w' => (∀ o : Nat, w'.cell? ⟨w.heap.size + 1, o, none⟩ = (#[.pointer (some ⟨b, 0, none⟩), .int .i64 t, .int .i64 p, .int .i64 s, .int .i64 head] : Array Value)[o]?)) (first | assumption | exact c6) (first | (go_at_call 84; go_must (refine (calls_bl keepsPV (hV6.drew keepsPV) (lnext_any _ _ _ _ _ _ _)).mono ?_); go_must (rintro e w7 ⟨rfl, hV7, hV7l⟩); go_must (have c7 := loc_step hV7l (by simp) c6); clear hV7l) | (go_at_call 49; go_must (refine (calls_st hV7 (fun S1 h1 => put_any _ _ _ _ _ _ h1 VS.u32_zero)).mono ?_); go_must (rintro e w8 ⟨rfl, hV8, hV8l⟩); go_must (have c8 := loc_step hV8l (by simp) c7); clear hV8l)) | fail
  go_wp2_with fail
  first | go_region_held3 (fun w' => (∀ o : Nat, w'.cell? ⟨w.heap.size + 1, o, none⟩ = (#[.pointer (some ⟨b, 0, none⟩), .int .i64 t, .int .i64 p, .int .i64 s, .int .i64 head] : Array Value)[o]?)) (first | assumption | exact c8) (first | (go_at_call 85; go_must (refine (calls_bl keepsPV (hV8.drew keepsPV) (lprev_any _ _ _ _ _ _ _)).mono ?_); go_must (rintro e w9 ⟨rfl, hV9, hV9l⟩); go_must (have c9 := loc_step hV9l (by simp) c8); clear hV9l) | (go_at_call 49; go_must (refine (calls_st hV9 (fun S1 h1 => put_any _ _ _ _ _ _ h1 VS.u32_zero)).mono ?_); go_must (rintro e w10 ⟨rfl, hV10, hV10l⟩); go_must (have c10 := loc_step hV10l (by simp) c9); clear hV10l)) | fail
  go_wp2
  go_end0
  exact ⟨rfl, hV10.done keepsPV⟩

set_option maxRecDepth 100000 in
theorem pull_b0n1 (b : Nat) (t p s head q : Int) (w : World) (S : Nat → Prop) (st s1 s2 : VS) (v u : Int) (h : PV w b S st) (hq : pageB p q = true) (_hp : p ≤ 1024) (e1 : st.get (ofF t p s q 2) = (v, s1)) (e2 : s1.get (ofF t p s q 3) = (u, s2)) (h0 : u = 0) (h1 : v ≠ 0) :
    Calls Tryz.prog 79 #[.pointer (some ⟨b, 0, none⟩), .agg #[.int .i64 t, .int .i64 p, .int .i64 s], .int .i64 head, .int .i64 q] w fun e w' => e = .returned (.tuple #[]) ∧ Now w b S ((((s2.put head v).put (ofF t p s (v - 1) 3) u).put (ofF t p s q 2) 0).put (ofF t p s q 3) 0) w' := by
  have hV := ((VSt.start keepsPV h).alloc keepsPV (.cells #[.int .i64 t, .int .i64 p, .int .i64 s] 23)).alloc keepsPV (.cells #[.pointer (some ⟨b, 0, none⟩), .int .i64 t, .int .i64 p, .int .i64 s, .int .i64 head] 116)
  have c0 := loc_alloc (w.alloc (.cells #[.int .i64 t, .int .i64 p, .int .i64 s] 23)) #[.pointer (some ⟨b, 0, none⟩), .int .i64 t, .int .i64 p, .int .i64 s, .int .i64 head] 116
  simp only [World.size_alloc] at hV c0
  have H := fun w => lpage_any b t p s head q w
  rw [hq] at H
  have HH := Lib.hid H
  have i1 := h.inv.get (ofF t p s q 2)
  have u1 := VS.get_u32 h.inv (ofF t p s q 2)
  rw [e1] at i1 u1
  have u2 := VS.get_u32 i1 (ofF t p s q 3)
  rw [e2] at u2
  have HU1 := Lib.hid u1
  have HU2 := Lib.hid u2
  have G1 := fun (w : World) (S1 : Nat → Prop) (h1 : PV w b S1 st) => get_any b (ofF t p s q 2) w S1 st h1
  have G2 := fun (w : World) (S1 : Nat → Prop) (h1 : PV w b S1 s1) => get_any b (ofF t p s q 3) w S1 s1 h1
  rw [e1] at G1
  rw [e2] at G2
  have HG1 := Lib.hid G1
  have HG2 := Lib.hid G2
  have hb : (u == 0) = true := by simp [h0]
  have hc : (v != 0) = true := by simp [h1]
  clear H h i1 u1 u2 G1 G2 e1 e2 h0 h1 hq
  go_enter Tryz.func79, Tryz.ntmps79
  go_wp2_with fail
  refine (calls_bl keepsPV hV (HH.out _)).mono ?_
  rintro e w1 ⟨rfl, hV1, hV1l⟩
  have c1 := loc_step hV1l (by simp) c0
  clear hV1l
  go_wp2_with fail
  first | go_region_held3 (fun w' => (∀ o : Nat, w'.cell? ⟨w.heap.size + 1, o, none⟩ = (#[.pointer (some ⟨b, 0, none⟩), .int .i64 t, .int .i64 p, .int .i64 s, .int .i64 head] : Array Value)[o]?)) (first | assumption | exact c1) (first | (go_at_call 84; go_must (refine (calls_bl keepsPV (hV1.drew keepsPV) (lnext_any _ _ _ _ _ _ _)).mono ?_); go_must (rintro e w2 ⟨rfl, hV2, hV2l⟩); go_must (have c2 := loc_step hV2l (by simp) c1); clear hV2l) | (go_at_call 18; go_must (refine (calls_st hV2 (HG1.out _)).mono ?_); go_must (rintro e w3 ⟨rfl, hV3, hV3l⟩); go_must (have c3 := loc_step hV3l (by simp) c2); clear hV3l)) | fail
  go_wp2_with fail
  first | go_region_held3 (fun w' => (∀ o : Nat, w'.cell? ⟨w.heap.size + 1, o, none⟩ = (#[.pointer (some ⟨b, 0, none⟩), .int .i64 t, .int .i64 p, .int .i64 s, .int .i64 head] : Array Value)[o]?)) (first | assumption | exact c3) (first | (go_at_call 85; go_must (refine (calls_bl keepsPV (hV3.drew keepsPV) (lprev_any _ _ _ _ _ _ _)).mono ?_); go_must (rintro e w4 ⟨rfl, hV4, hV4l⟩); go_must (have c4 := loc_step hV4l (by simp) c3); clear hV4l) | (go_at_call 18; go_must (refine (calls_st hV4 (HG2.out _)).mono ?_); go_must (rintro e w5 ⟨rfl, hV5, hV5l⟩); go_must (have c5 := loc_step hV5l (by simp) c4); clear hV5l)) | fail
  go_wp2_with fail
  refine (calls_st hV5 (fun S1 h1 => put_any _ _ _ _ _ _ h1 HU1.out)).mono ?_
  rintro e w6 ⟨rfl, hV6, hV6l⟩
  have c6 := loc_step hV6l (by simp) c5
  clear hV6l
  go_wp2_with fail
  first | go_region_held3 (fun w' => (∀ o : Nat, w'.cell? ⟨w.heap.size + 1, o, none⟩ = (#[.pointer (some ⟨b, 0, none⟩), .int .i64 t, .int .i64 p, .int .i64 s, .int .i64 head] : Array Value)[o]?)) (first | assumption | exact c6) (first | (go_at_call 86; go_must (refine (calls_bl keepsPV (hV6.drew keepsPV) ((to_any _ _ HU1.out).mono fun _ _ x => ⟨x.1, x.2 ▸ Below.refl _ _⟩)).mono ?_); go_must (rintro e w7 ⟨rfl, hV7, hV7l⟩); go_must (have c7 := loc_step hV7l (by simp) c6); clear hV7l) | (go_at_call 85; go_must (refine (calls_bl keepsPV hV7 (lprev_any _ _ _ _ _ _ _)).mono ?_); go_must (rintro e w8 ⟨rfl, hV8, hV8l⟩); go_must (have c8 := loc_step hV8l (by simp) c7); clear hV8l) | (go_at_call 49; go_must (refine (calls_st hV8 (fun S1 h1 => put_any _ _ _ _ _ _ h1 HU2.out)).mono ?_); go_must (rintro e w9 ⟨rfl, hV9, hV9l⟩); go_must (have c9 := loc_step hV9l (by simp) c8); clear hV9l)) | fail
  go_wp2_with fail
  first | go_region_held3 (fun w' => (∀ o : Nat, w'.cell? ⟨w.heap.size + 1, o, none⟩ = (#[.pointer (some ⟨b, 0, none⟩), .int .i64 t, .int .i64 p, .int .i64 s, .int .i64 head] : Array Value)[o]?)) (first | assumption | exact c9) (first | (go_at_call 84; go_must (refine (calls_bl keepsPV (hV9.drew keepsPV) (lnext_any _ _ _ _ _ _ _)).mono ?_); go_must (rintro e w10 ⟨rfl, hV10, hV10l⟩); go_must (have c10 := loc_step hV10l (by simp) c9); clear hV10l) | (go_at_call 49; go_must (refine (calls_st hV10 (fun S1 h1 => put_any _ _ _ _ _ _ h1 VS.u32_zero)).mono ?_); go_must (rintro e w11 ⟨rfl, hV11, hV11l⟩); go_must (have c11 := loc_step hV11l (by simp) c10); clear hV11l)) | fail
  go_wp2_with fail
  first | go_region_held3 (fun w' => (∀ o : Nat, w'.cell? ⟨w.heap.size + 1, o, none⟩ = (#[.pointer (some ⟨b, 0, none⟩), .int .i64 t, .int .i64 p, .int .i64 s, .int .i64 head] : Array Value)[o]?)) (first | assumption | exact c11) (first | (go_at_call 85; go_must (refine (calls_bl keepsPV (hV11.drew keepsPV) (lprev_any _ _ _ _ _ _ _)).mono ?_); go_must (rintro e w12 ⟨rfl, hV12, hV12l⟩); go_must (have c12 := loc_step hV12l (by simp) c11); clear hV12l) | (go_at_call 49; go_must (refine (calls_st hV12 (fun S1 h1 => put_any _ _ _ _ _ _ h1 VS.u32_zero)).mono ?_); go_must (rintro e w13 ⟨rfl, hV13, hV13l⟩); go_must (have c13 := loc_step hV13l (by simp) c12); clear hV13l)) | fail
  go_wp2
  go_end0
  exact ⟨rfl, hV13.done keepsPV⟩

set_option maxRecDepth 100000 in
theorem pull_b1n0 (b : Nat) (t p s head q : Int) (w : World) (S : Nat → Prop) (st s1 s2 : VS) (v u : Int) (h : PV w b S st) (hq : pageB p q = true) (_hp : p ≤ 1024) (e1 : st.get (ofF t p s q 2) = (v, s1)) (e2 : s1.get (ofF t p s q 3) = (u, s2)) (h0 : u ≠ 0) (h1 : v = 0) :
    Calls Tryz.prog 79 #[.pointer (some ⟨b, 0, none⟩), .agg #[.int .i64 t, .int .i64 p, .int .i64 s], .int .i64 head, .int .i64 q] w fun e w' => e = .returned (.tuple #[]) ∧ Now w b S (((s2.put (ofF t p s (u - 1) 2) v).put (ofF t p s q 2) 0).put (ofF t p s q 3) 0) w' := by
  have hV := ((VSt.start keepsPV h).alloc keepsPV (.cells #[.int .i64 t, .int .i64 p, .int .i64 s] 23)).alloc keepsPV (.cells #[.pointer (some ⟨b, 0, none⟩), .int .i64 t, .int .i64 p, .int .i64 s, .int .i64 head] 116)
  have c0 := loc_alloc (w.alloc (.cells #[.int .i64 t, .int .i64 p, .int .i64 s] 23)) #[.pointer (some ⟨b, 0, none⟩), .int .i64 t, .int .i64 p, .int .i64 s, .int .i64 head] 116
  simp only [World.size_alloc] at hV c0
  have H := fun w => lpage_any b t p s head q w
  rw [hq] at H
  have HH := Lib.hid H
  have i1 := h.inv.get (ofF t p s q 2)
  have u1 := VS.get_u32 h.inv (ofF t p s q 2)
  rw [e1] at i1 u1
  have u2 := VS.get_u32 i1 (ofF t p s q 3)
  rw [e2] at u2
  have HU1 := Lib.hid u1
  have HU2 := Lib.hid u2
  have G1 := fun (w : World) (S1 : Nat → Prop) (h1 : PV w b S1 st) => get_any b (ofF t p s q 2) w S1 st h1
  have G2 := fun (w : World) (S1 : Nat → Prop) (h1 : PV w b S1 s1) => get_any b (ofF t p s q 3) w S1 s1 h1
  rw [e1] at G1
  rw [e2] at G2
  have HG1 := Lib.hid G1
  have HG2 := Lib.hid G2
  have hb : (u == 0) = false := by simp [h0]
  have hc : (v != 0) = false := by simp [h1]
  clear H h i1 u1 u2 G1 G2 e1 e2 h0 h1 hq
  go_enter Tryz.func79, Tryz.ntmps79
  go_wp2_with fail
  refine (calls_bl keepsPV hV (HH.out _)).mono ?_
  rintro e w1 ⟨rfl, hV1, hV1l⟩
  have c1 := loc_step hV1l (by simp) c0
  clear hV1l
  go_wp2_with fail
  first | go_region_held3 (fun w' => (∀ o : Nat, w'.cell? ⟨w.heap.size + 1, o, none⟩ = (#[.pointer (some ⟨b, 0, none⟩), .int .i64 t, .int .i64 p, .int .i64 s, .int .i64 head] : Array Value)[o]?)) (first | assumption | exact c1) (first | (go_at_call 84; go_must (refine (calls_bl keepsPV (hV1.drew keepsPV) (lnext_any _ _ _ _ _ _ _)).mono ?_); go_must (rintro e w2 ⟨rfl, hV2, hV2l⟩); go_must (have c2 := loc_step hV2l (by simp) c1); clear hV2l) | (go_at_call 18; go_must (refine (calls_st hV2 (HG1.out _)).mono ?_); go_must (rintro e w3 ⟨rfl, hV3, hV3l⟩); go_must (have c3 := loc_step hV3l (by simp) c2); clear hV3l)) | fail
  go_wp2_with fail
  first | go_region_held3 (fun w' => (∀ o : Nat, w'.cell? ⟨w.heap.size + 1, o, none⟩ = (#[.pointer (some ⟨b, 0, none⟩), .int .i64 t, .int .i64 p, .int .i64 s, .int .i64 head] : Array Value)[o]?)) (first | assumption | exact c3) (first | (go_at_call 85; go_must (refine (calls_bl keepsPV (hV3.drew keepsPV) (lprev_any _ _ _ _ _ _ _)).mono ?_); go_must (rintro e w4 ⟨rfl, hV4, hV4l⟩); go_must (have c4 := loc_step hV4l (by simp) c3); clear hV4l) | (go_at_call 18; go_must (refine (calls_st hV4 (HG2.out _)).mono ?_); go_must (rintro e w5 ⟨rfl, hV5, hV5l⟩); go_must (have c5 := loc_step hV5l (by simp) c4); clear hV5l)) | fail
  go_wp2_with fail
  first | go_region_held3 (fun w' => (∀ o : Nat, w'.cell? ⟨w.heap.size + 1, o, none⟩ = (#[.pointer (some ⟨b, 0, none⟩), .int .i64 t, .int .i64 p, .int .i64 s, .int .i64 head] : Array Value)[o]?)) (first | assumption | exact c5) (first | (go_at_call 86; go_must (refine (calls_bl keepsPV (hV5.drew keepsPV) ((to_any _ _ HU2.out).mono fun _ _ x => ⟨x.1, x.2 ▸ Below.refl _ _⟩)).mono ?_); go_must (rintro e w6 ⟨rfl, hV6, hV6l⟩); go_must (have c6 := loc_step hV6l (by simp) c5); clear hV6l) | (go_at_call 84; go_must (refine (calls_bl keepsPV hV6 (lnext_any _ _ _ _ _ _ _)).mono ?_); go_must (rintro e w7 ⟨rfl, hV7, hV7l⟩); go_must (have c7 := loc_step hV7l (by simp) c6); clear hV7l) | (go_at_call 49; go_must (refine (calls_st hV7 (fun S1 h1 => put_any _ _ _ _ _ _ h1 HU1.out)).mono ?_); go_must (rintro e w8 ⟨rfl, hV8, hV8l⟩); go_must (have c8 := loc_step hV8l (by simp) c7); clear hV8l)) | fail
  go_wp2_with fail
  first | go_region_held3 (fun w' => (∀ o : Nat, w'.cell? ⟨w.heap.size + 1, o, none⟩ = (#[.pointer (some ⟨b, 0, none⟩), .int .i64 t, .int .i64 p, .int .i64 s, .int .i64 head] : Array Value)[o]?)) (first | assumption | exact c8) (first | (go_at_call 84; go_must (refine (calls_bl keepsPV (hV8.drew keepsPV) (lnext_any _ _ _ _ _ _ _)).mono ?_); go_must (rintro e w9 ⟨rfl, hV9, hV9l⟩); go_must (have c9 := loc_step hV9l (by simp) c8); clear hV9l) | (go_at_call 49; go_must (refine (calls_st hV9 (fun S1 h1 => put_any _ _ _ _ _ _ h1 VS.u32_zero)).mono ?_); go_must (rintro e w10 ⟨rfl, hV10, hV10l⟩); go_must (have c10 := loc_step hV10l (by simp) c9); clear hV10l)) | fail
  go_wp2_with fail
  first | go_region_held3 (fun w' => (∀ o : Nat, w'.cell? ⟨w.heap.size + 1, o, none⟩ = (#[.pointer (some ⟨b, 0, none⟩), .int .i64 t, .int .i64 p, .int .i64 s, .int .i64 head] : Array Value)[o]?)) (first | assumption | exact c10) (first | (go_at_call 85; go_must (refine (calls_bl keepsPV (hV10.drew keepsPV) (lprev_any _ _ _ _ _ _ _)).mono ?_); go_must (rintro e w11 ⟨rfl, hV11, hV11l⟩); go_must (have c11 := loc_step hV11l (by simp) c10); clear hV11l) | (go_at_call 49; go_must (refine (calls_st hV11 (fun S1 h1 => put_any _ _ _ _ _ _ h1 VS.u32_zero)).mono ?_); go_must (rintro e w12 ⟨rfl, hV12, hV12l⟩); go_must (have c12 := loc_step hV12l (by simp) c11); clear hV12l)) | fail
  go_wp2
  go_end0
  exact ⟨rfl, hV12.done keepsPV⟩

set_option maxRecDepth 100000 in
theorem pull_b1n1 (b : Nat) (t p s head q : Int) (w : World) (S : Nat → Prop) (st s1 s2 : VS) (v u : Int) (h : PV w b S st) (hq : pageB p q = true) (_hp : p ≤ 1024) (e1 : st.get (ofF t p s q 2) = (v, s1)) (e2 : s1.get (ofF t p s q 3) = (u, s2)) (h0 : u ≠ 0) (h1 : v ≠ 0) :
    Calls Tryz.prog 79 #[.pointer (some ⟨b, 0, none⟩), .agg #[.int .i64 t, .int .i64 p, .int .i64 s], .int .i64 head, .int .i64 q] w fun e w' => e = .returned (.tuple #[]) ∧ Now w b S ((((s2.put (ofF t p s (u - 1) 2) v).put (ofF t p s (v - 1) 3) u).put (ofF t p s q 2) 0).put (ofF t p s q 3) 0) w' := by
  have hV := ((VSt.start keepsPV h).alloc keepsPV (.cells #[.int .i64 t, .int .i64 p, .int .i64 s] 23)).alloc keepsPV (.cells #[.pointer (some ⟨b, 0, none⟩), .int .i64 t, .int .i64 p, .int .i64 s, .int .i64 head] 116)
  have c0 := loc_alloc (w.alloc (.cells #[.int .i64 t, .int .i64 p, .int .i64 s] 23)) #[.pointer (some ⟨b, 0, none⟩), .int .i64 t, .int .i64 p, .int .i64 s, .int .i64 head] 116
  simp only [World.size_alloc] at hV c0
  have H := fun w => lpage_any b t p s head q w
  rw [hq] at H
  have HH := Lib.hid H
  have i1 := h.inv.get (ofF t p s q 2)
  have u1 := VS.get_u32 h.inv (ofF t p s q 2)
  rw [e1] at i1 u1
  have u2 := VS.get_u32 i1 (ofF t p s q 3)
  rw [e2] at u2
  have HU1 := Lib.hid u1
  have HU2 := Lib.hid u2
  have G1 := fun (w : World) (S1 : Nat → Prop) (h1 : PV w b S1 st) => get_any b (ofF t p s q 2) w S1 st h1
  have G2 := fun (w : World) (S1 : Nat → Prop) (h1 : PV w b S1 s1) => get_any b (ofF t p s q 3) w S1 s1 h1
  rw [e1] at G1
  rw [e2] at G2
  have HG1 := Lib.hid G1
  have HG2 := Lib.hid G2
  have hb : (u == 0) = false := by simp [h0]
  have hc : (v != 0) = true := by simp [h1]
  clear H h i1 u1 u2 G1 G2 e1 e2 h0 h1 hq
  go_enter Tryz.func79, Tryz.ntmps79
  go_wp2_with fail
  refine (calls_bl keepsPV hV (HH.out _)).mono ?_
  rintro e w1 ⟨rfl, hV1, hV1l⟩
  have c1 := loc_step hV1l (by simp) c0
  clear hV1l
  go_wp2_with fail
  first | go_region_held3 (fun w' => (∀ o : Nat, w'.cell? ⟨w.heap.size + 1, o, none⟩ = (#[.pointer (some ⟨b, 0, none⟩), .int .i64 t, .int .i64 p, .int .i64 s, .int .i64 head] : Array Value)[o]?)) (first | assumption | exact c1) (first | (go_at_call 84; go_must (refine (calls_bl keepsPV (hV1.drew keepsPV) (lnext_any _ _ _ _ _ _ _)).mono ?_); go_must (rintro e w2 ⟨rfl, hV2, hV2l⟩); go_must (have c2 := loc_step hV2l (by simp) c1); clear hV2l) | (go_at_call 18; go_must (refine (calls_st hV2 (HG1.out _)).mono ?_); go_must (rintro e w3 ⟨rfl, hV3, hV3l⟩); go_must (have c3 := loc_step hV3l (by simp) c2); clear hV3l)) | fail
  go_wp2_with fail
  first | go_region_held3 (fun w' => (∀ o : Nat, w'.cell? ⟨w.heap.size + 1, o, none⟩ = (#[.pointer (some ⟨b, 0, none⟩), .int .i64 t, .int .i64 p, .int .i64 s, .int .i64 head] : Array Value)[o]?)) (first | assumption | exact c3) (first | (go_at_call 85; go_must (refine (calls_bl keepsPV (hV3.drew keepsPV) (lprev_any _ _ _ _ _ _ _)).mono ?_); go_must (rintro e w4 ⟨rfl, hV4, hV4l⟩); go_must (have c4 := loc_step hV4l (by simp) c3); clear hV4l) | (go_at_call 18; go_must (refine (calls_st hV4 (HG2.out _)).mono ?_); go_must (rintro e w5 ⟨rfl, hV5, hV5l⟩); go_must (have c5 := loc_step hV5l (by simp) c4); clear hV5l)) | fail
  go_wp2_with fail
  first | go_region_held3 (fun w' => (∀ o : Nat, w'.cell? ⟨w.heap.size + 1, o, none⟩ = (#[.pointer (some ⟨b, 0, none⟩), .int .i64 t, .int .i64 p, .int .i64 s, .int .i64 head] : Array Value)[o]?)) (first | assumption | exact c5) (first | (go_at_call 86; go_must (refine (calls_bl keepsPV (hV5.drew keepsPV) ((to_any _ _ HU2.out).mono fun _ _ x => ⟨x.1, x.2 ▸ Below.refl _ _⟩)).mono ?_); go_must (rintro e w6 ⟨rfl, hV6, hV6l⟩); go_must (have c6 := loc_step hV6l (by simp) c5); clear hV6l) | (go_at_call 84; go_must (refine (calls_bl keepsPV hV6 (lnext_any _ _ _ _ _ _ _)).mono ?_); go_must (rintro e w7 ⟨rfl, hV7, hV7l⟩); go_must (have c7 := loc_step hV7l (by simp) c6); clear hV7l) | (go_at_call 49; go_must (refine (calls_st hV7 (fun S1 h1 => put_any _ _ _ _ _ _ h1 HU1.out)).mono ?_); go_must (rintro e w8 ⟨rfl, hV8, hV8l⟩); go_must (have c8 := loc_step hV8l (by simp) c7); clear hV8l)) | fail
  go_wp2_with fail
  first | go_region_held3 (fun w' => (∀ o : Nat, w'.cell? ⟨w.heap.size + 1, o, none⟩ = (#[.pointer (some ⟨b, 0, none⟩), .int .i64 t, .int .i64 p, .int .i64 s, .int .i64 head] : Array Value)[o]?)) (first | assumption | exact c8) (first | (go_at_call 86; go_must (refine (calls_bl keepsPV (hV8.drew keepsPV) ((to_any _ _ HU1.out).mono fun _ _ x => ⟨x.1, x.2 ▸ Below.refl _ _⟩)).mono ?_); go_must (rintro e w9 ⟨rfl, hV9, hV9l⟩); go_must (have c9 := loc_step hV9l (by simp) c8); clear hV9l) | (go_at_call 85; go_must (refine (calls_bl keepsPV hV9 (lprev_any _ _ _ _ _ _ _)).mono ?_); go_must (rintro e w10 ⟨rfl, hV10, hV10l⟩); go_must (have c10 := loc_step hV10l (by simp) c9); clear hV10l) | (go_at_call 49; go_must (refine (calls_st hV10 (fun S1 h1 => put_any _ _ _ _ _ _ h1 HU2.out)).mono ?_); go_must (rintro e w11 ⟨rfl, hV11, hV11l⟩); go_must (have c11 := loc_step hV11l (by simp) c10); clear hV11l)) | fail
  go_wp2_with fail
  first | go_region_held3 (fun w' => (∀ o : Nat, w'.cell? ⟨w.heap.size + 1, o, none⟩ = (#[.pointer (some ⟨b, 0, none⟩), .int .i64 t, .int .i64 p, .int .i64 s, .int .i64 head] : Array Value)[o]?)) (first | assumption | exact c11) (first | (go_at_call 84; go_must (refine (calls_bl keepsPV (hV11.drew keepsPV) (lnext_any _ _ _ _ _ _ _)).mono ?_); go_must (rintro e w12 ⟨rfl, hV12, hV12l⟩); go_must (have c12 := loc_step hV12l (by simp) c11); clear hV12l) | (go_at_call 49; go_must (refine (calls_st hV12 (fun S1 h1 => put_any _ _ _ _ _ _ h1 VS.u32_zero)).mono ?_); go_must (rintro e w13 ⟨rfl, hV13, hV13l⟩); go_must (have c13 := loc_step hV13l (by simp) c12); clear hV13l)) | fail
  go_wp2_with fail
  first | go_region_held3 (fun w' => (∀ o : Nat, w'.cell? ⟨w.heap.size + 1, o, none⟩ = (#[.pointer (some ⟨b, 0, none⟩), .int .i64 t, .int .i64 p, .int .i64 s, .int .i64 head] : Array Value)[o]?)) (first | assumption | exact c13) (first | (go_at_call 85; go_must (refine (calls_bl keepsPV (hV13.drew keepsPV) (lprev_any _ _ _ _ _ _ _)).mono ?_); go_must (rintro e w14 ⟨rfl, hV14, hV14l⟩); go_must (have c14 := loc_step hV14l (by simp) c13); clear hV14l) | (go_at_call 49; go_must (refine (calls_st hV14 (fun S1 h1 => put_any _ _ _ _ _ _ h1 VS.u32_zero)).mono ?_); go_must (rintro e w15 ⟨rfl, hV15, hV15l⟩); go_must (have c15 := loc_step hV15l (by simp) c14); clear hV15l)) | fail
  go_wp2
  go_end0
  exact ⟨rfl, hV15.done keepsPV⟩

theorem pull_any (b : Nat) (t p s head q : Int) (w : World) (S : Nat → Prop) (st : VS) (h : PV w b S st) (hp : p ≤ 1024) :
    Calls Tryz.prog 79 #[.pointer (some ⟨b, 0, none⟩), .agg #[.int .i64 t, .int .i64 p, .int .i64 s], .int .i64 head, .int .i64 q] w fun e w' => e = .returned (.tuple #[]) ∧ Now w b S (pullF t p s head q st) w' := by
  cases hq : pageB p q with
  | false =>
    have hF : pullF t p s head q st = st := by simp [pullF, hq]
    rw [hF]
    exact pull_no b t p s head q w S st h hq
  | true =>
    obtain ⟨v, s1, e1⟩ : ∃ v s1, st.get (ofF t p s q 2) = (v, s1) := ⟨_, _, rfl⟩
    obtain ⟨u, s2, e2⟩ : ∃ u s2, s1.get (ofF t p s q 3) = (u, s2) := ⟨_, _, rfl⟩
    by_cases h0 : u = 0 <;> by_cases h1 : v = 0
    · have := pull_b0n0 b t p s head q w S st s1 s2 v u h hq hp e1 e2 h0 h1
      simpa [pullF, hq, e1, e2, h0, h1] using this
    · have := pull_b0n1 b t p s head q w S st s1 s2 v u h hq hp e1 e2 h0 h1
      simpa [pullF, hq, e1, e2, h0, h1] using this
    · have := pull_b1n0 b t p s head q w S st s1 s2 v u h hq hp e1 e2 h0 h1
      simpa [pullF, hq, e1, e2, h0, h1] using this
    · have := pull_b1n1 b t p s head q w S st s1 s2 v u h hq hp e1 e2 h0 h1
      simpa [pullF, hq, e1, e2, h0, h1] using this

end Go.Proofs.YtpmoajhpgekhcaaGreat
/- link: what Walk comes to, as plain data. -/
set_option linter.unusedSimpArgs false
set_option linter.unusedVariables false
namespace Go.Proofs.YtpmoajhpgekhcaaGreat
open Go.RowKit

def ints (l : List Int) : List Value := l.map (.int .i64)
def lenS : Value → Nat | .slice _ n _ => n | _ => 0

theorem loc_grown {w w' : World} {row : Option Nat} {L : Nat} {cs : Array Value} (hg : w.grownBy w' row) (hL : L < w.heap.size) (hne : row ≠ some L) (hc : ∀ o : Nat, w.cell? ⟨L, o, none⟩ = cs[o]?) : ∀ o : Nat, w'.cell? ⟨L, o, none⟩ = cs[o]? :=
  fun o => (World.cell?_of_block (a := ⟨L, o, none⟩) (hg.block L hL (fun e => hne e.symm))).trans (hc o)

end Go.Proofs.YtpmoajhpgekhcaaGreat
/- slices.Clone at four types; the program's Whole, Reads, Writes, Missing. -/
set_option linter.unusedSimpArgs false
set_option linter.unusedVariables false
namespace Go.Proofs.YtpmoajhpgekhcaaGreat
open Go.RowKit

/-- the slice v of n elements reads as xs. -/
def Rd (w : World) (v : Value) (sz n : Nat) (xs : List Value) : Prop :=
  xs.length = n * sz ∧ ((v = .slice none 0 0 ∧ n = 0) ∨ ∃ ad c, v = .slice (some ad) n c ∧ ∀ j u, xs[j]? = some u → w.cell? (ad.add j) = some u)

theorem Rd.of_row {w : World} {e sz n : Nat} {v : Value} {xs : List Value} (h : w.ownsRow 0 e sz v n xs) : Rd w v sz n xs := by
  refine ⟨h.1, ?_⟩
  rcases h.2 with ⟨h1, h2⟩ | ⟨g, cap, cur, rfl, -⟩
  · exact Or.inl ⟨h1, h2⟩
  · exact Or.inr ⟨_, _, rfl, h.cells (g := g) rfl⟩

/-- a copy of its own comes back. -/
def CloneP (w : World) (E sz n : Nat) (xs : List Value) (e : Ending) (w' : World) : Prop :=
  ∃ v', e = .returned v' ∧ w'.ownsRow 0 E sz v' n xs ∧ (∀ k, v'.ownBlock = some k → w.heap.size ≤ k) ∧ Below w.heap.size w w'

theorem infoU32 : (Tryz.prog.info? 41).map (fun i => (i.zero, i.size, i.bytes)) = some (some (.int .u32 0), 1, 4) := by kernel_rfl

theorem cloneU32 (v : Value) (n : Nat) (xs : List Value) (w : World) (h : Rd w v 1 n xs) (h1 : ∀ u ∈ xs, u.oneCell' = true) (hn : n ≤ 4294967296) :
    Calls Tryz.prog 19 #[v] w (CloneP w 41 1 n xs) := by
  obtain ⟨hl, ⟨rfl, rfl⟩ | ⟨ad, c, rfl, hc⟩⟩ := h
  · obtain rfl : xs = [] := List.eq_nil_of_length_eq_zero (by simpa using hl)
    have he := fun w => Lib.run_eql_slice_nil (P := Tryz.prog) w 24 41 none 0 0 0 0 Tryz.underlying24
    simp only [Option.isNone_none] at he
    clear hl h1 hn
    go_enter Tryz.func19, Tryz.ntmps19
    go_wp2
    go_ret
    exact ⟨_, rfl, World.ownsRow_nil _ _ _ _, by simp [Value.ownBlock], Below.refl _ _⟩
  · have he := fun w => Lib.run_eql_slice_nil (P := Tryz.prog) w 24 41 (some ad) n c 0 0 Tryz.underlying24
    simp only [Option.isNone_some] at he
    have HL := Lib.hid hl
    have H1 := Lib.hid h1
    have HC := Lib.hid hc
    have HN := Lib.hid hn
    obtain ⟨i0, hi0, hi1, hi2, hi3⟩ := info_parts infoU32
    have HI := Lib.hid (And.intro hi0 (And.intro hi1 (And.intro hi2 hi3)))
    clear hl h1 hc hn hi0 hi1 hi2 hi3
    go_enter Tryz.func19, Tryz.ntmps19
    go_wp2_with (at_builtin; go_must (refine wpL_append rfl _ _ rfl 41 i0 (.int .u32 0) 1 4 Tryz.underlying24 HI.out.1 HI.out.2.1 HI.out.2.2.1 HI.out.2.2.2 rfl (by decide) (.slice (some ⟨w.heap.size, 0, none⟩) 0 0) 0 [] rfl (World.ownsRow_made w #[] 0 (Nat.zero_le _) (Nat.zero_le _) rfl) ad n c xs rfl HL.out ?c0 H1.out ?c2 ?c3 ?_); go_must (case c0 => (intro j u hj; exact (World.cell?_alloc_lt _ _ _ (World.block_lt_of_cell? w _ (HC.out j u hj))).trans (HC.out j u hj))); go_must (case c2 => (have := HN.out; unfold maxLen; omega)); go_must (case c3 => (have := HN.out; omega)); go_must (intro v' w2 hown2 hg2 hnew2 hnil2); clear hnil2)
    go_ret
    simp only [Nat.zero_add, List.nil_append] at hown2
    refine ⟨_, rfl, hown2, ?_, ?_⟩
    · intro k hk
      rcases hnew2 k hk with h | h
      · simp [Value.ownBlock] at h; omega
      · simp at h; omega
    · exact ((Below.refl _ _).alloc (Nat.le_refl _) _).grown hg2 (by simp) (by intro k hk; simp [Value.ownBlock] at hk; omega)

theorem cloneList (v : Value) (n : Nat) (xs : List Value) (w : World) (h : Rd w v 1 n xs) (h1 : ∀ u ∈ xs, u.oneCell' = true) (hn : n ≤ 4294967296) :
    Calls Tryz.prog 28 #[v] w (CloneP w 41 1 n xs) := by
  obtain ⟨hl, ⟨rfl, rfl⟩ | ⟨ad, c, rfl, hc⟩⟩ := h
  · obtain rfl : xs = [] := List.eq_nil_of_length_eq_zero (by simpa using hl)
    have he := fun w => Lib.run_eql_slice_nil (P := Tryz.prog) w 52 41 none 0 0 0 0 Tryz.underlying52
    simp only [Option.isNone_none] at he
    clear hl h1 hn
    go_enter Tryz.func28, Tryz.ntmps28
    go_wp2
    go_ret
    exact ⟨_, rfl, World.ownsRow_nil _ _ _ _, by simp [Value.ownBlock], Below.refl _ _⟩
  · have he := fun w => Lib.run_eql_slice_nil (P := Tryz.prog) w 52 41 (some ad) n c 0 0 Tryz.underlying52
    simp only [Option.isNone_some] at he
    have HL := Lib.hid hl
    have H1 := Lib.hid h1
    have HC := Lib.hid hc
    have HN := Lib.hid hn
    obtain ⟨i0, hi0, hi1, hi2, hi3⟩ := info_parts infoU32
    have HI := Lib.hid (And.intro hi0 (And.intro hi1 (And.intro hi2 hi3)))
    clear hl h1 hc hn hi0 hi1 hi2 hi3
    go_enter Tryz.func28, Tryz.ntmps28
    go_wp2_with (at_builtin; go_must (refine wpL_append rfl _ _ rfl 41 i0 (.int .u32 0) 1 4 Tryz.underlying52 HI.out.1 HI.out.2.1 HI.out.2.2.1 HI.out.2.2.2 rfl (by decide) (.slice (some ⟨w.heap.size, 0, none⟩) 0 0) 0 [] rfl (World.ownsRow_made w #[] 0 (Nat.zero_le _) (Nat.zero_le _) rfl) ad n c xs rfl HL.out ?c0 H1.out ?c2 ?c3 ?_); go_must (case c0 => (intro j u hj; exact (World.cell?_alloc_lt _ _ _ (World.block_lt_of_cell? w _ (HC.out j u hj))).trans (HC.out j u hj))); go_must (case c2 => (have := HN.out; unfold maxLen; omega)); go_must (case c3 => (have := HN.out; omega)); go_must (intro v' w2 hown2 hg2 hnew2 hnil2); clear hnil2)
    go_ret
    simp only [Nat.zero_add, List.nil_append] at hown2
    refine ⟨_, rfl, hown2, ?_, ?_⟩
    · intro k hk
      rcases hnew2 k hk with h | h
      · simp [Value.ownBlock] at h; omega
      · simp at h; omega
    · exact ((Below.refl _ _).alloc (Nat.le_refl _) _).grown hg2 (by simp) (by intro k hk; simp [Value.ownBlock] at hk; omega)

/-- the values of all cells, at first. -/
def wholeVS (vals : List Int) : VS := { n := vals.length, known := fun i => vals[i]?, reads := [], writes := [], miss := none }
def uints (l : List Int) : List Value := l.map (.int .u32)

theorem vof_any (n : Nat) (fv : Value) (w : World) (hf : ∃ T v, fv = .iface T v) :
    Calls Tryz.prog 20 #[.int .i64 n, fv] w fun e w' => e = .returned (.pointer (some ⟨w.heap.size + 2, 0, none⟩)) ∧ w' = ((w.alloc (.map #[] 0)).alloc (.map #[] 0)).alloc (.cells #[.int .i64 n, fv, .slice none 0 0, .map (some w.heap.size), .slice none 0 0, .map (some (w.heap.size + 1)), .slice none 0 0, .int .i64 (-1), .bool false] 59) := by
  obtain ⟨T, v, rfl⟩ := hf
  have hmm := @run_makeMap Tryz.prog
  go_enter Tryz.func20, Tryz.ntmps20
  go_wp2
  go_ret
  exact ⟨rfl, rfl⟩

/-- a new view comes back. -/
def NewV (w : World) (s : VS) (e : Ending) (w' : World) : Prop :=
  ∃ b, e = .returned (.pointer (some ⟨b, 0, none⟩)) ∧ PV w' b (fun k => w.heap.size ≤ k ∧ k < w'.heap.size) s ∧ Below w.heap.size w w'

theorem row_shape {w : World} {e sz n : Nat} {v : Value} {xs : List Value} (h : w.ownsRow 0 e sz v n xs) : ∃ a c, v = .slice a n c := by
  rcases h.2 with ⟨rfl, rfl⟩ | ⟨g, cap, cur, rfl, -⟩
  · exact ⟨_, _, rfl⟩
  · exact ⟨_, _, rfl⟩

theorem whole_new {w w1 : World} {vals : List Int} {sv : Value} (h2 : w1.ownsRow 0 41 1 sv vals.length (uints vals)) (hb : Below w.heap.size w w1) (hnew : ∀ k, sv.ownBlock = some k → w.heap.size ≤ k) (hn : vals.length ≤ 2147483648) (hu : ∀ v ∈ vals, VS.U32 v) :
    NewV w (wholeVS vals) (.returned (.pointer (some ⟨w1.heap.size + 2, 0, none⟩))) (((w1.alloc (.map #[] 0)).alloc (.map #[] 0)).alloc (.cells #[.int .i64 vals.length, .iface 52 sv, sv, .map (some w1.heap.size), .slice none 0 0, .map (some (w1.heap.size + 1)), .slice none 0 0, .int .i64 (-1), .bool false] 59)) := by
  have hz := hb.size
  have B3 : Below w1.heap.size w1 (((w1.alloc (.map #[] 0)).alloc (.map #[] 0)).alloc (.cells #[.int .i64 vals.length, .iface 52 sv, sv, .map (some w1.heap.size), .slice none 0 0, .map (some (w1.heap.size + 1)), .slice none 0 0, .int .i64 (-1), .bool false] 59)) := by (repeat (first | exact Below.refl _ _ | assumption | refine Below.setCell ?_ (by first | omega | (simp; done) | (simp; omega)) _ | refine Below.alloc ?_ (by first | omega | (simp; done) | (simp; omega)) _ | refine Below.drew ?_ | refine Below.trans ?_ (Below.mono ‹Below _ _ _› (by first | omega | (simp; done) | (simp; omega)))))
  refine ⟨_, rfl, ⟨.iface 52 sv, sv, .slice none 0 0, .slice none 0 0, w1.heap.size, w1.heap.size + 1, ?_⟩, hb.trans (B3.mono hz)⟩
  have e1 : (w1.alloc (.map #[] 0)).heap[w1.heap.size]? = some (.map #[] 0) := heap_alloc_new w1 _
  have e2 : ((w1.alloc (.map #[] 0)).alloc (.map #[] 0)).heap[w1.heap.size + 1]? = some (.map #[] 0) := hb_alloc _ _ _ (by simp)
  refine ⟨?_, ?_, ?_, World.ownsRow_nil _ _ _ _, World.ownsRow_nil _ _ _ _, ?_, by omega, ?_, ?_, ?_, by simp [Value.ownBlock], by simp [Value.ownBlock], fun k hk => hk.2, ?_⟩
  · exact hb_alloc _ _ _ (by simp)
  · exact ⟨#[], 0, by rw [Below.heap_alloc _ _ _ (by simp; omega), Below.heap_alloc _ _ _ (by simp)]; exact e1, rfl⟩
  · exact ⟨#[], 0, by rw [Below.heap_alloc _ _ _ (by simp)]; exact e2, rfl⟩
  · refine ⟨sv, vals, rfl, ownsRow_block h2 (fun k hk => B3.block k (ownsRow_lt h2 hk)), fun i _ => rfl, fun k hk => ⟨hnew k hk, ?_⟩, rfl⟩
    have := ownsRow_lt h2 hk
    simp; omega
  · constructor <;> (try simp) <;> omega
  · constructor <;> (try simp) <;> omega
  · constructor <;> (try simp) <;> omega
  · refine ⟨hn, by simp [wholeVS], by simp [wholeVS], by simp [wholeVS], by simp [wholeVS], ?_, by simp [wholeVS]⟩
    intro i v hv
    exact hu v (List.mem_of_getElem? hv)

theorem whole_any (v : Value) (vals : List Int) (w : World) (h : Rd w v 1 vals.length (uints vals)) (hn : vals.length ≤ 2147483648) (hu : ∀ v ∈ vals, VS.U32 v) :
    Calls Tryz.prog 8 #[v] w (NewV w (wholeVS vals)) := by
  have HC := Lib.hid (cloneU32 v vals.length (uints vals) w h (by intro u hu; obtain ⟨x, -, rfl⟩ := List.mem_map.1 hu; rfl) (by omega))
  have HN := Lib.hid hn
  have HU := Lib.hid hu
  clear h hn hu
  go_enter Tryz.func8, Tryz.ntmps8
  go_wp2_with fail
  refine HC.out.mono ?_
  rintro e w1 ⟨sv, rfl, hown, hnew, hb⟩
  have HO := Lib.hid hown
  have HW := Lib.hid hnew
  have HB := Lib.hid hb
  obtain ⟨a, c, rfl⟩ := row_shape hown
  clear hown hnew hb
  go_wp2_with fail
  refine (vof_any _ _ _ ⟨_, _, rfl⟩).mono ?_
  rintro e w2 ⟨rfl, rfl⟩
  go_wp2
  go_ret
  exact whole_new HO.out HB.out HW.out HN.out HU.out

end Go.Proofs.YtpmoajhpgekhcaaGreat
/- places by the document; appends in a drawn region. -/
set_option linter.unusedSimpArgs false
set_option linter.unusedVariables false
namespace Go.Proofs.YtpmoajhpgekhcaaGreat
open Go.RowKit

theorem rright_any (t p s : Int) (w : World) :
    Calls Tryz.prog 34 #[.agg #[.int .i64 t, .int .i64 p, .int .i64 s]] w fun e w' => e = .returned (.bool (rightB t p s)) ∧ Below w.heap.size w w' := by
  generalize hr : rightB t p s = r
  have HR := Lib.hid hr
  clear hr
  go_enter Tryz.func34, Tryz.ntmps34
  go_wp2
  all_goals
    go_ret
    refine ⟨ret_bool ?_, by (repeat (first | exact Below.refl _ _ | assumption | refine Below.setCell ?_ (by first | omega | (simp; done) | (simp; omega)) _ | refine Below.alloc ?_ (by first | omega | (simp; done) | (simp; omega)) _ | refine Below.drew ?_ | refine Below.trans ?_ (Below.mono ‹Below _ _ _› (by first | omega | (simp; done) | (simp; omega)))))⟩
    have hr := HR.out
    simp only [rightB, outB] at hr
    subst hr
    rw [Bool.eq_iff_iff]
    simp
    omega

theorem rcells_any (t p s : Int) (w : World) :
    Calls Tryz.prog 35 #[.agg #[.int .i64 t, .int .i64 p, .int .i64 s]] w fun e w' => e = .returned (.int .i64 (cellsF t p s)) ∧ Below w.heap.size w w' := by
  have H := rright_any t p s
  cases hr : rightB t p s
  · have hF : cellsF t p s = 0 := by simp [cellsF, hr]
    rw [hF]
    rw [hr] at H
    have HH := Lib.hid H
    clear H hF hr
    go_enter Tryz.func35, Tryz.ntmps35
    go_wp2_with fail
    refine (HH.out _).mono ?_
    rintro e w1 ⟨rfl, ha⟩
    obtain ⟨hac, haf⟩ := bcell ha
    have haz0 : w.heap.size < w1.heap.size := by have := ha.size; first | omega | (simp at this; omega)
    go_wp2
    go_ret
    refine ⟨rfl, ?_⟩
    (repeat (first | exact Below.refl _ _ | assumption | refine Below.setCell ?_ (by first | omega | (simp; done) | (simp; omega)) _ | refine Below.alloc ?_ (by first | omega | (simp; done) | (simp; omega)) _ | refine Below.drew ?_ | refine Below.trans ?_ (Below.mono ‹Below _ _ _› (by first | omega | (simp; done) | (simp; omega)))))
  · have hF : cellsF t p s = cellsN t p := by simp [cellsF, hr]
    rw [hF]
    rw [hr] at H
    have HH := Lib.hid H
    obtain ⟨b1, b2, b3, b4, b5, b6⟩ := right_bd hr
    clear H hF hr
    go_enter Tryz.func35, Tryz.ntmps35
    go_wp2_with fail
    refine (HH.out _).mono ?_
    rintro e w1 ⟨rfl, ha⟩
    obtain ⟨hac, haf⟩ := bcell ha
    have haz0 : w.heap.size < w1.heap.size := by have := ha.size; first | omega | (simp at this; omega)
    go_wp2
    go_ret
    refine ⟨rfl, ?_⟩
    (repeat (first | exact Below.refl _ _ | assumption | refine Below.setCell ?_ (by first | omega | (simp; done) | (simp; omega)) _ | refine Below.alloc ?_ (by first | omega | (simp; done) | (simp; omega)) _ | refine Below.drew ?_ | refine Below.trans ?_ (Below.mono ‹Below _ _ _› (by first | omega | (simp; done) | (simp; omega)))))

theorem rpage_any (t p s q part : Int) (w : World) (h0 : 0 ≤ part) (h1 : part ≤ 5) :
    Calls Tryz.prog 91 #[.agg #[.int .i64 t, .int .i64 p, .int .i64 s], .int .i64 q, .int .i64 part] w fun e w' => e = .returned (.int .i64 (ofF t p s q part)) ∧ Below w.heap.size w w' := by
  have H := rright_any t p s
  cases hr : rightB t p s
  · have hF : ofF t p s q part = -1 := by simp [ofF, hr]
    rw [hF]
    rw [hr] at H
    have HH := Lib.hid H
    clear H hF hr
    go_enter Tryz.func91, Tryz.ntmps91
    go_wp2_with fail
    refine (HH.out _).mono ?_
    rintro e w1 ⟨rfl, ha⟩
    obtain ⟨hac, haf⟩ := bcell ha
    have haz0 : w.heap.size < w1.heap.size := by have := ha.size; first | omega | (simp at this; omega)
    go_wp2
    go_ret
    refine ⟨rfl, ?_⟩
    (repeat (first | exact Below.refl _ _ | assumption | refine Below.setCell ?_ (by first | omega | (simp; done) | (simp; omega)) _ | refine Below.alloc ?_ (by first | omega | (simp; done) | (simp; omega)) _ | refine Below.drew ?_ | refine Below.trans ?_ (Below.mono ‹Below _ _ _› (by first | omega | (simp; done) | (simp; omega)))))
  · obtain ⟨b1, b2, b3, b4, b5, b6⟩ := right_bd hr
    rw [hr] at H
    have HH := Lib.hid H
    clear H
    by_cases hq : q < 0
    · have hF : ofF t p s q part = -1 := by simp [ofF, hr]; omega
      rw [hF]
      clear hF hr
      go_enter Tryz.func91, Tryz.ntmps91
      go_wp2_with fail
      refine (HH.out _).mono ?_
      rintro e w1 ⟨rfl, ha⟩
      obtain ⟨hac, haf⟩ := bcell ha
      have haz0 : w.heap.size < w1.heap.size := by have := ha.size; first | omega | (simp at this; omega)
      go_wp2
      go_ret
      refine ⟨rfl, ?_⟩
      (repeat (first | exact Below.refl _ _ | assumption | refine Below.setCell ?_ (by first | omega | (simp; done) | (simp; omega)) _ | refine Below.alloc ?_ (by first | omega | (simp; done) | (simp; omega)) _ | refine Below.drew ?_ | refine Below.trans ?_ (Below.mono ‹Below _ _ _› (by first | omega | (simp; done) | (simp; omega)))))
    · by_cases hq2 : q < p
      · have hF : ofF t p s q part = 30 + 4 * t + 6 * q + part := by simp [ofF, hr]; omega
        rw [hF]
        clear hF hr
        go_enter Tryz.func91, Tryz.ntmps91
        go_wp2_with fail
        refine (HH.out _).mono ?_
        rintro e w1 ⟨rfl, ha⟩
        obtain ⟨hac, haf⟩ := bcell ha
        have haz0 : w.heap.size < w1.heap.size := by have := ha.size; first | omega | (simp at this; omega)
        go_wp2
        go_ret
        refine ⟨ret_int (by omega), ?_⟩
        (repeat (first | exact Below.refl _ _ | assumption | refine Below.setCell ?_ (by first | omega | (simp; done) | (simp; omega)) _ | refine Below.alloc ?_ (by first | omega | (simp; done) | (simp; omega)) _ | refine Below.drew ?_ | refine Below.trans ?_ (Below.mono ‹Below _ _ _› (by first | omega | (simp; done) | (simp; omega)))))
      · have hF : ofF t p s q part = -1 := by simp [ofF, hr]; omega
        rw [hF]
        clear hF hr
        go_enter Tryz.func91, Tryz.ntmps91
        go_wp2_with fail
        refine (HH.out _).mono ?_
        rintro e w1 ⟨rfl, ha⟩
        obtain ⟨hac, haf⟩ := bcell ha
        have haz0 : w.heap.size < w1.heap.size := by have := ha.size; first | omega | (simp at this; omega)
        go_wp2
        go_ret
        refine ⟨rfl, ?_⟩
        (repeat (first | exact Below.refl _ _ | assumption | refine Below.setCell ?_ (by first | omega | (simp; done) | (simp; omega)) _ | refine Below.alloc ?_ (by first | omega | (simp; done) | (simp; omega)) _ | refine Below.drew ?_ | refine Below.trans ?_ (Below.mono ‹Below _ _ _› (by first | omega | (simp; done) | (simp; omega)))))

theorem rnext_any (t p s q : Int) (w : World) :
    Calls Tryz.prog 72 #[.agg #[.int .i64 t, .int .i64 p, .int .i64 s], .int .i64 q] w fun e w' => e = .returned (.int .i64 (ofF t p s q 2)) ∧ Below w.heap.size w w' := by
  go_enter Tryz.func72, Tryz.ntmps72
  go_wp2_with fail
  refine (rpage_any _ _ _ _ _ _ (by omega) (by omega)).mono ?_
  rintro e w1 ⟨rfl, ha⟩
  obtain ⟨hac, haf⟩ := bcell ha
  go_wp2
  go_ret
  refine ⟨rfl, ?_⟩
  (repeat (first | exact Below.refl _ _ | assumption | refine Below.setCell ?_ (by first | omega | (simp; done) | (simp; omega)) _ | refine Below.alloc ?_ (by first | omega | (simp; done) | (simp; omega)) _ | refine Below.drew ?_ | refine Below.trans ?_ (Below.mono ‹Below _ _ _› (by first | omega | (simp; done) | (simp; omega)))))
theorem rprev_any (t p s q : Int) (w : World) :
    Calls Tryz.prog 73 #[.agg #[.int .i64 t, .int .i64 p, .int .i64 s], .int .i64 q] w fun e w' => e = .returned (.int .i64 (ofF t p s q 3)) ∧ Below w.heap.size w w' := by
  go_enter Tryz.func73, Tryz.ntmps73
  go_wp2_with fail
  refine (rpage_any _ _ _ _ _ _ (by omega) (by omega)).mono ?_
  rintro e w1 ⟨rfl, ha⟩
  obtain ⟨hac, haf⟩ := bcell ha
  go_wp2
  go_ret
  refine ⟨rfl, ?_⟩
  (repeat (first | exact Below.refl _ _ | assumption | refine Below.setCell ?_ (by first | omega | (simp; done) | (simp; omega)) _ | refine Below.alloc ?_ (by first | omega | (simp; done) | (simp; omega)) _ | refine Below.drew ?_ | refine Below.trans ?_ (Below.mono ‹Below _ _ _› (by first | omega | (simp; done) | (simp; omega)))))

/-- an empty row, newly made. -/
theorem row_empty (w : World) (e sz : Nat) : (w.alloc (.cells #[] e)).ownsRow 0 e sz (.slice (some ⟨w.heap.size, 0, none⟩) 0 0) 0 [] :=
  ⟨by simp, Or.inr ⟨w.heap.size, 0, #[], rfl, Nat.zero_le _, heap_alloc_new w _, Nat.le_refl _, by unfold maxLen; omega, by simp, by simp⟩⟩

theorem step_append_new {P : Program} {ops : Array Oper} {o : Oper} {a : Act} {w : World} {K : Act → World → Prop} {Q : Exit → Act → World → Prop} {E : Prop} {t : TypeId}
    (hg : o.guard = none) (s x : Operand) (ho : o.op = .call { callee := .builtin .append, args := #[s, x], argTypes := #[t, t] })
    (e : TypeId) (i : TypeInfo) (z : Value) (size bytes : Nat) (ht : P.underlying t = some (.slice e)) (hi : P.info? e = some i) (hz : i.zero = some z)
    (hsize : i.size = size) (hby : i.bytes = bytes) (hzs : z.cells.size = size) (hsz : 0 < size)
    (v : Value) (n : Nat) (xs : List Value) (hs : a.eval s = v) (hown : w.ownsRow 0 e size v n xs)
    (ad : Addr) (m c : Nat) (news : List Value) (hx : a.eval x = .slice (some ad) m c) (hl : news.length = m * size) (hnews : ∀ j u, news[j]? = some u → w.cell? (ad.add j) = some u) (h1 : ∀ u ∈ news, u.oneCell' = true)
    (h63 : n + m ≤ maxLen) (hbytes : (n + m) * bytes ≤ 140737488355328)
    (h : ∀ v' w', w'.ownsRow 0 e size v' (n + m) (xs ++ news) → w.grownBy w' v.ownBlock → (∀ k, v'.ownBlock = some k → v.ownBlock = some k ∨ w.heap.size ≤ k) → (v' = .slice none 0 0 ↔ v = .slice none 0 0 ∧ m = 0) → K (a.put o.dst v') w') :
    if Region.wanted o (yielded ops a.tmps) = true then Oper.wp P o a w K Q else E := by
  have hw : Region.wanted o (yielded ops a.tmps) = true := by simp [Region.wanted, hg]
  rw [if_pos hw]
  obtain ⟨v', w', hr, h2, h3, h4, h5⟩ := run_append_new (P := P) (w := w) t o.type e i z size bytes ht hi hz hsize hby hzs hsz v n xs hown ad m c news hl hnews h1 h63 hbytes
  unfold Oper.wp execOp
  simp only [ho, resolve, invoke, builtin, Sem.run_bind, Sem.run_pure, Result.andThen_ok, List.map_toArray, List.map_cons, List.map_nil, hs, hx, hr]
  exact h v' w' h2 h3 h4 h5

theorem cell_two_at (w : World) (u1 u2 : Value) (T : TypeId) (k : Nat) (hk : k = w.heap.size) : ∀ (j : Nat) (x : Value), [u1, u2][j]? = some x → (w.alloc (.cells #[u1, u2] T)).cell? ((⟨k, 0, none⟩ : Addr).add j) = some x := by
  subst hk
  intro j x hj
  rcases j with _ | _ | j
  · simp at hj; subst hj; exact cell?_of_heap (o := 0) (heap_alloc_new w (.cells #[u1, u2] T))
  · simp at hj; subst hj; exact cell?_of_heap (o := 1) (heap_alloc_new w (.cells #[u1, u2] T))
  · simp at hj

end Go.Proofs.YtpmoajhpgekhcaaGreat
/- a call under way that makes new blocks alone: its own boxes, and what lies below. -/
set_option linter.unusedSimpArgs false
set_option linter.unusedVariables false
namespace Go.Proofs.YtpmoajhpgekhcaaGreat
open Go.RowKit

/-- since w0 nothing below has turned; the boxes Ls are the call's own. -/
structure BS (w0 : World) (Ls : List Nat) (w : World) : Prop where
  bel : Below w0.heap.size w0 w
  ls : ∀ L ∈ Ls, L < w.heap.size ∧ w0.heap.size ≤ L

section
variable {w0 w w' : World} {Ls : List Nat}

theorem BS.start (w0 : World) : BS w0 [] w0 := ⟨Below.refl _ _, by simp⟩

theorem BS.below (h : BS w0 Ls w) (hb : Below w.heap.size w w') : BS w0 Ls w' :=
  ⟨h.bel.trans (hb.mono h.bel.size), fun L hL => ⟨Nat.lt_of_lt_of_le (h.ls L hL).1 hb.size, (h.ls L hL).2⟩⟩

theorem BS.alloc (h : BS w0 Ls w) (o : Obj) : BS w0 (w.heap.size :: Ls) (w.alloc o) := by
  refine ⟨h.bel.alloc h.bel.size o, fun L hL => ?_⟩
  simp at hL
  rcases hL with rfl | hL
  · exact ⟨by simp, h.bel.size⟩
  · have := h.ls L hL; exact ⟨by simp; omega, this.2⟩

theorem BS.drew (h : BS w0 Ls w) : BS w0 Ls w.drew := ⟨h.bel.drew, h.ls⟩

theorem BS.setCell (h : BS w0 Ls w) {L : Nat} (hL : L ∈ Ls) (o : Nat) (v : Value) : BS w0 Ls (w.setCell ⟨L, o, none⟩ v) :=
  ⟨h.bel.setCell (h.ls L hL).2 v, fun M hM => ⟨by simpa using (h.ls M hM).1, (h.ls M hM).2⟩⟩

theorem BS.sub (h : BS w0 Ls w) (Ls' : List Nat) (hL : ∀ L ∈ Ls', L ∈ Ls) : BS w0 Ls' w := ⟨h.bel, fun L hm => h.ls L (hL L hm)⟩

theorem BS.grown (h : BS w0 Ls w) {row : Option Nat} (hg : w.grownBy w' row) (hr : ∀ k, row = some k → k ∈ Ls) (Ls' : List Nat) (hL : ∀ L ∈ Ls', L ∈ Ls ∨ (w.heap.size ≤ L ∧ L < w'.heap.size)) : BS w0 Ls' w' := by
  refine ⟨h.bel.grown hg h.bel.size (fun k hk => (h.ls k (hr k hk)).2), fun L hm => ?_⟩
  have := h.bel.size
  rcases hL L hm with y | y
  · exact ⟨Nat.lt_of_lt_of_le (h.ls L y).1 hg.size, (h.ls L y).2⟩
  · exact ⟨y.2, by omega⟩

/-- a call that makes new blocks alone. -/
theorem calls_b {P : Program} {f : FuncId} {args : Array Value} {val : Value} (h : BS w0 Ls w)
    (hc : Calls P f args w fun e w' => e = .returned val ∧ Below w.heap.size w w') :
    Calls P f args w fun e w' => e = .returned val ∧ BS w0 Ls w' ∧ ∀ L ∈ Ls, w'.heap[L]? = w.heap[L]? :=
  hc.mono fun _ _ ⟨he, hb⟩ => ⟨he, h.below hb, fun L hL => hb.block L (h.ls L hL).1⟩

/-- a cell of what lay there before. -/
theorem BS.old (h : BS w0 Ls w) {a : Addr} {u : Value} (hc : w0.cell? a = some u) : w.cell? a = some u :=
  (h.bel.cell (World.block_lt_of_cell? w0 a hc)).trans hc
end

theorem BS.oldbox {w0 w : World} {Ls : List Nat} {b : Nat} {cs : Array Value} (h : BS w0 Ls w) (hc : ∀ o : Nat, w0.cell? ⟨b, o, none⟩ = cs[o]?) (hb : b < w0.heap.size) : ∀ o : Nat, w.cell? ⟨b, o, none⟩ = cs[o]? :=
  fun o => (h.bel.cell (p := ⟨b, o, none⟩) hb).trans (hc o)

theorem BS.row {w0 w : World} {Ls : List Nat} {e sz n : Nat} {v : Value} {xs : List Value} (h : BS w0 Ls w) (hr : w0.ownsRow 0 e sz v n xs) : w.ownsRow 0 e sz v n xs :=
  ownsRow_block hr fun k hk => h.bel.block k (ownsRow_lt hr hk)

theorem world_gen {F : World → Prop} {W : World} (h : ∀ W', W' = W → F W') : F W := h W rfl

/-- behind an append to the row v, which a box went ahead of. -/
theorem BS.append {w0 w w' : World} {L : Nat} {v v' : Value} {ob : Obj} {e sz n : Nat} {xs : List Value} (h : BS w0 (L :: v.ownBlock.toList) w) (hg : (w.alloc ob).grownBy w' v.ownBlock)
    (hnew : ∀ k, v'.ownBlock = some k → v.ownBlock = some k ∨ (w.alloc ob).heap.size ≤ k) (hown : w'.ownsRow 0 e sz v' n xs) : BS w0 (L :: v'.ownBlock.toList) w' := by
  refine (h.alloc ob).grown hg (fun k hk => by simp [hk]) _ fun M hM => ?_
  simp at hM
  rcases hM with rfl | hM
  · exact Or.inl (by simp)
  · rcases hnew M hM with h1 | h1
    · exact Or.inl (by simp [h1])
    · exact Or.inr ⟨h1, ownsRow_lt hown hM⟩

/-- a box of the call's own, beside the others. -/
structure BA (w0 : World) (Ls : List Nat) (LA : Nat) (cs : Array Value) (T : TypeId) (w : World) : Prop where
  bs : BS w0 (LA :: Ls) w
  box : w.heap[LA]? = some (.cells cs T)
  ne : ∀ L ∈ Ls, L ≠ LA
section
variable {w0 w w' : World} {Ls : List Nat} {LA : Nat} {cs : Array Value} {T : TypeId}
theorem BS.allocd (h : BS w0 Ls w) (cs : Array Value) (T : TypeId) : BA w0 Ls w.heap.size cs T (w.alloc (.cells cs T)) :=
  ⟨h.alloc _, heap_alloc_new w _, fun L hL e => by have := (h.ls L hL).1; omega⟩
theorem BA.step (h : BA w0 Ls LA cs T w) (hV : BS w0 (LA :: Ls) w') (hl : ∀ L ∈ LA :: Ls, w'.heap[L]? = w.heap[L]?) : BA w0 Ls LA cs T w' :=
  ⟨hV, (hl _ (by simp)).trans h.box, h.ne⟩
theorem frozen?_of_heap {o : Nat} (h : w.heap[LA]? = some (.cells cs T)) : w.frozen? ⟨LA, o, none⟩ = false := by
  simp [World.frozen?, h]
theorem heap_setCell_same {L o : Nat} {v : Value} (h : w.heap[L]? = some (.cells cs T)) : (w.setCell ⟨L, o, none⟩ v).heap[L]? = some (.cells (cs.setIfInBounds o v) T) := by
  simp only [World.setCell]
  rw [Array.getElem?_modify, if_pos rfl, h]
  rfl
theorem heap_setCell_other {L M o : Nat} {v : Value} (h : M ≠ L) : (w.setCell ⟨L, o, none⟩ v).heap[M]? = w.heap[M]? := by
  simp only [World.setCell]
  rw [Array.getElem?_modify, if_neg (Ne.symm h)]
theorem BA.set (h : BA w0 Ls LA cs T w) (o : Nat) (v : Value) : BA w0 Ls LA (cs.setIfInBounds o v) T (w.setCell ⟨LA, o, none⟩ v) :=
  ⟨h.bs.setCell (by simp) _ _, heap_setCell_same h.box, h.ne⟩
theorem BA.loc (h : BA w0 Ls LA cs T w) {L : Nat} {ds : Array Value} (hm : L ∈ Ls) (o : Nat) (v : Value) (hc : ∀ i : Nat, w.cell? ⟨L, i, none⟩ = ds[i]?) : ∀ i : Nat, (w.setCell ⟨LA, o, none⟩ v).cell? ⟨L, i, none⟩ = ds[i]? :=
  fun i => (World.cell?_of_block (a := ⟨L, i, none⟩) (heap_setCell_other (h.ne L hm))).trans (hc i)
theorem BA.hloc (h : BA w0 Ls LA cs T w) {L : Nat} {x : Option Obj} (hm : L ∈ Ls) (o : Nat) (v : Value) (hc : w.heap[L]? = x) : (w.setCell ⟨LA, o, none⟩ v).heap[L]? = x :=
  (heap_setCell_other (h.ne L hm)).trans hc
theorem BA.grown (h : BA w0 Ls LA cs T w) {ob : Obj} {row : Option Nat} (hg : (w.alloc ob).grownBy w' row) (hr : ∀ k, row = some k → k < w0.heap.size) : ∀ o : Nat, w'.cell? ⟨LA, o, none⟩ = cs[o]? := by
  have hl := h.bs.ls LA (by simp)
  exact loc_grown hg (by simp; omega) (fun e => by have := hr _ e; omega) (loc_old ob hl.1 fun o => cell?_of_heap h.box)
/-- what a box of three cells offers the walk. -/
theorem BA.cells3 {x y z : Value} (h : BA w0 Ls LA #[x, y, z] T w) : (w.cell? ⟨LA, 0, none⟩ = some x ∧ w.cell? ⟨LA, 1, none⟩ = some y ∧ w.cell? ⟨LA, 2, none⟩ = some z) ∧ w.frozen? ⟨LA, 0, none⟩ = false ∧ w.frozen? ⟨LA, 1, none⟩ = false ∧ w.frozen? ⟨LA, 2, none⟩ = false ∧ LA < w.heap.size ∧ w0.heap.size ≤ LA ∧ Below w0.heap.size w0 w :=
  ⟨⟨cell?_of_heap h.box, cell?_of_heap h.box, cell?_of_heap h.box⟩, frozen?_of_heap h.box, frozen?_of_heap h.box, frozen?_of_heap h.box, (h.bs.ls LA (by simp)).1, (h.bs.ls LA (by simp)).2, h.bs.bel⟩
theorem cells3 {L : Nat} {x y z : Value} (h : w.heap[L]? = some (.cells #[x, y, z] T)) : (w.cell? ⟨L, 0, none⟩ = some x ∧ w.cell? ⟨L, 1, none⟩ = some y ∧ w.cell? ⟨L, 2, none⟩ = some z) ∧ w.frozen? ⟨L, 0, none⟩ = false ∧ w.frozen? ⟨L, 1, none⟩ = false ∧ w.frozen? ⟨L, 2, none⟩ = false :=
  ⟨⟨cell?_of_heap h, cell?_of_heap h, cell?_of_heap h⟩, frozen?_of_heap h, frozen?_of_heap h, frozen?_of_heap h⟩
end

/-- a configuration's values: the slice (ad, n, c) holds a heap's cells. -/
structure XV (w : World) (t p s : Int) (ad : Addr) (n : Nat) (vs : List Int) : Prop where
  right : rightB t p s = true
  few : p ≤ 1024
  len : vs.length = n
  num : (n : Int) = 30 + 4 * t + 6 * p
  u32 : ∀ v ∈ vs, VS.U32 v
  cells : ∀ k, k < n → w.cell? (ad.add k) = some (.int .u32 (vs.getD k 0))

theorem XV.keep {w w' : World} {t p s : Int} {ad : Addr} {n : Nat} {vs : List Int} (h : XV w t p s ad n vs) (hb : Below w.heap.size w w') : XV w' t p s ad n vs :=
  ⟨h.right, h.few, h.len, h.num, h.u32, fun k hk => (hb.cell (World.block_lt_of_cell? w _ (h.cells k hk))).trans (h.cells k hk)⟩

/-- the place of a page's cell. -/
def cix (t q part : Int) : Nat := (30 + 4 * t + 6 * q + part).toNat
def gv (vs : List Int) (t q part : Int) : Int := vs.getD (cix t q part) 0

theorem add_block (a : Addr) (k : Nat) : (a.add k).block = a.block := by unfold Addr.add; split <;> rfl

theorem getD_u32 {vs : List Int} (h : ∀ v ∈ vs, VS.U32 v) (k : Nat) : VS.U32 (vs.getD k 0) := by
  by_cases hk : k < vs.length
  · have e : vs.getD k 0 = vs[k] := by simp [hk]
    rw [e]; exact h _ (List.getElem_mem hk)
  · have e : vs.getD k 0 = 0 := by simp [show ¬ k < vs.length from hk]
    rw [e]; exact VS.u32_zero

section
variable {w : World} {t p s : Int} {ad : Addr} {n : Nat} {vs : List Int}
theorem XV.bd (h : XV w t p s ad n vs) : 1 ≤ t ∧ t ≤ 16 ∧ 4 ≤ p ∧ p ≤ 1024 ∧ 10 ≤ s ∧ s ≤ 20 ∧ (n : Int) = 30 + 4 * t + 6 * p := by
  have := right_bd h.right
  have := h.few
  have := h.num
  omega
theorem XV.of (h : XV w t p s ad n vs) {q part : Int} (h1 : 0 ≤ q) (h2 : q < p) : ofF t p s q part = 30 + 4 * t + 6 * q + part := by
  simp [ofF, h.right, h1, h2]
theorem XV.cx (h : XV w t p s ad n vs) {q part : Int} (h1 : 0 ≤ q) (h2 : q < p) (h3 : 0 ≤ part) (h4 : part ≤ 5) : cix t q part < n ∧ ofF t p s q part = ((cix t q part : Nat) : Int) := by
  have b := h.bd
  rw [h.of h1 h2]
  unfold cix
  omega
theorem XV.gu (h : XV w t p s ad n vs) (q part : Int) : 0 ≤ gv vs t q part ∧ gv vs t q part < 4294967296 := getD_u32 h.u32 _
end

end Go.Proofs.YtpmoajhpgekhcaaGreat
/- the document's small functions: places, bits, classes, infos. -/
set_option linter.unusedSimpArgs false
set_option linter.unusedVariables false
namespace Go.Proofs.YtpmoajhpgekhcaaGreat
open Go.RowKit

theorem rinfo_any (t p s q : Int) (w : World) :
    Calls Tryz.prog 59 #[.agg #[.int .i64 t, .int .i64 p, .int .i64 s], .int .i64 q] w fun e w' => e = .returned (.int .i64 (ofF t p s q 0)) ∧ Below w.heap.size w w' := by
  go_enter Tryz.func59, Tryz.ntmps59
  go_wp2_with fail
  refine (rpage_any _ _ _ _ _ _ (by omega) (by omega)).mono ?_
  rintro e w1 ⟨rfl, ha⟩
  obtain ⟨hac, haf⟩ := bcell ha
  go_wp2
  go_ret
  refine ⟨rfl, ?_⟩
  (repeat (first | exact Below.refl _ _ | assumption | refine Below.setCell ?_ (by first | omega | (simp; done) | (simp; omega)) _ | refine Below.alloc ?_ (by first | omega | (simp; done) | (simp; omega)) _ | refine Below.drew ?_ | refine Below.trans ?_ (Below.mono ‹Below _ _ _› (by first | omega | (simp; done) | (simp; omega)))))
theorem rfoot_any (t p s q : Int) (w : World) :
    Calls Tryz.prog 61 #[.agg #[.int .i64 t, .int .i64 p, .int .i64 s], .int .i64 q] w fun e w' => e = .returned (.int .i64 (ofF t p s q 1)) ∧ Below w.heap.size w w' := by
  go_enter Tryz.func61, Tryz.ntmps61
  go_wp2_with fail
  refine (rpage_any _ _ _ _ _ _ (by omega) (by omega)).mono ?_
  rintro e w1 ⟨rfl, ha⟩
  obtain ⟨hac, haf⟩ := bcell ha
  go_wp2
  go_ret
  refine ⟨rfl, ?_⟩
  (repeat (first | exact Below.refl _ _ | assumption | refine Below.setCell ?_ (by first | omega | (simp; done) | (simp; omega)) _ | refine Below.alloc ?_ (by first | omega | (simp; done) | (simp; omega)) _ | refine Below.drew ?_ | refine Below.trans ?_ (Below.mono ‹Below _ _ _› (by first | omega | (simp; done) | (simp; omega)))))
theorem rslots_any (t p s q : Int) (w : World) :
    Calls Tryz.prog 92 #[.agg #[.int .i64 t, .int .i64 p, .int .i64 s], .int .i64 q] w fun e w' => e = .returned (.int .i64 (ofF t p s q 4)) ∧ Below w.heap.size w w' := by
  go_enter Tryz.func92, Tryz.ntmps92
  go_wp2_with fail
  refine (rpage_any _ _ _ _ _ _ (by omega) (by omega)).mono ?_
  rintro e w1 ⟨rfl, ha⟩
  obtain ⟨hac, haf⟩ := bcell ha
  go_wp2
  go_ret
  refine ⟨rfl, ?_⟩
  (repeat (first | exact Below.refl _ _ | assumption | refine Below.setCell ?_ (by first | omega | (simp; done) | (simp; omega)) _ | refine Below.alloc ?_ (by first | omega | (simp; done) | (simp; omega)) _ | refine Below.drew ?_ | refine Below.trans ?_ (Below.mono ‹Below _ _ _› (by first | omega | (simp; done) | (simp; omega)))))
theorem rtaken_any (t p s q : Int) (w : World) :
    Calls Tryz.prog 93 #[.agg #[.int .i64 t, .int .i64 p, .int .i64 s], .int .i64 q] w fun e w' => e = .returned (.int .i64 (ofF t p s q 5)) ∧ Below w.heap.size w w' := by
  go_enter Tryz.func93, Tryz.ntmps93
  go_wp2_with fail
  refine (rpage_any _ _ _ _ _ _ (by omega) (by omega)).mono ?_
  rintro e w1 ⟨rfl, ha⟩
  obtain ⟨hac, haf⟩ := bcell ha
  go_wp2
  go_ret
  refine ⟨rfl, ?_⟩
  (repeat (first | exact Below.refl _ _ | assumption | refine Below.setCell ?_ (by first | omega | (simp; done) | (simp; omega)) _ | refine Below.alloc ?_ (by first | omega | (simp; done) | (simp; omega)) _ | refine Below.drew ?_ | refine Below.trans ?_ (Below.mono ‹Below _ _ _› (by first | omega | (simp; done) | (simp; omega)))))

theorem rbin_any (k : Nat) (w : World) (h : k < 11) :
    Calls Tryz.prog 66 #[.int .i64 k] w fun e w' => e = .returned (.int .i64 ((2 + k : Nat) : Int)) ∧ Below w.heap.size w w' := by
  go_enter Tryz.func66, Tryz.ntmps66
  go_wp2
  go_ret
  exact ⟨ret_int (by omega), Below.refl _ _⟩
theorem rrack_any (k : Nat) (w : World) (h : k < 9) :
    Calls Tryz.prog 69 #[.int .i64 k] w fun e w' => e = .returned (.int .i64 ((13 + k : Nat) : Int)) ∧ Below w.heap.size w w' := by
  go_enter Tryz.func69, Tryz.ntmps69
  go_wp2
  go_ret
  exact ⟨ret_int (by omega), Below.refl _ _⟩
theorem rroot_any (k : Nat) (w : World) (h : k < 8) :
    Calls Tryz.prog 27 #[.int .i64 k] w fun e w' => e = .returned (.int .i64 ((22 + k : Nat) : Int)) ∧ Below w.heap.size w w' := by
  go_enter Tryz.func27, Tryz.ntmps27
  go_wp2
  go_ret
  exact ⟨ret_int (by omega), Below.refl _ _⟩

def bitB (v : Int) (i : Nat) : Bool := decide (i < 32) && (v / 2 ^ i % 2 == 1)
theorem rbit_any (v : Int) (i : Nat) (w : World) (h : i < 32) (h1 : 0 ≤ v) :
    Calls Tryz.prog 62 #[.int .u32 v, .int .i64 i] w fun e w' => e = .returned (.bool (bitB v i)) ∧ Below w.heap.size w w' := by
  have hd : 0 ≤ v / 2 ^ i := Int.ediv_nonneg h1 (Int.pow_nonneg (by omega))
  go_enter Tryz.func62, Tryz.ntmps62
  go_wp2
  go_ret
  exact ⟨ret_bool (by simp [bitB, h]), Below.refl _ _⟩

def slotsF (k : Int) : Int := if k = 0 then 32 else if k = 1 then 21 else if k = 2 then 16 else if k = 3 then 10 else if k = 4 then 8 else if k = 5 then 5 else if k = 6 then 4 else if k = 7 then 3 else if k = 8 then 2 else 0
theorem slots_bd (k : Int) : 0 ≤ slotsF k ∧ slotsF k ≤ 32 := by unfold slotsF; repeat' split <;> omega
theorem rkslots_any (k : Int) (w : World) :
    Calls Tryz.prog 57 #[.int .i64 k] w fun e w' => e = .returned (.int .i64 (slotsF k)) ∧ Below w.heap.size w w' := by
  generalize hF : slotsF k = F
  have HF := Lib.hid hF
  clear hF
  go_enter Tryz.func57, Tryz.ntmps57
  go_wp2
  all_goals
    go_ret
    refine ⟨ret_int ?_, Below.refl _ _⟩
    have e := HF.out
    subst e
    clear HF
    simp_all [slotsF]


def onesN (v : Int) : Nat → Nat
  | 0 => 0
  | k + 1 => onesN v k + if bitB v k then 1 else 0
theorem onesN_le (v : Int) (k : Nat) : onesN v k ≤ k := by
  induction k with
  | zero => exact Nat.le_refl _
  | succ k ih => unfold onesN; split <;> omega
def OnesRel (v : Int) (w : World) (a i : Value) (wr : World) : Prop := ∃ k : Nat, k ≤ 32 ∧ i = .int .i64 k ∧ a = .int .i64 (onesN v k) ∧ Below w.heap.size w wr
theorem rones_any (v : Int) (w : World) (h1 : 0 ≤ v) :
    Calls Tryz.prog 74 #[.int .u32 v] w fun e w' => e = .returned (.int .i64 (onesN v 32)) ∧ Below w.heap.size w w' := by
  go_enter Tryz.func74, Tryz.ntmps74
  go_wp2
  go_loopw [3, 4] (fun a i wr => OnesRel v w a i wr) (fun _ i _ => 32 - (intOf i).toNat)
  case atStart => exact ⟨0, by omega, rfl, rfl, Below.refl _ _⟩
  case round =>
    obtain ⟨k, hk, rfl, rfl, hb⟩ := hrel
    have hle := onesN_le v k
    by_cases hlt : k < 32
    · have HB := rbit_any v k wr hlt h1
      have hs : onesN v (k + 1) = onesN v k + if bitB v k then 1 else 0 := rfl
      have HS := Lib.hid hs
      clear hs
      generalize bitB v k = z at *
      have HC := Lib.hid HB
      have HX := Lib.hid hb
      clear HB hb
      cases z
      · go_wp2_with fail
        refine HC.out.mono ?_
        rintro e w1 ⟨rfl, b1⟩
        go_wp2_with fail
        go_roundw
        case rel => exact ⟨k + 1, by omega, by go_num, by rw [HS.out]; simp, HX.out.trans (b1.mono HX.out.size)⟩
        case measure => simp [intOf]; omega
      · go_wp2_with fail
        refine HC.out.mono ?_
        rintro e w1 ⟨rfl, b1⟩
        go_wp2_with fail
        go_roundw
        case rel => exact ⟨k + 1, by omega, by go_num, by rw [HS.out]; simp, HX.out.trans (b1.mono HX.out.size)⟩
        case measure => simp [intOf]; omega
    · obtain rfl : k = 32 := by omega
      go_wp2
      go_ret
      exact ⟨rfl, hb⟩

def bitsN (n : Nat) : Nat := if n = 0 then 0 else n.log2 + 1
theorem bitsN_half (n : Nat) (h : 1 ≤ n) : bitsN n = bitsN (n / 2) + 1 := by
  unfold bitsN
  rw [if_neg (by omega), Nat.log2_def]
  by_cases h2 : 2 ≤ n
  · rw [if_pos h2, if_neg (by omega)]
  · rw [if_neg h2, if_pos (by omega)]
theorem bitsN_le (n : Nat) : bitsN n ≤ n := by
  unfold bitsN
  split
  · omega
  · have := Nat.log2_lt (n := n) (k := n) (by omega)
    have := this.2 Nat.lt_two_pow_self
    omega
def logF (n : Int) : Int := (bitsN n.toNat : Int) - 1
def LogRel (n : Int) (w : World) (a i : Value) (wr : World) : Prop := ∃ c k : Nat, a = .int .i64 c ∧ c ≤ 1000000 ∧ i = .int .i64 ((k : Int) - 1) ∧ k + bitsN c = bitsN n.toNat ∧ w = wr
theorem rlog_any (n : Int) (w : World) (h1 : 0 ≤ n) (h2 : n ≤ 1000000) :
    Calls Tryz.prog 94 #[.int .i64 n] w fun e w' => e = .returned (.int .i64 (logF n)) ∧ Below w.heap.size w w' := by
  have hbn := bitsN_le n.toNat
  obtain ⟨m, rfl⟩ := Int.eq_ofNat_of_zero_le h1
  simp at hbn
  generalize hF : logF m = F
  have HF := Lib.hid hF
  clear hF h1
  have h3 : m ≤ 1000000 := by omega
  clear h2
  go_enter Tryz.func94, Tryz.ntmps94
  go_wp2
  go_loopw [0, 3] (fun a i wr => LogRel m w a i wr) (fun a _ _ => (intOf a).toNat)
  case atStart => exact ⟨m, 0, rfl, h3, rfl, by simp, rfl⟩
  case round =>
    obtain ⟨c, k, rfl, hc, rfl, hs, rfl⟩ := hrel
    have hbc := bitsN_le c
    have hs2 : k + bitsN c = bitsN m := by simpa using hs
    have HS := Lib.hid hs2
    have hk : k ≤ 1000000 := by omega
    clear hs hs2
    by_cases hlt : 1 ≤ c
    · go_wp2
      go_roundw
      case rel => exact ⟨c / 2, k + 1, by simp, by omega, by congr 1; omega, by have := HS.out; have := bitsN_half c hlt; simp; omega, rfl⟩
      case measure => simp [intOf]; omega
    · go_wp2
      go_ret
      refine ⟨ret_int ?_, Below.refl _ _⟩
      have := HS.out
      have e := HF.out
      subst e
      have : bitsN c = 0 := by unfold bitsN; rw [if_pos (by omega)]
      simp [logF]
      omega

def fullB (v k : Int) : Bool := ((onesN v 32 : Nat) : Int) == slotsF k
theorem rfull_any (v k : Int) (w : World) (h1 : 0 ≤ v) :
    Calls Tryz.prog 71 #[.int .u32 v, .int .i64 k] w fun e w' => e = .returned (.bool (fullB v k)) ∧ Below w.heap.size w w' := by
  have H1 := Lib.hid (fun w => rones_any v w h1)
  generalize hz : fullB v k = z
  have HZ := Lib.hid hz
  clear hz h1
  go_enter Tryz.func71, Tryz.ntmps71
  go_wp2_with fail
  refine (H1.out _).mono ?_
  rintro e w1 ⟨rfl, b1⟩
  go_wp2_with fail
  refine (rkslots_any _ _).mono ?_
  rintro e w2 ⟨rfl, b2⟩
  go_wp2_with fail
  go_ret
  exact ⟨ret_bool HZ.out, b1.trans (b2.mono b1.size)⟩

def rightI (k l c : Int) : Bool :=
  if k = 0 then decide (l = 0) && decide (c = 0)
  else if k = 1 ∨ k = 2 then decide (1 ≤ l) && decide (l ≤ 1024) && decide (c = 0)
  else if k = 3 then decide (l = 1) && decide (0 ≤ c) && decide (c ≤ 8) else false
theorem riright_any (k l c : Int) (w : World) :
    Calls Tryz.prog 107 #[.agg #[.int .i64 k, .int .i64 l, .int .i64 c]] w fun e w' => e = .returned (.bool (rightI k l c)) ∧ Below w.heap.size w w' := by
  generalize hF : rightI k l c = F
  have HF := Lib.hid hF
  clear hF
  go_enter Tryz.func107, Tryz.ntmps107
  go_wp2
  all_goals
    go_ret
    refine ⟨ret_bool ?_, by (repeat (first | exact Below.refl _ _ | assumption | refine Below.setCell ?_ (by first | omega | (simp; done) | (simp; omega)) _ | refine Below.alloc ?_ (by first | omega | (simp; done) | (simp; omega)) _ | refine Below.drew ?_ | refine Below.trans ?_ (Below.mono ‹Below _ _ _› (by first | omega | (simp; done) | (simp; omega)))))⟩
    have e := HF.out
    subst e
    clear HF
    rw [Bool.eq_iff_iff]
    simp_all [rightI] <;> omega

end Go.Proofs.YtpmoajhpgekhcaaGreat
/- the document's audit: infos of pages. -/
set_option linter.unusedSimpArgs false
set_option linter.unusedVariables false
namespace Go.Proofs.YtpmoajhpgekhcaaGreat
open Go.RowKit

def okI (v : Int) : Bool := rightI (v % 16) (v / 16 % 4096) (v / 65536)
def iK (v : Int) : Int := if okI v then v % 16 else 0
def iL (v : Int) : Int := if okI v then v / 16 % 4096 else 0
def iC (v : Int) : Int := if okI v then v / 65536 else 0
theorem inf_bd (v : Int) : 0 ≤ iK v ∧ iK v ≤ 3 ∧ 0 ≤ iL v ∧ iL v ≤ 1024 ∧ 0 ≤ iC v ∧ iC v ≤ 8 ∧ (iK v ≠ 0 → okI v = true ∧ 1 ≤ iL v) ∧ (okI v = false → iK v = 0) := by
  unfold iK iL iC
  cases h : okI v
  · simp
  · unfold okI rightI at h
    have h0 := h
    split at h0
    · simp at h0; simp; omega
    · split at h0
      · simp at h0; simp; omega
      · split at h0
        · simp at h0; simp; omega
        · simp at h0

theorem rget9_any (v : Int) (w : World) (h1 : 0 ≤ v) (h2 : v < 4294967296) :
    Calls Tryz.prog 90 #[.int .u32 v] w fun e w' => e = .returned (.tuple #[.agg #[.int .i64 (iK v), .int .i64 (iL v), .int .i64 (iC v)], .bool (okI v)]) ∧ Below w.heap.size w w' := by
  have H := fun w => riright_any (v % 16) (v / 16 % 4096) (v / 65536) w
  have hz : rightI (v % 16) (v / 16 % 4096) (v / 65536) = okI v := rfl
  rw [hz] at H
  have HZ : ∀ z, okI v = z → (iK v = if z then v % 16 else 0) ∧ (iL v = if z then v / 16 % 4096 else 0) ∧ (iC v = if z then v / 65536 else 0) := by
    intro z hz; subst hz; exact ⟨rfl, rfl, rfl⟩
  clear hz
  cases hok : okI v
  · obtain ⟨e1, e2, e3⟩ := HZ _ hok
    simp at e1 e2 e3
    rw [e1, e2, e3]
    rw [hok] at H
    have HH := Lib.hid H
    clear H HZ hok e1 e2 e3
    go_enter Tryz.func90, Tryz.ntmps90
    go_wp2_with fail
    refine (HH.out _).mono ?_
    rintro e w1 ⟨rfl, hb⟩
    obtain ⟨hbc, hbf⟩ := bcell hb
    have z0 : w.heap.size < w1.heap.size := by have := hb.size; simp at this; omega
    have k := fun o => (hbc w.heap.size o (by simp; omega)).trans (loc_old (.cells #[.int .i64 (v % 16), .int .i64 (v / 16 % 4096), .int .i64 (v / 65536)] 61) (by simp) (loc_alloc w #[.int .i64 0, .int .i64 0, .int .i64 0] 61) o)
    have k0 := k 0
    have k1 := k 1
    have k2 := k 2
    simp at k0 k1 k2
    clear k
    go_wp2
    clear hbc hbf
    refine bodyPost_ret (v := .tuple #[.agg #[.int .i64 0, .int .i64 0, .int .i64 0], .bool false]) (by simp [results, Tryz.results90, go_sem, *]) rfl ⟨rfl, ?_⟩
    (repeat (first | exact Below.refl _ _ | assumption | refine Below.setCell ?_ (by first | omega | (simp; done) | (simp; omega)) _ | refine Below.alloc ?_ (by first | omega | (simp; done) | (simp; omega)) _ | refine Below.drew ?_ | refine Below.trans ?_ (Below.mono ‹Below _ _ _› (by first | omega | (simp; done) | (simp; omega)))))
  · obtain ⟨e1, e2, e3⟩ := HZ _ hok
    simp at e1 e2 e3
    rw [e1, e2, e3]
    rw [hok] at H
    have HH := Lib.hid H
    clear H HZ hok e1 e2 e3
    go_enter Tryz.func90, Tryz.ntmps90
    go_wp2_with fail
    refine (HH.out _).mono ?_
    rintro e w1 ⟨rfl, hb⟩
    obtain ⟨hbc, hbf⟩ := bcell hb
    have z0 : w.heap.size < w1.heap.size := by have := hb.size; simp at this; omega
    have z1 : w.heap.size + 1 < w1.heap.size := by have := hb.size; simp at this; omega
    have k := fun o => (hbc w.heap.size o (by simp; omega)).trans (loc_old (.cells #[.int .i64 (v % 16), .int .i64 (v / 16 % 4096), .int .i64 (v / 65536)] 61) (by simp) (loc_alloc w #[.int .i64 0, .int .i64 0, .int .i64 0] 61) o)
    have k0 := k 0
    have k1 := k 1
    have k2 := k 2
    simp at k0 k1 k2
    clear k
    go_wp2
    clear hbc hbf
    refine bodyPost_ret (v := .tuple #[.agg #[.int .i64 (v % 16), .int .i64 (v / 16 % 4096), .int .i64 (v / 65536)], .bool true]) (by simp [results, Tryz.results90, go_sem, *]) rfl ⟨rfl, ?_⟩
    (repeat (first | exact Below.refl _ _ | assumption | refine Below.setCell ?_ (by first | omega | (simp; done) | (simp; omega)) _ | refine Below.alloc ?_ (by first | omega | (simp; done) | (simp; omega)) _ | refine Below.drew ?_ | refine Below.trans ?_ (Below.mono ‹Below _ _ _› (by first | omega | (simp; done) | (simp; omega)))))

section
variable {t p s : Int} {ad : Addr} {n : Nat} {vs : List Int}

set_option maxHeartbeats 800000 in
theorem xinfo_any (q : Int) (c : Nat) (w : World) (h : XV w t p s ad n vs) (h0 : 0 ≤ q) (h1 : q < p) :
    Calls Tryz.prog 60 #[.agg #[.int .i64 t, .int .i64 p, .int .i64 s, .slice (some ad) n c], .int .i64 q] w fun e w' => e = .returned (.agg #[.int .i64 (iK (gv vs t q 0)), .int .i64 (iL (gv vs t q 0)), .int .i64 (iC (gv vs t q 0))]) ∧ Below w.heap.size w w' := by
  obtain ⟨hx1, hx2⟩ := h.cx h0 h1 (part := 0) (by omega) (by omega)
  have hc0 := h.cells _ hx1
  have hgu := h.gu q 0
  have hI := fun w => rinfo_any t p s q w
  rw [hx2] at hI
  have hd : vs.getD (cix t q 0) 0 = gv vs t q 0 := rfl
  rw [hd] at hc0
  generalize gv vs t q 0 = v at *
  have hG := fun w => rget9_any v w hgu.1 hgu.2
  generalize okI v = ok at *
  generalize iK v = a1 at *
  generalize iL v = a2 at *
  generalize iC v = a3 at *
  generalize cix t q 0 = k at *
  have H1 := Lib.hid hI
  have H2 := Lib.hid hG
  clear h hd hgu hI hG hx2
  have hS0 := (((BS.start w).alloc (.cells #[.int .i64 t, .int .i64 p, .int .i64 s, .slice (some ad) n c] 88)).alloc (.cells #[.int .i64 0, .int .i64 0, .int .i64 0] 61))
  simp only [World.size_alloc] at hS0
  go_enter Tryz.func60, Tryz.ntmps60
  go_wp2_with fail
  refine wp_region_noPanic ?_
  refine wp_region_held_drew (S := fun w' => BS w [w.heap.size + 1, w.heap.size] w' ∧ (∀ o : Nat, w'.cell? ⟨w.heap.size, o, none⟩ = (#[.int .i64 t, .int .i64 p, .int .i64 s, .slice (some ad) n c] : Array Value)[o]?) ∧ w'.heap[w.heap.size + 1]? = some (.cells (#[.int .i64 0, .int .i64 0, .int .i64 0]) 61) ∧ w'.cell? (ad.add k) = some (.int .u32 v)) (by kernel_rfl) ?_ (fun hHeld => ?_)
  · exact ⟨hS0.drew, loc_old _ (by simp) (loc_alloc w _ _), hb_alloc _ _ _ (by simp), hS0.drew.old hc0⟩
  refine wT 0 ?_
  refine wT 1 ?_
  refine wT 2 ?_
  refine wT 3 ?_
  refine wT 4 ?_
  refine wpAnyH_ready (rs := [5, 12]) (by kernel_rfl) (by simp) ?_
  refine AllReadyH.cons (o := _) rfl (fun K hK => ?_) (AllReadyH.cons (o := _) rfl (fun K hK => ?_) AllReadyH.nil)
  · go_simp
    refine (calls_b hHeld.1 (H1.out _)).mono ?_
    rintro e wr1 ⟨rfl, hV, hVl⟩
    dsimp only
    refine hK.out _ _ ?_ (fun hHeld2 => ?_)
    · exact ⟨hV, loc_step hVl (by simp) hHeld.2.1, (hVl _ (by simp)).trans hHeld.2.2.1, hV.old hc0⟩
    clear hK K hV hVl hHeld
    have hHeld := hHeld2
    clear hHeld2
    try simp only [Act.put, zA, zB, zC, zD, zE, zF]
    refine wT 6 ?_
    refine wT 7 ?_
    refine wpAnyH_ready (rs := [8, 12]) (by kernel_rfl) (by simp) ?_
    refine AllReadyH.cons (o := _) rfl (fun K hK => ?_) (AllReadyH.cons (o := _) rfl (fun K hK => ?_) AllReadyH.nil)
    · go_simp
      refine (calls_b hHeld.1 (H2.out _)).mono ?_
      rintro e wr2 ⟨rfl, hV, hVl⟩
      dsimp only
      refine hK.out _ _ ?_ (fun hHeld2 => ?_)
      · exact ⟨hV, loc_step hVl (by simp) hHeld.2.1, (hVl _ (by simp)).trans hHeld.2.2.1, hV.old hc0⟩
      clear hK K hV hVl hHeld
      have hHeld := hHeld2
      clear hHeld2
      try simp only [Act.put, zA, zB, zC, zD, zE, zF]
      refine wT 9 ?_
      refine wT 10 ?_
      refine wT 11 ?_
      refine wR 12 fun K hK => ?_
      have hP := hHeld
      have hA := hHeld.1.allocd (#[.int .i64 0, .int .i64 0, .int .i64 0]) 61
      try simp only [World.size_drew] at hA
      try simp only [World.size_alloc] at hA
      go_simp
      refine hK.out _ _ ?_ (fun hHeld2 => ?_)
      · exact ⟨hA.bs.sub _ (by simp), loc_old _ (hHeld.1.ls _ (by simp)).1 hHeld.2.1, (heap_alloc_old _ _ (hHeld.1.ls _ (by simp)).1).trans hHeld.2.2.1, hA.bs.old hc0⟩
      clear hK K hHeld
      have hHeld := hHeld2
      clear hHeld2
      try simp only [Act.put, zA, zB, zC, zD, zE, zF]
      refine wR 13 fun K hK => ?_
      go_simp
      have hA2 := (hP.1).allocd (#[.int .i64 a1 , .int .i64 a2 , .int .i64 a3]) 61
      refine hK.out _ _ ?_ (fun hHeld2 => ?_)
      try simp only [World.size_drew] at hA2
      try simp only [World.size_alloc] at hA2
      · exact ⟨hA2.bs.sub _ (by simp), loc_old _ ((hP.1).ls _ (by simp)).1 hP.2.1, (heap_alloc_old _ _ ((hP.1).ls _ (by simp)).1).trans hP.2.2.1, hA2.bs.old hc0⟩
      clear hA hP
      have hA := hA2
      clear hA2 hHeld
      have hHeld := hHeld2
      clear hHeld2
      clear hK K
      try simp only [Act.put, zA, zB, zC, zD, zE, zF]
      refine wT 14 ?_
      refine wpAnyH_done (by kernel_rfl) (NoPanic.normal ?_) _
      refine world_gen ?_
      intro wz hwz
      rw [← hwz] at hHeld hA
      clear hwz
      obtain ⟨⟨q0, q1, q2⟩, f0, f1, f2, z1, z2, bel⟩ := hA.cells3
      obtain ⟨⟨r0, r1, r2⟩, g0, g1, g2⟩ := cells3 hHeld.2.2.1
      have y1 := hA.ne (w.heap.size + 1) (by simp)
      have y2 := (hHeld.1.ls (w.heap.size + 1) (by simp)).1
      clear hHeld hA H1 H2 hS0 hc0
      go_wp2
      refine bodyPost_ret (v := .agg #[.int .i64 a1, .int .i64 a2, .int .i64 a3]) (by simp [results, Tryz.results60, go_sem, *]) rfl ⟨rfl, ?_⟩
      exact (bel.setCell (by simp) _ |>.setCell (by simp) _ |>.setCell (by simp) _)
    · have hP := hHeld
      have hA := hHeld.1.allocd (#[.int .i64 0, .int .i64 0, .int .i64 0]) 61
      try simp only [World.size_drew] at hA
      try simp only [World.size_alloc] at hA
      go_simp
      refine hK.out _ _ ?_ (fun hHeld2 => ?_)
      · exact ⟨hA.bs.sub _ (by simp), loc_old _ (hHeld.1.ls _ (by simp)).1 hHeld.2.1, (heap_alloc_old _ _ (hHeld.1.ls _ (by simp)).1).trans hHeld.2.2.1, hA.bs.old hc0⟩
      clear hK K hHeld
      have hHeld := hHeld2
      clear hHeld2
      try simp only [Act.put, zA, zB, zC, zD, zE, zF]
      refine wR 8 fun K hK => ?_
      go_simp
      refine (calls_b hA.bs (H2.out _)).mono ?_
      rintro e wr3 ⟨rfl, hV, hVl⟩
      have hAn := hA.step hV hVl
      dsimp only
      refine hK.out _ _ ?_ (fun hHeld2 => ?_)
      · exact ⟨hV.sub _ (by simp), loc_step hVl (by simp) hHeld.2.1, (hVl _ (by simp)).trans hHeld.2.2.1, hV.old hc0⟩
      clear hK K hV hVl hHeld hA hP
      have hA := hAn
      have hP := trivial
      clear hAn
      have hHeld := hHeld2
      clear hHeld2
      try simp only [Act.put, zA, zB, zC, zD, zE, zF]
      refine wT 9 ?_
      refine wT 10 ?_
      refine wT 11 ?_
      refine wR 13 fun K hK => ?_
      have kc0 := (cell?_of_heap (o := 0) hA.box)
      have kc1 := (cell?_of_heap (o := 1) hA.box)
      have kc2 := (cell?_of_heap (o := 2) hA.box)
      simp at kc0 kc1 kc2
      have kf0 := frozen?_of_heap (o := 0) hA.box
      have kf1 := frozen?_of_heap (o := 1) hA.box
      have kf2 := frozen?_of_heap (o := 2) hA.box
      go_simp
      refine hK.out _ _ ?_ (fun hHeld2 => ?_)
      · exact ⟨(((hA.set 0 _).set 1 _).set 2 _).bs.sub _ (by simp), (((hA.set 0 _).set 1 _).loc (by simp) 2 _ ((hA.set 0 _).loc (by simp) 1 _ (hA.loc (by simp) 0 _ hHeld.2.1))), (((hA.set 0 _).set 1 _).hloc (by simp) 2 _ ((hA.set 0 _).hloc (by simp) 1 _ (hA.hloc (by simp) 0 _ hHeld.2.2.1))), (((hA.set 0 _).set 1 _).set 2 _).bs.old hc0⟩
      have hA2 : BA w [w.heap.size + 1, w.heap.size] _ (#[.int .i64 a1 , .int .i64 a2 , .int .i64 a3]) 61 _ := (((hA.set 0 (.int .i64 a1)).set 1 (.int .i64 a2)).set 2 (.int .i64 a3))
      clear kc0 kf0 kc1 kf1 kc2 kf2 hA hP
      have hA := hA2
      clear hA2 hHeld
      have hHeld := hHeld2
      clear hHeld2
      clear hK K
      try simp only [Act.put, zA, zB, zC, zD, zE, zF]
      refine wT 14 ?_
      refine wpAnyH_done (by kernel_rfl) (NoPanic.normal ?_) _
      refine world_gen ?_
      intro wz hwz
      rw [← hwz] at hHeld hA
      clear hwz
      obtain ⟨⟨q0, q1, q2⟩, f0, f1, f2, z1, z2, bel⟩ := hA.cells3
      obtain ⟨⟨r0, r1, r2⟩, g0, g1, g2⟩ := cells3 hHeld.2.2.1
      have y1 := hA.ne (w.heap.size + 1) (by simp)
      have y2 := (hHeld.1.ls (w.heap.size + 1) (by simp)).1
      clear hHeld hA H1 H2 hS0 hc0
      go_wp2
      refine bodyPost_ret (v := .agg #[.int .i64 a1, .int .i64 a2, .int .i64 a3]) (by simp [results, Tryz.results60, go_sem, *]) rfl ⟨rfl, ?_⟩
      exact (bel.setCell (by simp) _ |>.setCell (by simp) _ |>.setCell (by simp) _)
  · have hP := hHeld
    have hA := hHeld.1.allocd (#[.int .i64 0, .int .i64 0, .int .i64 0]) 61
    try simp only [World.size_drew] at hA
    try simp only [World.size_alloc] at hA
    go_simp
    refine hK.out _ _ ?_ (fun hHeld2 => ?_)
    · exact ⟨hA.bs.sub _ (by simp), loc_old _ (hHeld.1.ls _ (by simp)).1 hHeld.2.1, (heap_alloc_old _ _ (hHeld.1.ls _ (by simp)).1).trans hHeld.2.2.1, hA.bs.old hc0⟩
    clear hK K hHeld
    have hHeld := hHeld2
    clear hHeld2
    try simp only [Act.put, zA, zB, zC, zD, zE, zF]
    refine wR 5 fun K hK => ?_
    go_simp
    refine (calls_b hA.bs (H1.out _)).mono ?_
    rintro e wr4 ⟨rfl, hV, hVl⟩
    have hAn := hA.step hV hVl
    dsimp only
    refine hK.out _ _ ?_ (fun hHeld2 => ?_)
    · exact ⟨hV.sub _ (by simp), loc_step hVl (by simp) hHeld.2.1, (hVl _ (by simp)).trans hHeld.2.2.1, hV.old hc0⟩
    clear hK K hV hVl hHeld hA hP
    have hA := hAn
    have hP := trivial
    clear hAn
    have hHeld := hHeld2
    clear hHeld2
    try simp only [Act.put, zA, zB, zC, zD, zE, zF]
    refine wT 6 ?_
    refine wT 7 ?_
    refine wR 8 fun K hK => ?_
    go_simp
    refine (calls_b hA.bs (H2.out _)).mono ?_
    rintro e wr5 ⟨rfl, hV, hVl⟩
    have hAn := hA.step hV hVl
    dsimp only
    refine hK.out _ _ ?_ (fun hHeld2 => ?_)
    · exact ⟨hV.sub _ (by simp), loc_step hVl (by simp) hHeld.2.1, (hVl _ (by simp)).trans hHeld.2.2.1, hV.old hc0⟩
    clear hK K hV hVl hHeld hA hP
    have hA := hAn
    have hP := trivial
    clear hAn
    have hHeld := hHeld2
    clear hHeld2
    try simp only [Act.put, zA, zB, zC, zD, zE, zF]
    refine wT 9 ?_
    refine wT 10 ?_
    refine wT 11 ?_
    refine wR 13 fun K hK => ?_
    have kc0 := (cell?_of_heap (o := 0) hA.box)
    have kc1 := (cell?_of_heap (o := 1) hA.box)
    have kc2 := (cell?_of_heap (o := 2) hA.box)
    simp at kc0 kc1 kc2
    have kf0 := frozen?_of_heap (o := 0) hA.box
    have kf1 := frozen?_of_heap (o := 1) hA.box
    have kf2 := frozen?_of_heap (o := 2) hA.box
    go_simp
    refine hK.out _ _ ?_ (fun hHeld2 => ?_)
    · exact ⟨(((hA.set 0 _).set 1 _).set 2 _).bs.sub _ (by simp), (((hA.set 0 _).set 1 _).loc (by simp) 2 _ ((hA.set 0 _).loc (by simp) 1 _ (hA.loc (by simp) 0 _ hHeld.2.1))), (((hA.set 0 _).set 1 _).hloc (by simp) 2 _ ((hA.set 0 _).hloc (by simp) 1 _ (hA.hloc (by simp) 0 _ hHeld.2.2.1))), (((hA.set 0 _).set 1 _).set 2 _).bs.old hc0⟩
    have hA2 : BA w [w.heap.size + 1, w.heap.size] _ (#[.int .i64 a1 , .int .i64 a2 , .int .i64 a3]) 61 _ := (((hA.set 0 (.int .i64 a1)).set 1 (.int .i64 a2)).set 2 (.int .i64 a3))
    clear kc0 kf0 kc1 kf1 kc2 kf2 hA hP
    have hA := hA2
    clear hA2 hHeld
    have hHeld := hHeld2
    clear hHeld2
    clear hK K
    try simp only [Act.put, zA, zB, zC, zD, zE, zF]
    refine wT 14 ?_
    refine wpAnyH_done (by kernel_rfl) (NoPanic.normal ?_) _
    refine world_gen ?_
    intro wz hwz
    rw [← hwz] at hHeld hA
    clear hwz
    obtain ⟨⟨q0, q1, q2⟩, f0, f1, f2, z1, z2, bel⟩ := hA.cells3
    obtain ⟨⟨r0, r1, r2⟩, g0, g1, g2⟩ := cells3 hHeld.2.2.1
    have y1 := hA.ne (w.heap.size + 1) (by simp)
    have y2 := (hHeld.1.ls (w.heap.size + 1) (by simp)).1
    clear hHeld hA H1 H2 hS0 hc0
    go_wp2
    refine bodyPost_ret (v := .agg #[.int .i64 a1, .int .i64 a2, .int .i64 a3]) (by simp [results, Tryz.results60, go_sem, *]) rfl ⟨rfl, ?_⟩
    exact (bel.setCell (by simp) _ |>.setCell (by simp) _ |>.setCell (by simp) _)
end
end Go.Proofs.YtpmoajhpgekhcaaGreat
