/- parts of the proof, merged by a program. -/
import Derived.WalkKit
import Derived.WalkSpells
import Derived.WalkLawsBesides
import Derived.Lib.Hide
import Derived.Deep.RegionHeld3
import Derived.Maps.OwnOps
import Derived.Lib.SmallJoins
import Derived.Test.YtcicmljnjdhkjaaRows
import Derived.Deep.AppendLies
import Derived.Deep.RegionLaw
set_option linter.unusedSimpArgs false
set_option linter.unusedVariables false
namespace Go.Proofs.Ytcicmljnjdhkjaa
/- short names for laws that are named often. -/
theorem zA {α : Type _} {xs : List α} {i : Nat} (h : i < xs.toArray.size) : xs.toArray[i] = xs[i]'(by simpa using h) := rfl
theorem zB {α : Type _} (a : α) (bs : List α) (h : 0 < (a :: bs).length) : (a :: bs)[0] = a := rfl
theorem zC {α : Type _} (a : α) (bs : List α) (i : Nat) (h : i + 1 < (a :: bs).length) : (a :: bs)[i + 1] = bs[i]'(Nat.lt_of_succ_lt_succ h) := rfl
theorem zD {α : Type _} (l : List α) (i : Nat) (a : α) : l.toArray.setIfInBounds i a = (l.set i a).toArray := List.setIfInBounds_toArray l i a
theorem zE {α : Type _} {x : α} {xs : List α} {a : α} : (x :: xs).set 0 a = a :: xs := rfl
theorem zF {α : Type _} {x : α} {xs : List α} {i : Nat} {a : α} : (x :: xs).set (i + 1) a = x :: xs.set i a := rfl
end Go.Proofs.Ytcicmljnjdhkjaa
/- small laws on worlds, for all texts of this seat. -/
set_option linter.unusedSimpArgs false
set_option linter.unusedVariables false
namespace Go.Proofs.Ytcicmljnjdhkjaa
open Go.RowKit

theorem bcell {W w1 : World} (hb : Below W.heap.size W w1) : (∀ b o, b < W.heap.size → w1.cell? ⟨b, o, none⟩ = W.cell? ⟨b, o, none⟩) ∧ (∀ b o, b < W.heap.size → w1.frozen? ⟨b, o, none⟩ = W.frozen? ⟨b, o, none⟩) :=
  ⟨fun b o h => hb.cell (p := ⟨b, o, none⟩) h, fun b o h => hb.frozen (p := ⟨b, o, none⟩) h⟩

theorem hb_alloc (w : World) (o : Obj) (k : Nat) (h : k = w.heap.size) : (w.alloc o).heap[k]? = some o := by subst h; exact heap_alloc_new w o
theorem cell?_of_heap {w : World} {b o : Nat} {cs : Array Value} {T : TypeId} {fr : Nat × Nat} (h : w.heap[b]? = some (.cells cs T fr)) : w.cell? ⟨b, o, none⟩ = cs[o]? := by simp [World.cell?, h]

/-- what a drawn region keeps: the cells of the box b, and all below. -/
theorem keepB {W w' w0 : World} {b : Nat} {cs : Array Value} (hb : Below W.heap.size W w') (h : (∀ o : Nat, W.cell? ⟨b, o, none⟩ = cs[o]?) ∧ b < W.heap.size ∧ Below w0.heap.size w0 W) :
    (∀ o : Nat, w'.cell? ⟨b, o, none⟩ = cs[o]?) ∧ b < w'.heap.size ∧ Below w0.heap.size w0 w' :=
  ⟨fun o => (hb.cell (p := ⟨b, o, none⟩) h.2.1).trans (h.1 o), Nat.lt_of_lt_of_le h.2.1 hb.size, h.2.2.trans (hb.mono h.2.2.size)⟩
theorem wrap_in (n : Int) (h : -9223372036854775808 ≤ n ∧ n ≤ 9223372036854775807) : IntKind.i64.wrap n = n := IntWalk.i64_in _ h
theorem ret_bool {a b : Bool} (h : a = b) : Ending.returned (.bool a) = Ending.returned (.bool b) := by rw [h]
theorem ret_int {k : IntKind} {a b : Int} (h : a = b) : Ending.returned (.int k a) = Ending.returned (.int k b) := by rw [h]

end Go.Proofs.Ytcicmljnjdhkjaa
/- frames of worlds; maps from numbers to numbers; slices that grow: for all texts of this seat. -/
set_option linter.unusedSimpArgs false
set_option linter.unusedVariables false
namespace Go.Proofs.Ytcicmljnjdhkjaa
open Go.RowKit

/-! ### Frames -/

/-- But for the blocks of S, what was there is as it was. -/
structure Fr (S : Nat → Prop) (w w' : World) : Prop where
  os : w'.os = w.os
  tape : w'.tape = w.tape
  output : w'.output = w.output
  size : w.heap.size ≤ w'.heap.size
  block : ∀ k, k < w.heap.size → ¬ S k → w'.heap[k]? = w.heap[k]?

/-- S, and what has come since w. -/
def upd (S : Nat → Prop) (w w' : World) : Nat → Prop := fun k => S k ∨ (w.heap.size ≤ k ∧ k < w'.heap.size)

theorem Fr.refl (S : Nat → Prop) (w : World) : Fr S w w := ⟨rfl, rfl, rfl, Nat.le_refl _, fun _ _ _ => rfl⟩
theorem Fr.trans {S S1 : Nat → Prop} {a b c : World} (h : Fr S a b) (k : Fr S1 b c) (hs : ∀ i, S1 i → S i ∨ a.heap.size ≤ i) : Fr S a c :=
  ⟨k.os.trans h.os, k.tape.trans h.tape, k.output.trans h.output, Nat.le_trans h.size k.size, fun i hi hn => (k.block i (Nat.lt_of_lt_of_le hi h.size) (fun x => by rcases hs i x with y | y; exact hn y; omega)).trans (h.block i hi hn)⟩
theorem Fr.mono {S S1 : Nat → Prop} {a b : World} (h : Fr S a b) (hs : ∀ i, S i → S1 i) : Fr S1 a b := ⟨h.os, h.tape, h.output, h.size, fun i hi hn => h.block i hi (fun x => hn (hs i x))⟩
theorem Fr.of_below {S : Nat → Prop} {a b : World} (h : Below a.heap.size a b) : Fr S a b := ⟨h.os, h.tape, h.output, h.size, fun i hi _ => h.block i hi⟩
theorem Fr.below {S : Nat → Prop} {a b : World} {B : Nat} (h : Fr S a b) (hB : B ≤ a.heap.size) (hs : ∀ i, S i → B ≤ i) : Below B a b := ⟨h.os, h.tape, h.output, h.size, fun i hi => h.block i (by omega) (fun x => by have := hs i x; omega)⟩
theorem Fr.drew {S : Nat → Prop} {a b : World} (h : Fr S a b) : Fr S a b.drew := ⟨h.os, h.tape, h.output, h.size, h.block⟩
theorem Fr.alloc {S : Nat → Prop} {a b : World} (h : Fr S a b) (o : Obj) : Fr S a (b.alloc o) :=
  h.trans (S1 := S) (Fr.of_below ((Below.refl _ _).alloc (Nat.le_refl _) o)) (fun _ x => Or.inl x)
theorem Fr.setCell {S : Nat → Prop} {a b : World} (h : Fr S a b) (p : Addr) (u : Value) (hp : S p.block ∨ a.heap.size ≤ p.block) : Fr S a (b.setCell p u) :=
  h.trans (S1 := fun k => k = p.block) ⟨rfl, rfl, rfl, by simp, fun k _ hn => Below.heap_setCell _ _ _ _ hn⟩ (fun i hi => by rw [hi]; exact hp)
theorem Fr.grown {S : Nat → Prop} {a b c : World} {row : Option Nat} (h : Fr S a b) (g : b.grownBy c row) (hr : ∀ k, row = some k → S k ∨ a.heap.size ≤ k) : Fr S a c :=
  h.trans (S1 := fun k => row = some k) ⟨g.os, g.tape, g.output, g.size, fun k hk hn => g.block k hk (fun e => hn e.symm)⟩ hr
theorem Fr.cell {S : Nat → Prop} {a b : World} (h : Fr S a b) {k : Nat} (hk : k < a.heap.size) (hn : ¬ S k) (o : Nat) : b.cell? ⟨k, o, none⟩ = a.cell? ⟨k, o, none⟩ := World.cell?_of_block (h.block k hk hn)
theorem Fr.frozen {S : Nat → Prop} {a b : World} (h : Fr S a b) {k : Nat} (hk : k < a.heap.size) (hn : ¬ S k) (o : Nat) : b.frozen? ⟨k, o, none⟩ = a.frozen? ⟨k, o, none⟩ := World.frozen?_of_block (h.block k hk hn)

/-! ### Maps from int to int, as lists in the order in which keys came -/

def look : List (Int × Int) → Int → Nat → Option (Nat × Int)
  | [], _, _ => none
  | p :: r, k, i => if p.1 = k then some (i, p.2) else look r k (i + 1)
def assoc (l : List (Int × Int)) (k : Int) : Option Int := (look l k 0).map (·.2)
def upsert (l : List (Int × Int)) (k v : Int) : List (Int × Int) := match look l k 0 with
  | some (i, _) => l.set i (k, v)
  | none => l ++ [(k, v)]

def rowsOf (l : List (Int × Int)) : List (Value × Value) := l.map fun p => (.int .i64 p.1, .int .i64 p.2)
def MapIs (w : World) (b : Nat) (l : List (Int × Int)) : Prop := ∃ es clk, w.heap[b]? = some (.map es clk) ∧ es.toList.map (fun e => (e.key, e.val)) = rowsOf l

theorem findNow_look (k : Int) : ∀ (es : List MapEntry) (l : List (Int × Int)) (i : Nat), es.map (fun e => (e.key, e.val)) = rowsOf l →
    Instr.findNow (.int .i64) (.int .i64 k) es i = some ((look l k i).map fun x => (x.1, .int .i64 x.2))
  | [], [], _, _ => rfl
  | [], _ :: _, _, h => by simp [rowsOf] at h
  | _ :: _, [], _, h => by simp [rowsOf] at h
  | e :: es, p :: l, i, h => by
    simp only [rowsOf, List.map_cons, List.cons.injEq, Prod.mk.injEq] at h
    obtain ⟨⟨h1, h2⟩, h3⟩ := h
    simp only [Instr.findNow, h1, Instr.sameNow, if_true, look, h2]
    by_cases hk : p.1 = k
    · simp [hk]
    · have : (k == p.1) = false := by simp; exact fun x => hk x.symm
      simp only [this, if_neg hk]
      exact findNow_look k es l (i + 1) h3

theorem look_lt {k : Int} : ∀ {l : List (Int × Int)} {i j : Nat} {v : Int}, look l k i = some (j, v) → i ≤ j ∧ j < i + l.length ∧ l[j - i]? = some (k, v)
  | [], _, _, _, h => by simp [look] at h
  | p :: r, i, j, v, h => by
    simp only [look] at h
    split at h
    · rename_i hp
      simp only [Option.some.injEq, Prod.mk.injEq] at h
      obtain ⟨rfl, rfl⟩ := h
      subst hp
      exact ⟨Nat.le_refl _, by simp, by simp⟩
    · obtain ⟨h1, h2, h3⟩ := look_lt h
      refine ⟨by omega, by simp; omega, ?_⟩
      have : j - i = (j - (i + 1)) + 1 := by omega
      rw [this, List.getElem?_cons_succ]
      exact h3

section
variable {P : Program} {w : World} {t K E : TypeId}

theorem isKey_int (k : Int) : MapKept.IsKey (.int .i64) (.int .i64 k) := by simp [MapKept.IsKey]

theorem run_lookup_ok {b : Nat} {l : List (Int × Int)} (h : MapIs w b l) (ht : P.underlying t = some (.map K E)) (hK : P.underlying K = some (.int .i64)) (hz : (zeroValue E).run P w = .ok (.int .i64 0) w) (k : Int) (ok : Bool) :
    (Instr.lookup t (.map (some b)) (.int .i64 k) ok).run P w = .ok (if ok then .tuple #[.int .i64 ((assoc l k).getD 0), .bool (assoc l k).isSome] else .int .i64 ((assoc l k).getD 0)) w := by
  obtain ⟨es, clk, hb, hes⟩ := h
  have hf := findNow_look k es.toList l 0 hes
  have hck : ∀ e, (Instr.checkKey e 10000 K (.int .i64 k)).run P w = .ok () w := fun e => MapKept.run_checkKey hK (isKey_int k) e 9999
  have hfk : (Instr.findKey K (.int .i64 k) es.toList).run P w = .ok ((look l k 0).map fun x => (x.1, .int .i64 x.2)) w := by
    simp [Instr.findKey, run_underlying hK, hf]
  cases hl : look l k 0 with
  | none =>
    simp [hl] at hfk
    cases ok <;> simp [Instr.lookup, run_underlying ht, hck, hfk, MapKept.run_getObj_map hb, hz, assoc, hl, Result.andThen]
  | some x =>
    simp [hl] at hfk
    cases ok <;> simp [Instr.lookup, run_underlying ht, hck, hfk, MapKept.run_getObj_map hb, assoc, hl, Result.andThen]

theorem run_update {b : Nat} {l : List (Int × Int)} (h : MapIs w b l) (ht : P.underlying t = some (.map K E)) (hK : P.underlying K = some (.int .i64)) (k v : Int) :
    ∃ w', (Instr.mapUpdate t (.map (some b)) (.int .i64 k) (.int .i64 v)).run P w = .ok () w' ∧ MapIs w' b (upsert l k v) ∧ w.grownBy w' (some b) := by
  obtain ⟨es, clk, hb, hes⟩ := h
  have hf := findNow_look k es.toList l 0 hes
  have hck : ∀ e, (Instr.checkKey e 10000 K (.int .i64 k)).run P w = .ok () w := fun e => MapKept.run_checkKey hK (isKey_int k) e 9999
  have hfk : (Instr.findKey K (.int .i64 k) es.toList).run P w = .ok ((look l k 0).map fun x => (x.1, .int .i64 x.2)) w := by
    simp [Instr.findKey, run_underlying hK, hf]
  have hlt : b < w.heap.size := (Array.getElem?_eq_some_iff.1 hb).1
  have gr : ∀ o, w.grownBy { w with heap := w.heap.setIfInBounds b o } (some b) := fun o =>
    ⟨rfl, rfl, rfl, by simp, fun i _ hi => by simp only [Array.getElem?_setIfInBounds]; rw [if_neg (fun e => hi (by rw [e]))]⟩
  have at_ : ∀ o : Obj, ({ w with heap := w.heap.setIfInBounds b o } : World).heap[b]? = some o := fun o => by simp [hlt]
  cases hl : look l k 0 with
  | none =>
    simp [hl] at hfk
    refine ⟨{ w with heap := w.heap.setIfInBounds b (.map (es.push { key := .int .i64 k, val := .int .i64 v, born := clk }) (clk + 1)) }, ?_, ⟨_, _, at_ _, ?_⟩, gr _⟩
    · simp [Instr.mapUpdate, run_underlying ht, hck, hfk, MapKept.run_getObj_map hb, MapKept.run_setObj_map _ hb, Result.andThen]
    · simp [upsert, hl, hes, rowsOf]
  | some x =>
    obtain ⟨j, u⟩ := x
    simp [hl] at hfk
    obtain ⟨_, hj, hg⟩ := look_lt hl
    simp only [Nat.sub_zero, Nat.zero_add] at hg hj
    have hkey : (es[j]?).map (·.key) = some (.int .i64 k) := by
      have h1 : (es.toList.map (fun e => (e.key, e.val)))[j]? = some (.int .i64 k, .int .i64 u) := by rw [hes]; simp [rowsOf, hg]
      rw [List.getElem?_map] at h1
      simp at h1
      obtain ⟨e, he, h2, _⟩ := h1
      simp [he, h2]
    have hkey' : (Option.map (fun x => x.key) es[j]?) = some (.int .i64 k) := hkey
    have hst : (Instr.keyThatStays (((es[j]?).map (·.key)).getD (.int .i64 k)) (.int .i64 k)).run P w = .ok (.int .i64 k) w := by
      rw [hkey]; simp [Instr.keyThatStays, Instr.sameBits]
    refine ⟨{ w with heap := w.heap.setIfInBounds b (.map (es.modify j fun e => { e with key := .int .i64 k, val := .int .i64 v }) clk) }, ?_, ⟨_, _, at_ _, ?_⟩, gr _⟩
    · rw [hkey, Option.getD_some] at hst
      simp only [Instr.mapUpdate]
      simp [run_underlying ht, hck, hfk, MapKept.run_getObj_map hb, MapKept.run_setObj_map _ hb, hkey', hst, Result.andThen]
    · simp only [upsert, hl]
      apply List.ext_getElem?
      intro i
      have hi : (es.toList.map (fun e => (e.key, e.val)))[i]? = (rowsOf l)[i]? := by rw [hes]
      simp only [rowsOf, List.getElem?_map, Array.toList_modify, List.getElem?_modify, List.getElem?_set] at hi ⊢
      by_cases hij : j = i
      · subst hij
        rw [hg] at hi
        cases he : es.toList[j]? with
        | none => rw [he] at hi; simp at hi
        | some e => simp [hj]
      · simp only [if_neg hij]
        cases he : es.toList[i]? with
        | none => rw [he] at hi; simpa using hi
        | some e => rw [he] at hi; simpa using hi

/-- append to a slice of the call's own: where the new one lies. -/
theorem run_append_new (t ty e : TypeId) (i : TypeInfo) (z : Value) (size bytes : Nat) (ht : P.underlying t = some (.slice e)) (hi : P.info? e = some i) (hz : i.zero = some z)
    (hsize : i.size = size) (hby : i.bytes = bytes) (hzs : z.cells.size = size) (hsz : 0 < size)
    (v : Value) (n : Nat) (xs : List Value) (hown : w.ownsRow 0 e size v n xs)
    (a : Addr) (m c : Nat) (news : List Value) (hl : news.length = m * size) (hnews : ∀ j u, news[j]? = some u → w.cell? (a.add j) = some u) (h1 : ∀ u ∈ news, u.oneCell' = true)
    (h63 : n + m ≤ maxLen) (hbytes : (n + m) * bytes ≤ 140737488355328) :
    ∃ v' w', (Builtin.append_ #[t, t] ty #[v, .slice (some a) m c]).run P w = .ok v' w' ∧ w'.ownsRow 0 e size v' (n + m) (xs ++ news) ∧ w.grownBy w' v.ownBlock ∧
      (∀ k, v'.ownBlock = some k → v.ownBlock = some k ∨ w.heap.size ≤ k) ∧ (v' = .slice none 0 0 ↔ v = .slice none 0 0 ∧ m = 0) := by
  rcases hown.2 with ⟨rfl, rfl⟩ | ⟨g, cap, cur, rfl, hbg, hg, hnc, hcm, hcs, htake⟩
  · obtain ⟨v', w', hr, h2, h3, h4⟩ := run_append_own (P := P) w w.heap.size t ty e i z size bytes ht hi hz hsize hby hzs hsz (.slice none 0 0) 0 xs ⟨hown.1, .inl ⟨rfl, rfl⟩⟩ a m c news hl hnews h1 h63 hbytes (Nat.le_refl _)
    exact ⟨v', w', hr, Joins.ownsRow_le h2 (Nat.zero_le _), h3, fun k hk => Or.inr (h2.lt k hk).1, h4⟩
  · by_cases hroom : n + m ≤ cap
    · obtain ⟨v', w', hr, h2, h3, h4⟩ := run_append_own (P := P) w 0 t ty e i z size bytes ht hi hz hsize hby hzs hsz _ n xs hown a m c news hl hnews h1 h63 hbytes (Nat.zero_le _)
      subst hsize
      have hfit : n * i.size + news.length ≤ cur.size := by rw [hl, hcs, ← Nat.add_mul]; exact Nat.mul_le_mul_right _ hroom
      have hr2 := run_append_room (P := P) w t ty e i ht hi g n cap cur hg a m c news hl hnews h1 hroom hfit
      rw [hr] at hr2
      simp only [Result.ok.injEq] at hr2
      obtain ⟨rfl, _⟩ := hr2
      exact ⟨_, w', hr, h2, h3, fun k hk => Or.inl (by simpa [Value.ownBlock] using hk), h4⟩
    · obtain ⟨v', w', hr, h2, h3, h4⟩ := run_append_own (P := P) w 0 t ty e i z size bytes ht hi hz hsize hby hzs hsz _ n xs hown a m c news hl hnews h1 h63 hbytes (Nat.zero_le _)
      subst hsize
      have holds : ∀ j u, xs[j]? = some u → w.cell? ((⟨g, 0, none⟩ : Addr).add j) = some u := hown.cells (g := g) rfl
      have hsmall : n + m ≤ 9223372036854775807 := by simp only [maxLen] at h63; omega
      have hr2 := run_append_grow (P := P) w t ty e i z ht hi hz ⟨g, 0, none⟩ n cap xs hown.1 holds a m c news hl hnews (by omega) (by omega) (growslice_fits (by omega) (by rw [hby]; exact hbytes))
      rw [hr] at hr2
      simp only [Result.ok.injEq] at hr2
      obtain ⟨rfl, _⟩ := hr2
      exact ⟨_, w', hr, h2, h3, fun k hk => Or.inr (by simp [Value.ownBlock] at hk; omega), h4⟩

theorem wpL_append {ops : Array Oper} {rest : List Oper} {o : Oper} {a : Act} {Q : Exit → Act → World → Prop} (hgd : o.guard = none) (s x : Operand)
    (ho : o.op = .call { callee := .builtin .append, args := #[s, x], argTypes := #[t, t] })
    (e : TypeId) (i : TypeInfo) (z : Value) (size bytes : Nat) (ht : P.underlying t = some (.slice e)) (hi : P.info? e = some i) (hz : i.zero = some z)
    (hsize : i.size = size) (hby : i.bytes = bytes) (hzs : z.cells.size = size) (hsz : 0 < size)
    (v : Value) (n : Nat) (xs : List Value) (hs : a.eval s = v) (hown : w.ownsRow 0 e size v n xs)
    (ad : Addr) (m c : Nat) (news : List Value) (hx : a.eval x = .slice (some ad) m c) (hl : news.length = m * size) (hnews : ∀ j u, news[j]? = some u → w.cell? (ad.add j) = some u) (h1 : ∀ u ∈ news, u.oneCell' = true)
    (h63 : n + m ≤ maxLen) (hbytes : (n + m) * bytes ≤ 140737488355328)
    (h : ∀ v' w', w'.ownsRow 0 e size v' (n + m) (xs ++ news) → w.grownBy w' v.ownBlock → (∀ k, v'.ownBlock = some k → v.ownBlock = some k ∨ w.heap.size ≤ k) → (v' = .slice none 0 0 ↔ v = .slice none 0 0 ∧ m = 0) → wpList P ops Q rest (a.put o.dst v') w') : wpList P ops Q (o :: rest) a w := by
  refine wpList_plain hgd fun K2 hK2 => ?_
  obtain ⟨v', w', hr, h2, h3, h4, h5⟩ := run_append_new (P := P) (w := w) t o.type e i z size bytes ht hi hz hsize hby hzs hsz v n xs hown ad m c news hl hnews h1 h63 hbytes
  unfold Oper.wp execOp
  simp only [ho, resolve, invoke, builtin, Sem.run_bind, Sem.run_pure, Result.andThen_ok, List.map_toArray, List.map_cons, List.map_nil, hs, hx, hr]
  exact hK2 _ _ (h v' w' h2 h3 h4 h5)

end
end Go.Proofs.Ytcicmljnjdhkjaa
/- a view of cells, as plain data: what Get and Put do. -/
set_option linter.unusedSimpArgs false
set_option linter.unusedVariables false
namespace Go.Proofs.Ytcicmljnjdhkjaa
open Go.RowKit

def wix : List (Nat × Int) → Nat → Option Nat
  | [], _ => none
  | p :: r, i => if p.1 = i then some 0 else (wix r i).map (· + 1)

theorem wix_some {i : Nat} : ∀ {l : List (Nat × Int)} {j : Nat}, wix l i = some j → j < l.length ∧ ∃ v, l[j]? = some (i, v)
  | [], _, h => by simp [wix] at h
  | p :: r, j, h => by
    simp only [wix] at h
    split at h
    · rename_i hp
      cases h
      exact ⟨by simp, p.2, by simp [← hp]⟩
    · cases hr : wix r i with
      | none => simp [hr] at h
      | some k =>
        simp [hr] at h
        subst h
        obtain ⟨h1, v, h2⟩ := wix_some hr
        exact ⟨by simp; omega, v, by simpa using h2⟩
theorem wix_none {i : Nat} : ∀ {l : List (Nat × Int)}, wix l i = none ↔ i ∉ l.map (·.1)
  | [] => by simp [wix]
  | p :: r => by
    have ih := wix_none (i := i) (l := r)
    simp only [wix]
    split
    · rename_i h; simp [h]
    · rename_i h
      simp only [Option.map_eq_none_iff, List.map_cons, List.mem_cons, not_or, ih]
      exact ⟨fun x => ⟨fun y => h y.symm, x⟩, fun x => x.2⟩

structure VS where
  n : Nat
  known : Nat → Option Int
  reads : List Nat
  writes : List (Nat × Int)
  miss : Option Nat

namespace VS

def there (s : VS) (i : Int) : Bool := decide (0 ≤ i) && decide (i < s.n) && s.miss.isNone
def wr (s : VS) (i : Nat) : Option Int := (wix s.writes i).bind fun j => s.writes[j]?.map (·.2)
def setW (l : List (Nat × Int)) (i : Nat) (v : Int) : List (Nat × Int) := match wix l i with
  | some j => l.set j (i, v)
  | none => l ++ [(i, v)]
def put (s : VS) (i : Int) (v : Int) : VS := if s.there i = true then { s with writes := setW s.writes i.toNat v } else s

def U32 (v : Int) : Prop := 0 ≤ v ∧ v < 4294967296

theorem u32_zero : U32 0 := ⟨by decide, by decide⟩

structure Inv (s : VS) : Prop where
  small : s.n ≤ 2147483648
  rnd : s.reads.Nodup
  rlt : ∀ r ∈ s.reads, r < s.n
  wnd : (s.writes.map (·.1)).Nodup
  wlt : ∀ p ∈ s.writes, p.1 < s.n
  ku : ∀ i v, s.known i = some v → U32 v
  wu : ∀ p ∈ s.writes, U32 p.2

theorem there_iff {s : VS} {i : Int} : s.there i = true ↔ 0 ≤ i ∧ i < s.n ∧ s.miss = none := by
  simp [there, and_assoc]

theorem setW_keys_some {l : List (Nat × Int)} {i : Nat} {v : Int} {j : Nat} (h : wix l i = some j) : (l.set j (i, v)).map (·.1) = l.map (·.1) := by
  obtain ⟨h1, u, h2⟩ := wix_some h
  apply List.ext_getElem?
  intro k
  simp only [List.getElem?_map, List.getElem?_set]
  by_cases hk : j = k
  · subst hk
    have h3 : l[j] = (i, u) := by rw [List.getElem?_eq_getElem h1] at h2; exact Option.some.inj h2
    simp [h1, h3]
  · simp [hk]

theorem length_le_of_nodup : ∀ (n : Nat) (l : List Nat), l.Nodup → (∀ x ∈ l, x < n) → l.length ≤ n
  | 0, l, _, h => by
    cases l with
    | nil => simp
    | cons x r => have := h x (by simp); omega
  | n + 1, l, hn, h => by
    have h1 := length_le_of_nodup n (l.erase n) (hn.erase n) (fun x hx => by
      have h2 := h x (List.mem_of_mem_erase hx)
      have h3 : x ≠ n := fun e => by
        subst e
        exact (List.Nodup.not_mem_erase hn) hx
      omega)
    have h4 := List.length_erase (a := n) (l := l)
    split at h4 <;> omega

theorem Inv.put {s : VS} (h : s.Inv) (i v : Int) (hv : U32 v) : (s.put i v).Inv := by
  unfold VS.put
  split
  · rename_i ht
    obtain ⟨h0, h1, _⟩ := there_iff.1 ht
    unfold setW
    cases hw : wix s.writes i.toNat with
    | some j =>
      refine ⟨h.small, h.rnd, h.rlt, ?_, ?_, h.ku, ?_⟩
      · show ((s.writes.set j (i.toNat, v)).map (·.1)).Nodup
        rw [setW_keys_some hw]; exact h.wnd
      · intro p hp
        rcases List.mem_or_eq_of_mem_set hp with hp | rfl
        · exact h.wlt p hp
        · show i.toNat < s.n; omega
      · intro p hp
        rcases List.mem_or_eq_of_mem_set hp with hp | rfl
        · exact h.wu p hp
        · exact hv
    | none =>
      have hn := wix_none.1 hw
      refine ⟨h.small, h.rnd, h.rlt, ?_, ?_, h.ku, ?_⟩
      · show ((s.writes ++ [(i.toNat, v)]).map (·.1)).Nodup
        simp only [List.map_append, List.nodup_append]
        exact ⟨h.wnd, by simp, fun a ha b hb => by simp at hb; subst hb; exact fun e => hn (e ▸ ha)⟩
      · intro p hp
        simp only [List.mem_append, List.mem_singleton] at hp
        rcases hp with hp | rfl
        · exact h.wlt p hp
        · show i.toNat < s.n; omega
      · intro p hp
        simp only [List.mem_append, List.mem_singleton] at hp
        rcases hp with hp | rfl
        · exact h.wu p hp
        · exact hv
  · exact h

end VS

/-! ### how the program keeps it -/
end Go.Proofs.Ytcicmljnjdhkjaa
/- view: the program's view, as memory; Get and Put. -/
set_option linter.unusedSimpArgs false
set_option linter.unusedVariables false
namespace Go.Proofs.Ytcicmljnjdhkjaa
open Go.RowKit

theorem uMap : Try.prog.underlying 45 = some (.map 3 3) := by kernel_rfl
theorem zInt (w : World) : (zeroValue 3).run Try.prog w = .ok (.int .i64 0) w := by kernel_rfl

theorem ownsRow_elem {w : World} {e e2 size g : Nat} {v : Value} {n : Nat} {xs : List Value} {cur : Array Value} {fr : Nat × Nat} (h : w.ownsRow 0 e size v n xs) (hg : w.heap[g]? = some (.cells cur e2 fr)) (hne : e ≠ e2) : v.ownBlock ≠ some g := by
  intro hv
  rcases h.2 with ⟨rfl, -⟩ | ⟨g', cap, cur', rfl, -, hg', -⟩
  · simp [Value.ownBlock] at hv
  · simp [Value.ownBlock] at hv
    subst hv
    rw [hg] at hg'
    simp only [Option.some.injEq, Obj.cells.injEq] at hg'
    exact hne hg'.2.1.symm
theorem MapIs.block {w w' : World} {b : Nat} {l : List (Int × Int)} (h : MapIs w b l) (hb : w'.heap[b]? = w.heap[b]?) : MapIs w' b l := by
  obtain ⟨es, clk, h1, h2⟩ := h
  exact ⟨es, clk, hb.trans h1, h2⟩
theorem MapIs.lt {w : World} {b : Nat} {l : List (Int × Int)} (h : MapIs w b l) : b < w.heap.size := by
  obtain ⟨es, clk, h1, h2⟩ := h
  exact (Array.getElem?_eq_some_iff.1 h1).1

theorem ownsRow_lt {w : World} {e size : Nat} {v : Value} {n : Nat} {xs : List Value} (h : w.ownsRow 0 e size v n xs) {k : Nat} (hk : v.ownBlock = some k) : k < w.heap.size := (h.lt k hk).2
/-- an owned row in a world in which its block is as it was. -/
theorem ownsRow_block {w w' : World} {e size : Nat} {v : Value} {n : Nat} {xs : List Value} (h : w.ownsRow 0 e size v n xs) (hb : ∀ k, v.ownBlock = some k → w'.heap[k]? = w.heap[k]?) : w'.ownsRow 0 e size v n xs := by
  refine ⟨h.1, ?_⟩
  rcases h.2 with hn | ⟨g, cap, cur, rfl, hb', hgg, rest⟩
  · exact .inl hn
  · exact .inr ⟨g, cap, cur, rfl, hb', (hb g rfl).trans hgg, rest⟩
end Go.Proofs.Ytcicmljnjdhkjaa
/- views under way: a view, beside boxes of the call's own. -/
set_option linter.unusedSimpArgs false
set_option linter.unusedVariables false
namespace Go.Proofs.Ytcicmljnjdhkjaa
open Go.RowKit

/-- what a predicate of views must bear: it speaks of the blocks of S alone. -/
structure Keeps (R : World → Nat → (Nat → Prop) → VS → Prop) : Prop where
  keep : ∀ {w w' : World} {b : Nat} {S T : Nat → Prop} {s : VS}, R w b S s → Fr T w w' → (∀ k, S k → ¬ T k) → R w' b S s
  lt : ∀ {w : World} {b : Nat} {S : Nat → Prop} {s : VS}, R w b S s → ∀ k, S k → k < w.heap.size
  inv : ∀ {w : World} {b : Nat} {S : Nat → Prop} {s : VS}, R w b S s → s.Inv
  mono : ∀ {w : World} {b : Nat} {S S' : Nat → Prop} {s : VS}, R w b S s → (∀ k, S k → S' k) → (∀ k, S' k → k < w.heap.size) → R w b S' s

/-- since w0 nothing but S has turned; the view at b is s; the boxes Ls are none of its. -/
structure VSt (R : World → Nat → (Nat → Prop) → VS → Prop) (w0 : World) (b : Nat) (S : Nat → Prop) (Ls : List Nat) (s : VS) (w : World) : Prop where
  ex : ∃ S1, R w b S1 s ∧ (∀ k, S1 k → S k ∨ w0.heap.size ≤ k) ∧ (∀ L ∈ Ls, ¬ S1 L)
  fr : Fr S w0 w
  ls : ∀ L ∈ Ls, L < w.heap.size ∧ w0.heap.size ≤ L
  s0 : ∀ k, S k → k < w0.heap.size

section
variable {R : World → Nat → (Nat → Prop) → VS → Prop} {w0 w w' : World} {b : Nat} {S : Nat → Prop} {Ls : List Nat} {s s' : VS}

theorem VSt.start (K : Keeps R) (h : R w b S s) : VSt R w b S [] s w := ⟨⟨S, h, fun _ hk => Or.inl hk, by simp⟩, Fr.refl _ _, by simp, K.lt h⟩

theorem VSt.below (K : Keeps R) (h : VSt R w0 b S Ls s w) (hb : Below w.heap.size w w') : VSt R w0 b S Ls s w' := by
  obtain ⟨S1, h1, h2, h4⟩ := h.ex
  exact ⟨⟨S1, K.keep (T := fun _ => False) h1 (Fr.of_below hb) (fun _ _ x => x), h2, h4⟩, h.fr.trans (S1 := fun _ => False) (Fr.of_below hb) (fun _ x => x.elim), fun L hL => ⟨Nat.lt_of_lt_of_le (h.ls L hL).1 hb.size, (h.ls L hL).2⟩, h.s0⟩

theorem VSt.alloc (K : Keeps R) (h : VSt R w0 b S Ls s w) (o : Obj) : VSt R w0 b S (w.heap.size :: Ls) s (w.alloc o) := by
  have hb : Below w.heap.size w (w.alloc o) := (Below.refl _ _).alloc (Nat.le_refl _) o
  obtain ⟨S1, h1, h2, h4⟩ := h.ex
  refine ⟨⟨S1, K.keep (T := fun _ => False) h1 (Fr.of_below hb) (fun _ _ x => x), h2, ?_⟩, h.fr.trans (S1 := fun _ => False) (Fr.of_below hb) (fun _ x => x.elim), ?_, h.s0⟩
  · intro L hL
    simp at hL
    rcases hL with rfl | hL
    · exact fun x => Nat.lt_irrefl _ (K.lt h1 _ x)
    · exact h4 L hL
  · intro L hL
    simp at hL
    rcases hL with rfl | hL
    · exact ⟨by simp, h.fr.size⟩
    · exact ⟨Nat.lt_of_lt_of_le (h.ls L hL).1 hb.size, (h.ls L hL).2⟩

theorem VSt.drew (K : Keeps R) (h : VSt R w0 b S Ls s w) : VSt R w0 b S Ls s w.drew := h.below K ((Below.refl _ _).drew)

theorem VSt.setCell (K : Keeps R) (h : VSt R w0 b S Ls s w) {L : Nat} (hL : L ∈ Ls) (o : Nat) (v : Value) : VSt R w0 b S Ls s (w.setCell ⟨L, o, none⟩ v) := by
  obtain ⟨S1, h1, h2, h4⟩ := h.ex
  have F : Fr (fun k => k = L) w (w.setCell ⟨L, o, none⟩ v) := (Fr.refl _ _).setCell _ _ (Or.inl rfl)
  exact ⟨⟨S1, K.keep h1 F (fun k hk e => h4 L hL (e ▸ hk)), h2, h4⟩, h.fr.setCell _ _ (Or.inr (h.ls L hL).2), fun M hM => ⟨by simpa using (h.ls M hM).1, (h.ls M hM).2⟩, h.s0⟩

theorem VSt.inv (K : Keeps R) (h : VSt R w0 b S Ls s w) : s.Inv := by
  obtain ⟨S1, h1, -⟩ := h.ex
  exact K.inv h1

/-- at the end: the boxes are let go. -/
theorem VSt.done (K : Keeps R) (h : VSt R w0 b S Ls s w) : R w b (upd S w0 w) s ∧ Fr S w0 w := by
  obtain ⟨S1, h1, h2, -⟩ := h.ex
  refine ⟨K.mono h1 (fun k hk => ?_) (fun k hk => ?_), h.fr⟩
  · rcases h2 k hk with h | h
    · exact Or.inl h
    · exact Or.inr ⟨h, K.lt h1 k hk⟩
  · rcases hk with hk | hk
    · exact Nat.lt_of_lt_of_le (h.s0 k hk) h.fr.size
    · exact hk.2

theorem loc_step {L : Nat} {cs : Array Value} (hl : ∀ L ∈ Ls, w'.heap[L]? = w.heap[L]?) (hm : L ∈ Ls) (hc : ∀ o : Nat, w.cell? ⟨L, o, none⟩ = cs[o]?) : ∀ o : Nat, w'.cell? ⟨L, o, none⟩ = cs[o]? :=
  fun o => (World.cell?_of_block (a := ⟨L, o, none⟩) (hl L hm)).trans (hc o)
theorem loc_alloc (w : World) (cs : Array Value) (T : TypeId) : ∀ o : Nat, (w.alloc (.cells cs T)).cell? ⟨w.heap.size, o, none⟩ = cs[o]? := fun _ => cell?_of_heap (heap_alloc_new w _)
theorem loc_old {L : Nat} {cs : Array Value} (ob : Obj) (hL : L < w.heap.size) (hc : ∀ o : Nat, w.cell? ⟨L, o, none⟩ = cs[o]?) : ∀ i : Nat, (w.alloc ob).cell? ⟨L, i, none⟩ = cs[i]? :=
  fun i => (World.cell?_alloc_lt (a := ⟨L, i, none⟩) _ _ hL).trans (hc i)
/-- behind an append to a row of the call's own. -/
theorem VSt.grown (K : Keeps R) (h : VSt R w0 b S Ls s w) {row : Option Nat} (hg : w.grownBy w' row) (hr : ∀ k, row = some k → k ∈ Ls) (Ls' : List Nat) (hL : ∀ L ∈ Ls', L ∈ Ls ∨ (w.heap.size ≤ L ∧ L < w'.heap.size)) : VSt R w0 b S Ls' s w' := by
  obtain ⟨S1, h1, h2, h4⟩ := h.ex
  have F : Fr (fun k => row = some k) w w' := (Fr.refl _ _).grown hg (fun k hk => Or.inl hk)
  have hle := h.fr.size
  refine ⟨⟨S1, K.keep h1 F (fun k hk e => h4 k (hr k e) hk), h2, ?_⟩, h.fr.trans F (fun k hk => Or.inr (h.ls k (hr k hk)).2), ?_, h.s0⟩
  · intro L hm x
    rcases hL L hm with y | y
    · exact h4 L y x
    · exact absurd (K.lt h1 L x) (by omega)
  · intro L hm
    rcases hL L hm with y | y
    · exact ⟨Nat.lt_of_lt_of_le (h.ls L y).1 hg.size, (h.ls L y).2⟩
    · exact ⟨y.2, by omega⟩

theorem VSt.sub (h : VSt R w0 b S Ls s w) (Ls' : List Nat) (hL : ∀ L ∈ Ls', L ∈ Ls) : VSt R w0 b S Ls' s w := by
  obtain ⟨S1, h1, h2, h4⟩ := h.ex
  exact ⟨⟨S1, h1, h2, fun L hm => h4 L (hL L hm)⟩, h.fr, fun L hm => h.ls L (hL L hm), h.s0⟩

end
end Go.Proofs.Ytcicmljnjdhkjaa
/- conf: what Check answers of every configuration. -/
set_option linter.unusedSimpArgs false
set_option linter.unusedVariables false
namespace Go.Proofs.Ytcicmljnjdhkjaa
open Go.RowKit

def outB (n lo hi : Int) : Bool := decide (n < lo) || decide (hi < n)

/-- conf.Check$1 on a triple. -/
theorem check1_any (n lo hi : Int) (w : World) :
    Calls Try.prog 51 #[.agg #[.int .i64 n, .int .i64 lo, .int .i64 hi]] w fun e w' => e = .returned (.bool (outB n lo hi)) ∧ Below w.heap.size w w' := by
  go_enter Try.func51, Try.ntmps51
  go_wp2
  all_goals
    go_ret
    have h : w.heap.size ≤ w.heap.size := Nat.le_refl _
    refine ⟨by simp [outB, *], (Below.refl _ _).alloc h _⟩

def bndCells (t p s : Int) : Array Value := #[.int .i64 t, .int .i64 1, .int .i64 16, .int .i64 p, .int .i64 4, .int .i64 1024, .int .i64 s, .int .i64 10, .int .i64 20]

theorem bounds_any (t p s : Int) (w : World) :
    Calls Try.prog 50 #[.agg #[.int .i64 t, .int .i64 p, .int .i64 s]] w fun e w' => e = .returned (.slice (some ⟨w.heap.size + 1, 0, none⟩) 3 3) ∧ Below w.heap.size w w' ∧ w'.heap[w.heap.size + 1]? = some (.cells (bndCells t p s) 77) ∧ w'.heap.size = w.heap.size + 2 := by
  go_enter Try.func50, Try.ntmps50
  go_wp2
  exact bodyPost_ret (v := .slice (some ⟨w.heap.size + 1, 0, none⟩) 3 3) (by simp [results, Try.results50, go_sem]) rfl ⟨rfl, ((Below.refl _ _).alloc (Nat.le_refl _) _).alloc (by simp) _, by rw [← World.size_alloc w (.cells #[.int .i64 t, .int .i64 p, .int .i64 s] 23)]; exact heap_alloc_new (w.alloc _) _, by simp⟩

def rightB (t p s : Int) : Bool := !(outB t 1 16 || outB p 4 1024 || outB s 10 20)

def idxOf (t p s : Int) : Int := if outB t 1 16 then 0 else if outB p 4 1024 then 1 else if outB s 10 20 then 2 else -1

def IdxRel (t p s : Int) (w : World) (i : Value) (wr : World) : Prop := ∃ k : Nat, k ≤ 3 ∧ i = .int .i64 k ∧ (0 < k → outB t 1 16 = false) ∧ (1 < k → outB p 4 1024 = false) ∧ (2 < k → outB s 10 20 = false) ∧ Below w.heap.size w wr

theorem idx_any (t p s : Int) (g : Nat) (w : World) (h : w.heap[g]? = some (.cells (bndCells t p s) 77)) :
    Calls Try.prog 69 #[.slice (some ⟨g, 0, none⟩) 3 3, .func (.func 51) #[] #[]] w fun e w' => e = .returned (.int .i64 (idxOf t p s)) ∧ Below w.heap.size w w' := by
  have hlt : g < w.heap.size := (Array.getElem?_eq_some_iff.1 h).1
  have hcell : ∀ wr : World, Below w.heap.size w wr → ∀ o, wr.cell? ⟨g, o, none⟩ = (bndCells t p s)[o]? := by
    intro wr hb o
    rw [hb.cell (p := ⟨g, o, none⟩) hlt]
    simp [World.cell?, h]
  go_enter Try.func69, Try.ntmps69
  go_wp2
  go_loopw [5, 8] (fun _ i wr => IdxRel t p s w i wr) (fun _ i _ => 3 - (intOf i).toNat)
  case atStart => exact ⟨0, by omega, rfl, by omega, by omega, by omega, Below.refl _ _⟩
  case round =>
    obtain ⟨k, hk, rfl, h0, h1, h2, hb⟩ := hrel
    have hc := hcell _ hb
    clear hcell
    rcases (by omega : k = 0 ∨ k = 1 ∨ k = 2 ∨ k = 3) with rfl | rfl | rfl | rfl
    · have c0 := hc 0
      have c1 := hc 1
      have c2 := hc 2
      clear hc h0 h1 h2
      simp [bndCells] at c0 c1 c2
      cases hx : outB t 1 16
      · go_wp2_with (go_at_call 51; refine (check1_any _ _ _ _).mono ?_; rintro e w' ⟨rfl, hb'⟩)
        go_roundw
        case rel => exact ⟨1, by omega, rfl, fun _ => hx, by omega, by omega, hb.trans (hb'.mono hb.size)⟩
        case measure => simp [intOf]
      · go_wp2_with (go_at_call 51; refine (check1_any _ _ _ _).mono ?_; rintro e w' ⟨rfl, hb'⟩)
        go_ret
        exact ⟨by simp [idxOf, hx], hb.trans (hb'.mono hb.size)⟩
    · have c0 := hc 3
      have c1 := hc 4
      have c2 := hc 5
      have g0 := h0 (by omega)
      clear hc h0 h1 h2
      simp [bndCells] at c0 c1 c2
      cases hx : outB p 4 1024
      · go_wp2_with (go_at_call 51; refine (check1_any _ _ _ _).mono ?_; rintro e w' ⟨rfl, hb'⟩)
        go_roundw
        case rel => exact ⟨2, by omega, rfl, fun _ => g0, fun _ => hx, by omega, hb.trans (hb'.mono hb.size)⟩
        case measure => simp [intOf]
      · go_wp2_with (go_at_call 51; refine (check1_any _ _ _ _).mono ?_; rintro e w' ⟨rfl, hb'⟩)
        go_ret
        exact ⟨by simp [idxOf, hx, g0], hb.trans (hb'.mono hb.size)⟩
    · have c0 := hc 6
      have c1 := hc 7
      have c2 := hc 8
      have g0 := h0 (by omega)
      have g1 := h1 (by omega)
      clear hc h0 h1 h2
      simp [bndCells] at c0 c1 c2
      cases hx : outB s 10 20
      · go_wp2_with (go_at_call 51; refine (check1_any _ _ _ _).mono ?_; rintro e w' ⟨rfl, hb'⟩)
        go_roundw
        case rel => exact ⟨3, by omega, rfl, fun _ => g0, fun _ => g1, fun _ => hx, hb.trans (hb'.mono hb.size)⟩
        case measure => simp [intOf]
      · go_wp2_with (go_at_call 51; refine (check1_any _ _ _ _).mono ?_; rintro e w' ⟨rfl, hb'⟩)
        go_ret
        exact ⟨by simp [idxOf, hx, g0, g1], hb.trans (hb'.mono hb.size)⟩
    · have g0 := h0 (by omega)
      have g1 := h1 (by omega)
      have g2 := h2 (by omega)
      clear hc h0 h1 h2
      go_wp2
      go_ret
      exact ⟨by simp [idxOf, g0, g1, g2], hb⟩

theorem contains_any (t p s : Int) (g : Nat) (w : World) (h : w.heap[g]? = some (.cells (bndCells t p s) 77)) :
    Calls Try.prog 49 #[.slice (some ⟨g, 0, none⟩) 3 3, .func (.func 51) #[] #[]] w fun e w' => e = .returned (.bool (!rightB t p s)) ∧ Below w.heap.size w w' := by
  have hx : decide (0 ≤ idxOf t p s) = (!rightB t p s) := by
    unfold rightB idxOf
    cases outB t 1 16 <;> cases outB p 4 1024 <;> cases outB s 10 20 <;> rfl
  have H := idx_any t p s g w h
  generalize idxOf t p s = i at hx H
  rw [← hx]
  clear hx
  have HH := Lib.hid H; clear H
  go_enter Try.func49, Try.ntmps49
  go_wp2_with (go_at_call 69; refine (HH.out).mono ?_; rintro e w' ⟨rfl, hb⟩)
  go_ret
  exact ⟨rfl, hb⟩

theorem check_right (t p s : Int) (w : World) (hr : rightB t p s = true) :
    Calls Try.prog 24 #[.agg #[.int .i64 t, .int .i64 p, .int .i64 s]] w fun e w' => e = .returned (.int .i64 0) ∧ Below w.heap.size w w' := by
  go_enter Try.func24, Try.ntmps24
  go_wp2_with fail
  refine (bounds_any _ _ _ _).mono ?_
  rintro e w1 ⟨rfl, hb, hg, hs⟩
  go_wp2_with fail
  refine (contains_any t p s _ _ (by rw [World.size_alloc] at hg; exact hg)).mono ?_
  rintro e w2 ⟨rfl, hb2⟩
  go_wp2
  go_ret
  exact ⟨rfl, (((Below.refl _ _).alloc (Nat.le_refl _) _).trans (hb.mono (by simp))).trans (hb2.mono (by rw [hs]; simp; omega))⟩

theorem check_wrong (t p s : Int) (w : World) (hr : rightB t p s = false) :
    Calls Try.prog 24 #[.agg #[.int .i64 t, .int .i64 p, .int .i64 s]] w fun e w' => e = .returned (.int .i64 1) ∧ Below w.heap.size w w' := by
  go_enter Try.func24, Try.ntmps24
  go_wp2_with fail
  refine (bounds_any _ _ _ _).mono ?_
  rintro e w1 ⟨rfl, hb, hg, hs⟩
  go_wp2_with fail
  refine (contains_any t p s _ _ (by rw [World.size_alloc] at hg; exact hg)).mono ?_
  rintro e w2 ⟨rfl, hb2⟩
  go_wp2
  go_ret
  exact ⟨rfl, (((Below.refl _ _).alloc (Nat.le_refl _) _).trans (hb.mono (by simp))).trans (hb2.mono (by rw [hs]; simp; omega))⟩

end Go.Proofs.Ytcicmljnjdhkjaa
/- place: where cells and words lie. -/
set_option linter.unusedSimpArgs false
set_option linter.unusedVariables false
namespace Go.Proofs.Ytcicmljnjdhkjaa
open Go.RowKit

theorem right_bd {t p s : Int} (h : rightB t p s = true) : 1 ≤ t ∧ t ≤ 16 ∧ 4 ≤ p ∧ p ≤ 1024 ∧ 10 ≤ s ∧ s ≤ 20 := by
  simp [rightB, outB] at h; omega
def cellsN (t p : Int) : Int := 30 + 4 * t + 6 * p
def makersN (t p : Int) : Int := (16 + cellsN t p + 7) / 8 * 8
theorem lcells_any (t p s m : Int) (w : World) (hr : rightB t p s = true) :
    Calls Try.prog 53 #[.agg #[.int .i64 t, .int .i64 p, .int .i64 s, .int .i64 m]] w fun e w' => e = .returned (.int .i64 (cellsN t p)) ∧ Below w.heap.size w w' := by
  obtain ⟨b1, b2, b3, b4, b5, b6⟩ := right_bd hr
  clear hr
  go_enter Try.func53, Try.ntmps53
  go_wp2
  go_ret
  exact ⟨rfl, (Below.refl _ _).alloc (Nat.le_refl _) _⟩

theorem lay_right (t p s : Int) (w : World) (hr : rightB t p s = true) :
    Calls Try.prog 52 #[.agg #[.int .i64 t, .int .i64 p, .int .i64 s]] w fun e w' => e = .returned (.tuple #[.agg #[.int .i64 t, .int .i64 p, .int .i64 s, .int .i64 (makersN t p)], .bool true]) ∧ Below w.heap.size w w' := by
  have hb1 : 0 ≤ cellsN t p := by have := right_bd hr; unfold cellsN; omega
  have hb2 : cellsN t p ≤ 10000 := by have := right_bd hr; unfold cellsN; omega
  have hmk : (16 + cellsN t p + 8 - 1) / 8 * 8 = makersN t p := by unfold makersN; omega
  have Hmk := Lib.hid hmk
  clear hmk
  go_enter Try.func52, Try.ntmps52
  go_wp2_with fail
  refine (check_right _ _ _ _ hr).mono ?_
  rintro e w1 ⟨rfl, ha⟩
  obtain ⟨hac, haf⟩ := bcell ha
  have haz0 : w.heap.size < w1.heap.size := by have := ha.size; first | omega | (simp at this; omega)
  have haz1 : w.heap.size + 1 < w1.heap.size := by have := ha.size; first | omega | (simp at this; omega)
  go_wp2_with fail
  refine (lcells_any _ _ _ _ _ hr).mono ?_
  rintro e w2 ⟨rfl, hb⟩
  obtain ⟨hbc, hbf⟩ := bcell hb
  have hbz0 : w1.heap.size < w2.heap.size := by have := hb.size; first | omega | (simp at this; omega)
  go_wp2
  refine bodyPost_ret (v := .tuple #[.agg #[.int .i64 t, .int .i64 p, .int .i64 s, .int .i64 ((16 + cellsN t p + 8 - 1) / 8 * 8)], .bool true]) (by simp [results, Try.results52, go_sem, *]) rfl ⟨by rw [Hmk.out], ?_⟩
  (repeat (first | exact Below.refl _ _ | assumption | refine Below.setCell ?_ (by first | omega | (simp; done) | (simp; omega)) _ | refine Below.alloc ?_ (by first | omega | (simp; done) | (simp; omega)) _ | refine Below.drew ?_ | refine Below.trans ?_ (Below.mono ‹Below _ _ _› (by first | omega | (simp; done) | (simp; omega)))))

theorem lay_wrong (t p s : Int) (w : World) (hr : rightB t p s = false) :
    Calls Try.prog 52 #[.agg #[.int .i64 t, .int .i64 p, .int .i64 s]] w fun e w' => e = .returned (.tuple #[.agg #[.int .i64 0, .int .i64 0, .int .i64 0, .int .i64 0], .bool false]) ∧ Below w.heap.size w w' := by
  go_enter Try.func52, Try.ntmps52
  go_wp2_with fail
  refine (check_wrong _ _ _ _ hr).mono ?_
  rintro e w1 ⟨rfl, ha⟩
  obtain ⟨hac, haf⟩ := bcell ha
  have haz0 : w.heap.size < w1.heap.size := by have := ha.size; first | omega | (simp at this; omega)
  have haz1 : w.heap.size + 1 < w1.heap.size := by have := ha.size; first | omega | (simp at this; omega)
  go_wp2
  refine bodyPost_ret (v := .tuple #[.agg #[.int .i64 0, .int .i64 0, .int .i64 0, .int .i64 0], .bool false]) (by simp [results, Try.results52, go_sem, *]) rfl ⟨rfl, ?_⟩
  (repeat (first | exact Below.refl _ _ | assumption | refine Below.setCell ?_ (by first | omega | (simp; done) | (simp; omega)) _ | refine Below.alloc ?_ (by first | omega | (simp; done) | (simp; omega)) _ | refine Below.drew ?_ | refine Below.trans ?_ (Below.mono ‹Below _ _ _› (by first | omega | (simp; done) | (simp; omega)))))

def cellsF (t p s : Int) : Int := if rightB t p s then cellsN t p else 0
theorem cells_any (t p s : Int) (w : World) :
    Calls Try.prog 25 #[.agg #[.int .i64 t, .int .i64 p, .int .i64 s]] w fun e w' => e = .returned (.int .i64 (cellsF t p s)) ∧ Below w.heap.size w w' := by
  cases hr : rightB t p s
  · have hF : cellsF t p s = 0 := by simp [cellsF, hr]
    rw [hF]
    go_enter Try.func25, Try.ntmps25
    go_wp2_with fail
    refine (lay_wrong _ _ _ _ hr).mono ?_
    rintro e w1 ⟨rfl, ha⟩
    obtain ⟨hac, haf⟩ := bcell ha
    have haz0 : w.heap.size < w1.heap.size := by have := ha.size; first | omega | (simp at this; omega)
    go_wp2
    go_ret
    refine ⟨rfl, ?_⟩
    (repeat (first | exact Below.refl _ _ | assumption | refine Below.setCell ?_ (by first | omega | (simp; done) | (simp; omega)) _ | refine Below.alloc ?_ (by first | omega | (simp; done) | (simp; omega)) _ | refine Below.drew ?_ | refine Below.trans ?_ (Below.mono ‹Below _ _ _› (by first | omega | (simp; done) | (simp; omega)))))
  · have hF : cellsF t p s = cellsN t p := by simp [cellsF, hr]
    rw [hF]
    go_enter Try.func25, Try.ntmps25
    go_wp2_with fail
    refine (lay_right _ _ _ _ hr).mono ?_
    rintro e w1 ⟨rfl, ha⟩
    obtain ⟨hac, haf⟩ := bcell ha
    have haz0 : w.heap.size < w1.heap.size := by have := ha.size; first | omega | (simp at this; omega)
    go_wp2_with fail
    refine (lcells_any _ _ _ _ _ hr).mono ?_
    rintro e w2 ⟨rfl, hb⟩
    obtain ⟨hbc, hbf⟩ := bcell hb
    go_wp2
    go_ret
    refine ⟨rfl, ?_⟩
    (repeat (first | exact Below.refl _ _ | assumption | refine Below.setCell ?_ (by first | omega | (simp; done) | (simp; omega)) _ | refine Below.alloc ?_ (by first | omega | (simp; done) | (simp; omega)) _ | refine Below.drew ?_ | refine Below.trans ?_ (Below.mono ‹Below _ _ _› (by first | omega | (simp; done) | (simp; omega)))))

def withinF (f i m : Int) : Int := if i < 0 ∨ m ≤ i then -1 else f + i

theorem within_any (f i m : Int) (w : World) (h1 : 0 ≤ f) (h2 : f ≤ 1000000) (h3 : m ≤ 1000000) :
    Calls Try.prog 65 #[.int .i64 f, .int .i64 i, .int .i64 m] w fun e w' => e = .returned (.int .i64 (withinF f i m)) ∧ w = w' := by
  by_cases h4 : i < 0
  · have hF : withinF f i m = -1 := by simp [withinF, h4]
    rw [hF]
    go_enter Try.func65, Try.ntmps65
    go_wp2
    go_ret
    exact ⟨rfl, rfl⟩
  · by_cases h5 : m ≤ i
    · have hF : withinF f i m = -1 := by simp [withinF, h5]
      rw [hF]
      go_enter Try.func65, Try.ntmps65
      go_wp2
      go_ret
      exact ⟨rfl, rfl⟩
    · have hF : withinF f i m = f + i := by simp [withinF, h5, h4]
      rw [hF]
      go_enter Try.func65, Try.ntmps65
      go_wp2
      go_ret
      exact ⟨rfl, rfl⟩

def ofF (t p s q part : Int) : Int := if rightB t p s = true ∧ 0 ≤ q ∧ q < p then 30 + 4 * t + 6 * q + part else -1

theorem of_any (t p s q part : Int) (w : World) (h1 : 0 ≤ part) (h2 : part ≤ 5) :
    Calls Try.prog 54 #[.agg #[.int .i64 t, .int .i64 p, .int .i64 s], .int .i64 q, .int .i64 part] w fun e w' => e = .returned (.int .i64 (ofF t p s q part)) ∧ Below w.heap.size w w' := by
  cases hr : rightB t p s
  · have hF : ofF t p s q part = -1 := by simp [ofF, hr]
    rw [hF]
    go_enter Try.func54, Try.ntmps54
    go_wp2_with fail
    refine (lay_wrong _ _ _ _ hr).mono ?_
    rintro e w1 ⟨rfl, ha⟩
    obtain ⟨hac, haf⟩ := bcell ha
    have haz0 : w.heap.size < w1.heap.size := by have := ha.size; first | omega | (simp at this; omega)
    go_wp2
    go_ret
    refine ⟨rfl, ?_⟩
    (repeat (first | exact Below.refl _ _ | assumption | refine Below.setCell ?_ (by first | omega | (simp; done) | (simp; omega)) _ | refine Below.alloc ?_ (by first | omega | (simp; done) | (simp; omega)) _ | refine Below.drew ?_ | refine Below.trans ?_ (Below.mono ‹Below _ _ _› (by first | omega | (simp; done) | (simp; omega)))))
  · obtain ⟨b1, b2, b3, b4, b5, b6⟩ := right_bd hr
    by_cases h4 : q < 0
    · have hF : ofF t p s q part = -1 := by simp [ofF, hr]; omega
      rw [hF]
      go_enter Try.func54, Try.ntmps54
      go_wp2_with fail
      refine (lay_right _ _ _ _ hr).mono ?_
      rintro e w1 ⟨rfl, ha⟩
      obtain ⟨hac, haf⟩ := bcell ha
      have haz0 : w.heap.size < w1.heap.size := by have := ha.size; first | omega | (simp at this; omega)
      go_wp2
      go_ret
      refine ⟨rfl, ?_⟩
      (repeat (first | exact Below.refl _ _ | assumption | refine Below.setCell ?_ (by first | omega | (simp; done) | (simp; omega)) _ | refine Below.alloc ?_ (by first | omega | (simp; done) | (simp; omega)) _ | refine Below.drew ?_ | refine Below.trans ?_ (Below.mono ‹Below _ _ _› (by first | omega | (simp; done) | (simp; omega)))))
    · by_cases h5 : p ≤ q
      · have hF : ofF t p s q part = -1 := by simp [ofF, hr]; omega
        rw [hF]
        go_enter Try.func54, Try.ntmps54
        go_wp2_with fail
        refine (lay_right _ _ _ _ hr).mono ?_
        rintro e w1 ⟨rfl, ha⟩
        obtain ⟨hac, haf⟩ := bcell ha
        have haz0 : w.heap.size < w1.heap.size := by have := ha.size; first | omega | (simp at this; omega)
        go_wp2
        go_ret
        refine ⟨rfl, ?_⟩
        (repeat (first | exact Below.refl _ _ | assumption | refine Below.setCell ?_ (by first | omega | (simp; done) | (simp; omega)) _ | refine Below.alloc ?_ (by first | omega | (simp; done) | (simp; omega)) _ | refine Below.drew ?_ | refine Below.trans ?_ (Below.mono ‹Below _ _ _› (by first | omega | (simp; done) | (simp; omega)))))
      · have hF : ofF t p s q part = 30 + 4 * t + 6 * q + part := by simp [ofF, hr]; omega
        rw [hF]
        go_enter Try.func54, Try.ntmps54
        go_wp2_with fail
        refine (lay_right _ _ _ _ hr).mono ?_
        rintro e w1 ⟨rfl, ha⟩
        obtain ⟨hac, haf⟩ := bcell ha
        have haz0 : w.heap.size < w1.heap.size := by have := ha.size; first | omega | (simp at this; omega)
        go_wp2
        go_ret
        refine ⟨rfl, ?_⟩
        (repeat (first | exact Below.refl _ _ | assumption | refine Below.setCell ?_ (by first | omega | (simp; done) | (simp; omega)) _ | refine Below.alloc ?_ (by first | omega | (simp; done) | (simp; omega)) _ | refine Below.drew ?_ | refine Below.trans ?_ (Below.mono ‹Below _ _ _› (by first | omega | (simp; done) | (simp; omega)))))

end Go.Proofs.Ytcicmljnjdhkjaa
/- link: what Walk comes to, as plain data. -/
set_option linter.unusedSimpArgs false
set_option linter.unusedVariables false
namespace Go.Proofs.Ytcicmljnjdhkjaa
open Go.RowKit

def ints (l : List Int) : List Value := l.map (.int .i64)
theorem loc_grown {w w' : World} {row : Option Nat} {L : Nat} {cs : Array Value} (hg : w.grownBy w' row) (hL : L < w.heap.size) (hne : row ≠ some L) (hc : ∀ o : Nat, w.cell? ⟨L, o, none⟩ = cs[o]?) : ∀ o : Nat, w'.cell? ⟨L, o, none⟩ = cs[o]? :=
  fun o => (World.cell?_of_block (a := ⟨L, o, none⟩) (hg.block L hL (fun e => hne e.symm))).trans (hc o)

end Go.Proofs.Ytcicmljnjdhkjaa
/- slices.Clone at four types; the program's Whole, Reads, Writes, Missing. -/
set_option linter.unusedSimpArgs false
set_option linter.unusedVariables false
namespace Go.Proofs.Ytcicmljnjdhkjaa
open Go.RowKit

/-- the slice v of n elements reads as xs. -/
def Rd (w : World) (v : Value) (sz n : Nat) (xs : List Value) : Prop :=
  xs.length = n * sz ∧ ((v = .slice none 0 0 ∧ n = 0) ∨ ∃ ad c, v = .slice (some ad) n c ∧ ∀ j u, xs[j]? = some u → w.cell? (ad.add j) = some u)

theorem infoU32 : (Try.prog.info? 39).map (fun i => (i.zero, i.size, i.bytes)) = some (some (.int .u32 0), 1, 4) := by kernel_rfl

def uints (l : List Int) : List Value := l.map (.int .u32)

theorem row_shape {w : World} {e sz n : Nat} {v : Value} {xs : List Value} (h : w.ownsRow 0 e sz v n xs) : ∃ a c, v = .slice a n c := by
  rcases h.2 with ⟨rfl, rfl⟩ | ⟨g, cap, cur, rfl, -⟩
  · exact ⟨_, _, rfl⟩
  · exact ⟨_, _, rfl⟩

end Go.Proofs.Ytcicmljnjdhkjaa
/- places by the document; appends in a drawn region. -/
set_option linter.unusedSimpArgs false
set_option linter.unusedVariables false
namespace Go.Proofs.Ytcicmljnjdhkjaa
open Go.RowKit

theorem step_append_new {P : Program} {ops : Array Oper} {o : Oper} {a : Act} {w : World} {K : Act → World → Prop} {Q : Exit → Act → World → Prop} {E : Prop} {t : TypeId}
    (hg : o.guard = none) (s x : Operand) (ho : o.op = .call { callee := .builtin .append, args := #[s, x], argTypes := #[t, t] })
    (e : TypeId) (i : TypeInfo) (z : Value) (size bytes : Nat) (ht : P.underlying t = some (.slice e)) (hi : P.info? e = some i) (hz : i.zero = some z)
    (hsize : i.size = size) (hby : i.bytes = bytes) (hzs : z.cells.size = size) (hsz : 0 < size)
    (v : Value) (n : Nat) (xs : List Value) (hs : a.eval s = v) (hown : w.ownsRow 0 e size v n xs)
    (ad : Addr) (m c : Nat) (news : List Value) (hx : a.eval x = .slice (some ad) m c) (hl : news.length = m * size) (hnews : ∀ j u, news[j]? = some u → w.cell? (ad.add j) = some u) (h1 : ∀ u ∈ news, u.oneCell' = true)
    (h63 : n + m ≤ maxLen) (hbytes : (n + m) * bytes ≤ 140737488355328)
    (h : ∀ v' w', w'.ownsRow 0 e size v' (n + m) (xs ++ news) → w.grownBy w' v.ownBlock → (∀ k, v'.ownBlock = some k → v.ownBlock = some k ∨ w.heap.size ≤ k) → (v' = .slice none 0 0 ↔ v = .slice none 0 0 ∧ m = 0) → K (a.put o.dst v') w') :
    if Region.wanted o (yielded ops a.tmps) = true then Oper.wp P o a w K Q else E := by
  have hw : Region.wanted o (yielded ops a.tmps) = true := by simp [Region.wanted, hg]
  rw [if_pos hw]
  obtain ⟨v', w', hr, h2, h3, h4, h5⟩ := run_append_new (P := P) (w := w) t o.type e i z size bytes ht hi hz hsize hby hzs hsz v n xs hown ad m c news hl hnews h1 h63 hbytes
  unfold Oper.wp execOp
  simp only [ho, resolve, invoke, builtin, Sem.run_bind, Sem.run_pure, Result.andThen_ok, List.map_toArray, List.map_cons, List.map_nil, hs, hx, hr]
  exact h v' w' h2 h3 h4 h5

theorem cell_two_at (w : World) (u1 u2 : Value) (T : TypeId) (k : Nat) (hk : k = w.heap.size) : ∀ (j : Nat) (x : Value), [u1, u2][j]? = some x → (w.alloc (.cells #[u1, u2] T)).cell? ((⟨k, 0, none⟩ : Addr).add j) = some x := by
  subst hk
  intro j x hj
  rcases j with _ | _ | j
  · simp at hj; subst hj; exact cell?_of_heap (o := 0) (heap_alloc_new w (.cells #[u1, u2] T))
  · simp at hj; subst hj; exact cell?_of_heap (o := 1) (heap_alloc_new w (.cells #[u1, u2] T))
  · simp at hj

end Go.Proofs.Ytcicmljnjdhkjaa
/- a call under way that makes new blocks alone: its own boxes, and what lies below. -/
set_option linter.unusedSimpArgs false
set_option linter.unusedVariables false
namespace Go.Proofs.Ytcicmljnjdhkjaa
open Go.RowKit

/-- since w0 nothing below has turned; the boxes Ls are the call's own. -/
structure BS (w0 : World) (Ls : List Nat) (w : World) : Prop where
  bel : Below w0.heap.size w0 w
  ls : ∀ L ∈ Ls, L < w.heap.size ∧ w0.heap.size ≤ L

section
variable {w0 w w' : World} {Ls : List Nat}

theorem BS.start (w0 : World) : BS w0 [] w0 := ⟨Below.refl _ _, by simp⟩

theorem BS.below (h : BS w0 Ls w) (hb : Below w.heap.size w w') : BS w0 Ls w' :=
  ⟨h.bel.trans (hb.mono h.bel.size), fun L hL => ⟨Nat.lt_of_lt_of_le (h.ls L hL).1 hb.size, (h.ls L hL).2⟩⟩

theorem BS.alloc (h : BS w0 Ls w) (o : Obj) : BS w0 (w.heap.size :: Ls) (w.alloc o) := by
  refine ⟨h.bel.alloc h.bel.size o, fun L hL => ?_⟩
  simp at hL
  rcases hL with rfl | hL
  · exact ⟨by simp, h.bel.size⟩
  · have := h.ls L hL; exact ⟨by simp; omega, this.2⟩

theorem BS.drew (h : BS w0 Ls w) : BS w0 Ls w.drew := ⟨h.bel.drew, h.ls⟩

theorem BS.setCell (h : BS w0 Ls w) {L : Nat} (hL : L ∈ Ls) (o : Nat) (v : Value) : BS w0 Ls (w.setCell ⟨L, o, none⟩ v) :=
  ⟨h.bel.setCell (h.ls L hL).2 v, fun M hM => ⟨by simpa using (h.ls M hM).1, (h.ls M hM).2⟩⟩

theorem BS.sub (h : BS w0 Ls w) (Ls' : List Nat) (hL : ∀ L ∈ Ls', L ∈ Ls) : BS w0 Ls' w := ⟨h.bel, fun L hm => h.ls L (hL L hm)⟩

theorem BS.grown (h : BS w0 Ls w) {row : Option Nat} (hg : w.grownBy w' row) (hr : ∀ k, row = some k → k ∈ Ls) (Ls' : List Nat) (hL : ∀ L ∈ Ls', L ∈ Ls ∨ (w.heap.size ≤ L ∧ L < w'.heap.size)) : BS w0 Ls' w' := by
  refine ⟨h.bel.grown hg h.bel.size (fun k hk => (h.ls k (hr k hk)).2), fun L hm => ?_⟩
  have := h.bel.size
  rcases hL L hm with y | y
  · exact ⟨Nat.lt_of_lt_of_le (h.ls L y).1 hg.size, (h.ls L y).2⟩
  · exact ⟨y.2, by omega⟩

/-- a call that makes new blocks alone. -/
theorem calls_b {P : Program} {f : FuncId} {args : Array Value} {val : Value} (h : BS w0 Ls w)
    (hc : Calls P f args w fun e w' => e = .returned val ∧ Below w.heap.size w w') :
    Calls P f args w fun e w' => e = .returned val ∧ BS w0 Ls w' ∧ ∀ L ∈ Ls, w'.heap[L]? = w.heap[L]? :=
  hc.mono fun _ _ ⟨he, hb⟩ => ⟨he, h.below hb, fun L hL => hb.block L (h.ls L hL).1⟩

/-- a cell of what lay there before. -/
theorem BS.old (h : BS w0 Ls w) {a : Addr} {u : Value} (hc : w0.cell? a = some u) : w.cell? a = some u :=
  (h.bel.cell (World.block_lt_of_cell? w0 a hc)).trans hc
end

theorem BS.oldbox {w0 w : World} {Ls : List Nat} {b : Nat} {cs : Array Value} (h : BS w0 Ls w) (hc : ∀ o : Nat, w0.cell? ⟨b, o, none⟩ = cs[o]?) (hb : b < w0.heap.size) : ∀ o : Nat, w.cell? ⟨b, o, none⟩ = cs[o]? :=
  fun o => (h.bel.cell (p := ⟨b, o, none⟩) hb).trans (hc o)

theorem BS.row {w0 w : World} {Ls : List Nat} {e sz n : Nat} {v : Value} {xs : List Value} (h : BS w0 Ls w) (hr : w0.ownsRow 0 e sz v n xs) : w.ownsRow 0 e sz v n xs :=
  ownsRow_block hr fun k hk => h.bel.block k (ownsRow_lt hr hk)

theorem world_gen {F : World → Prop} {W : World} (h : ∀ W', W' = W → F W') : F W := h W rfl

/-- behind an append to the row v, which a box went ahead of. -/
theorem BS.append {w0 w w' : World} {L : Nat} {v v' : Value} {ob : Obj} {e sz n : Nat} {xs : List Value} (h : BS w0 (L :: v.ownBlock.toList) w) (hg : (w.alloc ob).grownBy w' v.ownBlock)
    (hnew : ∀ k, v'.ownBlock = some k → v.ownBlock = some k ∨ (w.alloc ob).heap.size ≤ k) (hown : w'.ownsRow 0 e sz v' n xs) : BS w0 (L :: v'.ownBlock.toList) w' := by
  refine (h.alloc ob).grown hg (fun k hk => by simp [hk]) _ fun M hM => ?_
  simp at hM
  rcases hM with rfl | hM
  · exact Or.inl (by simp)
  · rcases hnew M hM with h1 | h1
    · exact Or.inl (by simp [h1])
    · exact Or.inr ⟨h1, ownsRow_lt hown hM⟩

/-- a box of the call's own, beside the others. -/
structure BA (w0 : World) (Ls : List Nat) (LA : Nat) (cs : Array Value) (T : TypeId) (w : World) : Prop where
  bs : BS w0 (LA :: Ls) w
  box : w.heap[LA]? = some (.cells cs T)
  ne : ∀ L ∈ Ls, L ≠ LA
section
variable {w0 w w' : World} {Ls : List Nat} {LA : Nat} {cs : Array Value} {T : TypeId}
theorem BS.allocd (h : BS w0 Ls w) (cs : Array Value) (T : TypeId) : BA w0 Ls w.heap.size cs T (w.alloc (.cells cs T)) :=
  ⟨h.alloc _, heap_alloc_new w _, fun L hL e => by have := (h.ls L hL).1; omega⟩
theorem BA.step (h : BA w0 Ls LA cs T w) (hV : BS w0 (LA :: Ls) w') (hl : ∀ L ∈ LA :: Ls, w'.heap[L]? = w.heap[L]?) : BA w0 Ls LA cs T w' :=
  ⟨hV, (hl _ (by simp)).trans h.box, h.ne⟩
theorem frozen?_of_heap {o : Nat} (h : w.heap[LA]? = some (.cells cs T)) : w.frozen? ⟨LA, o, none⟩ = false := by
  simp [World.frozen?, h]
theorem heap_setCell_same {L o : Nat} {v : Value} (h : w.heap[L]? = some (.cells cs T)) : (w.setCell ⟨L, o, none⟩ v).heap[L]? = some (.cells (cs.setIfInBounds o v) T) := by
  simp only [World.setCell]
  rw [Array.getElem?_modify, if_pos rfl, h]
  rfl
theorem heap_setCell_other {L M o : Nat} {v : Value} (h : M ≠ L) : (w.setCell ⟨L, o, none⟩ v).heap[M]? = w.heap[M]? := by
  simp only [World.setCell]
  rw [Array.getElem?_modify, if_neg (Ne.symm h)]
theorem BA.set (h : BA w0 Ls LA cs T w) (o : Nat) (v : Value) : BA w0 Ls LA (cs.setIfInBounds o v) T (w.setCell ⟨LA, o, none⟩ v) :=
  ⟨h.bs.setCell (by simp) _ _, heap_setCell_same h.box, h.ne⟩
theorem BA.grown (h : BA w0 Ls LA cs T w) {ob : Obj} {row : Option Nat} (hg : (w.alloc ob).grownBy w' row) (hr : ∀ k, row = some k → k < w0.heap.size) : ∀ o : Nat, w'.cell? ⟨LA, o, none⟩ = cs[o]? := by
  have hl := h.bs.ls LA (by simp)
  exact loc_grown hg (by simp; omega) (fun e => by have := hr _ e; omega) (loc_old ob hl.1 fun o => cell?_of_heap h.box)
/-- what a box of three cells offers the walk. -/
theorem BA.cells3 {x y z : Value} (h : BA w0 Ls LA #[x, y, z] T w) : (w.cell? ⟨LA, 0, none⟩ = some x ∧ w.cell? ⟨LA, 1, none⟩ = some y ∧ w.cell? ⟨LA, 2, none⟩ = some z) ∧ w.frozen? ⟨LA, 0, none⟩ = false ∧ w.frozen? ⟨LA, 1, none⟩ = false ∧ w.frozen? ⟨LA, 2, none⟩ = false ∧ LA < w.heap.size ∧ w0.heap.size ≤ LA ∧ Below w0.heap.size w0 w :=
  ⟨⟨cell?_of_heap h.box, cell?_of_heap h.box, cell?_of_heap h.box⟩, frozen?_of_heap h.box, frozen?_of_heap h.box, frozen?_of_heap h.box, (h.bs.ls LA (by simp)).1, (h.bs.ls LA (by simp)).2, h.bs.bel⟩
theorem cells3 {L : Nat} {x y z : Value} (h : w.heap[L]? = some (.cells #[x, y, z] T)) : (w.cell? ⟨L, 0, none⟩ = some x ∧ w.cell? ⟨L, 1, none⟩ = some y ∧ w.cell? ⟨L, 2, none⟩ = some z) ∧ w.frozen? ⟨L, 0, none⟩ = false ∧ w.frozen? ⟨L, 1, none⟩ = false ∧ w.frozen? ⟨L, 2, none⟩ = false :=
  ⟨⟨cell?_of_heap h, cell?_of_heap h, cell?_of_heap h⟩, frozen?_of_heap h, frozen?_of_heap h, frozen?_of_heap h⟩
end

/-- a configuration's values: the slice (ad, n, c) holds a heap's cells. -/
structure XV (w : World) (t p s : Int) (ad : Addr) (n : Nat) (vs : List Int) : Prop where
  right : rightB t p s = true
  few : p ≤ 64
  len : vs.length = n
  num : (n : Int) = 30 + 4 * t + 6 * p
  u32 : ∀ v ∈ vs, VS.U32 v
  cells : ∀ k, k < n → w.cell? (ad.add k) = some (.int .u32 (vs.getD k 0))

theorem XV.keep {w w' : World} {t p s : Int} {ad : Addr} {n : Nat} {vs : List Int} (h : XV w t p s ad n vs) (hb : Below w.heap.size w w') : XV w' t p s ad n vs :=
  ⟨h.right, h.few, h.len, h.num, h.u32, fun k hk => (hb.cell (World.block_lt_of_cell? w _ (h.cells k hk))).trans (h.cells k hk)⟩

/-- the place of a page's cell. -/
def cix (t q part : Int) : Nat := (30 + 4 * t + 6 * q + part).toNat
def gv (vs : List Int) (t q part : Int) : Int := vs.getD (cix t q part) 0

theorem add_block (a : Addr) (k : Nat) : (a.add k).block = a.block := by unfold Addr.add; split <;> rfl

theorem getD_u32 {vs : List Int} (h : ∀ v ∈ vs, VS.U32 v) (k : Nat) : VS.U32 (vs.getD k 0) := by
  by_cases hk : k < vs.length
  · have e : vs.getD k 0 = vs[k] := by simp [hk]
    rw [e]; exact h _ (List.getElem_mem hk)
  · have e : vs.getD k 0 = 0 := by simp [show ¬ k < vs.length from hk]
    rw [e]; exact VS.u32_zero

section
variable {w : World} {t p s : Int} {ad : Addr} {n : Nat} {vs : List Int}
theorem XV.bd (h : XV w t p s ad n vs) : 1 ≤ t ∧ t ≤ 16 ∧ 4 ≤ p ∧ p ≤ 64 ∧ 10 ≤ s ∧ s ≤ 20 ∧ (n : Int) = 30 + 4 * t + 6 * p := by
  have := right_bd h.right
  have := h.few
  have := h.num
  omega
theorem XV.of (h : XV w t p s ad n vs) {q part : Int} (h1 : 0 ≤ q) (h2 : q < p) : ofF t p s q part = 30 + 4 * t + 6 * q + part := by
  simp [ofF, h.right, h1, h2]
theorem XV.cx (h : XV w t p s ad n vs) {q part : Int} (h1 : 0 ≤ q) (h2 : q < p) (h3 : 0 ≤ part) (h4 : part ≤ 5) : cix t q part < n ∧ ofF t p s q part = ((cix t q part : Nat) : Int) := by
  have b := h.bd
  rw [h.of h1 h2]
  unfold cix
  omega
theorem XV.gu (h : XV w t p s ad n vs) (q part : Int) : 0 ≤ gv vs t q part ∧ gv vs t q part < 4294967296 := getD_u32 h.u32 _
end

end Go.Proofs.Ytcicmljnjdhkjaa
/- the document's small functions: places, bits, classes, infos. -/
set_option linter.unusedSimpArgs false
set_option linter.unusedVariables false
namespace Go.Proofs.Ytcicmljnjdhkjaa
open Go.RowKit

def bitB (v : Int) (i : Nat) : Bool := decide (i < 32) && (v / 2 ^ i % 2 == 1)
def slotsF (k : Int) : Int := if k = 0 then 32 else if k = 1 then 21 else if k = 2 then 16 else if k = 3 then 10 else if k = 4 then 8 else if k = 5 then 5 else if k = 6 then 4 else if k = 7 then 3 else if k = 8 then 2 else 0
theorem slots_bd (k : Int) : 0 ≤ slotsF k ∧ slotsF k ≤ 32 := by unfold slotsF; repeat' split <;> omega
def onesN (v : Int) : Nat → Nat
  | 0 => 0
  | k + 1 => onesN v k + if bitB v k then 1 else 0
theorem onesN_le (v : Int) (k : Nat) : onesN v k ≤ k := by
  induction k with
  | zero => exact Nat.le_refl _
  | succ k ih => unfold onesN; split <;> omega
def bitsN (n : Nat) : Nat := if n = 0 then 0 else n.log2 + 1
theorem bitsN_le (n : Nat) : bitsN n ≤ n := by
  unfold bitsN
  split
  · omega
  · have := Nat.log2_lt (n := n) (k := n) (by omega)
    have := this.2 Nat.lt_two_pow_self
    omega
def logF (n : Int) : Int := (bitsN n.toNat : Int) - 1
def fullB (v k : Int) : Bool := ((onesN v 32 : Nat) : Int) == slotsF k
def rightI (k l c : Int) : Bool :=
  if k = 0 then decide (l = 0) && decide (c = 0)
  else if k = 1 ∨ k = 2 then decide (1 ≤ l) && decide (l ≤ 1024) && decide (c = 0)
  else if k = 3 then decide (l = 1) && decide (0 ≤ c) && decide (c ≤ 8) else false
end Go.Proofs.Ytcicmljnjdhkjaa
/- the document's audit: infos of pages. -/
set_option linter.unusedSimpArgs false
set_option linter.unusedVariables false
namespace Go.Proofs.Ytcicmljnjdhkjaa
open Go.RowKit

def okI (v : Int) : Bool := rightI (v % 16) (v / 16 % 4096) (v / 65536)
def iK (v : Int) : Int := if okI v then v % 16 else 0
def iL (v : Int) : Int := if okI v then v / 16 % 4096 else 0
def iC (v : Int) : Int := if okI v then v / 65536 else 0
theorem inf_bd (v : Int) : 0 ≤ iK v ∧ iK v ≤ 3 ∧ 0 ≤ iL v ∧ iL v ≤ 1024 ∧ 0 ≤ iC v ∧ iC v ≤ 8 ∧ (iK v ≠ 0 → okI v = true ∧ 1 ≤ iL v) ∧ (okI v = false → iK v = 0) := by
  unfold iK iL iC
  cases h : okI v
  · simp
  · unfold okI rightI at h
    have h0 := h
    split at h0
    · simp at h0; simp; omega
    · split at h0
      · simp at h0; simp; omega
      · split at h0
        · simp at h0; simp; omega
        · simp at h0

section
variable {t p s : Int} {ad : Addr} {n : Nat} {vs : List Int}

end
end Go.Proofs.Ytcicmljnjdhkjaa
/- the document's audit: the bits of pages, the starts of spans. -/
set_option linter.unusedSimpArgs false
set_option linter.unusedVariables false
namespace Go.Proofs.Ytcicmljnjdhkjaa
open Go.RowKit
section
variable {t p s : Int} {ad : Addr} {n : Nat} {vs : List Int}

/-- a new row of numbers comes back. -/
def RowP (w : World) (l : List Int) (v : Value) (w' : World) : Prop :=
  w'.ownsRow 0 3 1 v l.length (ints l) ∧ (∀ k, v.ownBlock = some k → w.heap.size ≤ k) ∧ Below w.heap.size w w'

def startsL (g : Int → Int) (p : Int) : Nat → Int → List Int → List Int × Bool
  | 0, a, out => (out, a == p)
  | f + 1, a, out => if a < p then (if okI (g a) = false ∨ iK (g a) = 0 then ([], false) else startsL g p f (a + iL (g a)) (out ++ [a])) else (out, a == p)
def startsF (g : Int → Int) (p : Int) : List Int × Bool := startsL g p (p.toNat + 1) 0 []

end
end Go.Proofs.Ytcicmljnjdhkjaa
/- the document's audit: in, binned, racked; the state of a walk that only reads. -/
set_option linter.unusedSimpArgs false
set_option linter.unusedVariables false
namespace Go.Proofs.Ytcicmljnjdhkjaa
open Go.RowKit

/-- X in its box, since w. -/
structure XB (w : World) (t p s : Int) (ad : Addr) (n c : Nat) (vs : List Int) (W : World) : Prop where
  bel : Below w.heap.size w W
  box : ∀ o : Nat, W.cell? ⟨w.heap.size, o, none⟩ = (#[.int .i64 t, .int .i64 p, .int .i64 s, .slice (some ad) n c] : Array Value)[o]?
  lt : w.heap.size < W.heap.size
  xv : XV W t p s ad n vs
section
variable {t p s : Int} {ad : Addr} {n c : Nat} {vs : List Int} {w W W' : World}
theorem XB.keep (h : XB w t p s ad n c vs W) (hb : Below W.heap.size W W') : XB w t p s ad n c vs W' :=
  ⟨h.bel.trans (hb.mono h.bel.size), fun o => (hb.cell (p := ⟨w.heap.size, o, none⟩) h.lt).trans (h.box o), Nat.lt_of_lt_of_le h.lt hb.size, h.xv.keep hb⟩
theorem XB.alloc (h : XB w t p s ad n c vs W) (o : Obj) : XB w t p s ad n c vs (W.alloc o) := h.keep ((Below.refl _ _).alloc (Nat.le_refl _) _)
theorem XB.drew (h : XB w t p s ad n c vs W) : XB w t p s ad n c vs W.drew := h.keep ((Below.refl _ _).drew)
theorem XB.cells (h : XB w t p s ad n c vs W) : W.cell? ⟨w.heap.size, 0, none⟩ = some (.int .i64 t) ∧ W.cell? ⟨w.heap.size, 1, none⟩ = some (.int .i64 p) ∧ W.cell? ⟨w.heap.size, 2, none⟩ = some (.int .i64 s) ∧ W.cell? ⟨w.heap.size, 3, none⟩ = some (.slice (some ad) n c) :=
  ⟨h.box 0, h.box 1, h.box 2, h.box 3⟩

def binnedB (v k : Int) : Bool := iK v == 1 && logF (iL v) == k
def rackedB (v u k : Int) : Bool := iK v == 3 && iC v == k && !fullB u k

end
end Go.Proofs.Ytcicmljnjdhkjaa
/- the document's audit: the lists of a heap. -/
set_option linter.unusedSimpArgs false
set_option linter.unusedVariables false
namespace Go.Proofs.Ytcicmljnjdhkjaa
open Go.RowKit
section
variable {t p s : Int} {ad : Addr} {n c : Nat} {vs : List Int}

def listL (vs : List Int) (t p : Int) : Nat → Int → Int → List Int → List Int × Bool
  | 0, _, _, out => (out, false)
  | f + 1, q, ah, out => if q = 0 then (out, true) else if p < q ∨ p ≤ out.length then (out, false) else if gv vs t (q - 1) 3 ≠ ah then (out, false) else listL vs t p f (gv vs t (q - 1) 2) q (out ++ [q - 1])
def listF (vs : List Int) (t p : Int) (head : Nat) : List Int × Bool := listL vs t p (p.toNat + 1) (vs.getD head 0) 0 []

end
end Go.Proofs.Ytcicmljnjdhkjaa
/- the document's audit: bins and racks. -/
set_option linter.unusedSimpArgs false
set_option linter.unusedVariables false
namespace Go.Proofs.Ytcicmljnjdhkjaa
open Go.RowKit

def allN (f : Nat → Bool) : Nat → Bool
  | 0 => true
  | k + 1 => allN f k && f k
theorem allN_no {f : Nat → Bool} {k N : Nat} (hk : k < N) (h : f k = false) : allN f N = false := by
  induction N with
  | zero => omega
  | succ N ih =>
    by_cases e : k = N
    · subst e; simp [allN, h]
    · simp [allN, ih (by omega)]
theorem allN_iff {f : Nat → Bool} {N : Nat} : allN f N = true ↔ ∀ k, k < N → f k = true := by
  induction N with
  | zero => simp [allN]
  | succ N ih =>
    simp only [allN, Bool.and_eq_true, ih]
    constructor
    · intro h k hk
      by_cases e : k = N
      · rw [e]; exact h.2
      · exact h.1 k (by omega)
    · exact fun h => ⟨fun k hk => h k (by omega), h N (by omega)⟩
theorem RowP.row {w w' : World} {l : List Int} {v : Value} (h : RowP w l v w') : ∃ a c, v = .slice a l.length c := row_shape h.1
def wantI (b : Bool) : Int := if b then 1 else 0
section
variable {t p s : Int} {ad : Addr} {n c : Nat} {vs : List Int}
def binsInB (vs : List Int) (t : Int) (l : List Int) (k : Nat) (q : Nat) : Bool := ((l.count (q : Int) : Nat) : Int) == wantI (binnedB (gv vs t (q : Int) 0) k)
def binsB (vs : List Int) (t p : Int) (k : Nat) : Bool := (listF vs t p (2 + k)).2 && allN (binsInB vs t (listF vs t p (2 + k)).1 k) p.toNat
def binsF (vs : List Int) (t p : Int) : Bool := allN (binsB vs t p) 11

def racksInB (vs : List Int) (t : Int) (l : List Int) (k : Nat) (q : Nat) : Bool := ((l.count (q : Int) : Nat) : Int) == wantI (rackedB (gv vs t (q : Int) 0) (gv vs t (q : Int) 5) k)
def racksB (vs : List Int) (t p : Int) (k : Nat) : Bool := (listF vs t p (13 + k)).2 && allN (racksInB vs t (listF vs t p (13 + k)).1 k) p.toNat
def racksF (vs : List Int) (t p : Int) : Bool := allN (racksB vs t p) 9

end
end Go.Proofs.Ytcicmljnjdhkjaa
/- the document's audit: tiles, apart, feet. -/
set_option linter.unusedSimpArgs false
set_option linter.unusedVariables false
namespace Go.Proofs.Ytcicmljnjdhkjaa
open Go.RowKit

def tilesN (vs : List Int) (t : Int) (l : List Int) : Nat → Option Nat
  | 0 => some 0
  | q + 1 => match tilesN vs t l q with
    | none => none
    | some n => if l[n]? = some (q : Int) then some (n + 1) else if gv vs t (q : Int) 0 = 0 then some n else none
def tilesF (vs : List Int) (t p : Int) : Bool := (startsF (fun q => gv vs t q 0) p).2 && (tilesN vs t (startsF (fun q => gv vs t q 0) p).1 p.toNat).isSome
theorem RowP.cell {w w' : World} {l : List Int} {a : Option Addr} {m c : Nat} (h : RowP w l (.slice a m c) w') {k : Nat} (hk : k < l.length) :
    ∃ g, a = some ⟨g, 0, none⟩ ∧ w'.cell? ⟨g, k, none⟩ = some (.int .i64 (l.getD k 0)) := by
  obtain ⟨g, cap, e⟩ := Joins.ownsRow_form h.1 (by omega)
  simp only [Value.slice.injEq] at e
  obtain ⟨rfl, rfl, rfl⟩ := e
  refine ⟨g, rfl, ?_⟩
  rw [h.1.cellAt k (by omega)]
  simp [ints, hk]

section
variable {t p s : Int} {ad : Addr} {n c : Nat} {vs : List Int}

end
end Go.Proofs.Ytcicmljnjdhkjaa
