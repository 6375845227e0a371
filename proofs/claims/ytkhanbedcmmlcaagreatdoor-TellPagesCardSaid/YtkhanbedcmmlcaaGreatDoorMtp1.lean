/- parts of the proof, merged by a program. -/
import Derived.Deep.RegionHeld3
import Derived.ProofKit
import Derived.WalkKit
import Derived.WalkSpells
import Derived.WalkLawsBesides
import Derived.Lib.Hide
import Derived.Maps.OwnOps
import Derived.Lib.SmallJoins
import Derived.Test.YtkhanbedcmmlcaaGreatDoorRows
import Derived.Deep.AppendLies
import Derived.Deep.RegionLaw
set_option linter.unusedSimpArgs false
set_option linter.unusedVariables false
namespace Go.Proofs.YtkhanbedcmmlcaaGreatDoor
open Go
theorem zA {α : Type _} {xs : List α} {i : Nat} (h : i < xs.toArray.size) : xs.toArray[i] = xs[i]'(by simpa using h) := rfl
theorem zB {α : Type _} (a : α) (bs : List α) (h : 0 < (a :: bs).length) : (a :: bs)[0] = a := rfl
theorem zC {α : Type _} (a : α) (bs : List α) (i : Nat) (h : i + 1 < (a :: bs).length) : (a :: bs)[i + 1] = bs[i]'(Nat.lt_of_succ_lt_succ h) := rfl
theorem zD {α : Type _} (l : List α) (i : Nat) (a : α) : l.toArray.setIfInBounds i a = (l.set i a).toArray := List.setIfInBounds_toArray l i a
theorem zE {α : Type _} {x : α} {xs : List α} {a : α} : (x :: xs).set 0 a = a :: xs := rfl
theorem zF {α : Type _} {x : α} {xs : List α} {i : Nat} {a : α} : (x :: xs).set (i + 1) a = x :: xs.set i a := rfl
section
variable {P : Program} {md : Region.Mode} {ops : Array Oper} {Q : Exit → Act → World → Prop} {S : World → Prop}
theorem wT (i : Nat) {oi : Oper} {v : Value} {fuel : Nat} {listed : Array Bool} {a a2 : Act} {w : World} (h : wpAnyH P md ops Q S fuel (listed.setIfInBounds i true) a2 w)
    (hi : ops[i]? = some oi := by exact rfl)
    (hs : Region.noSelect ops = true := by kernel_rfl) (hf : Region.free md ops listed i = true := by kernel_rfl) (hr : (Region.ready md ops listed).contains i = true := by kernel_rfl)
    (hQ : ∀ c a w, Q (.panic c) (a.put oi.dst v) w → Q (.panic c) a w := by exact fun _ _ _ h => h) (hg : Region.wanted oi (yielded ops a.tmps) = true := by rfl)
    (hy : ∀ w, S w → (execOp a.eval oi).run P w = .ok (.value v) w := by intro w hSw; (try dsimp only at hSw); go_simp; try with_reducible rfl) (hS : S w := by assumption)
    (hp : a.put oi.dst v = a2 := by first | (simp only [Act.put, zA, zB, zC, zD, zE, zF]; with_reducible rfl) | with_reducible rfl) : wpAnyH P md ops Q S (fuel + 1) listed a w :=
  wpAnyH_take hi hs hf hr hQ (Or.inl ⟨hg, hy⟩) hS (hp ▸ h)
theorem wU (i : Nat) {oi : Oper} {fuel : Nat} {listed : Array Bool} {a a2 : Act} {w : World} (h : wpAnyH P md ops Q S fuel (listed.setIfInBounds i true) a2 w)
    (hi : ops[i]? = some oi := by exact rfl)
    (hs : Region.noSelect ops = true := by kernel_rfl) (hf : Region.free md ops listed i = true := by kernel_rfl) (hr : (Region.ready md ops listed).contains i = true := by kernel_rfl)
    (hQ : ∀ c a w, Q (.panic c) (a.put oi.dst undef) w → Q (.panic c) a w := by exact fun _ _ _ h => h) (hg : Region.wanted oi (yielded ops a.tmps) = false := by rfl) (hS : S w := by assumption)
    (hp : a.put oi.dst undef = a2 := by first | (simp only [Act.put, zA, zB, zC, zD, zE, zF]; with_reducible rfl) | with_reducible rfl) : wpAnyH P md ops Q S (fuel + 1) listed a w :=
  wpAnyH_take hi hs hf hr hQ (Or.inr ⟨hg, rfl⟩) hS (hp ▸ h)
theorem wR (i : Nat) {o : Oper} {fuel : Nat} {listed : Array Bool} {a : Act} {w : World}
    (h : ∀ K' : Act → World → Prop, Shut (∀ a w, S w → (S w → wpAnyH P md ops Q S fuel (listed.setIfInBounds i true) a w) → K' a w) → if Region.wanted o (yielded ops a.tmps) = true then Oper.wp P o a w K' Q else K' (a.put o.dst undef) w)
    (ho : ops[i]? = some o := by exact rfl) (hr : Region.ready md ops listed = [i] := by kernel_rfl) : wpAnyH P md ops Q S (fuel + 1) listed a w :=
  wpAnyH_ready hr (by simp) (AllReadyH.cons ho h AllReadyH.nil)
end
end Go.Proofs.YtkhanbedcmmlcaaGreatDoor
/- small laws on worlds, for all texts of this seat. -/
set_option linter.unusedSimpArgs false
set_option linter.unusedVariables false
namespace Go.Proofs.YtkhanbedcmmlcaaGreatDoor
open Go.RowKit

theorem bcell {W w1 : World} (hb : Below W.heap.size W w1) : (∀ b o, b < W.heap.size → w1.cell? ⟨b, o, none⟩ = W.cell? ⟨b, o, none⟩) ∧ (∀ b o, b < W.heap.size → w1.frozen? ⟨b, o, none⟩ = W.frozen? ⟨b, o, none⟩) :=
  ⟨fun b o h => hb.cell (p := ⟨b, o, none⟩) h, fun b o h => hb.frozen (p := ⟨b, o, none⟩) h⟩

theorem hb_alloc (w : World) (o : Obj) (k : Nat) (h : k = w.heap.size) : (w.alloc o).heap[k]? = some o := by subst h; exact heap_alloc_new w o
theorem cell?_of_heap {w : World} {b o : Nat} {cs : Array Value} {T : TypeId} {fr : Nat × Nat} (h : w.heap[b]? = some (.cells cs T fr)) : w.cell? ⟨b, o, none⟩ = cs[o]? := by simp [World.cell?, h]

/-- what a drawn region keeps: the cells of the box b, and all below. -/
theorem keepB {W w' w0 : World} {b : Nat} {cs : Array Value} (hb : Below W.heap.size W w') (h : (∀ o : Nat, W.cell? ⟨b, o, none⟩ = cs[o]?) ∧ b < W.heap.size ∧ Below w0.heap.size w0 W) :
    (∀ o : Nat, w'.cell? ⟨b, o, none⟩ = cs[o]?) ∧ b < w'.heap.size ∧ Below w0.heap.size w0 w' :=
  ⟨fun o => (hb.cell (p := ⟨b, o, none⟩) h.2.1).trans (h.1 o), Nat.lt_of_lt_of_le h.2.1 hb.size, h.2.2.trans (hb.mono h.2.2.size)⟩
theorem keepD {W w0 : World} {b : Nat} {cs : Array Value} (h : (∀ o : Nat, W.cell? ⟨b, o, none⟩ = cs[o]?) ∧ b < W.heap.size ∧ Below w0.heap.size w0 W) :
    (∀ o : Nat, W.drew.cell? ⟨b, o, none⟩ = cs[o]?) ∧ b < W.drew.heap.size ∧ Below w0.heap.size w0 W.drew := ⟨h.1, h.2.1, h.2.2.drew⟩
theorem startB (w : World) (cs : Array Value) (T : TypeId) : (∀ o : Nat, (w.alloc (.cells cs T)).cell? ⟨w.heap.size, o, none⟩ = cs[o]?) ∧ w.heap.size < (w.alloc (.cells cs T)).heap.size ∧ Below w.heap.size w (w.alloc (.cells cs T)) :=
  ⟨fun o => by rw [cell?_of_heap (heap_alloc_new w _)], by simp, (Below.refl _ _).alloc (Nat.le_refl _) _⟩

theorem wrap_in (n : Int) (h : -9223372036854775808 ≤ n ∧ n ≤ 9223372036854775807) : IntKind.i64.wrap n = n := IntWalk.i64_in _ h
theorem ret_bool {a b : Bool} (h : a = b) : Ending.returned (.bool a) = Ending.returned (.bool b) := by rw [h]
theorem ret_int {k : IntKind} {a b : Int} (h : a = b) : Ending.returned (.int k a) = Ending.returned (.int k b) := by rw [h]

end Go.Proofs.YtkhanbedcmmlcaaGreatDoor
/- frames of worlds; maps from numbers to numbers; slices that grow: for all texts of this seat. -/
set_option linter.unusedSimpArgs false
set_option linter.unusedVariables false
namespace Go.Proofs.YtkhanbedcmmlcaaGreatDoor
open Go.RowKit

/-! ### Frames -/

/-- But for the blocks of S, what was there is as it was. -/
structure Fr (S : Nat → Prop) (w w' : World) : Prop where
  os : w'.os = w.os
  tape : w'.tape = w.tape
  output : w'.output = w.output
  size : w.heap.size ≤ w'.heap.size
  block : ∀ k, k < w.heap.size → ¬ S k → w'.heap[k]? = w.heap[k]?

/-- S, and what has come since w. -/
def upd (S : Nat → Prop) (w w' : World) : Nat → Prop := fun k => S k ∨ (w.heap.size ≤ k ∧ k < w'.heap.size)

theorem Fr.refl (S : Nat → Prop) (w : World) : Fr S w w := ⟨rfl, rfl, rfl, Nat.le_refl _, fun _ _ _ => rfl⟩
theorem Fr.trans {S S1 : Nat → Prop} {a b c : World} (h : Fr S a b) (k : Fr S1 b c) (hs : ∀ i, S1 i → S i ∨ a.heap.size ≤ i) : Fr S a c :=
  ⟨k.os.trans h.os, k.tape.trans h.tape, k.output.trans h.output, Nat.le_trans h.size k.size, fun i hi hn => (k.block i (Nat.lt_of_lt_of_le hi h.size) (fun x => by rcases hs i x with y | y; exact hn y; omega)).trans (h.block i hi hn)⟩
theorem Fr.mono {S S1 : Nat → Prop} {a b : World} (h : Fr S a b) (hs : ∀ i, S i → S1 i) : Fr S1 a b := ⟨h.os, h.tape, h.output, h.size, fun i hi hn => h.block i hi (fun x => hn (hs i x))⟩
theorem Fr.of_below {S : Nat → Prop} {a b : World} (h : Below a.heap.size a b) : Fr S a b := ⟨h.os, h.tape, h.output, h.size, fun i hi _ => h.block i hi⟩
theorem Fr.below {S : Nat → Prop} {a b : World} {B : Nat} (h : Fr S a b) (hB : B ≤ a.heap.size) (hs : ∀ i, S i → B ≤ i) : Below B a b := ⟨h.os, h.tape, h.output, h.size, fun i hi => h.block i (by omega) (fun x => by have := hs i x; omega)⟩
theorem Fr.drew {S : Nat → Prop} {a b : World} (h : Fr S a b) : Fr S a b.drew := ⟨h.os, h.tape, h.output, h.size, h.block⟩
theorem Fr.alloc {S : Nat → Prop} {a b : World} (h : Fr S a b) (o : Obj) : Fr S a (b.alloc o) :=
  h.trans (S1 := S) (Fr.of_below ((Below.refl _ _).alloc (Nat.le_refl _) o)) (fun _ x => Or.inl x)
theorem Fr.setCell {S : Nat → Prop} {a b : World} (h : Fr S a b) (p : Addr) (u : Value) (hp : S p.block ∨ a.heap.size ≤ p.block) : Fr S a (b.setCell p u) :=
  h.trans (S1 := fun k => k = p.block) ⟨rfl, rfl, rfl, by simp, fun k _ hn => Below.heap_setCell _ _ _ _ hn⟩ (fun i hi => by rw [hi]; exact hp)
theorem Fr.grown {S : Nat → Prop} {a b c : World} {row : Option Nat} (h : Fr S a b) (g : b.grownBy c row) (hr : ∀ k, row = some k → S k ∨ a.heap.size ≤ k) : Fr S a c :=
  h.trans (S1 := fun k => row = some k) ⟨g.os, g.tape, g.output, g.size, fun k hk hn => g.block k hk (fun e => hn e.symm)⟩ hr
theorem Fr.cell {S : Nat → Prop} {a b : World} (h : Fr S a b) {k : Nat} (hk : k < a.heap.size) (hn : ¬ S k) (o : Nat) : b.cell? ⟨k, o, none⟩ = a.cell? ⟨k, o, none⟩ := World.cell?_of_block (h.block k hk hn)
theorem Fr.frozen {S : Nat → Prop} {a b : World} (h : Fr S a b) {k : Nat} (hk : k < a.heap.size) (hn : ¬ S k) (o : Nat) : b.frozen? ⟨k, o, none⟩ = a.frozen? ⟨k, o, none⟩ := World.frozen?_of_block (h.block k hk hn)

/-! ### Maps from int to int, as lists in the order in which keys came -/

def look : List (Int × Int) → Int → Nat → Option (Nat × Int)
  | [], _, _ => none
  | p :: r, k, i => if p.1 = k then some (i, p.2) else look r k (i + 1)
def assoc (l : List (Int × Int)) (k : Int) : Option Int := (look l k 0).map (·.2)
def upsert (l : List (Int × Int)) (k v : Int) : List (Int × Int) := match look l k 0 with
  | some (i, _) => l.set i (k, v)
  | none => l ++ [(k, v)]

def rowsOf (l : List (Int × Int)) : List (Value × Value) := l.map fun p => (.int .i64 p.1, .int .i64 p.2)
def MapIs (w : World) (b : Nat) (l : List (Int × Int)) : Prop := ∃ es clk, w.heap[b]? = some (.map es clk) ∧ es.toList.map (fun e => (e.key, e.val)) = rowsOf l

theorem findNow_look (k : Int) : ∀ (es : List MapEntry) (l : List (Int × Int)) (i : Nat), es.map (fun e => (e.key, e.val)) = rowsOf l →
    Instr.findNow (.int .i64) (.int .i64 k) es i = some ((look l k i).map fun x => (x.1, .int .i64 x.2))
  | [], [], _, _ => rfl
  | [], _ :: _, _, h => by simp [rowsOf] at h
  | _ :: _, [], _, h => by simp [rowsOf] at h
  | e :: es, p :: l, i, h => by
    simp only [rowsOf, List.map_cons, List.cons.injEq, Prod.mk.injEq] at h
    obtain ⟨⟨h1, h2⟩, h3⟩ := h
    simp only [Instr.findNow, h1, Instr.sameNow, if_true, look, h2]
    by_cases hk : p.1 = k
    · simp [hk]
    · have : (k == p.1) = false := by simp; exact fun x => hk x.symm
      simp only [this, if_neg hk]
      exact findNow_look k es l (i + 1) h3

theorem look_lt {k : Int} : ∀ {l : List (Int × Int)} {i j : Nat} {v : Int}, look l k i = some (j, v) → i ≤ j ∧ j < i + l.length ∧ l[j - i]? = some (k, v)
  | [], _, _, _, h => by simp [look] at h
  | p :: r, i, j, v, h => by
    simp only [look] at h
    split at h
    · rename_i hp
      simp only [Option.some.injEq, Prod.mk.injEq] at h
      obtain ⟨rfl, rfl⟩ := h
      subst hp
      exact ⟨Nat.le_refl _, by simp, by simp⟩
    · obtain ⟨h1, h2, h3⟩ := look_lt h
      refine ⟨by omega, by simp; omega, ?_⟩
      have : j - i = (j - (i + 1)) + 1 := by omega
      rw [this, List.getElem?_cons_succ]
      exact h3

section
variable {P : Program} {w : World} {t K E : TypeId}

theorem isKey_int (k : Int) : MapKept.IsKey (.int .i64) (.int .i64 k) := by simp [MapKept.IsKey]

theorem run_lookup_ok {b : Nat} {l : List (Int × Int)} (h : MapIs w b l) (ht : P.underlying t = some (.map K E)) (hK : P.underlying K = some (.int .i64)) (hz : (zeroValue E).run P w = .ok (.int .i64 0) w) (k : Int) (ok : Bool) :
    (Instr.lookup t (.map (some b)) (.int .i64 k) ok).run P w = .ok (if ok then .tuple #[.int .i64 ((assoc l k).getD 0), .bool (assoc l k).isSome] else .int .i64 ((assoc l k).getD 0)) w := by
  obtain ⟨es, clk, hb, hes⟩ := h
  have hf := findNow_look k es.toList l 0 hes
  have hck : ∀ e, (Instr.checkKey e 10000 K (.int .i64 k)).run P w = .ok () w := fun e => MapKept.run_checkKey hK (isKey_int k) e 9999
  have hfk : (Instr.findKey K (.int .i64 k) es.toList).run P w = .ok ((look l k 0).map fun x => (x.1, .int .i64 x.2)) w := by
    simp [Instr.findKey, run_underlying hK, hf]
  cases hl : look l k 0 with
  | none =>
    simp [hl] at hfk
    cases ok <;> simp [Instr.lookup, run_underlying ht, hck, hfk, MapKept.run_getObj_map hb, hz, assoc, hl, Result.andThen]
  | some x =>
    simp [hl] at hfk
    cases ok <;> simp [Instr.lookup, run_underlying ht, hck, hfk, MapKept.run_getObj_map hb, assoc, hl, Result.andThen]

theorem run_update {b : Nat} {l : List (Int × Int)} (h : MapIs w b l) (ht : P.underlying t = some (.map K E)) (hK : P.underlying K = some (.int .i64)) (k v : Int) :
    ∃ w', (Instr.mapUpdate t (.map (some b)) (.int .i64 k) (.int .i64 v)).run P w = .ok () w' ∧ MapIs w' b (upsert l k v) ∧ w.grownBy w' (some b) := by
  obtain ⟨es, clk, hb, hes⟩ := h
  have hf := findNow_look k es.toList l 0 hes
  have hck : ∀ e, (Instr.checkKey e 10000 K (.int .i64 k)).run P w = .ok () w := fun e => MapKept.run_checkKey hK (isKey_int k) e 9999
  have hfk : (Instr.findKey K (.int .i64 k) es.toList).run P w = .ok ((look l k 0).map fun x => (x.1, .int .i64 x.2)) w := by
    simp [Instr.findKey, run_underlying hK, hf]
  have hlt : b < w.heap.size := (Array.getElem?_eq_some_iff.1 hb).1
  have gr : ∀ o, w.grownBy { w with heap := w.heap.setIfInBounds b o } (some b) := fun o =>
    ⟨rfl, rfl, rfl, by simp, fun i _ hi => by simp only [Array.getElem?_setIfInBounds]; rw [if_neg (fun e => hi (by rw [e]))]⟩
  have at_ : ∀ o : Obj, ({ w with heap := w.heap.setIfInBounds b o } : World).heap[b]? = some o := fun o => by simp [hlt]
  cases hl : look l k 0 with
  | none =>
    simp [hl] at hfk
    refine ⟨{ w with heap := w.heap.setIfInBounds b (.map (es.push { key := .int .i64 k, val := .int .i64 v, born := clk }) (clk + 1)) }, ?_, ⟨_, _, at_ _, ?_⟩, gr _⟩
    · simp [Instr.mapUpdate, run_underlying ht, hck, hfk, MapKept.run_getObj_map hb, MapKept.run_setObj_map _ hb, Result.andThen]
    · simp [upsert, hl, hes, rowsOf]
  | some x =>
    obtain ⟨j, u⟩ := x
    simp [hl] at hfk
    obtain ⟨_, hj, hg⟩ := look_lt hl
    simp only [Nat.sub_zero, Nat.zero_add] at hg hj
    have hkey : (es[j]?).map (·.key) = some (.int .i64 k) := by
      have h1 : (es.toList.map (fun e => (e.key, e.val)))[j]? = some (.int .i64 k, .int .i64 u) := by rw [hes]; simp [rowsOf, hg]
      rw [List.getElem?_map] at h1
      simp at h1
      obtain ⟨e, he, h2, _⟩ := h1
      simp [he, h2]
    have hkey' : (Option.map (fun x => x.key) es[j]?) = some (.int .i64 k) := hkey
    have hst : (Instr.keyThatStays (((es[j]?).map (·.key)).getD (.int .i64 k)) (.int .i64 k)).run P w = .ok (.int .i64 k) w := by
      rw [hkey]; simp [Instr.keyThatStays, Instr.sameBits]
    refine ⟨{ w with heap := w.heap.setIfInBounds b (.map (es.modify j fun e => { e with key := .int .i64 k, val := .int .i64 v }) clk) }, ?_, ⟨_, _, at_ _, ?_⟩, gr _⟩
    · rw [hkey, Option.getD_some] at hst
      simp only [Instr.mapUpdate]
      simp [run_underlying ht, hck, hfk, MapKept.run_getObj_map hb, MapKept.run_setObj_map _ hb, hkey', hst, Result.andThen]
    · simp only [upsert, hl]
      apply List.ext_getElem?
      intro i
      have hi : (es.toList.map (fun e => (e.key, e.val)))[i]? = (rowsOf l)[i]? := by rw [hes]
      simp only [rowsOf, List.getElem?_map, Array.toList_modify, List.getElem?_modify, List.getElem?_set] at hi ⊢
      by_cases hij : j = i
      · subst hij
        rw [hg] at hi
        cases he : es.toList[j]? with
        | none => rw [he] at hi; simp at hi
        | some e => simp [hj]
      · simp only [if_neg hij]
        cases he : es.toList[i]? with
        | none => rw [he] at hi; simpa using hi
        | some e => rw [he] at hi; simpa using hi

/-- append to a slice of the call's own: where the new one lies. -/
theorem run_append_new (t ty e : TypeId) (i : TypeInfo) (z : Value) (size bytes : Nat) (ht : P.underlying t = some (.slice e)) (hi : P.info? e = some i) (hz : i.zero = some z)
    (hsize : i.size = size) (hby : i.bytes = bytes) (hzs : z.cells.size = size) (hsz : 0 < size)
    (v : Value) (n : Nat) (xs : List Value) (hown : w.ownsRow 0 e size v n xs)
    (a : Addr) (m c : Nat) (news : List Value) (hl : news.length = m * size) (hnews : ∀ j u, news[j]? = some u → w.cell? (a.add j) = some u) (h1 : ∀ u ∈ news, u.oneCell' = true)
    (h63 : n + m ≤ maxLen) (hbytes : (n + m) * bytes ≤ 140737488355328) :
    ∃ v' w', (Builtin.append_ #[t, t] ty #[v, .slice (some a) m c]).run P w = .ok v' w' ∧ w'.ownsRow 0 e size v' (n + m) (xs ++ news) ∧ w.grownBy w' v.ownBlock ∧
      (∀ k, v'.ownBlock = some k → v.ownBlock = some k ∨ w.heap.size ≤ k) ∧ (v' = .slice none 0 0 ↔ v = .slice none 0 0 ∧ m = 0) := by
  rcases hown.2 with ⟨rfl, rfl⟩ | ⟨g, cap, cur, rfl, hbg, hg, hnc, hcm, hcs, htake⟩
  · obtain ⟨v', w', hr, h2, h3, h4⟩ := run_append_own (P := P) w w.heap.size t ty e i z size bytes ht hi hz hsize hby hzs hsz (.slice none 0 0) 0 xs ⟨hown.1, .inl ⟨rfl, rfl⟩⟩ a m c news hl hnews h1 h63 hbytes (Nat.le_refl _)
    exact ⟨v', w', hr, Joins.ownsRow_le h2 (Nat.zero_le _), h3, fun k hk => Or.inr (h2.lt k hk).1, h4⟩
  · by_cases hroom : n + m ≤ cap
    · obtain ⟨v', w', hr, h2, h3, h4⟩ := run_append_own (P := P) w 0 t ty e i z size bytes ht hi hz hsize hby hzs hsz _ n xs hown a m c news hl hnews h1 h63 hbytes (Nat.zero_le _)
      subst hsize
      have hfit : n * i.size + news.length ≤ cur.size := by rw [hl, hcs, ← Nat.add_mul]; exact Nat.mul_le_mul_right _ hroom
      have hr2 := run_append_room (P := P) w t ty e i ht hi g n cap cur hg a m c news hl hnews h1 hroom hfit
      rw [hr] at hr2
      simp only [Result.ok.injEq] at hr2
      obtain ⟨rfl, _⟩ := hr2
      exact ⟨_, w', hr, h2, h3, fun k hk => Or.inl (by simpa [Value.ownBlock] using hk), h4⟩
    · obtain ⟨v', w', hr, h2, h3, h4⟩ := run_append_own (P := P) w 0 t ty e i z size bytes ht hi hz hsize hby hzs hsz _ n xs hown a m c news hl hnews h1 h63 hbytes (Nat.zero_le _)
      subst hsize
      have holds : ∀ j u, xs[j]? = some u → w.cell? ((⟨g, 0, none⟩ : Addr).add j) = some u := hown.cells (g := g) rfl
      have hsmall : n + m ≤ 9223372036854775807 := by simp only [maxLen] at h63; omega
      have hr2 := run_append_grow (P := P) w t ty e i z ht hi hz ⟨g, 0, none⟩ n cap xs hown.1 holds a m c news hl hnews (by omega) (by omega) (growslice_fits (by omega) (by rw [hby]; exact hbytes))
      rw [hr] at hr2
      simp only [Result.ok.injEq] at hr2
      obtain ⟨rfl, _⟩ := hr2
      exact ⟨_, w', hr, h2, h3, fun k hk => Or.inr (by simp [Value.ownBlock] at hk; omega), h4⟩

theorem wpL_append {ops : Array Oper} {rest : List Oper} {o : Oper} {a : Act} {Q : Exit → Act → World → Prop} (hgd : o.guard = none) (s x : Operand)
    (ho : o.op = .call { callee := .builtin .append, args := #[s, x], argTypes := #[t, t] })
    (e : TypeId) (i : TypeInfo) (z : Value) (size bytes : Nat) (ht : P.underlying t = some (.slice e)) (hi : P.info? e = some i) (hz : i.zero = some z)
    (hsize : i.size = size) (hby : i.bytes = bytes) (hzs : z.cells.size = size) (hsz : 0 < size)
    (v : Value) (n : Nat) (xs : List Value) (hs : a.eval s = v) (hown : w.ownsRow 0 e size v n xs)
    (ad : Addr) (m c : Nat) (news : List Value) (hx : a.eval x = .slice (some ad) m c) (hl : news.length = m * size) (hnews : ∀ j u, news[j]? = some u → w.cell? (ad.add j) = some u) (h1 : ∀ u ∈ news, u.oneCell' = true)
    (h63 : n + m ≤ maxLen) (hbytes : (n + m) * bytes ≤ 140737488355328)
    (h : ∀ v' w', w'.ownsRow 0 e size v' (n + m) (xs ++ news) → w.grownBy w' v.ownBlock → (∀ k, v'.ownBlock = some k → v.ownBlock = some k ∨ w.heap.size ≤ k) → (v' = .slice none 0 0 ↔ v = .slice none 0 0 ∧ m = 0) → wpList P ops Q rest (a.put o.dst v') w') : wpList P ops Q (o :: rest) a w := by
  refine wpList_plain hgd fun K2 hK2 => ?_
  obtain ⟨v', w', hr, h2, h3, h4, h5⟩ := run_append_new (P := P) (w := w) t o.type e i z size bytes ht hi hz hsize hby hzs hsz v n xs hown ad m c news hl hnews h1 h63 hbytes
  unfold Oper.wp execOp
  simp only [ho, resolve, invoke, builtin, Sem.run_bind, Sem.run_pure, Result.andThen_ok, List.map_toArray, List.map_cons, List.map_nil, hs, hx, hr]
  exact hK2 _ _ (h v' w' h2 h3 h4 h5)

end
end Go.Proofs.YtkhanbedcmmlcaaGreatDoor
/- a view of cells, as plain data: what Get and Put do. -/
set_option linter.unusedSimpArgs false
set_option linter.unusedVariables false
namespace Go.Proofs.YtkhanbedcmmlcaaGreatDoor
open Go.RowKit

def wix : List (Nat × Int) → Nat → Option Nat
  | [], _ => none
  | p :: r, i => if p.1 = i then some 0 else (wix r i).map (· + 1)

theorem wix_some {i : Nat} : ∀ {l : List (Nat × Int)} {j : Nat}, wix l i = some j → j < l.length ∧ ∃ v, l[j]? = some (i, v)
  | [], _, h => by simp [wix] at h
  | p :: r, j, h => by
    simp only [wix] at h
    split at h
    · rename_i hp
      cases h
      exact ⟨by simp, p.2, by simp [← hp]⟩
    · cases hr : wix r i with
      | none => simp [hr] at h
      | some k =>
        simp [hr] at h
        subst h
        obtain ⟨h1, v, h2⟩ := wix_some hr
        exact ⟨by simp; omega, v, by simpa using h2⟩
theorem wix_none {i : Nat} : ∀ {l : List (Nat × Int)}, wix l i = none ↔ i ∉ l.map (·.1)
  | [] => by simp [wix]
  | p :: r => by
    have ih := wix_none (i := i) (l := r)
    simp only [wix]
    split
    · rename_i h; simp [h]
    · rename_i h
      simp only [Option.map_eq_none_iff, List.map_cons, List.mem_cons, not_or, ih]
      exact ⟨fun x => ⟨fun y => h y.symm, x⟩, fun x => x.2⟩

structure VS where
  n : Nat
  known : Nat → Option Int
  reads : List Nat
  writes : List (Nat × Int)
  miss : Option Nat

namespace VS

def there (s : VS) (i : Int) : Bool := decide (0 ≤ i) && decide (i < s.n) && s.miss.isNone
def wr (s : VS) (i : Nat) : Option Int := (wix s.writes i).bind fun j => s.writes[j]?.map (·.2)
def setW (l : List (Nat × Int)) (i : Nat) (v : Int) : List (Nat × Int) := match wix l i with
  | some j => l.set j (i, v)
  | none => l ++ [(i, v)]
def put (s : VS) (i : Int) (v : Int) : VS := if s.there i = true then { s with writes := setW s.writes i.toNat v } else s

def U32 (v : Int) : Prop := 0 ≤ v ∧ v < 4294967296

theorem u32_zero : U32 0 := ⟨by decide, by decide⟩

structure Inv (s : VS) : Prop where
  small : s.n ≤ 2147483648
  rnd : s.reads.Nodup
  rlt : ∀ r ∈ s.reads, r < s.n
  wnd : (s.writes.map (·.1)).Nodup
  wlt : ∀ p ∈ s.writes, p.1 < s.n
  ku : ∀ i v, s.known i = some v → U32 v
  wu : ∀ p ∈ s.writes, U32 p.2

theorem there_iff {s : VS} {i : Int} : s.there i = true ↔ 0 ≤ i ∧ i < s.n ∧ s.miss = none := by
  simp [there, and_assoc]

theorem setW_keys_some {l : List (Nat × Int)} {i : Nat} {v : Int} {j : Nat} (h : wix l i = some j) : (l.set j (i, v)).map (·.1) = l.map (·.1) := by
  obtain ⟨h1, u, h2⟩ := wix_some h
  apply List.ext_getElem?
  intro k
  simp only [List.getElem?_map, List.getElem?_set]
  by_cases hk : j = k
  · subst hk
    have h3 : l[j] = (i, u) := by rw [List.getElem?_eq_getElem h1] at h2; exact Option.some.inj h2
    simp [h1, h3]
  · simp [hk]

theorem length_le_of_nodup : ∀ (n : Nat) (l : List Nat), l.Nodup → (∀ x ∈ l, x < n) → l.length ≤ n
  | 0, l, _, h => by
    cases l with
    | nil => simp
    | cons x r => have := h x (by simp); omega
  | n + 1, l, hn, h => by
    have h1 := length_le_of_nodup n (l.erase n) (hn.erase n) (fun x hx => by
      have h2 := h x (List.mem_of_mem_erase hx)
      have h3 : x ≠ n := fun e => by
        subst e
        exact (List.Nodup.not_mem_erase hn) hx
      omega)
    have h4 := List.length_erase (a := n) (l := l)
    split at h4 <;> omega

theorem Inv.put {s : VS} (h : s.Inv) (i v : Int) (hv : U32 v) : (s.put i v).Inv := by
  unfold VS.put
  split
  · rename_i ht
    obtain ⟨h0, h1, _⟩ := there_iff.1 ht
    unfold setW
    cases hw : wix s.writes i.toNat with
    | some j =>
      refine ⟨h.small, h.rnd, h.rlt, ?_, ?_, h.ku, ?_⟩
      · show ((s.writes.set j (i.toNat, v)).map (·.1)).Nodup
        rw [setW_keys_some hw]; exact h.wnd
      · intro p hp
        rcases List.mem_or_eq_of_mem_set hp with hp | rfl
        · exact h.wlt p hp
        · show i.toNat < s.n; omega
      · intro p hp
        rcases List.mem_or_eq_of_mem_set hp with hp | rfl
        · exact h.wu p hp
        · exact hv
    | none =>
      have hn := wix_none.1 hw
      refine ⟨h.small, h.rnd, h.rlt, ?_, ?_, h.ku, ?_⟩
      · show ((s.writes ++ [(i.toNat, v)]).map (·.1)).Nodup
        simp only [List.map_append, List.nodup_append]
        exact ⟨h.wnd, by simp, fun a ha b hb => by simp at hb; subst hb; exact fun e => hn (e ▸ ha)⟩
      · intro p hp
        simp only [List.mem_append, List.mem_singleton] at hp
        rcases hp with hp | rfl
        · exact h.wlt p hp
        · show i.toNat < s.n; omega
      · intro p hp
        simp only [List.mem_append, List.mem_singleton] at hp
        rcases hp with hp | rfl
        · exact h.wu p hp
        · exact hv
  · exact h

end VS

/-! ### how the program keeps it -/
end Go.Proofs.YtkhanbedcmmlcaaGreatDoor
/- view: the program's view, as memory; Get and Put. -/
set_option linter.unusedSimpArgs false
set_option linter.unusedVariables false
namespace Go.Proofs.YtkhanbedcmmlcaaGreatDoor
open Go.RowKit

theorem uMap : Tryz.prog.underlying 93 = some (.map 3 3) := by kernel_rfl
theorem zInt (w : World) : (zeroValue 3).run Tryz.prog w = .ok (.int .i64 0) w := by kernel_rfl

theorem infoInt : (Tryz.prog.info? 3).map (fun i => (i.zero, i.size, i.bytes)) = some (some (.int .i64 0), 1, 8) := by kernel_rfl

theorem ownsRow_elem {w : World} {e e2 size g : Nat} {v : Value} {n : Nat} {xs : List Value} {cur : Array Value} {fr : Nat × Nat} (h : w.ownsRow 0 e size v n xs) (hg : w.heap[g]? = some (.cells cur e2 fr)) (hne : e ≠ e2) : v.ownBlock ≠ some g := by
  intro hv
  rcases h.2 with ⟨rfl, -⟩ | ⟨g', cap, cur', rfl, -, hg', -⟩
  · simp [Value.ownBlock] at hv
  · simp [Value.ownBlock] at hv
    subst hv
    rw [hg] at hg'
    simp only [Option.some.injEq, Obj.cells.injEq] at hg'
    exact hne hg'.2.1.symm
theorem MapIs.block {w w' : World} {b : Nat} {l : List (Int × Int)} (h : MapIs w b l) (hb : w'.heap[b]? = w.heap[b]?) : MapIs w' b l := by
  obtain ⟨es, clk, h1, h2⟩ := h
  exact ⟨es, clk, hb.trans h1, h2⟩
theorem MapIs.lt {w : World} {b : Nat} {l : List (Int × Int)} (h : MapIs w b l) : b < w.heap.size := by
  obtain ⟨es, clk, h1, h2⟩ := h
  exact (Array.getElem?_eq_some_iff.1 h1).1

theorem ownsRow_lt {w : World} {e size : Nat} {v : Value} {n : Nat} {xs : List Value} (h : w.ownsRow 0 e size v n xs) {k : Nat} (hk : v.ownBlock = some k) : k < w.heap.size := (h.lt k hk).2
/-- an owned row in a world in which its block is as it was. -/
theorem ownsRow_block {w w' : World} {e size : Nat} {v : Value} {n : Nat} {xs : List Value} (h : w.ownsRow 0 e size v n xs) (hb : ∀ k, v.ownBlock = some k → w'.heap[k]? = w.heap[k]?) : w'.ownsRow 0 e size v n xs := by
  refine ⟨h.1, ?_⟩
  rcases h.2 with hn | ⟨g, cap, cur, rfl, hb', hgg, rest⟩
  · exact .inl hn
  · exact .inr ⟨g, cap, cur, rfl, hb', (hb g rfl).trans hgg, rest⟩
end Go.Proofs.YtkhanbedcmmlcaaGreatDoor
/- views under way: a view, beside boxes of the call's own. -/
set_option linter.unusedSimpArgs false
set_option linter.unusedVariables false
namespace Go.Proofs.YtkhanbedcmmlcaaGreatDoor
open Go.RowKit

/-- what a predicate of views must bear: it speaks of the blocks of S alone. -/
structure Keeps (R : World → Nat → (Nat → Prop) → VS → Prop) : Prop where
  keep : ∀ {w w' : World} {b : Nat} {S T : Nat → Prop} {s : VS}, R w b S s → Fr T w w' → (∀ k, S k → ¬ T k) → R w' b S s
  lt : ∀ {w : World} {b : Nat} {S : Nat → Prop} {s : VS}, R w b S s → ∀ k, S k → k < w.heap.size
  inv : ∀ {w : World} {b : Nat} {S : Nat → Prop} {s : VS}, R w b S s → s.Inv
  mono : ∀ {w : World} {b : Nat} {S S' : Nat → Prop} {s : VS}, R w b S s → (∀ k, S k → S' k) → (∀ k, S' k → k < w.heap.size) → R w b S' s

/-- since w0 nothing but S has turned; the view at b is s; the boxes Ls are none of its. -/
structure VSt (R : World → Nat → (Nat → Prop) → VS → Prop) (w0 : World) (b : Nat) (S : Nat → Prop) (Ls : List Nat) (s : VS) (w : World) : Prop where
  ex : ∃ S1, R w b S1 s ∧ (∀ k, S1 k → S k ∨ w0.heap.size ≤ k) ∧ (∀ L ∈ Ls, ¬ S1 L)
  fr : Fr S w0 w
  ls : ∀ L ∈ Ls, L < w.heap.size ∧ w0.heap.size ≤ L
  s0 : ∀ k, S k → k < w0.heap.size

section
variable {R : World → Nat → (Nat → Prop) → VS → Prop} {w0 w w' : World} {b : Nat} {S : Nat → Prop} {Ls : List Nat} {s s' : VS}

theorem VSt.start (K : Keeps R) (h : R w b S s) : VSt R w b S [] s w := ⟨⟨S, h, fun _ hk => Or.inl hk, by simp⟩, Fr.refl _ _, by simp, K.lt h⟩

theorem VSt.below (K : Keeps R) (h : VSt R w0 b S Ls s w) (hb : Below w.heap.size w w') : VSt R w0 b S Ls s w' := by
  obtain ⟨S1, h1, h2, h4⟩ := h.ex
  exact ⟨⟨S1, K.keep (T := fun _ => False) h1 (Fr.of_below hb) (fun _ _ x => x), h2, h4⟩, h.fr.trans (S1 := fun _ => False) (Fr.of_below hb) (fun _ x => x.elim), fun L hL => ⟨Nat.lt_of_lt_of_le (h.ls L hL).1 hb.size, (h.ls L hL).2⟩, h.s0⟩

theorem VSt.alloc (K : Keeps R) (h : VSt R w0 b S Ls s w) (o : Obj) : VSt R w0 b S (w.heap.size :: Ls) s (w.alloc o) := by
  have hb : Below w.heap.size w (w.alloc o) := (Below.refl _ _).alloc (Nat.le_refl _) o
  obtain ⟨S1, h1, h2, h4⟩ := h.ex
  refine ⟨⟨S1, K.keep (T := fun _ => False) h1 (Fr.of_below hb) (fun _ _ x => x), h2, ?_⟩, h.fr.trans (S1 := fun _ => False) (Fr.of_below hb) (fun _ x => x.elim), ?_, h.s0⟩
  · intro L hL
    simp at hL
    rcases hL with rfl | hL
    · exact fun x => Nat.lt_irrefl _ (K.lt h1 _ x)
    · exact h4 L hL
  · intro L hL
    simp at hL
    rcases hL with rfl | hL
    · exact ⟨by simp, h.fr.size⟩
    · exact ⟨Nat.lt_of_lt_of_le (h.ls L hL).1 hb.size, (h.ls L hL).2⟩

theorem VSt.drew (K : Keeps R) (h : VSt R w0 b S Ls s w) : VSt R w0 b S Ls s w.drew := h.below K ((Below.refl _ _).drew)

theorem VSt.setCell (K : Keeps R) (h : VSt R w0 b S Ls s w) {L : Nat} (hL : L ∈ Ls) (o : Nat) (v : Value) : VSt R w0 b S Ls s (w.setCell ⟨L, o, none⟩ v) := by
  obtain ⟨S1, h1, h2, h4⟩ := h.ex
  have F : Fr (fun k => k = L) w (w.setCell ⟨L, o, none⟩ v) := (Fr.refl _ _).setCell _ _ (Or.inl rfl)
  exact ⟨⟨S1, K.keep h1 F (fun k hk e => h4 L hL (e ▸ hk)), h2, h4⟩, h.fr.setCell _ _ (Or.inr (h.ls L hL).2), fun M hM => ⟨by simpa using (h.ls M hM).1, (h.ls M hM).2⟩, h.s0⟩

theorem VSt.inv (K : Keeps R) (h : VSt R w0 b S Ls s w) : s.Inv := by
  obtain ⟨S1, h1, -⟩ := h.ex
  exact K.inv h1

/-- at the end: the boxes are let go. -/
theorem VSt.done (K : Keeps R) (h : VSt R w0 b S Ls s w) : R w b (upd S w0 w) s ∧ Fr S w0 w := by
  obtain ⟨S1, h1, h2, -⟩ := h.ex
  refine ⟨K.mono h1 (fun k hk => ?_) (fun k hk => ?_), h.fr⟩
  · rcases h2 k hk with h | h
    · exact Or.inl h
    · exact Or.inr ⟨h, K.lt h1 k hk⟩
  · rcases hk with hk | hk
    · exact Nat.lt_of_lt_of_le (h.s0 k hk) h.fr.size
    · exact hk.2

theorem loc_step {L : Nat} {cs : Array Value} (hl : ∀ L ∈ Ls, w'.heap[L]? = w.heap[L]?) (hm : L ∈ Ls) (hc : ∀ o : Nat, w.cell? ⟨L, o, none⟩ = cs[o]?) : ∀ o : Nat, w'.cell? ⟨L, o, none⟩ = cs[o]? :=
  fun o => (World.cell?_of_block (a := ⟨L, o, none⟩) (hl L hm)).trans (hc o)
theorem loc_alloc (w : World) (cs : Array Value) (T : TypeId) : ∀ o : Nat, (w.alloc (.cells cs T)).cell? ⟨w.heap.size, o, none⟩ = cs[o]? := fun _ => cell?_of_heap (heap_alloc_new w _)
theorem loc_old {L : Nat} {cs : Array Value} (ob : Obj) (hL : L < w.heap.size) (hc : ∀ o : Nat, w.cell? ⟨L, o, none⟩ = cs[o]?) : ∀ i : Nat, (w.alloc ob).cell? ⟨L, i, none⟩ = cs[i]? :=
  fun i => (World.cell?_alloc_lt (a := ⟨L, i, none⟩) _ _ hL).trans (hc i)
theorem row_step {e size : Nat} {v : Value} {n : Nat} {xs : List Value} (hl : ∀ L ∈ Ls, w'.heap[L]? = w.heap[L]?) (hm : ∀ k, v.ownBlock = some k → k ∈ Ls) (h : w.ownsRow 0 e size v n xs) : w'.ownsRow 0 e size v n xs :=
  ownsRow_block h fun k hk => hl k (hm k hk)

/-- behind an append to a row of the call's own. -/
theorem VSt.grown (K : Keeps R) (h : VSt R w0 b S Ls s w) {row : Option Nat} (hg : w.grownBy w' row) (hr : ∀ k, row = some k → k ∈ Ls) (Ls' : List Nat) (hL : ∀ L ∈ Ls', L ∈ Ls ∨ (w.heap.size ≤ L ∧ L < w'.heap.size)) : VSt R w0 b S Ls' s w' := by
  obtain ⟨S1, h1, h2, h4⟩ := h.ex
  have F : Fr (fun k => row = some k) w w' := (Fr.refl _ _).grown hg (fun k hk => Or.inl hk)
  have hle := h.fr.size
  refine ⟨⟨S1, K.keep h1 F (fun k hk e => h4 k (hr k e) hk), h2, ?_⟩, h.fr.trans F (fun k hk => Or.inr (h.ls k (hr k hk)).2), ?_, h.s0⟩
  · intro L hm x
    rcases hL L hm with y | y
    · exact h4 L y x
    · exact absurd (K.lt h1 L x) (by omega)
  · intro L hm
    rcases hL L hm with y | y
    · exact ⟨Nat.lt_of_lt_of_le (h.ls L y).1 hg.size, (h.ls L y).2⟩
    · exact ⟨y.2, by omega⟩

theorem VSt.sub (h : VSt R w0 b S Ls s w) (Ls' : List Nat) (hL : ∀ L ∈ Ls', L ∈ Ls) : VSt R w0 b S Ls' s w := by
  obtain ⟨S1, h1, h2, h4⟩ := h.ex
  exact ⟨⟨S1, h1, h2, fun L hm => h4 L (hL L hm)⟩, h.fr, fun L hm => h.ls L (hL L hm), h.s0⟩

end
end Go.Proofs.YtkhanbedcmmlcaaGreatDoor
/- conf: what Check answers of every configuration. -/
set_option linter.unusedSimpArgs false
set_option linter.unusedVariables false
namespace Go.Proofs.YtkhanbedcmmlcaaGreatDoor
open Go.RowKit

def outB (n lo hi : Int) : Bool := decide (n < lo) || decide (hi < n)

/-- conf.Check$1 on a triple. -/
theorem check1_any (n lo hi : Int) (w : World) :
    Calls Tryz.prog 139 #[.agg #[.int .i64 n, .int .i64 lo, .int .i64 hi]] w fun e w' => e = .returned (.bool (outB n lo hi)) ∧ Below w.heap.size w w' := by
  go_enter Tryz.func139, Tryz.ntmps139
  go_wp2
  all_goals
    go_ret
    have h : w.heap.size ≤ w.heap.size := Nat.le_refl _
    refine ⟨by simp [outB, *], (Below.refl _ _).alloc h _⟩

def bndCells (t p s : Int) : Array Value := #[.int .i64 t, .int .i64 1, .int .i64 16, .int .i64 p, .int .i64 4, .int .i64 1024, .int .i64 s, .int .i64 10, .int .i64 20]

theorem bounds_any (t p s : Int) (w : World) :
    Calls Tryz.prog 138 #[.agg #[.int .i64 t, .int .i64 p, .int .i64 s]] w fun e w' => e = .returned (.slice (some ⟨w.heap.size + 1, 0, none⟩) 3 3) ∧ Below w.heap.size w w' ∧ w'.heap[w.heap.size + 1]? = some (.cells (bndCells t p s) 145) ∧ w'.heap.size = w.heap.size + 2 := by
  go_enter Tryz.func138, Tryz.ntmps138
  go_wp2
  exact bodyPost_ret (v := .slice (some ⟨w.heap.size + 1, 0, none⟩) 3 3) (by simp [results, Tryz.results138, go_sem]) rfl ⟨rfl, ((Below.refl _ _).alloc (Nat.le_refl _) _).alloc (by simp) _, by rw [← World.size_alloc w (.cells #[.int .i64 t, .int .i64 p, .int .i64 s] 23)]; exact heap_alloc_new (w.alloc _) _, by simp⟩

def rightB (t p s : Int) : Bool := !(outB t 1 16 || outB p 4 1024 || outB s 10 20)

def idxOf (t p s : Int) : Int := if outB t 1 16 then 0 else if outB p 4 1024 then 1 else if outB s 10 20 then 2 else -1

def IdxRel (t p s : Int) (w : World) (i : Value) (wr : World) : Prop := ∃ k : Nat, k ≤ 3 ∧ i = .int .i64 k ∧ (0 < k → outB t 1 16 = false) ∧ (1 < k → outB p 4 1024 = false) ∧ (2 < k → outB s 10 20 = false) ∧ Below w.heap.size w wr

theorem idx_any (t p s : Int) (g : Nat) (w : World) (h : w.heap[g]? = some (.cells (bndCells t p s) 145)) :
    Calls Tryz.prog 156 #[.slice (some ⟨g, 0, none⟩) 3 3, .func (.func 139) #[] #[]] w fun e w' => e = .returned (.int .i64 (idxOf t p s)) ∧ Below w.heap.size w w' := by
  have hlt : g < w.heap.size := (Array.getElem?_eq_some_iff.1 h).1
  have hcell : ∀ wr : World, Below w.heap.size w wr → ∀ o, wr.cell? ⟨g, o, none⟩ = (bndCells t p s)[o]? := by
    intro wr hb o
    rw [hb.cell (p := ⟨g, o, none⟩) hlt]
    simp [World.cell?, h]
  go_enter Tryz.func156, Tryz.ntmps156
  go_wp2
  go_loopw [5, 8] (fun _ i wr => IdxRel t p s w i wr) (fun _ i _ => 3 - (intOf i).toNat)
  case atStart => exact ⟨0, by omega, rfl, by omega, by omega, by omega, Below.refl _ _⟩
  case round =>
    obtain ⟨k, hk, rfl, h0, h1, h2, hb⟩ := hrel
    have hc := hcell _ hb
    clear hcell
    rcases (by omega : k = 0 ∨ k = 1 ∨ k = 2 ∨ k = 3) with rfl | rfl | rfl | rfl
    · have c0 := hc 0
      have c1 := hc 1
      have c2 := hc 2
      clear hc h0 h1 h2
      simp [bndCells] at c0 c1 c2
      cases hx : outB t 1 16
      · go_wp2_with (go_at_call 139; refine (check1_any _ _ _ _).mono ?_; rintro e w' ⟨rfl, hb'⟩)
        go_roundw
        case rel => exact ⟨1, by omega, rfl, fun _ => hx, by omega, by omega, hb.trans (hb'.mono hb.size)⟩
        case measure => simp [intOf]
      · go_wp2_with (go_at_call 139; refine (check1_any _ _ _ _).mono ?_; rintro e w' ⟨rfl, hb'⟩)
        go_ret
        exact ⟨by simp [idxOf, hx], hb.trans (hb'.mono hb.size)⟩
    · have c0 := hc 3
      have c1 := hc 4
      have c2 := hc 5
      have g0 := h0 (by omega)
      clear hc h0 h1 h2
      simp [bndCells] at c0 c1 c2
      cases hx : outB p 4 1024
      · go_wp2_with (go_at_call 139; refine (check1_any _ _ _ _).mono ?_; rintro e w' ⟨rfl, hb'⟩)
        go_roundw
        case rel => exact ⟨2, by omega, rfl, fun _ => g0, fun _ => hx, by omega, hb.trans (hb'.mono hb.size)⟩
        case measure => simp [intOf]
      · go_wp2_with (go_at_call 139; refine (check1_any _ _ _ _).mono ?_; rintro e w' ⟨rfl, hb'⟩)
        go_ret
        exact ⟨by simp [idxOf, hx, g0], hb.trans (hb'.mono hb.size)⟩
    · have c0 := hc 6
      have c1 := hc 7
      have c2 := hc 8
      have g0 := h0 (by omega)
      have g1 := h1 (by omega)
      clear hc h0 h1 h2
      simp [bndCells] at c0 c1 c2
      cases hx : outB s 10 20
      · go_wp2_with (go_at_call 139; refine (check1_any _ _ _ _).mono ?_; rintro e w' ⟨rfl, hb'⟩)
        go_roundw
        case rel => exact ⟨3, by omega, rfl, fun _ => g0, fun _ => g1, fun _ => hx, hb.trans (hb'.mono hb.size)⟩
        case measure => simp [intOf]
      · go_wp2_with (go_at_call 139; refine (check1_any _ _ _ _).mono ?_; rintro e w' ⟨rfl, hb'⟩)
        go_ret
        exact ⟨by simp [idxOf, hx, g0, g1], hb.trans (hb'.mono hb.size)⟩
    · have g0 := h0 (by omega)
      have g1 := h1 (by omega)
      have g2 := h2 (by omega)
      clear hc h0 h1 h2
      go_wp2
      go_ret
      exact ⟨by simp [idxOf, g0, g1, g2], hb⟩

theorem contains_any (t p s : Int) (g : Nat) (w : World) (h : w.heap[g]? = some (.cells (bndCells t p s) 145)) :
    Calls Tryz.prog 137 #[.slice (some ⟨g, 0, none⟩) 3 3, .func (.func 139) #[] #[]] w fun e w' => e = .returned (.bool (!rightB t p s)) ∧ Below w.heap.size w w' := by
  have hx : decide (0 ≤ idxOf t p s) = (!rightB t p s) := by
    unfold rightB idxOf
    cases outB t 1 16 <;> cases outB p 4 1024 <;> cases outB s 10 20 <;> rfl
  have H := idx_any t p s g w h
  generalize idxOf t p s = i at hx H
  rw [← hx]
  clear hx
  have HH := Lib.hid H; clear H
  go_enter Tryz.func137, Tryz.ntmps137
  go_wp2_with (go_at_call 156; refine (HH.out).mono ?_; rintro e w' ⟨rfl, hb⟩)
  go_ret
  exact ⟨rfl, hb⟩

theorem check_right (t p s : Int) (w : World) (hr : rightB t p s = true) :
    Calls Tryz.prog 104 #[.agg #[.int .i64 t, .int .i64 p, .int .i64 s]] w fun e w' => e = .returned (.int .i64 0) ∧ Below w.heap.size w w' := by
  go_enter Tryz.func104, Tryz.ntmps104
  go_wp2_with fail
  refine (bounds_any _ _ _ _).mono ?_
  rintro e w1 ⟨rfl, hb, hg, hs⟩
  go_wp2_with fail
  refine (contains_any t p s _ _ (by rw [World.size_alloc] at hg; exact hg)).mono ?_
  rintro e w2 ⟨rfl, hb2⟩
  go_wp2
  go_ret
  exact ⟨rfl, (((Below.refl _ _).alloc (Nat.le_refl _) _).trans (hb.mono (by simp))).trans (hb2.mono (by rw [hs]; simp; omega))⟩

theorem check_wrong (t p s : Int) (w : World) (hr : rightB t p s = false) :
    Calls Tryz.prog 104 #[.agg #[.int .i64 t, .int .i64 p, .int .i64 s]] w fun e w' => e = .returned (.int .i64 1) ∧ Below w.heap.size w w' := by
  go_enter Tryz.func104, Tryz.ntmps104
  go_wp2_with fail
  refine (bounds_any _ _ _ _).mono ?_
  rintro e w1 ⟨rfl, hb, hg, hs⟩
  go_wp2_with fail
  refine (contains_any t p s _ _ (by rw [World.size_alloc] at hg; exact hg)).mono ?_
  rintro e w2 ⟨rfl, hb2⟩
  go_wp2
  go_ret
  exact ⟨rfl, (((Below.refl _ _).alloc (Nat.le_refl _) _).trans (hb.mono (by simp))).trans (hb2.mono (by rw [hs]; simp; omega))⟩

end Go.Proofs.YtkhanbedcmmlcaaGreatDoor
/- place: where cells and words lie. -/
set_option linter.unusedSimpArgs false
set_option linter.unusedVariables false
namespace Go.Proofs.YtkhanbedcmmlcaaGreatDoor
open Go.RowKit

theorem right_bd {t p s : Int} (h : rightB t p s = true) : 1 ≤ t ∧ t ≤ 16 ∧ 4 ≤ p ∧ p ≤ 1024 ∧ 10 ≤ s ∧ s ≤ 20 := by
  simp [rightB, outB] at h; omega
theorem right_mk {t p s : Int} (h : 1 ≤ t ∧ t ≤ 16 ∧ 4 ≤ p ∧ p ≤ 1024 ∧ 10 ≤ s ∧ s ≤ 20) : rightB t p s = true := by
  simp [rightB, outB]; omega

def cellsN (t p : Int) : Int := 30 + 4 * t + 6 * p
def makersN (t p : Int) : Int := (16 + cellsN t p + 7) / 8 * 8
theorem lcells_any (t p s m : Int) (w : World) (hr : rightB t p s = true) :
    Calls Tryz.prog 121 #[.agg #[.int .i64 t, .int .i64 p, .int .i64 s, .int .i64 m]] w fun e w' => e = .returned (.int .i64 (cellsN t p)) ∧ Below w.heap.size w w' := by
  obtain ⟨b1, b2, b3, b4, b5, b6⟩ := right_bd hr
  clear hr
  go_enter Tryz.func121, Tryz.ntmps121
  go_wp2
  go_ret
  exact ⟨rfl, (Below.refl _ _).alloc (Nat.le_refl _) _⟩

theorem lay_right (t p s : Int) (w : World) (hr : rightB t p s = true) :
    Calls Tryz.prog 72 #[.agg #[.int .i64 t, .int .i64 p, .int .i64 s]] w fun e w' => e = .returned (.tuple #[.agg #[.int .i64 t, .int .i64 p, .int .i64 s, .int .i64 (makersN t p)], .bool true]) ∧ Below w.heap.size w w' := by
  have hb1 : 0 ≤ cellsN t p := by have := right_bd hr; unfold cellsN; omega
  have hb2 : cellsN t p ≤ 10000 := by have := right_bd hr; unfold cellsN; omega
  have hmk : (16 + cellsN t p + 8 - 1) / 8 * 8 = makersN t p := by unfold makersN; omega
  have Hmk := Lib.hid hmk
  clear hmk
  go_enter Tryz.func72, Tryz.ntmps72
  go_wp2_with fail
  refine (check_right _ _ _ _ hr).mono ?_
  rintro e w1 ⟨rfl, ha⟩
  obtain ⟨hac, haf⟩ := bcell ha
  have haz0 : w.heap.size < w1.heap.size := by have := ha.size; first | omega | (simp at this; omega)
  have haz1 : w.heap.size + 1 < w1.heap.size := by have := ha.size; first | omega | (simp at this; omega)
  go_wp2_with fail
  refine (lcells_any _ _ _ _ _ hr).mono ?_
  rintro e w2 ⟨rfl, hb⟩
  obtain ⟨hbc, hbf⟩ := bcell hb
  have hbz0 : w1.heap.size < w2.heap.size := by have := hb.size; first | omega | (simp at this; omega)
  go_wp2
  refine bodyPost_ret (v := .tuple #[.agg #[.int .i64 t, .int .i64 p, .int .i64 s, .int .i64 ((16 + cellsN t p + 8 - 1) / 8 * 8)], .bool true]) (by simp [results, Tryz.results72, go_sem, *]) rfl ⟨by rw [Hmk.out], ?_⟩
  (repeat (first | exact Below.refl _ _ | assumption | refine Below.setCell ?_ (by first | omega | (simp; done) | (simp; omega)) _ | refine Below.alloc ?_ (by first | omega | (simp; done) | (simp; omega)) _ | refine Below.drew ?_ | refine Below.trans ?_ (Below.mono ‹Below _ _ _› (by first | omega | (simp; done) | (simp; omega)))))

theorem lay_wrong (t p s : Int) (w : World) (hr : rightB t p s = false) :
    Calls Tryz.prog 72 #[.agg #[.int .i64 t, .int .i64 p, .int .i64 s]] w fun e w' => e = .returned (.tuple #[.agg #[.int .i64 0, .int .i64 0, .int .i64 0, .int .i64 0], .bool false]) ∧ Below w.heap.size w w' := by
  go_enter Tryz.func72, Tryz.ntmps72
  go_wp2_with fail
  refine (check_wrong _ _ _ _ hr).mono ?_
  rintro e w1 ⟨rfl, ha⟩
  obtain ⟨hac, haf⟩ := bcell ha
  have haz0 : w.heap.size < w1.heap.size := by have := ha.size; first | omega | (simp at this; omega)
  have haz1 : w.heap.size + 1 < w1.heap.size := by have := ha.size; first | omega | (simp at this; omega)
  go_wp2
  refine bodyPost_ret (v := .tuple #[.agg #[.int .i64 0, .int .i64 0, .int .i64 0, .int .i64 0], .bool false]) (by simp [results, Tryz.results72, go_sem, *]) rfl ⟨rfl, ?_⟩
  (repeat (first | exact Below.refl _ _ | assumption | refine Below.setCell ?_ (by first | omega | (simp; done) | (simp; omega)) _ | refine Below.alloc ?_ (by first | omega | (simp; done) | (simp; omega)) _ | refine Below.drew ?_ | refine Below.trans ?_ (Below.mono ‹Below _ _ _› (by first | omega | (simp; done) | (simp; omega)))))

def cellsF (t p s : Int) : Int := if rightB t p s then cellsN t p else 0
theorem cells_any (t p s : Int) (w : World) :
    Calls Tryz.prog 105 #[.agg #[.int .i64 t, .int .i64 p, .int .i64 s]] w fun e w' => e = .returned (.int .i64 (cellsF t p s)) ∧ Below w.heap.size w w' := by
  cases hr : rightB t p s
  · have hF : cellsF t p s = 0 := by simp [cellsF, hr]
    rw [hF]
    go_enter Tryz.func105, Tryz.ntmps105
    go_wp2_with fail
    refine (lay_wrong _ _ _ _ hr).mono ?_
    rintro e w1 ⟨rfl, ha⟩
    obtain ⟨hac, haf⟩ := bcell ha
    have haz0 : w.heap.size < w1.heap.size := by have := ha.size; first | omega | (simp at this; omega)
    go_wp2
    go_ret
    refine ⟨rfl, ?_⟩
    (repeat (first | exact Below.refl _ _ | assumption | refine Below.setCell ?_ (by first | omega | (simp; done) | (simp; omega)) _ | refine Below.alloc ?_ (by first | omega | (simp; done) | (simp; omega)) _ | refine Below.drew ?_ | refine Below.trans ?_ (Below.mono ‹Below _ _ _› (by first | omega | (simp; done) | (simp; omega)))))
  · have hF : cellsF t p s = cellsN t p := by simp [cellsF, hr]
    rw [hF]
    go_enter Tryz.func105, Tryz.ntmps105
    go_wp2_with fail
    refine (lay_right _ _ _ _ hr).mono ?_
    rintro e w1 ⟨rfl, ha⟩
    obtain ⟨hac, haf⟩ := bcell ha
    have haz0 : w.heap.size < w1.heap.size := by have := ha.size; first | omega | (simp at this; omega)
    go_wp2_with fail
    refine (lcells_any _ _ _ _ _ hr).mono ?_
    rintro e w2 ⟨rfl, hb⟩
    obtain ⟨hbc, hbf⟩ := bcell hb
    go_wp2
    go_ret
    refine ⟨rfl, ?_⟩
    (repeat (first | exact Below.refl _ _ | assumption | refine Below.setCell ?_ (by first | omega | (simp; done) | (simp; omega)) _ | refine Below.alloc ?_ (by first | omega | (simp; done) | (simp; omega)) _ | refine Below.drew ?_ | refine Below.trans ?_ (Below.mono ‹Below _ _ _› (by first | omega | (simp; done) | (simp; omega)))))

def withinF (f i m : Int) : Int := if i < 0 ∨ m ≤ i then -1 else f + i

theorem within_any (f i m : Int) (w : World) (h1 : 0 ≤ f) (h2 : f ≤ 1000000) (h3 : m ≤ 1000000) :
    Calls Tryz.prog 147 #[.int .i64 f, .int .i64 i, .int .i64 m] w fun e w' => e = .returned (.int .i64 (withinF f i m)) ∧ w = w' := by
  by_cases h4 : i < 0
  · have hF : withinF f i m = -1 := by simp [withinF, h4]
    rw [hF]
    go_enter Tryz.func147, Tryz.ntmps147
    go_wp2
    go_ret
    exact ⟨rfl, rfl⟩
  · by_cases h5 : m ≤ i
    · have hF : withinF f i m = -1 := by simp [withinF, h5]
      rw [hF]
      go_enter Tryz.func147, Tryz.ntmps147
      go_wp2
      go_ret
      exact ⟨rfl, rfl⟩
    · have hF : withinF f i m = f + i := by simp [withinF, h5, h4]
      rw [hF]
      go_enter Tryz.func147, Tryz.ntmps147
      go_wp2
      go_ret
      exact ⟨rfl, rfl⟩

def ofF (t p s q part : Int) : Int := if rightB t p s = true ∧ 0 ≤ q ∧ q < p then 30 + 4 * t + 6 * q + part else -1

theorem of_any (t p s q part : Int) (w : World) (h1 : 0 ≤ part) (h2 : part ≤ 5) :
    Calls Tryz.prog 32 #[.agg #[.int .i64 t, .int .i64 p, .int .i64 s], .int .i64 q, .int .i64 part] w fun e w' => e = .returned (.int .i64 (ofF t p s q part)) ∧ Below w.heap.size w w' := by
  cases hr : rightB t p s
  · have hF : ofF t p s q part = -1 := by simp [ofF, hr]
    rw [hF]
    go_enter Tryz.func32, Tryz.ntmps32
    go_wp2_with fail
    refine (lay_wrong _ _ _ _ hr).mono ?_
    rintro e w1 ⟨rfl, ha⟩
    obtain ⟨hac, haf⟩ := bcell ha
    have haz0 : w.heap.size < w1.heap.size := by have := ha.size; first | omega | (simp at this; omega)
    go_wp2
    go_ret
    refine ⟨rfl, ?_⟩
    (repeat (first | exact Below.refl _ _ | assumption | refine Below.setCell ?_ (by first | omega | (simp; done) | (simp; omega)) _ | refine Below.alloc ?_ (by first | omega | (simp; done) | (simp; omega)) _ | refine Below.drew ?_ | refine Below.trans ?_ (Below.mono ‹Below _ _ _› (by first | omega | (simp; done) | (simp; omega)))))
  · obtain ⟨b1, b2, b3, b4, b5, b6⟩ := right_bd hr
    by_cases h4 : q < 0
    · have hF : ofF t p s q part = -1 := by simp [ofF, hr]; omega
      rw [hF]
      go_enter Tryz.func32, Tryz.ntmps32
      go_wp2_with fail
      refine (lay_right _ _ _ _ hr).mono ?_
      rintro e w1 ⟨rfl, ha⟩
      obtain ⟨hac, haf⟩ := bcell ha
      have haz0 : w.heap.size < w1.heap.size := by have := ha.size; first | omega | (simp at this; omega)
      go_wp2
      go_ret
      refine ⟨rfl, ?_⟩
      (repeat (first | exact Below.refl _ _ | assumption | refine Below.setCell ?_ (by first | omega | (simp; done) | (simp; omega)) _ | refine Below.alloc ?_ (by first | omega | (simp; done) | (simp; omega)) _ | refine Below.drew ?_ | refine Below.trans ?_ (Below.mono ‹Below _ _ _› (by first | omega | (simp; done) | (simp; omega)))))
    · by_cases h5 : p ≤ q
      · have hF : ofF t p s q part = -1 := by simp [ofF, hr]; omega
        rw [hF]
        go_enter Tryz.func32, Tryz.ntmps32
        go_wp2_with fail
        refine (lay_right _ _ _ _ hr).mono ?_
        rintro e w1 ⟨rfl, ha⟩
        obtain ⟨hac, haf⟩ := bcell ha
        have haz0 : w.heap.size < w1.heap.size := by have := ha.size; first | omega | (simp at this; omega)
        go_wp2
        go_ret
        refine ⟨rfl, ?_⟩
        (repeat (first | exact Below.refl _ _ | assumption | refine Below.setCell ?_ (by first | omega | (simp; done) | (simp; omega)) _ | refine Below.alloc ?_ (by first | omega | (simp; done) | (simp; omega)) _ | refine Below.drew ?_ | refine Below.trans ?_ (Below.mono ‹Below _ _ _› (by first | omega | (simp; done) | (simp; omega)))))
      · have hF : ofF t p s q part = 30 + 4 * t + 6 * q + part := by simp [ofF, hr]; omega
        rw [hF]
        go_enter Tryz.func32, Tryz.ntmps32
        go_wp2_with fail
        refine (lay_right _ _ _ _ hr).mono ?_
        rintro e w1 ⟨rfl, ha⟩
        obtain ⟨hac, haf⟩ := bcell ha
        have haz0 : w.heap.size < w1.heap.size := by have := ha.size; first | omega | (simp at this; omega)
        go_wp2
        go_ret
        refine ⟨rfl, ?_⟩
        (repeat (first | exact Below.refl _ _ | assumption | refine Below.setCell ?_ (by first | omega | (simp; done) | (simp; omega)) _ | refine Below.alloc ?_ (by first | omega | (simp; done) | (simp; omega)) _ | refine Below.drew ?_ | refine Below.trans ?_ (Below.mono ‹Below _ _ _› (by first | omega | (simp; done) | (simp; omega)))))

end Go.Proofs.YtkhanbedcmmlcaaGreatDoor
/- link: what Walk comes to, as plain data. -/
set_option linter.unusedSimpArgs false
set_option linter.unusedVariables false
namespace Go.Proofs.YtkhanbedcmmlcaaGreatDoor
open Go.RowKit

def ints (l : List Int) : List Value := l.map (.int .i64)
def lenS : Value → Nat | .slice _ n _ => n | _ => 0

theorem loc_grown {w w' : World} {row : Option Nat} {L : Nat} {cs : Array Value} (hg : w.grownBy w' row) (hL : L < w.heap.size) (hne : row ≠ some L) (hc : ∀ o : Nat, w.cell? ⟨L, o, none⟩ = cs[o]?) : ∀ o : Nat, w'.cell? ⟨L, o, none⟩ = cs[o]? :=
  fun o => (World.cell?_of_block (a := ⟨L, o, none⟩) (hg.block L hL (fun e => hne e.symm))).trans (hc o)

end Go.Proofs.YtkhanbedcmmlcaaGreatDoor
/- slices.Clone at four types; the program's Whole, Reads, Writes, Missing. -/
set_option linter.unusedSimpArgs false
set_option linter.unusedVariables false
namespace Go.Proofs.YtkhanbedcmmlcaaGreatDoor
open Go.RowKit

/-- the slice v of n elements reads as xs. -/
def Rd (w : World) (v : Value) (sz n : Nat) (xs : List Value) : Prop :=
  xs.length = n * sz ∧ ((v = .slice none 0 0 ∧ n = 0) ∨ ∃ ad c, v = .slice (some ad) n c ∧ ∀ j u, xs[j]? = some u → w.cell? (ad.add j) = some u)

theorem infoU32 : (Tryz.prog.info? 28).map (fun i => (i.zero, i.size, i.bytes)) = some (some (.int .u32 0), 1, 4) := by kernel_rfl

def uints (l : List Int) : List Value := l.map (.int .u32)

theorem row_shape {w : World} {e sz n : Nat} {v : Value} {xs : List Value} (h : w.ownsRow 0 e sz v n xs) : ∃ a c, v = .slice a n c := by
  rcases h.2 with ⟨rfl, rfl⟩ | ⟨g, cap, cur, rfl, -⟩
  · exact ⟨_, _, rfl⟩
  · exact ⟨_, _, rfl⟩

end Go.Proofs.YtkhanbedcmmlcaaGreatDoor
/- places by the document; appends in a drawn region. -/
set_option linter.unusedSimpArgs false
set_option linter.unusedVariables false
namespace Go.Proofs.YtkhanbedcmmlcaaGreatDoor
open Go.RowKit

theorem rright_any (t p s : Int) (w : World) :
    Calls Tryz.prog 37 #[.agg #[.int .i64 t, .int .i64 p, .int .i64 s]] w fun e w' => e = .returned (.bool (rightB t p s)) ∧ Below w.heap.size w w' := by
  generalize hr : rightB t p s = r
  have HR := Lib.hid hr
  clear hr
  go_enter Tryz.func37, Tryz.ntmps37
  go_wp2
  all_goals
    go_ret
    refine ⟨ret_bool ?_, by (repeat (first | exact Below.refl _ _ | assumption | refine Below.setCell ?_ (by first | omega | (simp; done) | (simp; omega)) _ | refine Below.alloc ?_ (by first | omega | (simp; done) | (simp; omega)) _ | refine Below.drew ?_ | refine Below.trans ?_ (Below.mono ‹Below _ _ _› (by first | omega | (simp; done) | (simp; omega)))))⟩
    have hr := HR.out
    simp only [rightB, outB] at hr
    subst hr
    rw [Bool.eq_iff_iff]
    simp
    omega

theorem rcells_any (t p s : Int) (w : World) :
    Calls Tryz.prog 38 #[.agg #[.int .i64 t, .int .i64 p, .int .i64 s]] w fun e w' => e = .returned (.int .i64 (cellsF t p s)) ∧ Below w.heap.size w w' := by
  have H := rright_any t p s
  cases hr : rightB t p s
  · have hF : cellsF t p s = 0 := by simp [cellsF, hr]
    rw [hF]
    rw [hr] at H
    have HH := Lib.hid H
    clear H hF hr
    go_enter Tryz.func38, Tryz.ntmps38
    go_wp2_with fail
    refine (HH.out _).mono ?_
    rintro e w1 ⟨rfl, ha⟩
    obtain ⟨hac, haf⟩ := bcell ha
    have haz0 : w.heap.size < w1.heap.size := by have := ha.size; first | omega | (simp at this; omega)
    go_wp2
    go_ret
    refine ⟨rfl, ?_⟩
    (repeat (first | exact Below.refl _ _ | assumption | refine Below.setCell ?_ (by first | omega | (simp; done) | (simp; omega)) _ | refine Below.alloc ?_ (by first | omega | (simp; done) | (simp; omega)) _ | refine Below.drew ?_ | refine Below.trans ?_ (Below.mono ‹Below _ _ _› (by first | omega | (simp; done) | (simp; omega)))))
  · have hF : cellsF t p s = cellsN t p := by simp [cellsF, hr]
    rw [hF]
    rw [hr] at H
    have HH := Lib.hid H
    obtain ⟨b1, b2, b3, b4, b5, b6⟩ := right_bd hr
    clear H hF hr
    go_enter Tryz.func38, Tryz.ntmps38
    go_wp2_with fail
    refine (HH.out _).mono ?_
    rintro e w1 ⟨rfl, ha⟩
    obtain ⟨hac, haf⟩ := bcell ha
    have haz0 : w.heap.size < w1.heap.size := by have := ha.size; first | omega | (simp at this; omega)
    go_wp2
    go_ret
    refine ⟨rfl, ?_⟩
    (repeat (first | exact Below.refl _ _ | assumption | refine Below.setCell ?_ (by first | omega | (simp; done) | (simp; omega)) _ | refine Below.alloc ?_ (by first | omega | (simp; done) | (simp; omega)) _ | refine Below.drew ?_ | refine Below.trans ?_ (Below.mono ‹Below _ _ _› (by first | omega | (simp; done) | (simp; omega)))))

theorem rpage_any (t p s q part : Int) (w : World) (h0 : 0 ≤ part) (h1 : part ≤ 5) :
    Calls Tryz.prog 122 #[.agg #[.int .i64 t, .int .i64 p, .int .i64 s], .int .i64 q, .int .i64 part] w fun e w' => e = .returned (.int .i64 (ofF t p s q part)) ∧ Below w.heap.size w w' := by
  have H := rright_any t p s
  cases hr : rightB t p s
  · have hF : ofF t p s q part = -1 := by simp [ofF, hr]
    rw [hF]
    rw [hr] at H
    have HH := Lib.hid H
    clear H hF hr
    go_enter Tryz.func122, Tryz.ntmps122
    go_wp2_with fail
    refine (HH.out _).mono ?_
    rintro e w1 ⟨rfl, ha⟩
    obtain ⟨hac, haf⟩ := bcell ha
    have haz0 : w.heap.size < w1.heap.size := by have := ha.size; first | omega | (simp at this; omega)
    go_wp2
    go_ret
    refine ⟨rfl, ?_⟩
    (repeat (first | exact Below.refl _ _ | assumption | refine Below.setCell ?_ (by first | omega | (simp; done) | (simp; omega)) _ | refine Below.alloc ?_ (by first | omega | (simp; done) | (simp; omega)) _ | refine Below.drew ?_ | refine Below.trans ?_ (Below.mono ‹Below _ _ _› (by first | omega | (simp; done) | (simp; omega)))))
  · obtain ⟨b1, b2, b3, b4, b5, b6⟩ := right_bd hr
    rw [hr] at H
    have HH := Lib.hid H
    clear H
    by_cases hq : q < 0
    · have hF : ofF t p s q part = -1 := by simp [ofF, hr]; omega
      rw [hF]
      clear hF hr
      go_enter Tryz.func122, Tryz.ntmps122
      go_wp2_with fail
      refine (HH.out _).mono ?_
      rintro e w1 ⟨rfl, ha⟩
      obtain ⟨hac, haf⟩ := bcell ha
      have haz0 : w.heap.size < w1.heap.size := by have := ha.size; first | omega | (simp at this; omega)
      go_wp2
      go_ret
      refine ⟨rfl, ?_⟩
      (repeat (first | exact Below.refl _ _ | assumption | refine Below.setCell ?_ (by first | omega | (simp; done) | (simp; omega)) _ | refine Below.alloc ?_ (by first | omega | (simp; done) | (simp; omega)) _ | refine Below.drew ?_ | refine Below.trans ?_ (Below.mono ‹Below _ _ _› (by first | omega | (simp; done) | (simp; omega)))))
    · by_cases hq2 : q < p
      · have hF : ofF t p s q part = 30 + 4 * t + 6 * q + part := by simp [ofF, hr]; omega
        rw [hF]
        clear hF hr
        go_enter Tryz.func122, Tryz.ntmps122
        go_wp2_with fail
        refine (HH.out _).mono ?_
        rintro e w1 ⟨rfl, ha⟩
        obtain ⟨hac, haf⟩ := bcell ha
        have haz0 : w.heap.size < w1.heap.size := by have := ha.size; first | omega | (simp at this; omega)
        go_wp2
        go_ret
        refine ⟨ret_int (by omega), ?_⟩
        (repeat (first | exact Below.refl _ _ | assumption | refine Below.setCell ?_ (by first | omega | (simp; done) | (simp; omega)) _ | refine Below.alloc ?_ (by first | omega | (simp; done) | (simp; omega)) _ | refine Below.drew ?_ | refine Below.trans ?_ (Below.mono ‹Below _ _ _› (by first | omega | (simp; done) | (simp; omega)))))
      · have hF : ofF t p s q part = -1 := by simp [ofF, hr]; omega
        rw [hF]
        clear hF hr
        go_enter Tryz.func122, Tryz.ntmps122
        go_wp2_with fail
        refine (HH.out _).mono ?_
        rintro e w1 ⟨rfl, ha⟩
        obtain ⟨hac, haf⟩ := bcell ha
        have haz0 : w.heap.size < w1.heap.size := by have := ha.size; first | omega | (simp at this; omega)
        go_wp2
        go_ret
        refine ⟨rfl, ?_⟩
        (repeat (first | exact Below.refl _ _ | assumption | refine Below.setCell ?_ (by first | omega | (simp; done) | (simp; omega)) _ | refine Below.alloc ?_ (by first | omega | (simp; done) | (simp; omega)) _ | refine Below.drew ?_ | refine Below.trans ?_ (Below.mono ‹Below _ _ _› (by first | omega | (simp; done) | (simp; omega)))))

theorem rnext_any (t p s q : Int) (w : World) :
    Calls Tryz.prog 88 #[.agg #[.int .i64 t, .int .i64 p, .int .i64 s], .int .i64 q] w fun e w' => e = .returned (.int .i64 (ofF t p s q 2)) ∧ Below w.heap.size w w' := by
  go_enter Tryz.func88, Tryz.ntmps88
  go_wp2_with fail
  refine (rpage_any _ _ _ _ _ _ (by omega) (by omega)).mono ?_
  rintro e w1 ⟨rfl, ha⟩
  obtain ⟨hac, haf⟩ := bcell ha
  go_wp2
  go_ret
  refine ⟨rfl, ?_⟩
  (repeat (first | exact Below.refl _ _ | assumption | refine Below.setCell ?_ (by first | omega | (simp; done) | (simp; omega)) _ | refine Below.alloc ?_ (by first | omega | (simp; done) | (simp; omega)) _ | refine Below.drew ?_ | refine Below.trans ?_ (Below.mono ‹Below _ _ _› (by first | omega | (simp; done) | (simp; omega)))))
theorem rprev_any (t p s q : Int) (w : World) :
    Calls Tryz.prog 89 #[.agg #[.int .i64 t, .int .i64 p, .int .i64 s], .int .i64 q] w fun e w' => e = .returned (.int .i64 (ofF t p s q 3)) ∧ Below w.heap.size w w' := by
  go_enter Tryz.func89, Tryz.ntmps89
  go_wp2_with fail
  refine (rpage_any _ _ _ _ _ _ (by omega) (by omega)).mono ?_
  rintro e w1 ⟨rfl, ha⟩
  obtain ⟨hac, haf⟩ := bcell ha
  go_wp2
  go_ret
  refine ⟨rfl, ?_⟩
  (repeat (first | exact Below.refl _ _ | assumption | refine Below.setCell ?_ (by first | omega | (simp; done) | (simp; omega)) _ | refine Below.alloc ?_ (by first | omega | (simp; done) | (simp; omega)) _ | refine Below.drew ?_ | refine Below.trans ?_ (Below.mono ‹Below _ _ _› (by first | omega | (simp; done) | (simp; omega)))))

/-- an empty row, newly made. -/
theorem row_empty (w : World) (e sz : Nat) : (w.alloc (.cells #[] e)).ownsRow 0 e sz (.slice (some ⟨w.heap.size, 0, none⟩) 0 0) 0 [] :=
  ⟨by simp, Or.inr ⟨w.heap.size, 0, #[], rfl, Nat.zero_le _, heap_alloc_new w _, Nat.le_refl _, by unfold maxLen; omega, by simp, by simp⟩⟩

theorem step_append_new {P : Program} {ops : Array Oper} {o : Oper} {a : Act} {w : World} {K : Act → World → Prop} {Q : Exit → Act → World → Prop} {E : Prop} {t : TypeId}
    (hg : o.guard = none) (s x : Operand) (ho : o.op = .call { callee := .builtin .append, args := #[s, x], argTypes := #[t, t] })
    (e : TypeId) (i : TypeInfo) (z : Value) (size bytes : Nat) (ht : P.underlying t = some (.slice e)) (hi : P.info? e = some i) (hz : i.zero = some z)
    (hsize : i.size = size) (hby : i.bytes = bytes) (hzs : z.cells.size = size) (hsz : 0 < size)
    (v : Value) (n : Nat) (xs : List Value) (hs : a.eval s = v) (hown : w.ownsRow 0 e size v n xs)
    (ad : Addr) (m c : Nat) (news : List Value) (hx : a.eval x = .slice (some ad) m c) (hl : news.length = m * size) (hnews : ∀ j u, news[j]? = some u → w.cell? (ad.add j) = some u) (h1 : ∀ u ∈ news, u.oneCell' = true)
    (h63 : n + m ≤ maxLen) (hbytes : (n + m) * bytes ≤ 140737488355328)
    (h : ∀ v' w', w'.ownsRow 0 e size v' (n + m) (xs ++ news) → w.grownBy w' v.ownBlock → (∀ k, v'.ownBlock = some k → v.ownBlock = some k ∨ w.heap.size ≤ k) → (v' = .slice none 0 0 ↔ v = .slice none 0 0 ∧ m = 0) → K (a.put o.dst v') w') :
    if Region.wanted o (yielded ops a.tmps) = true then Oper.wp P o a w K Q else E := by
  have hw : Region.wanted o (yielded ops a.tmps) = true := by simp [Region.wanted, hg]
  rw [if_pos hw]
  obtain ⟨v', w', hr, h2, h3, h4, h5⟩ := run_append_new (P := P) (w := w) t o.type e i z size bytes ht hi hz hsize hby hzs hsz v n xs hown ad m c news hl hnews h1 h63 hbytes
  unfold Oper.wp execOp
  simp only [ho, resolve, invoke, builtin, Sem.run_bind, Sem.run_pure, Result.andThen_ok, List.map_toArray, List.map_cons, List.map_nil, hs, hx, hr]
  exact h v' w' h2 h3 h4 h5

theorem cell_two_at (w : World) (u1 u2 : Value) (T : TypeId) (k : Nat) (hk : k = w.heap.size) : ∀ (j : Nat) (x : Value), [u1, u2][j]? = some x → (w.alloc (.cells #[u1, u2] T)).cell? ((⟨k, 0, none⟩ : Addr).add j) = some x := by
  subst hk
  intro j x hj
  rcases j with _ | _ | j
  · simp at hj; subst hj; exact cell?_of_heap (o := 0) (heap_alloc_new w (.cells #[u1, u2] T))
  · simp at hj; subst hj; exact cell?_of_heap (o := 1) (heap_alloc_new w (.cells #[u1, u2] T))
  · simp at hj

end Go.Proofs.YtkhanbedcmmlcaaGreatDoor
/- a call under way that makes new blocks alone: its own boxes, and what lies below. -/
set_option linter.unusedSimpArgs false
set_option linter.unusedVariables false
namespace Go.Proofs.YtkhanbedcmmlcaaGreatDoor
open Go.RowKit

/-- since w0 nothing below has turned; the boxes Ls are the call's own. -/
structure BS (w0 : World) (Ls : List Nat) (w : World) : Prop where
  bel : Below w0.heap.size w0 w
  ls : ∀ L ∈ Ls, L < w.heap.size ∧ w0.heap.size ≤ L

section
variable {w0 w w' : World} {Ls : List Nat}

theorem BS.start (w0 : World) : BS w0 [] w0 := ⟨Below.refl _ _, by simp⟩

theorem BS.below (h : BS w0 Ls w) (hb : Below w.heap.size w w') : BS w0 Ls w' :=
  ⟨h.bel.trans (hb.mono h.bel.size), fun L hL => ⟨Nat.lt_of_lt_of_le (h.ls L hL).1 hb.size, (h.ls L hL).2⟩⟩

theorem BS.alloc (h : BS w0 Ls w) (o : Obj) : BS w0 (w.heap.size :: Ls) (w.alloc o) := by
  refine ⟨h.bel.alloc h.bel.size o, fun L hL => ?_⟩
  simp at hL
  rcases hL with rfl | hL
  · exact ⟨by simp, h.bel.size⟩
  · have := h.ls L hL; exact ⟨by simp; omega, this.2⟩

theorem BS.drew (h : BS w0 Ls w) : BS w0 Ls w.drew := ⟨h.bel.drew, h.ls⟩

theorem BS.setCell (h : BS w0 Ls w) {L : Nat} (hL : L ∈ Ls) (o : Nat) (v : Value) : BS w0 Ls (w.setCell ⟨L, o, none⟩ v) :=
  ⟨h.bel.setCell (h.ls L hL).2 v, fun M hM => ⟨by simpa using (h.ls M hM).1, (h.ls M hM).2⟩⟩

theorem BS.sub (h : BS w0 Ls w) (Ls' : List Nat) (hL : ∀ L ∈ Ls', L ∈ Ls) : BS w0 Ls' w := ⟨h.bel, fun L hm => h.ls L (hL L hm)⟩

theorem BS.grown (h : BS w0 Ls w) {row : Option Nat} (hg : w.grownBy w' row) (hr : ∀ k, row = some k → k ∈ Ls) (Ls' : List Nat) (hL : ∀ L ∈ Ls', L ∈ Ls ∨ (w.heap.size ≤ L ∧ L < w'.heap.size)) : BS w0 Ls' w' := by
  refine ⟨h.bel.grown hg h.bel.size (fun k hk => (h.ls k (hr k hk)).2), fun L hm => ?_⟩
  have := h.bel.size
  rcases hL L hm with y | y
  · exact ⟨Nat.lt_of_lt_of_le (h.ls L y).1 hg.size, (h.ls L y).2⟩
  · exact ⟨y.2, by omega⟩

/-- a call that makes new blocks alone. -/
theorem calls_b {P : Program} {f : FuncId} {args : Array Value} {val : Value} (h : BS w0 Ls w)
    (hc : Calls P f args w fun e w' => e = .returned val ∧ Below w.heap.size w w') :
    Calls P f args w fun e w' => e = .returned val ∧ BS w0 Ls w' ∧ ∀ L ∈ Ls, w'.heap[L]? = w.heap[L]? :=
  hc.mono fun _ _ ⟨he, hb⟩ => ⟨he, h.below hb, fun L hL => hb.block L (h.ls L hL).1⟩

/-- a cell of what lay there before. -/
theorem BS.old (h : BS w0 Ls w) {a : Addr} {u : Value} (hc : w0.cell? a = some u) : w.cell? a = some u :=
  (h.bel.cell (World.block_lt_of_cell? w0 a hc)).trans hc
end

theorem BS.oldbox {w0 w : World} {Ls : List Nat} {b : Nat} {cs : Array Value} (h : BS w0 Ls w) (hc : ∀ o : Nat, w0.cell? ⟨b, o, none⟩ = cs[o]?) (hb : b < w0.heap.size) : ∀ o : Nat, w.cell? ⟨b, o, none⟩ = cs[o]? :=
  fun o => (h.bel.cell (p := ⟨b, o, none⟩) hb).trans (hc o)

theorem BS.row {w0 w : World} {Ls : List Nat} {e sz n : Nat} {v : Value} {xs : List Value} (h : BS w0 Ls w) (hr : w0.ownsRow 0 e sz v n xs) : w.ownsRow 0 e sz v n xs :=
  ownsRow_block hr fun k hk => h.bel.block k (ownsRow_lt hr hk)

theorem world_gen {F : World → Prop} {W : World} (h : ∀ W', W' = W → F W') : F W := h W rfl

/-- behind an append to the row v, which a box went ahead of. -/
theorem BS.append {w0 w w' : World} {L : Nat} {v v' : Value} {ob : Obj} {e sz n : Nat} {xs : List Value} (h : BS w0 (L :: v.ownBlock.toList) w) (hg : (w.alloc ob).grownBy w' v.ownBlock)
    (hnew : ∀ k, v'.ownBlock = some k → v.ownBlock = some k ∨ (w.alloc ob).heap.size ≤ k) (hown : w'.ownsRow 0 e sz v' n xs) : BS w0 (L :: v'.ownBlock.toList) w' := by
  refine (h.alloc ob).grown hg (fun k hk => by simp [hk]) _ fun M hM => ?_
  simp at hM
  rcases hM with rfl | hM
  · exact Or.inl (by simp)
  · rcases hnew M hM with h1 | h1
    · exact Or.inl (by simp [h1])
    · exact Or.inr ⟨h1, ownsRow_lt hown hM⟩

/-- a box of the call's own, beside the others. -/
structure BA (w0 : World) (Ls : List Nat) (LA : Nat) (cs : Array Value) (T : TypeId) (w : World) : Prop where
  bs : BS w0 (LA :: Ls) w
  box : w.heap[LA]? = some (.cells cs T)
  ne : ∀ L ∈ Ls, L ≠ LA
section
variable {w0 w w' : World} {Ls : List Nat} {LA : Nat} {cs : Array Value} {T : TypeId}
theorem BS.allocd (h : BS w0 Ls w) (cs : Array Value) (T : TypeId) : BA w0 Ls w.heap.size cs T (w.alloc (.cells cs T)) :=
  ⟨h.alloc _, heap_alloc_new w _, fun L hL e => by have := (h.ls L hL).1; omega⟩
theorem BA.step (h : BA w0 Ls LA cs T w) (hV : BS w0 (LA :: Ls) w') (hl : ∀ L ∈ LA :: Ls, w'.heap[L]? = w.heap[L]?) : BA w0 Ls LA cs T w' :=
  ⟨hV, (hl _ (by simp)).trans h.box, h.ne⟩
theorem frozen?_of_heap {o : Nat} (h : w.heap[LA]? = some (.cells cs T)) : w.frozen? ⟨LA, o, none⟩ = false := by
  simp [World.frozen?, h]
theorem heap_setCell_same {L o : Nat} {v : Value} (h : w.heap[L]? = some (.cells cs T)) : (w.setCell ⟨L, o, none⟩ v).heap[L]? = some (.cells (cs.setIfInBounds o v) T) := by
  simp only [World.setCell]
  rw [Array.getElem?_modify, if_pos rfl, h]
  rfl
theorem heap_setCell_other {L M o : Nat} {v : Value} (h : M ≠ L) : (w.setCell ⟨L, o, none⟩ v).heap[M]? = w.heap[M]? := by
  simp only [World.setCell]
  rw [Array.getElem?_modify, if_neg (Ne.symm h)]
theorem BA.set (h : BA w0 Ls LA cs T w) (o : Nat) (v : Value) : BA w0 Ls LA (cs.setIfInBounds o v) T (w.setCell ⟨LA, o, none⟩ v) :=
  ⟨h.bs.setCell (by simp) _ _, heap_setCell_same h.box, h.ne⟩
theorem BA.loc (h : BA w0 Ls LA cs T w) {L : Nat} {ds : Array Value} (hm : L ∈ Ls) (o : Nat) (v : Value) (hc : ∀ i : Nat, w.cell? ⟨L, i, none⟩ = ds[i]?) : ∀ i : Nat, (w.setCell ⟨LA, o, none⟩ v).cell? ⟨L, i, none⟩ = ds[i]? :=
  fun i => (World.cell?_of_block (a := ⟨L, i, none⟩) (heap_setCell_other (h.ne L hm))).trans (hc i)
theorem BA.hloc (h : BA w0 Ls LA cs T w) {L : Nat} {x : Option Obj} (hm : L ∈ Ls) (o : Nat) (v : Value) (hc : w.heap[L]? = x) : (w.setCell ⟨LA, o, none⟩ v).heap[L]? = x :=
  (heap_setCell_other (h.ne L hm)).trans hc
theorem BA.grown (h : BA w0 Ls LA cs T w) {ob : Obj} {row : Option Nat} (hg : (w.alloc ob).grownBy w' row) (hr : ∀ k, row = some k → k < w0.heap.size) : ∀ o : Nat, w'.cell? ⟨LA, o, none⟩ = cs[o]? := by
  have hl := h.bs.ls LA (by simp)
  exact loc_grown hg (by simp; omega) (fun e => by have := hr _ e; omega) (loc_old ob hl.1 fun o => cell?_of_heap h.box)
/-- what a box of three cells offers the walk. -/
theorem BA.cells3 {x y z : Value} (h : BA w0 Ls LA #[x, y, z] T w) : (w.cell? ⟨LA, 0, none⟩ = some x ∧ w.cell? ⟨LA, 1, none⟩ = some y ∧ w.cell? ⟨LA, 2, none⟩ = some z) ∧ w.frozen? ⟨LA, 0, none⟩ = false ∧ w.frozen? ⟨LA, 1, none⟩ = false ∧ w.frozen? ⟨LA, 2, none⟩ = false ∧ LA < w.heap.size ∧ w0.heap.size ≤ LA ∧ Below w0.heap.size w0 w :=
  ⟨⟨cell?_of_heap h.box, cell?_of_heap h.box, cell?_of_heap h.box⟩, frozen?_of_heap h.box, frozen?_of_heap h.box, frozen?_of_heap h.box, (h.bs.ls LA (by simp)).1, (h.bs.ls LA (by simp)).2, h.bs.bel⟩
theorem cells3 {L : Nat} {x y z : Value} (h : w.heap[L]? = some (.cells #[x, y, z] T)) : (w.cell? ⟨L, 0, none⟩ = some x ∧ w.cell? ⟨L, 1, none⟩ = some y ∧ w.cell? ⟨L, 2, none⟩ = some z) ∧ w.frozen? ⟨L, 0, none⟩ = false ∧ w.frozen? ⟨L, 1, none⟩ = false ∧ w.frozen? ⟨L, 2, none⟩ = false :=
  ⟨⟨cell?_of_heap h, cell?_of_heap h, cell?_of_heap h⟩, frozen?_of_heap h, frozen?_of_heap h, frozen?_of_heap h⟩
end

/-- a configuration's values: the slice (ad, n, c) holds a heap's cells. -/
structure XV (w : World) (t p s : Int) (ad : Addr) (n : Nat) (vs : List Int) : Prop where
  right : rightB t p s = true
  few : p ≤ 1024
  len : vs.length = n
  num : (n : Int) = 30 + 4 * t + 6 * p
  u32 : ∀ v ∈ vs, VS.U32 v
  cells : ∀ k, k < n → w.cell? (ad.add k) = some (.int .u32 (vs.getD k 0))

theorem XV.keep {w w' : World} {t p s : Int} {ad : Addr} {n : Nat} {vs : List Int} (h : XV w t p s ad n vs) (hb : Below w.heap.size w w') : XV w' t p s ad n vs :=
  ⟨h.right, h.few, h.len, h.num, h.u32, fun k hk => (hb.cell (World.block_lt_of_cell? w _ (h.cells k hk))).trans (h.cells k hk)⟩

/-- the place of a page's cell. -/
def cix (t q part : Int) : Nat := (30 + 4 * t + 6 * q + part).toNat
def gv (vs : List Int) (t q part : Int) : Int := vs.getD (cix t q part) 0

theorem add_block (a : Addr) (k : Nat) : (a.add k).block = a.block := by unfold Addr.add; split <;> rfl

theorem getD_u32 {vs : List Int} (h : ∀ v ∈ vs, VS.U32 v) (k : Nat) : VS.U32 (vs.getD k 0) := by
  by_cases hk : k < vs.length
  · have e : vs.getD k 0 = vs[k] := by simp [hk]
    rw [e]; exact h _ (List.getElem_mem hk)
  · have e : vs.getD k 0 = 0 := by simp [show ¬ k < vs.length from hk]
    rw [e]; exact VS.u32_zero

section
variable {w : World} {t p s : Int} {ad : Addr} {n : Nat} {vs : List Int}
theorem XV.bd (h : XV w t p s ad n vs) : 1 ≤ t ∧ t ≤ 16 ∧ 4 ≤ p ∧ p ≤ 1024 ∧ 10 ≤ s ∧ s ≤ 20 ∧ (n : Int) = 30 + 4 * t + 6 * p := by
  have := right_bd h.right
  have := h.few
  have := h.num
  omega
theorem XV.of (h : XV w t p s ad n vs) {q part : Int} (h1 : 0 ≤ q) (h2 : q < p) : ofF t p s q part = 30 + 4 * t + 6 * q + part := by
  simp [ofF, h.right, h1, h2]
theorem XV.cx (h : XV w t p s ad n vs) {q part : Int} (h1 : 0 ≤ q) (h2 : q < p) (h3 : 0 ≤ part) (h4 : part ≤ 5) : cix t q part < n ∧ ofF t p s q part = ((cix t q part : Nat) : Int) := by
  have b := h.bd
  rw [h.of h1 h2]
  unfold cix
  omega
theorem XV.gu (h : XV w t p s ad n vs) (q part : Int) : 0 ≤ gv vs t q part ∧ gv vs t q part < 4294967296 := getD_u32 h.u32 _
end

end Go.Proofs.YtkhanbedcmmlcaaGreatDoor
/- the document's small functions: places, bits, classes, infos. -/
set_option linter.unusedSimpArgs false
set_option linter.unusedVariables false
namespace Go.Proofs.YtkhanbedcmmlcaaGreatDoor
open Go.RowKit

theorem rinfo_any (t p s q : Int) (w : World) :
    Calls Tryz.prog 77 #[.agg #[.int .i64 t, .int .i64 p, .int .i64 s], .int .i64 q] w fun e w' => e = .returned (.int .i64 (ofF t p s q 0)) ∧ Below w.heap.size w w' := by
  go_enter Tryz.func77, Tryz.ntmps77
  go_wp2_with fail
  refine (rpage_any _ _ _ _ _ _ (by omega) (by omega)).mono ?_
  rintro e w1 ⟨rfl, ha⟩
  obtain ⟨hac, haf⟩ := bcell ha
  go_wp2
  go_ret
  refine ⟨rfl, ?_⟩
  (repeat (first | exact Below.refl _ _ | assumption | refine Below.setCell ?_ (by first | omega | (simp; done) | (simp; omega)) _ | refine Below.alloc ?_ (by first | omega | (simp; done) | (simp; omega)) _ | refine Below.drew ?_ | refine Below.trans ?_ (Below.mono ‹Below _ _ _› (by first | omega | (simp; done) | (simp; omega)))))
theorem rfoot_any (t p s q : Int) (w : World) :
    Calls Tryz.prog 78 #[.agg #[.int .i64 t, .int .i64 p, .int .i64 s], .int .i64 q] w fun e w' => e = .returned (.int .i64 (ofF t p s q 1)) ∧ Below w.heap.size w w' := by
  go_enter Tryz.func78, Tryz.ntmps78
  go_wp2_with fail
  refine (rpage_any _ _ _ _ _ _ (by omega) (by omega)).mono ?_
  rintro e w1 ⟨rfl, ha⟩
  obtain ⟨hac, haf⟩ := bcell ha
  go_wp2
  go_ret
  refine ⟨rfl, ?_⟩
  (repeat (first | exact Below.refl _ _ | assumption | refine Below.setCell ?_ (by first | omega | (simp; done) | (simp; omega)) _ | refine Below.alloc ?_ (by first | omega | (simp; done) | (simp; omega)) _ | refine Below.drew ?_ | refine Below.trans ?_ (Below.mono ‹Below _ _ _› (by first | omega | (simp; done) | (simp; omega)))))
theorem rslots_any (t p s q : Int) (w : World) :
    Calls Tryz.prog 123 #[.agg #[.int .i64 t, .int .i64 p, .int .i64 s], .int .i64 q] w fun e w' => e = .returned (.int .i64 (ofF t p s q 4)) ∧ Below w.heap.size w w' := by
  go_enter Tryz.func123, Tryz.ntmps123
  go_wp2_with fail
  refine (rpage_any _ _ _ _ _ _ (by omega) (by omega)).mono ?_
  rintro e w1 ⟨rfl, ha⟩
  obtain ⟨hac, haf⟩ := bcell ha
  go_wp2
  go_ret
  refine ⟨rfl, ?_⟩
  (repeat (first | exact Below.refl _ _ | assumption | refine Below.setCell ?_ (by first | omega | (simp; done) | (simp; omega)) _ | refine Below.alloc ?_ (by first | omega | (simp; done) | (simp; omega)) _ | refine Below.drew ?_ | refine Below.trans ?_ (Below.mono ‹Below _ _ _› (by first | omega | (simp; done) | (simp; omega)))))
theorem rtaken_any (t p s q : Int) (w : World) :
    Calls Tryz.prog 95 #[.agg #[.int .i64 t, .int .i64 p, .int .i64 s], .int .i64 q] w fun e w' => e = .returned (.int .i64 (ofF t p s q 5)) ∧ Below w.heap.size w w' := by
  go_enter Tryz.func95, Tryz.ntmps95
  go_wp2_with fail
  refine (rpage_any _ _ _ _ _ _ (by omega) (by omega)).mono ?_
  rintro e w1 ⟨rfl, ha⟩
  obtain ⟨hac, haf⟩ := bcell ha
  go_wp2
  go_ret
  refine ⟨rfl, ?_⟩
  (repeat (first | exact Below.refl _ _ | assumption | refine Below.setCell ?_ (by first | omega | (simp; done) | (simp; omega)) _ | refine Below.alloc ?_ (by first | omega | (simp; done) | (simp; omega)) _ | refine Below.drew ?_ | refine Below.trans ?_ (Below.mono ‹Below _ _ _› (by first | omega | (simp; done) | (simp; omega)))))

theorem rbin_any (k : Nat) (w : World) (h : k < 11) :
    Calls Tryz.prog 83 #[.int .i64 k] w fun e w' => e = .returned (.int .i64 ((2 + k : Nat) : Int)) ∧ Below w.heap.size w w' := by
  go_enter Tryz.func83, Tryz.ntmps83
  go_wp2
  go_ret
  exact ⟨ret_int (by omega), Below.refl _ _⟩
theorem rrack_any (k : Nat) (w : World) (h : k < 9) :
    Calls Tryz.prog 86 #[.int .i64 k] w fun e w' => e = .returned (.int .i64 ((13 + k : Nat) : Int)) ∧ Below w.heap.size w w' := by
  go_enter Tryz.func86, Tryz.ntmps86
  go_wp2
  go_ret
  exact ⟨ret_int (by omega), Below.refl _ _⟩
theorem rroot_any (k : Nat) (w : World) (h : k < 8) :
    Calls Tryz.prog 92 #[.int .i64 k] w fun e w' => e = .returned (.int .i64 ((22 + k : Nat) : Int)) ∧ Below w.heap.size w w' := by
  go_enter Tryz.func92, Tryz.ntmps92
  go_wp2
  go_ret
  exact ⟨ret_int (by omega), Below.refl _ _⟩

def bitB (v : Int) (i : Nat) : Bool := decide (i < 32) && (v / 2 ^ i % 2 == 1)
theorem rbit_any (v : Int) (i : Nat) (w : World) (h : i < 32) (h1 : 0 ≤ v) :
    Calls Tryz.prog 79 #[.int .u32 v, .int .i64 i] w fun e w' => e = .returned (.bool (bitB v i)) ∧ Below w.heap.size w w' := by
  have hd : 0 ≤ v / 2 ^ i := Int.ediv_nonneg h1 (Int.pow_nonneg (by omega))
  go_enter Tryz.func79, Tryz.ntmps79
  go_wp2
  go_ret
  exact ⟨ret_bool (by simp [bitB, h]), Below.refl _ _⟩

def slotsF (k : Int) : Int := if k = 0 then 32 else if k = 1 then 21 else if k = 2 then 16 else if k = 3 then 10 else if k = 4 then 8 else if k = 5 then 5 else if k = 6 then 4 else if k = 7 then 3 else if k = 8 then 2 else 0
theorem slots_bd (k : Int) : 0 ≤ slotsF k ∧ slotsF k ≤ 32 := by unfold slotsF; repeat' split <;> omega
theorem rkslots_any (k : Int) (w : World) :
    Calls Tryz.prog 81 #[.int .i64 k] w fun e w' => e = .returned (.int .i64 (slotsF k)) ∧ Below w.heap.size w w' := by
  generalize hF : slotsF k = F
  have HF := Lib.hid hF
  clear hF
  go_enter Tryz.func81, Tryz.ntmps81
  go_wp2
  all_goals
    go_ret
    refine ⟨ret_int ?_, Below.refl _ _⟩
    have e := HF.out
    subst e
    clear HF
    simp_all [slotsF]


def onesN (v : Int) : Nat → Nat
  | 0 => 0
  | k + 1 => onesN v k + if bitB v k then 1 else 0
theorem onesN_le (v : Int) (k : Nat) : onesN v k ≤ k := by
  induction k with
  | zero => exact Nat.le_refl _
  | succ k ih => unfold onesN; split <;> omega
def OnesRel (v : Int) (w : World) (a i : Value) (wr : World) : Prop := ∃ k : Nat, k ≤ 32 ∧ i = .int .i64 k ∧ a = .int .i64 (onesN v k) ∧ Below w.heap.size w wr
theorem rones_any (v : Int) (w : World) (h1 : 0 ≤ v) :
    Calls Tryz.prog 90 #[.int .u32 v] w fun e w' => e = .returned (.int .i64 (onesN v 32)) ∧ Below w.heap.size w w' := by
  go_enter Tryz.func90, Tryz.ntmps90
  go_wp2
  go_loopw [3, 4] (fun a i wr => OnesRel v w a i wr) (fun _ i _ => 32 - (intOf i).toNat)
  case atStart => exact ⟨0, by omega, rfl, rfl, Below.refl _ _⟩
  case round =>
    obtain ⟨k, hk, rfl, rfl, hb⟩ := hrel
    have hle := onesN_le v k
    by_cases hlt : k < 32
    · have HB := rbit_any v k wr hlt h1
      have hs : onesN v (k + 1) = onesN v k + if bitB v k then 1 else 0 := rfl
      have HS := Lib.hid hs
      clear hs
      generalize bitB v k = z at *
      have HC := Lib.hid HB
      have HX := Lib.hid hb
      clear HB hb
      cases z
      · go_wp2_with fail
        refine HC.out.mono ?_
        rintro e w1 ⟨rfl, b1⟩
        go_wp2_with fail
        go_roundw
        case rel => exact ⟨k + 1, by omega, by go_num, by rw [HS.out]; simp, HX.out.trans (b1.mono HX.out.size)⟩
        case measure => simp [intOf]; omega
      · go_wp2_with fail
        refine HC.out.mono ?_
        rintro e w1 ⟨rfl, b1⟩
        go_wp2_with fail
        go_roundw
        case rel => exact ⟨k + 1, by omega, by go_num, by rw [HS.out]; simp, HX.out.trans (b1.mono HX.out.size)⟩
        case measure => simp [intOf]; omega
    · obtain rfl : k = 32 := by omega
      go_wp2
      go_ret
      exact ⟨rfl, hb⟩

def bitsN (n : Nat) : Nat := if n = 0 then 0 else n.log2 + 1
theorem bitsN_half (n : Nat) (h : 1 ≤ n) : bitsN n = bitsN (n / 2) + 1 := by
  unfold bitsN
  rw [if_neg (by omega), Nat.log2_def]
  by_cases h2 : 2 ≤ n
  · rw [if_pos h2, if_neg (by omega)]
  · rw [if_neg h2, if_pos (by omega)]
theorem bitsN_le (n : Nat) : bitsN n ≤ n := by
  unfold bitsN
  split
  · omega
  · have := Nat.log2_lt (n := n) (k := n) (by omega)
    have := this.2 Nat.lt_two_pow_self
    omega
def logF (n : Int) : Int := (bitsN n.toNat : Int) - 1
def LogRel (n : Int) (w : World) (a i : Value) (wr : World) : Prop := ∃ c k : Nat, a = .int .i64 c ∧ c ≤ 1000000 ∧ i = .int .i64 ((k : Int) - 1) ∧ k + bitsN c = bitsN n.toNat ∧ w = wr
theorem rlog_any (n : Int) (w : World) (h1 : 0 ≤ n) (h2 : n ≤ 1000000) :
    Calls Tryz.prog 124 #[.int .i64 n] w fun e w' => e = .returned (.int .i64 (logF n)) ∧ Below w.heap.size w w' := by
  have hbn := bitsN_le n.toNat
  obtain ⟨m, rfl⟩ := Int.eq_ofNat_of_zero_le h1
  simp at hbn
  generalize hF : logF m = F
  have HF := Lib.hid hF
  clear hF h1
  have h3 : m ≤ 1000000 := by omega
  clear h2
  go_enter Tryz.func124, Tryz.ntmps124
  go_wp2
  go_loopw [0, 3] (fun a i wr => LogRel m w a i wr) (fun a _ _ => (intOf a).toNat)
  case atStart => exact ⟨m, 0, rfl, h3, rfl, by simp, rfl⟩
  case round =>
    obtain ⟨c, k, rfl, hc, rfl, hs, rfl⟩ := hrel
    have hbc := bitsN_le c
    have hs2 : k + bitsN c = bitsN m := by simpa using hs
    have HS := Lib.hid hs2
    have hk : k ≤ 1000000 := by omega
    clear hs hs2
    by_cases hlt : 1 ≤ c
    · go_wp2
      go_roundw
      case rel => exact ⟨c / 2, k + 1, by simp, by omega, by congr 1; omega, by have := HS.out; have := bitsN_half c hlt; simp; omega, rfl⟩
      case measure => simp [intOf]; omega
    · go_wp2
      go_ret
      refine ⟨ret_int ?_, Below.refl _ _⟩
      have := HS.out
      have e := HF.out
      subst e
      have : bitsN c = 0 := by unfold bitsN; rw [if_pos (by omega)]
      simp [logF]
      omega

def fullB (v k : Int) : Bool := ((onesN v 32 : Nat) : Int) == slotsF k
theorem rfull_any (v k : Int) (w : World) (h1 : 0 ≤ v) :
    Calls Tryz.prog 52 #[.int .u32 v, .int .i64 k] w fun e w' => e = .returned (.bool (fullB v k)) ∧ Below w.heap.size w w' := by
  have H1 := Lib.hid (fun w => rones_any v w h1)
  generalize hz : fullB v k = z
  have HZ := Lib.hid hz
  clear hz h1
  go_enter Tryz.func52, Tryz.ntmps52
  go_wp2_with fail
  refine (H1.out _).mono ?_
  rintro e w1 ⟨rfl, b1⟩
  go_wp2_with fail
  refine (rkslots_any _ _).mono ?_
  rintro e w2 ⟨rfl, b2⟩
  go_wp2_with fail
  go_ret
  exact ⟨ret_bool HZ.out, b1.trans (b2.mono b1.size)⟩

def rightI (k l c : Int) : Bool :=
  if k = 0 then decide (l = 0) && decide (c = 0)
  else if k = 1 ∨ k = 2 then decide (1 ≤ l) && decide (l ≤ 1024) && decide (c = 0)
  else if k = 3 then decide (l = 1) && decide (0 ≤ c) && decide (c ≤ 8) else false
theorem riright_any (k l c : Int) (w : World) :
    Calls Tryz.prog 125 #[.agg #[.int .i64 k, .int .i64 l, .int .i64 c]] w fun e w' => e = .returned (.bool (rightI k l c)) ∧ Below w.heap.size w w' := by
  generalize hF : rightI k l c = F
  have HF := Lib.hid hF
  clear hF
  go_enter Tryz.func125, Tryz.ntmps125
  go_wp2
  all_goals
    go_ret
    refine ⟨ret_bool ?_, by (repeat (first | exact Below.refl _ _ | assumption | refine Below.setCell ?_ (by first | omega | (simp; done) | (simp; omega)) _ | refine Below.alloc ?_ (by first | omega | (simp; done) | (simp; omega)) _ | refine Below.drew ?_ | refine Below.trans ?_ (Below.mono ‹Below _ _ _› (by first | omega | (simp; done) | (simp; omega)))))⟩
    have e := HF.out
    subst e
    clear HF
    rw [Bool.eq_iff_iff]
    simp_all [rightI] <;> omega

end Go.Proofs.YtkhanbedcmmlcaaGreatDoor
/- the document's audit: infos of pages. -/
set_option linter.unusedSimpArgs false
set_option linter.unusedVariables false
namespace Go.Proofs.YtkhanbedcmmlcaaGreatDoor
open Go.RowKit

def okI (v : Int) : Bool := rightI (v % 16) (v / 16 % 4096) (v / 65536)
def iK (v : Int) : Int := if okI v then v % 16 else 0
def iL (v : Int) : Int := if okI v then v / 16 % 4096 else 0
def iC (v : Int) : Int := if okI v then v / 65536 else 0
theorem inf_bd (v : Int) : 0 ≤ iK v ∧ iK v ≤ 3 ∧ 0 ≤ iL v ∧ iL v ≤ 1024 ∧ 0 ≤ iC v ∧ iC v ≤ 8 ∧ (iK v ≠ 0 → okI v = true ∧ 1 ≤ iL v) ∧ (okI v = false → iK v = 0) := by
  unfold iK iL iC
  cases h : okI v
  · simp
  · unfold okI rightI at h
    have h0 := h
    split at h0
    · simp at h0; simp; omega
    · split at h0
      · simp at h0; simp; omega
      · split at h0
        · simp at h0; simp; omega
        · simp at h0

theorem rget9_any (v : Int) (w : World) (h1 : 0 ≤ v) (h2 : v < 4294967296) :
    Calls Tryz.prog 94 #[.int .u32 v] w fun e w' => e = .returned (.tuple #[.agg #[.int .i64 (iK v), .int .i64 (iL v), .int .i64 (iC v)], .bool (okI v)]) ∧ Below w.heap.size w w' := by
  have H := fun w => riright_any (v % 16) (v / 16 % 4096) (v / 65536) w
  have hz : rightI (v % 16) (v / 16 % 4096) (v / 65536) = okI v := rfl
  rw [hz] at H
  have HZ : ∀ z, okI v = z → (iK v = if z then v % 16 else 0) ∧ (iL v = if z then v / 16 % 4096 else 0) ∧ (iC v = if z then v / 65536 else 0) := by
    intro z hz; subst hz; exact ⟨rfl, rfl, rfl⟩
  clear hz
  cases hok : okI v
  · obtain ⟨e1, e2, e3⟩ := HZ _ hok
    simp at e1 e2 e3
    rw [e1, e2, e3]
    rw [hok] at H
    have HH := Lib.hid H
    clear H HZ hok e1 e2 e3
    go_enter Tryz.func94, Tryz.ntmps94
    go_wp2_with fail
    refine (HH.out _).mono ?_
    rintro e w1 ⟨rfl, hb⟩
    obtain ⟨hbc, hbf⟩ := bcell hb
    have z0 : w.heap.size < w1.heap.size := by have := hb.size; simp at this; omega
    have k := fun o => (hbc w.heap.size o (by simp; omega)).trans (loc_old (.cells #[.int .i64 (v % 16), .int .i64 (v / 16 % 4096), .int .i64 (v / 65536)] 40) (by simp) (loc_alloc w #[.int .i64 0, .int .i64 0, .int .i64 0] 40) o)
    have k0 := k 0
    have k1 := k 1
    have k2 := k 2
    simp at k0 k1 k2
    clear k
    go_wp2
    clear hbc hbf
    refine bodyPost_ret (v := .tuple #[.agg #[.int .i64 0, .int .i64 0, .int .i64 0], .bool false]) (by simp [results, Tryz.results94, go_sem, *]) rfl ⟨rfl, ?_⟩
    (repeat (first | exact Below.refl _ _ | assumption | refine Below.setCell ?_ (by first | omega | (simp; done) | (simp; omega)) _ | refine Below.alloc ?_ (by first | omega | (simp; done) | (simp; omega)) _ | refine Below.drew ?_ | refine Below.trans ?_ (Below.mono ‹Below _ _ _› (by first | omega | (simp; done) | (simp; omega)))))
  · obtain ⟨e1, e2, e3⟩ := HZ _ hok
    simp at e1 e2 e3
    rw [e1, e2, e3]
    rw [hok] at H
    have HH := Lib.hid H
    clear H HZ hok e1 e2 e3
    go_enter Tryz.func94, Tryz.ntmps94
    go_wp2_with fail
    refine (HH.out _).mono ?_
    rintro e w1 ⟨rfl, hb⟩
    obtain ⟨hbc, hbf⟩ := bcell hb
    have z0 : w.heap.size < w1.heap.size := by have := hb.size; simp at this; omega
    have z1 : w.heap.size + 1 < w1.heap.size := by have := hb.size; simp at this; omega
    have k := fun o => (hbc w.heap.size o (by simp; omega)).trans (loc_old (.cells #[.int .i64 (v % 16), .int .i64 (v / 16 % 4096), .int .i64 (v / 65536)] 40) (by simp) (loc_alloc w #[.int .i64 0, .int .i64 0, .int .i64 0] 40) o)
    have k0 := k 0
    have k1 := k 1
    have k2 := k 2
    simp at k0 k1 k2
    clear k
    go_wp2
    clear hbc hbf
    refine bodyPost_ret (v := .tuple #[.agg #[.int .i64 (v % 16), .int .i64 (v / 16 % 4096), .int .i64 (v / 65536)], .bool true]) (by simp [results, Tryz.results94, go_sem, *]) rfl ⟨rfl, ?_⟩
    (repeat (first | exact Below.refl _ _ | assumption | refine Below.setCell ?_ (by first | omega | (simp; done) | (simp; omega)) _ | refine Below.alloc ?_ (by first | omega | (simp; done) | (simp; omega)) _ | refine Below.drew ?_ | refine Below.trans ?_ (Below.mono ‹Below _ _ _› (by first | omega | (simp; done) | (simp; omega)))))

section
variable {t p s : Int} {ad : Addr} {n : Nat} {vs : List Int}

set_option maxHeartbeats 800000 in
theorem xinfo_any (q : Int) (c : Nat) (w : World) (h : XV w t p s ad n vs) (h0 : 0 ≤ q) (h1 : q < p) :
    Calls Tryz.prog 51 #[.agg #[.int .i64 t, .int .i64 p, .int .i64 s, .slice (some ad) n c], .int .i64 q] w fun e w' => e = .returned (.agg #[.int .i64 (iK (gv vs t q 0)), .int .i64 (iL (gv vs t q 0)), .int .i64 (iC (gv vs t q 0))]) ∧ Below w.heap.size w w' := by
  obtain ⟨hx1, hx2⟩ := h.cx h0 h1 (part := 0) (by omega) (by omega)
  have hc0 := h.cells _ hx1
  have hgu := h.gu q 0
  have hI := fun w => rinfo_any t p s q w
  rw [hx2] at hI
  have hd : vs.getD (cix t q 0) 0 = gv vs t q 0 := rfl
  rw [hd] at hc0
  generalize gv vs t q 0 = v at *
  have hG := fun w => rget9_any v w hgu.1 hgu.2
  generalize okI v = ok at *
  generalize iK v = a1 at *
  generalize iL v = a2 at *
  generalize iC v = a3 at *
  generalize cix t q 0 = k at *
  have H1 := Lib.hid hI
  have H2 := Lib.hid hG
  clear h hd hgu hI hG hx2
  have hS0 := (((BS.start w).alloc (.cells #[.int .i64 t, .int .i64 p, .int .i64 s, .slice (some ad) n c] 59)).alloc (.cells #[.int .i64 0, .int .i64 0, .int .i64 0] 40))
  simp only [World.size_alloc] at hS0
  go_enter Tryz.func51, Tryz.ntmps51
  go_wp2_with fail
  refine wp_region_noPanic ?_
  refine wp_region_held_drew (S := fun w' => BS w [w.heap.size + 1, w.heap.size] w' ∧ (∀ o : Nat, w'.cell? ⟨w.heap.size, o, none⟩ = (#[.int .i64 t, .int .i64 p, .int .i64 s, .slice (some ad) n c] : Array Value)[o]?) ∧ w'.heap[w.heap.size + 1]? = some (.cells (#[.int .i64 0, .int .i64 0, .int .i64 0]) 40) ∧ w'.cell? (ad.add k) = some (.int .u32 v)) (by kernel_rfl) ?_ (fun hHeld => ?_)
  · exact ⟨hS0.drew, loc_old _ (by simp) (loc_alloc w _ _), hb_alloc _ _ _ (by simp), hS0.drew.old hc0⟩
  refine wT 0 ?_
  refine wT 1 ?_
  refine wT 2 ?_
  refine wT 3 ?_
  refine wT 4 ?_
  refine wpAnyH_ready (rs := [5, 12]) (by kernel_rfl) (by simp) ?_
  refine AllReadyH.cons (o := _) rfl (fun K hK => ?_) (AllReadyH.cons (o := _) rfl (fun K hK => ?_) AllReadyH.nil)
  · go_simp
    refine (calls_b hHeld.1 (H1.out _)).mono ?_
    rintro e wr1 ⟨rfl, hV, hVl⟩
    dsimp only
    refine hK.out _ _ ?_ (fun hHeld2 => ?_)
    · exact ⟨hV, loc_step hVl (by simp) hHeld.2.1, (hVl _ (by simp)).trans hHeld.2.2.1, hV.old hc0⟩
    clear hK K hV hVl hHeld
    have hHeld := hHeld2
    clear hHeld2
    try simp only [Act.put, zA, zB, zC, zD, zE, zF]
    refine wT 6 ?_
    refine wT 7 ?_
    refine wpAnyH_ready (rs := [8, 12]) (by kernel_rfl) (by simp) ?_
    refine AllReadyH.cons (o := _) rfl (fun K hK => ?_) (AllReadyH.cons (o := _) rfl (fun K hK => ?_) AllReadyH.nil)
    · go_simp
      refine (calls_b hHeld.1 (H2.out _)).mono ?_
      rintro e wr2 ⟨rfl, hV, hVl⟩
      dsimp only
      refine hK.out _ _ ?_ (fun hHeld2 => ?_)
      · exact ⟨hV, loc_step hVl (by simp) hHeld.2.1, (hVl _ (by simp)).trans hHeld.2.2.1, hV.old hc0⟩
      clear hK K hV hVl hHeld
      have hHeld := hHeld2
      clear hHeld2
      try simp only [Act.put, zA, zB, zC, zD, zE, zF]
      refine wT 9 ?_
      refine wT 10 ?_
      refine wT 11 ?_
      refine wR 12 fun K hK => ?_
      have hP := hHeld
      have hA := hHeld.1.allocd (#[.int .i64 0, .int .i64 0, .int .i64 0]) 40
      try simp only [World.size_drew] at hA
      try simp only [World.size_alloc] at hA
      go_simp
      refine hK.out _ _ ?_ (fun hHeld2 => ?_)
      · exact ⟨hA.bs.sub _ (by simp), loc_old _ (hHeld.1.ls _ (by simp)).1 hHeld.2.1, (heap_alloc_old _ _ (hHeld.1.ls _ (by simp)).1).trans hHeld.2.2.1, hA.bs.old hc0⟩
      clear hK K hHeld
      have hHeld := hHeld2
      clear hHeld2
      try simp only [Act.put, zA, zB, zC, zD, zE, zF]
      refine wR 13 fun K hK => ?_
      go_simp
      have hA2 := (hP.1).allocd (#[.int .i64 a1 , .int .i64 a2 , .int .i64 a3]) 40
      refine hK.out _ _ ?_ (fun hHeld2 => ?_)
      try simp only [World.size_drew] at hA2
      try simp only [World.size_alloc] at hA2
      · exact ⟨hA2.bs.sub _ (by simp), loc_old _ ((hP.1).ls _ (by simp)).1 hP.2.1, (heap_alloc_old _ _ ((hP.1).ls _ (by simp)).1).trans hP.2.2.1, hA2.bs.old hc0⟩
      clear hA hP
      have hA := hA2
      clear hA2 hHeld
      have hHeld := hHeld2
      clear hHeld2
      clear hK K
      try simp only [Act.put, zA, zB, zC, zD, zE, zF]
      refine wT 14 ?_
      refine wpAnyH_done (by kernel_rfl) (NoPanic.normal ?_) _
      refine world_gen ?_
      intro wz hwz
      rw [← hwz] at hHeld hA
      clear hwz
      obtain ⟨⟨q0, q1, q2⟩, f0, f1, f2, z1, z2, bel⟩ := hA.cells3
      obtain ⟨⟨r0, r1, r2⟩, g0, g1, g2⟩ := cells3 hHeld.2.2.1
      have y1 := hA.ne (w.heap.size + 1) (by simp)
      have y2 := (hHeld.1.ls (w.heap.size + 1) (by simp)).1
      clear hHeld hA H1 H2 hS0 hc0
      go_wp2
      refine bodyPost_ret (v := .agg #[.int .i64 a1, .int .i64 a2, .int .i64 a3]) (by simp [results, Tryz.results51, go_sem, *]) rfl ⟨rfl, ?_⟩
      exact (bel.setCell (by simp) _ |>.setCell (by simp) _ |>.setCell (by simp) _)
    · have hP := hHeld
      have hA := hHeld.1.allocd (#[.int .i64 0, .int .i64 0, .int .i64 0]) 40
      try simp only [World.size_drew] at hA
      try simp only [World.size_alloc] at hA
      go_simp
      refine hK.out _ _ ?_ (fun hHeld2 => ?_)
      · exact ⟨hA.bs.sub _ (by simp), loc_old _ (hHeld.1.ls _ (by simp)).1 hHeld.2.1, (heap_alloc_old _ _ (hHeld.1.ls _ (by simp)).1).trans hHeld.2.2.1, hA.bs.old hc0⟩
      clear hK K hHeld
      have hHeld := hHeld2
      clear hHeld2
      try simp only [Act.put, zA, zB, zC, zD, zE, zF]
      refine wR 8 fun K hK => ?_
      go_simp
      refine (calls_b hA.bs (H2.out _)).mono ?_
      rintro e wr3 ⟨rfl, hV, hVl⟩
      have hAn := hA.step hV hVl
      dsimp only
      refine hK.out _ _ ?_ (fun hHeld2 => ?_)
      · exact ⟨hV.sub _ (by simp), loc_step hVl (by simp) hHeld.2.1, (hVl _ (by simp)).trans hHeld.2.2.1, hV.old hc0⟩
      clear hK K hV hVl hHeld hA hP
      have hA := hAn
      have hP := trivial
      clear hAn
      have hHeld := hHeld2
      clear hHeld2
      try simp only [Act.put, zA, zB, zC, zD, zE, zF]
      refine wT 9 ?_
      refine wT 10 ?_
      refine wT 11 ?_
      refine wR 13 fun K hK => ?_
      have kc0 := (cell?_of_heap (o := 0) hA.box)
      have kc1 := (cell?_of_heap (o := 1) hA.box)
      have kc2 := (cell?_of_heap (o := 2) hA.box)
      simp at kc0 kc1 kc2
      have kf0 := frozen?_of_heap (o := 0) hA.box
      have kf1 := frozen?_of_heap (o := 1) hA.box
      have kf2 := frozen?_of_heap (o := 2) hA.box
      go_simp
      refine hK.out _ _ ?_ (fun hHeld2 => ?_)
      · exact ⟨(((hA.set 0 _).set 1 _).set 2 _).bs.sub _ (by simp), (((hA.set 0 _).set 1 _).loc (by simp) 2 _ ((hA.set 0 _).loc (by simp) 1 _ (hA.loc (by simp) 0 _ hHeld.2.1))), (((hA.set 0 _).set 1 _).hloc (by simp) 2 _ ((hA.set 0 _).hloc (by simp) 1 _ (hA.hloc (by simp) 0 _ hHeld.2.2.1))), (((hA.set 0 _).set 1 _).set 2 _).bs.old hc0⟩
      have hA2 : BA w [w.heap.size + 1, w.heap.size] _ (#[.int .i64 a1 , .int .i64 a2 , .int .i64 a3]) 40 _ := (((hA.set 0 (.int .i64 a1)).set 1 (.int .i64 a2)).set 2 (.int .i64 a3))
      clear kc0 kf0 kc1 kf1 kc2 kf2 hA hP
      have hA := hA2
      clear hA2 hHeld
      have hHeld := hHeld2
      clear hHeld2
      clear hK K
      try simp only [Act.put, zA, zB, zC, zD, zE, zF]
      refine wT 14 ?_
      refine wpAnyH_done (by kernel_rfl) (NoPanic.normal ?_) _
      refine world_gen ?_
      intro wz hwz
      rw [← hwz] at hHeld hA
      clear hwz
      obtain ⟨⟨q0, q1, q2⟩, f0, f1, f2, z1, z2, bel⟩ := hA.cells3
      obtain ⟨⟨r0, r1, r2⟩, g0, g1, g2⟩ := cells3 hHeld.2.2.1
      have y1 := hA.ne (w.heap.size + 1) (by simp)
      have y2 := (hHeld.1.ls (w.heap.size + 1) (by simp)).1
      clear hHeld hA H1 H2 hS0 hc0
      go_wp2
      refine bodyPost_ret (v := .agg #[.int .i64 a1, .int .i64 a2, .int .i64 a3]) (by simp [results, Tryz.results51, go_sem, *]) rfl ⟨rfl, ?_⟩
      exact (bel.setCell (by simp) _ |>.setCell (by simp) _ |>.setCell (by simp) _)
  · have hP := hHeld
    have hA := hHeld.1.allocd (#[.int .i64 0, .int .i64 0, .int .i64 0]) 40
    try simp only [World.size_drew] at hA
    try simp only [World.size_alloc] at hA
    go_simp
    refine hK.out _ _ ?_ (fun hHeld2 => ?_)
    · exact ⟨hA.bs.sub _ (by simp), loc_old _ (hHeld.1.ls _ (by simp)).1 hHeld.2.1, (heap_alloc_old _ _ (hHeld.1.ls _ (by simp)).1).trans hHeld.2.2.1, hA.bs.old hc0⟩
    clear hK K hHeld
    have hHeld := hHeld2
    clear hHeld2
    try simp only [Act.put, zA, zB, zC, zD, zE, zF]
    refine wR 5 fun K hK => ?_
    go_simp
    refine (calls_b hA.bs (H1.out _)).mono ?_
    rintro e wr4 ⟨rfl, hV, hVl⟩
    have hAn := hA.step hV hVl
    dsimp only
    refine hK.out _ _ ?_ (fun hHeld2 => ?_)
    · exact ⟨hV.sub _ (by simp), loc_step hVl (by simp) hHeld.2.1, (hVl _ (by simp)).trans hHeld.2.2.1, hV.old hc0⟩
    clear hK K hV hVl hHeld hA hP
    have hA := hAn
    have hP := trivial
    clear hAn
    have hHeld := hHeld2
    clear hHeld2
    try simp only [Act.put, zA, zB, zC, zD, zE, zF]
    refine wT 6 ?_
    refine wT 7 ?_
    refine wR 8 fun K hK => ?_
    go_simp
    refine (calls_b hA.bs (H2.out _)).mono ?_
    rintro e wr5 ⟨rfl, hV, hVl⟩
    have hAn := hA.step hV hVl
    dsimp only
    refine hK.out _ _ ?_ (fun hHeld2 => ?_)
    · exact ⟨hV.sub _ (by simp), loc_step hVl (by simp) hHeld.2.1, (hVl _ (by simp)).trans hHeld.2.2.1, hV.old hc0⟩
    clear hK K hV hVl hHeld hA hP
    have hA := hAn
    have hP := trivial
    clear hAn
    have hHeld := hHeld2
    clear hHeld2
    try simp only [Act.put, zA, zB, zC, zD, zE, zF]
    refine wT 9 ?_
    refine wT 10 ?_
    refine wT 11 ?_
    refine wR 13 fun K hK => ?_
    have kc0 := (cell?_of_heap (o := 0) hA.box)
    have kc1 := (cell?_of_heap (o := 1) hA.box)
    have kc2 := (cell?_of_heap (o := 2) hA.box)
    simp at kc0 kc1 kc2
    have kf0 := frozen?_of_heap (o := 0) hA.box
    have kf1 := frozen?_of_heap (o := 1) hA.box
    have kf2 := frozen?_of_heap (o := 2) hA.box
    go_simp
    refine hK.out _ _ ?_ (fun hHeld2 => ?_)
    · exact ⟨(((hA.set 0 _).set 1 _).set 2 _).bs.sub _ (by simp), (((hA.set 0 _).set 1 _).loc (by simp) 2 _ ((hA.set 0 _).loc (by simp) 1 _ (hA.loc (by simp) 0 _ hHeld.2.1))), (((hA.set 0 _).set 1 _).hloc (by simp) 2 _ ((hA.set 0 _).hloc (by simp) 1 _ (hA.hloc (by simp) 0 _ hHeld.2.2.1))), (((hA.set 0 _).set 1 _).set 2 _).bs.old hc0⟩
    have hA2 : BA w [w.heap.size + 1, w.heap.size] _ (#[.int .i64 a1 , .int .i64 a2 , .int .i64 a3]) 40 _ := (((hA.set 0 (.int .i64 a1)).set 1 (.int .i64 a2)).set 2 (.int .i64 a3))
    clear kc0 kf0 kc1 kf1 kc2 kf2 hA hP
    have hA := hA2
    clear hA2 hHeld
    have hHeld := hHeld2
    clear hHeld2
    clear hK K
    try simp only [Act.put, zA, zB, zC, zD, zE, zF]
    refine wT 14 ?_
    refine wpAnyH_done (by kernel_rfl) (NoPanic.normal ?_) _
    refine world_gen ?_
    intro wz hwz
    rw [← hwz] at hHeld hA
    clear hwz
    obtain ⟨⟨q0, q1, q2⟩, f0, f1, f2, z1, z2, bel⟩ := hA.cells3
    obtain ⟨⟨r0, r1, r2⟩, g0, g1, g2⟩ := cells3 hHeld.2.2.1
    have y1 := hA.ne (w.heap.size + 1) (by simp)
    have y2 := (hHeld.1.ls (w.heap.size + 1) (by simp)).1
    clear hHeld hA H1 H2 hS0 hc0
    go_wp2
    refine bodyPost_ret (v := .agg #[.int .i64 a1, .int .i64 a2, .int .i64 a3]) (by simp [results, Tryz.results51, go_sem, *]) rfl ⟨rfl, ?_⟩
    exact (bel.setCell (by simp) _ |>.setCell (by simp) _ |>.setCell (by simp) _)
end
end Go.Proofs.YtkhanbedcmmlcaaGreatDoor
/- the document's audit: the bits of pages, the starts of spans. -/
set_option linter.unusedSimpArgs false
set_option linter.unusedVariables false
namespace Go.Proofs.YtkhanbedcmmlcaaGreatDoor
open Go.RowKit
section
variable {t p s : Int} {ad : Addr} {n : Nat} {vs : List Int}

theorem xslots_any (q : Int) (c : Nat) (w : World) (h : XV w t p s ad n vs) (h0 : 0 ≤ q) (h1 : q < p) :
    Calls Tryz.prog 80 #[.agg #[.int .i64 t, .int .i64 p, .int .i64 s, .slice (some ad) n c], .int .i64 q] w fun e w' => e = .returned (.int .u32 (gv vs t q 4)) ∧ Below w.heap.size w w' := by
  obtain ⟨hx1, hx2⟩ := h.cx h0 h1 (part := 4) (by omega) (by omega)
  have hc0 := h.cells _ hx1
  have hI := fun w => rslots_any t p s q w
  rw [hx2] at hI
  have hd : vs.getD (cix t q 4) 0 = gv vs t q 4 := rfl
  rw [hd] at hc0
  generalize gv vs t q 4 = v at *
  generalize cix t q 4 = k at *
  have H1 := Lib.hid hI
  clear h hd hI hx2
  have hS0 := ((BS.start w).alloc (.cells #[.int .i64 t, .int .i64 p, .int .i64 s, .slice (some ad) n c] 59))
  go_enter Tryz.func80, Tryz.ntmps80
  go_wp2_with fail
  refine wp_region_noPanic ?_
  refine wp_region_held_drew (S := fun w' => BS w [w.heap.size] w' ∧ (∀ o : Nat, w'.cell? ⟨w.heap.size, o, none⟩ = (#[.int .i64 t, .int .i64 p, .int .i64 s, .slice (some ad) n c] : Array Value)[o]?) ∧ w'.cell? (ad.add k) = some (.int .u32 v)) (by kernel_rfl) ?_ (fun hHeld => ?_)
  · exact ⟨hS0.drew, (loc_alloc w _ _), hS0.drew.old hc0⟩
  refine wT 0 ?_
  refine wT 1 ?_
  refine wT 2 ?_
  refine wT 3 ?_
  refine wT 4 ?_
  refine wR 5 fun K hK => ?_
  go_simp
  refine (calls_b hHeld.1 (H1.out _)).mono ?_
  rintro e wr1 ⟨rfl, hV, hVl⟩
  dsimp only
  refine hK.out _ _ ?_ (fun hHeld2 => ?_)
  · exact ⟨hV, loc_step hVl (by simp) hHeld.2.1, hV.old hc0⟩
  clear hK K hV hVl hHeld
  have hHeld := hHeld2
  clear hHeld2
  try simp only [Act.put, zA, zB, zC, zD, zE, zF]
  refine wT 6 ?_
  refine wT 7 ?_
  refine wT 8 ?_
  refine wpAnyH_done (by kernel_rfl) (NoPanic.normal ?_) _
  refine world_gen ?_
  intro wz hwz
  rw [← hwz] at hHeld
  clear hwz
  have bel := hHeld.1.bel
  clear hHeld hS0 hc0 H1
  go_wp2
  go_ret
  exact ⟨rfl, bel⟩

theorem xtaken_any (q : Int) (c : Nat) (w : World) (h : XV w t p s ad n vs) (h0 : 0 ≤ q) (h1 : q < p) :
    Calls Tryz.prog 53 #[.agg #[.int .i64 t, .int .i64 p, .int .i64 s, .slice (some ad) n c], .int .i64 q] w fun e w' => e = .returned (.int .u32 (gv vs t q 5)) ∧ Below w.heap.size w w' := by
  obtain ⟨hx1, hx2⟩ := h.cx h0 h1 (part := 5) (by omega) (by omega)
  have hc0 := h.cells _ hx1
  have hI := fun w => rtaken_any t p s q w
  rw [hx2] at hI
  have hd : vs.getD (cix t q 5) 0 = gv vs t q 5 := rfl
  rw [hd] at hc0
  generalize gv vs t q 5 = v at *
  generalize cix t q 5 = k at *
  have H1 := Lib.hid hI
  clear h hd hI hx2
  have hS0 := ((BS.start w).alloc (.cells #[.int .i64 t, .int .i64 p, .int .i64 s, .slice (some ad) n c] 59))
  go_enter Tryz.func53, Tryz.ntmps53
  go_wp2_with fail
  refine wp_region_noPanic ?_
  refine wp_region_held_drew (S := fun w' => BS w [w.heap.size] w' ∧ (∀ o : Nat, w'.cell? ⟨w.heap.size, o, none⟩ = (#[.int .i64 t, .int .i64 p, .int .i64 s, .slice (some ad) n c] : Array Value)[o]?) ∧ w'.cell? (ad.add k) = some (.int .u32 v)) (by kernel_rfl) ?_ (fun hHeld => ?_)
  · exact ⟨hS0.drew, (loc_alloc w _ _), hS0.drew.old hc0⟩
  refine wT 0 ?_
  refine wT 1 ?_
  refine wT 2 ?_
  refine wT 3 ?_
  refine wT 4 ?_
  refine wR 5 fun K hK => ?_
  go_simp
  refine (calls_b hHeld.1 (H1.out _)).mono ?_
  rintro e wr1 ⟨rfl, hV, hVl⟩
  dsimp only
  refine hK.out _ _ ?_ (fun hHeld2 => ?_)
  · exact ⟨hV, loc_step hVl (by simp) hHeld.2.1, hV.old hc0⟩
  clear hK K hV hVl hHeld
  have hHeld := hHeld2
  clear hHeld2
  try simp only [Act.put, zA, zB, zC, zD, zE, zF]
  refine wT 6 ?_
  refine wT 7 ?_
  refine wT 8 ?_
  refine wpAnyH_done (by kernel_rfl) (NoPanic.normal ?_) _
  refine world_gen ?_
  intro wz hwz
  rw [← hwz] at hHeld
  clear hwz
  have bel := hHeld.1.bel
  clear hHeld hS0 hc0 H1
  go_wp2
  go_ret
  exact ⟨rfl, bel⟩

/-- a new row of numbers comes back. -/
def RowP (w : World) (l : List Int) (v : Value) (w' : World) : Prop :=
  w'.ownsRow 0 3 1 v l.length (ints l) ∧ (∀ k, v.ownBlock = some k → w.heap.size ≤ k) ∧ Below w.heap.size w w'

def startsL (g : Int → Int) (p : Int) : Nat → Int → List Int → List Int × Bool
  | 0, a, out => (out, a == p)
  | f + 1, a, out => if a < p then (if okI (g a) = false ∨ iK (g a) = 0 then ([], false) else startsL g p f (a + iL (g a)) (out ++ [a])) else (out, a == p)
def startsF (g : Int → Int) (p : Int) : List Int × Bool := startsL g p (p.toNat + 1) 0 []

structure StRel (w : World) (g : Int → Int) (t p s : Int) (sl : Value) (res : List Int × Bool) (v4 v5 : Value) (wr : World) (out : List Int) (a : Int) : Prop where
  ha : v5 = .int .i64 a
  a0 : 0 ≤ a
  a1 : a ≤ p + 1024
  row : wr.ownsRow 0 3 1 v4 out.length (ints out)
  bs : BS w (w.heap.size :: v4.ownBlock.toList) wr
  box : ∀ o : Nat, wr.cell? ⟨w.heap.size, o, none⟩ = (#[.int .i64 t, .int .i64 p, .int .i64 s, sl] : Array Value)[o]?
  le : (out.length : Int) ≤ a ∧ (out.length : Int) ≤ p
  res : startsL g p (p.toNat + 1 - out.length) a out = res
  far : ∀ k, v4.ownBlock = some k → w.heap.size < k
def StRelE (w : World) (g : Int → Int) (t p s : Int) (sl : Value) (res : List Int × Bool) (v4 v5 : Value) (wr : World) : Prop := ∃ out a, StRel w g t p s sl res v4 v5 wr out a

set_option maxHeartbeats 2000000 in
set_option maxRecDepth 100000 in
theorem starts_any (c : Nat) (w : World) (h : XV w t p s ad n vs) :
    Calls Tryz.prog 76 #[.agg #[.int .i64 t, .int .i64 p, .int .i64 s, .slice (some ad) n c]] w fun e w' => ∃ v, e = .returned (.tuple #[v, .bool (startsF (fun q => gv vs t q 0) p).2]) ∧ RowP w (startsF (fun q => gv vs t q 0) p).1 v w' := by
  have r0 := row_empty (w.alloc (.cells #[.int .i64 t, .int .i64 p, .int .i64 s, .slice (some ad) n c] 59)) 3 1
  have hS0 := ((BS.start w).alloc (.cells #[.int .i64 t, .int .i64 p, .int .i64 s, .slice (some ad) n c] 59)).alloc (.cells #[] 3)
  have d0 := loc_old (.cells #[] 3) (by simp) (loc_alloc w #[.int .i64 t, .int .i64 p, .int .i64 s, .slice (some ad) n c] 59)
  simp only [World.size_alloc] at hS0 r0
  have bd : 4 ≤ p ∧ p ≤ 1024 := by have := h.bd; omega
  have hres0 : startsL (fun q => gv vs t q 0) p (p.toNat + 1) 0 [] = startsF (fun q => gv vs t q 0) p := rfl
  have HX : ∀ q, 0 ≤ q → q < p → ∃ k : Nat, k < n ∧ (∀ w, Calls Tryz.prog 77 #[.agg #[.int .i64 t, .int .i64 p, .int .i64 s], .int .i64 q] w fun e w' => e = .returned (.int .i64 k) ∧ Below w.heap.size w w') ∧ w.cell? (ad.add k) = some (.int .u32 (gv vs t q 0)) ∧ 0 ≤ gv vs t q 0 ∧ gv vs t q 0 < 4294967296 := by
    intro q h0 h1
    obtain ⟨hx1, hx2⟩ := h.cx h0 h1 (part := 0) (by omega) (by omega)
    refine ⟨cix t q 0, hx1, fun w => ?_, h.cells _ hx1, h.gu q 0⟩
    have := rinfo_any t p s q w
    rwa [hx2] at this
  clear h
  obtain ⟨g, hg⟩ : ∃ g : Int → Int, g = fun q => gv vs t q 0 := ⟨_, rfl⟩
  have HG : ∀ q, gv vs t q 0 = g q := fun q => by rw [hg]
  rw [← hg] at hres0 ⊢
  simp only [HG] at HX
  have HXX := Lib.hid HX
  clear HX HG hg
  generalize hRs : startsF g p = rs at *
  obtain ⟨rl, rb⟩ := rs
  obtain ⟨i0, hi0, hi1, hi2, hi3⟩ := info_parts infoInt
  have HI := Lib.hid (And.intro hi0 (And.intro hi1 (And.intro hi2 hi3)))
  clear hi0 hi1 hi2 hi3 hRs
  have HR0 := Lib.hid hres0
  clear hres0
  go_enter Tryz.func76, Tryz.ntmps76
  go_wp2_with fail
  go_loopw [4, 5, 6, 7] (fun v4 v5 _ _ wr => StRelE w g t p s (.slice (some ad) n c) (rl, rb) v4 v5 wr) (fun v4 _ _ _ _ => p.toNat - lenS v4)
  case atStart => exact ⟨[], 0, rfl, by omega, by omega, r0, hS0.sub _ (by simp [Value.ownBlock]), d0, by simp; omega, by simpa using HR0.out, by simp [Value.ownBlock]⟩
  case round =>
    obtain ⟨out, a, hr⟩ := hrel
    obtain ⟨rfl, a0, a1, hrow, hbs, hbox, hle, hrs, hfar⟩ := hr
    have hlen : ∃ a m c, u4 = .slice a m c ∧ m = out.length := by
      rcases hrow.2 with ⟨h5, h6⟩ | ⟨g', cap', cur, h5, -⟩
      · exact ⟨_, _, _, h5, h6.symm⟩
      · exact ⟨_, _, _, h5, rfl⟩
    obtain ⟨pa, pm, pc, rfl, rfl⟩ := hlen
    have hlt0 := (hbs.ls w.heap.size (by simp)).1
    have HB := Lib.hid hbs
    have HF := Lib.hid hfar
    have HS := Lib.hid hrs
    have HRow := Lib.hid hrow
    have HBox := Lib.hid hbox
    have b0 := hbox 0
    have b1 := hbox 1
    have b2 := hbox 2
    have b3 := hbox 3
    simp at b0 b1 b2 b3
    clear hS0 r0 d0 HR0 hbs hfar hrs hrow hbox
    by_cases hlt : a < p
    · obtain ⟨k, hkn, hI, hc0, hg0, hg1⟩ := HXX.out a a0 hlt
      clear HXX
      have hc1 := HB.out.old hc0
      have bd9 := inf_bd (g a)
      have HG9 := Lib.hid (fun w => rget9_any (g a) w hg0 hg1)
      have HI9 := Lib.hid hI
      have hs2 : (if okI (g a) = false ∨ iK (g a) = 0 then ([], false) else startsL g p (p.toNat + 1 - (out ++ [a]).length) (a + iL (g a)) (out ++ [a])) = (rl, rb) := by
        have e0 := HS.out
        have e1 : p.toNat + 1 - out.length = (p.toNat - out.length) + 1 := by omega
        rw [e1] at e0
        have e2 : p.toNat + 1 - (out ++ [a]).length = p.toNat - out.length := by rw [List.length_append, List.length_singleton]; omega
        rw [e2]
        simpa [startsL, hlt] using e0
      clear HS hc0 hI b2 b3
      generalize okI (g a) = ok at *
      generalize iK (g a) = y1 at *
      generalize iL (g a) = y2 at *
      generalize iC (g a) = y3 at *
      generalize g a = v at *
      obtain ⟨k1, k2, k3, k4, k5, k6, k7, k8⟩ := bd9
      cases ok
      · have hs3 : ([], false) = (rl, rb) := by simpa using hs2
        obtain ⟨rfl, rfl⟩ := Prod.mk.inj hs3
        clear hs2 hs3 k1 k2 k3 k4 k5 k6 k7 k8
        go_wp2_with fail
        refine wp_region_noPanic ?_
        refine wp_region_held_drew (S := fun w' => BS wr ([] : List Nat) w' ∧ (∀ o : Nat, w'.cell? ⟨w.heap.size, o, none⟩ = (#[.int .i64 t, .int .i64 p, .int .i64 s, .slice (some ad) n c] : Array Value)[o]?) ∧ w'.cell? (ad.add k) = some (.int .u32 v)) (by kernel_rfl) ?_ (fun hHeld => ?_)
        · exact ⟨(BS.start wr).drew, HBox.out, hc1⟩
        refine wT 0 ?_
        refine wT 1 ?_
        refine wT 2 ?_
        refine wT 3 ?_
        refine wT 4 ?_
        refine wpAnyH_ready (rs := [5, 12]) (by kernel_rfl) (by simp) ?_
        refine AllReadyH.cons (o := _) rfl (fun K hK => ?_) (AllReadyH.cons (o := _) rfl (fun K hK => ?_) AllReadyH.nil)
        · go_simp
          refine (calls_b hHeld.1 (HI9.out _)).mono ?_
          rintro e wr1 ⟨rfl, hV, hVl⟩
          dsimp only
          refine hK.out _ _ ?_ (fun hHeld2 => ?_)
          · exact ⟨hV, hV.oldbox HBox.out hlt0, hV.old hc1⟩
          clear hK K hV hVl hHeld
          have hHeld := hHeld2
          clear hHeld2
          try simp only [Act.put, zA, zB, zC, zD, zE, zF]
          refine wT 6 ?_
          refine wT 7 ?_
          refine wpAnyH_ready (rs := [8, 12]) (by kernel_rfl) (by simp) ?_
          refine AllReadyH.cons (o := _) rfl (fun K hK => ?_) (AllReadyH.cons (o := _) rfl (fun K hK => ?_) AllReadyH.nil)
          · go_simp
            refine (calls_b hHeld.1 (HG9.out _)).mono ?_
            rintro e wr2 ⟨rfl, hV, hVl⟩
            dsimp only
            refine hK.out _ _ ?_ (fun hHeld2 => ?_)
            · exact ⟨hV, hV.oldbox HBox.out hlt0, hV.old hc1⟩
            clear hK K hV hVl hHeld
            have hHeld := hHeld2
            clear hHeld2
            try simp only [Act.put, zA, zB, zC, zD, zE, zF]
            refine wT 9 ?_
            refine wT 10 ?_
            refine wT 11 ?_
            refine wR 12 fun K hK => ?_
            have hP := hHeld
            have hA := hHeld.1.allocd (#[.int .i64 0, .int .i64 0, .int .i64 0]) 40
            try simp only [World.size_drew] at hA
            try simp only [World.size_alloc] at hA
            go_simp
            refine hK.out _ _ ?_ (fun hHeld2 => ?_)
            · exact ⟨hA.bs.sub _ (by simp), hA.bs.oldbox HBox.out hlt0, hA.bs.old hc1⟩
            clear hK K hHeld
            have hHeld := hHeld2
            clear hHeld2
            try simp only [Act.put, zA, zB, zC, zD, zE, zF]
            refine wR 13 fun K hK => ?_
            go_simp
            have hA2 := (hP.1).allocd (#[.int .i64 y1 , .int .i64 y2 , .int .i64 y3]) 40
            refine hK.out _ _ ?_ (fun hHeld2 => ?_)
            try simp only [World.size_drew] at hA2
            try simp only [World.size_alloc] at hA2
            · exact ⟨hA2.bs.sub _ (by simp), hA2.bs.oldbox HBox.out hlt0, hA2.bs.old hc1⟩
            clear hA hP
            have hA := hA2
            clear hA2 hHeld
            have hHeld := hHeld2
            clear hHeld2
            clear hK K
            try simp only [Act.put, zA, zB, zC, zD, zE, zF]
            refine wT 14 ?_
            refine wpAnyH_done (by kernel_rfl) (NoPanic.normal ?_) _
            refine world_gen ?_
            intro wz hwz
            rw [← hwz] at hHeld hA
            clear hwz
            have rz := hHeld.1.row HRow.out
            have bz0 := hHeld.2.1 0
            have bz1 := hHeld.2.1 1
            simp at bz0 bz1
            have hne := hA.bs.ls
            have hbz := HB.out.below hA.bs.bel
            obtain ⟨⟨q0, q1, q2⟩, f0, f1, f2, z1, z2, bel⟩ := hA.cells3
            clear hHeld hA hne
            go_wp2
            refine bodyPost_ret (v := .tuple #[.slice none 0 0, .bool false]) (by simp [results, Tryz.results76, go_sem, *]) rfl ⟨_, rfl, World.ownsRow_nil _ _ _ _, by simp [Value.ownBlock], hbz.bel⟩
          · have hP := hHeld
            have hA := hHeld.1.allocd (#[.int .i64 0, .int .i64 0, .int .i64 0]) 40
            try simp only [World.size_drew] at hA
            try simp only [World.size_alloc] at hA
            go_simp
            refine hK.out _ _ ?_ (fun hHeld2 => ?_)
            · exact ⟨hA.bs.sub _ (by simp), hA.bs.oldbox HBox.out hlt0, hA.bs.old hc1⟩
            clear hK K hHeld
            have hHeld := hHeld2
            clear hHeld2
            try simp only [Act.put, zA, zB, zC, zD, zE, zF]
            refine wR 8 fun K hK => ?_
            go_simp
            refine (calls_b hA.bs (HG9.out _)).mono ?_
            rintro e wr3 ⟨rfl, hV, hVl⟩
            have hAn := hA.step hV hVl
            dsimp only
            refine hK.out _ _ ?_ (fun hHeld2 => ?_)
            · exact ⟨hV.sub _ (by simp), hV.oldbox HBox.out hlt0, hV.old hc1⟩
            clear hK K hV hVl hHeld hA hP
            have hA := hAn
            have hP := trivial
            clear hAn
            have hHeld := hHeld2
            clear hHeld2
            try simp only [Act.put, zA, zB, zC, zD, zE, zF]
            refine wT 9 ?_
            refine wT 10 ?_
            refine wT 11 ?_
            refine wR 13 fun K hK => ?_
            have kc0 := (cell?_of_heap (o := 0) hA.box)
            have kc1 := (cell?_of_heap (o := 1) hA.box)
            have kc2 := (cell?_of_heap (o := 2) hA.box)
            simp at kc0 kc1 kc2
            have kf0 := frozen?_of_heap (o := 0) hA.box
            have kf1 := frozen?_of_heap (o := 1) hA.box
            have kf2 := frozen?_of_heap (o := 2) hA.box
            go_simp
            refine hK.out _ _ ?_ (fun hHeld2 => ?_)
            · exact ⟨(((hA.set 0 _).set 1 _).set 2 _).bs.sub _ (by simp), (((hA.set 0 _).set 1 _).set 2 _).bs.oldbox HBox.out hlt0, (((hA.set 0 _).set 1 _).set 2 _).bs.old hc1⟩
            have hA2 : BA wr ([] : List Nat) _ (#[.int .i64 y1 , .int .i64 y2 , .int .i64 y3]) 40 _ := (((hA.set 0 (.int .i64 y1)).set 1 (.int .i64 y2)).set 2 (.int .i64 y3))
            clear kc0 kf0 kc1 kf1 kc2 kf2 hA hP
            have hA := hA2
            clear hA2 hHeld
            have hHeld := hHeld2
            clear hHeld2
            clear hK K
            try simp only [Act.put, zA, zB, zC, zD, zE, zF]
            refine wT 14 ?_
            refine wpAnyH_done (by kernel_rfl) (NoPanic.normal ?_) _
            refine world_gen ?_
            intro wz hwz
            rw [← hwz] at hHeld hA
            clear hwz
            have rz := hHeld.1.row HRow.out
            have bz0 := hHeld.2.1 0
            have bz1 := hHeld.2.1 1
            simp at bz0 bz1
            have hne := hA.bs.ls
            have hbz := HB.out.below hA.bs.bel
            obtain ⟨⟨q0, q1, q2⟩, f0, f1, f2, z1, z2, bel⟩ := hA.cells3
            clear hHeld hA hne
            go_wp2
            refine bodyPost_ret (v := .tuple #[.slice none 0 0, .bool false]) (by simp [results, Tryz.results76, go_sem, *]) rfl ⟨_, rfl, World.ownsRow_nil _ _ _ _, by simp [Value.ownBlock], hbz.bel⟩
        · have hP := hHeld
          have hA := hHeld.1.allocd (#[.int .i64 0, .int .i64 0, .int .i64 0]) 40
          try simp only [World.size_drew] at hA
          try simp only [World.size_alloc] at hA
          go_simp
          refine hK.out _ _ ?_ (fun hHeld2 => ?_)
          · exact ⟨hA.bs.sub _ (by simp), hA.bs.oldbox HBox.out hlt0, hA.bs.old hc1⟩
          clear hK K hHeld
          have hHeld := hHeld2
          clear hHeld2
          try simp only [Act.put, zA, zB, zC, zD, zE, zF]
          refine wR 5 fun K hK => ?_
          go_simp
          refine (calls_b hA.bs (HI9.out _)).mono ?_
          rintro e wr4 ⟨rfl, hV, hVl⟩
          have hAn := hA.step hV hVl
          dsimp only
          refine hK.out _ _ ?_ (fun hHeld2 => ?_)
          · exact ⟨hV.sub _ (by simp), hV.oldbox HBox.out hlt0, hV.old hc1⟩
          clear hK K hV hVl hHeld hA hP
          have hA := hAn
          have hP := trivial
          clear hAn
          have hHeld := hHeld2
          clear hHeld2
          try simp only [Act.put, zA, zB, zC, zD, zE, zF]
          refine wT 6 ?_
          refine wT 7 ?_
          refine wR 8 fun K hK => ?_
          go_simp
          refine (calls_b hA.bs (HG9.out _)).mono ?_
          rintro e wr5 ⟨rfl, hV, hVl⟩
          have hAn := hA.step hV hVl
          dsimp only
          refine hK.out _ _ ?_ (fun hHeld2 => ?_)
          · exact ⟨hV.sub _ (by simp), hV.oldbox HBox.out hlt0, hV.old hc1⟩
          clear hK K hV hVl hHeld hA hP
          have hA := hAn
          have hP := trivial
          clear hAn
          have hHeld := hHeld2
          clear hHeld2
          try simp only [Act.put, zA, zB, zC, zD, zE, zF]
          refine wT 9 ?_
          refine wT 10 ?_
          refine wT 11 ?_
          refine wR 13 fun K hK => ?_
          have kc0 := (cell?_of_heap (o := 0) hA.box)
          have kc1 := (cell?_of_heap (o := 1) hA.box)
          have kc2 := (cell?_of_heap (o := 2) hA.box)
          simp at kc0 kc1 kc2
          have kf0 := frozen?_of_heap (o := 0) hA.box
          have kf1 := frozen?_of_heap (o := 1) hA.box
          have kf2 := frozen?_of_heap (o := 2) hA.box
          go_simp
          refine hK.out _ _ ?_ (fun hHeld2 => ?_)
          · exact ⟨(((hA.set 0 _).set 1 _).set 2 _).bs.sub _ (by simp), (((hA.set 0 _).set 1 _).set 2 _).bs.oldbox HBox.out hlt0, (((hA.set 0 _).set 1 _).set 2 _).bs.old hc1⟩
          have hA2 : BA wr ([] : List Nat) _ (#[.int .i64 y1 , .int .i64 y2 , .int .i64 y3]) 40 _ := (((hA.set 0 (.int .i64 y1)).set 1 (.int .i64 y2)).set 2 (.int .i64 y3))
          clear kc0 kf0 kc1 kf1 kc2 kf2 hA hP
          have hA := hA2
          clear hA2 hHeld
          have hHeld := hHeld2
          clear hHeld2
          clear hK K
          try simp only [Act.put, zA, zB, zC, zD, zE, zF]
          refine wT 14 ?_
          refine wpAnyH_done (by kernel_rfl) (NoPanic.normal ?_) _
          refine world_gen ?_
          intro wz hwz
          rw [← hwz] at hHeld hA
          clear hwz
          have rz := hHeld.1.row HRow.out
          have bz0 := hHeld.2.1 0
          have bz1 := hHeld.2.1 1
          simp at bz0 bz1
          have hne := hA.bs.ls
          have hbz := HB.out.below hA.bs.bel
          obtain ⟨⟨q0, q1, q2⟩, f0, f1, f2, z1, z2, bel⟩ := hA.cells3
          clear hHeld hA hne
          go_wp2
          refine bodyPost_ret (v := .tuple #[.slice none 0 0, .bool false]) (by simp [results, Tryz.results76, go_sem, *]) rfl ⟨_, rfl, World.ownsRow_nil _ _ _ _, by simp [Value.ownBlock], hbz.bel⟩
      · by_cases hk0 : y1 = 0
        · have hs3 : ([], false) = (rl, rb) := by simpa [hk0] using hs2
          obtain ⟨rfl, rfl⟩ := Prod.mk.inj hs3
          have hk0b : (y1 == 0) = true := by simp [hk0]
          clear hs2 hs3 k1 k2 k3 k4 k5 k6 k7 k8 hk0
          go_wp2_with fail
          refine wp_region_noPanic ?_
          refine wp_region_held_drew (S := fun w' => BS wr ([] : List Nat) w' ∧ (∀ o : Nat, w'.cell? ⟨w.heap.size, o, none⟩ = (#[.int .i64 t, .int .i64 p, .int .i64 s, .slice (some ad) n c] : Array Value)[o]?) ∧ w'.cell? (ad.add k) = some (.int .u32 v)) (by kernel_rfl) ?_ (fun hHeld => ?_)
          · exact ⟨(BS.start wr).drew, HBox.out, hc1⟩
          refine wT 0 ?_
          refine wT 1 ?_
          refine wT 2 ?_
          refine wT 3 ?_
          refine wT 4 ?_
          refine wpAnyH_ready (rs := [5, 12]) (by kernel_rfl) (by simp) ?_
          refine AllReadyH.cons (o := _) rfl (fun K hK => ?_) (AllReadyH.cons (o := _) rfl (fun K hK => ?_) AllReadyH.nil)
          · go_simp
            refine (calls_b hHeld.1 (HI9.out _)).mono ?_
            rintro e wr1 ⟨rfl, hV, hVl⟩
            dsimp only
            refine hK.out _ _ ?_ (fun hHeld2 => ?_)
            · exact ⟨hV, hV.oldbox HBox.out hlt0, hV.old hc1⟩
            clear hK K hV hVl hHeld
            have hHeld := hHeld2
            clear hHeld2
            try simp only [Act.put, zA, zB, zC, zD, zE, zF]
            refine wT 6 ?_
            refine wT 7 ?_
            refine wpAnyH_ready (rs := [8, 12]) (by kernel_rfl) (by simp) ?_
            refine AllReadyH.cons (o := _) rfl (fun K hK => ?_) (AllReadyH.cons (o := _) rfl (fun K hK => ?_) AllReadyH.nil)
            · go_simp
              refine (calls_b hHeld.1 (HG9.out _)).mono ?_
              rintro e wr2 ⟨rfl, hV, hVl⟩
              dsimp only
              refine hK.out _ _ ?_ (fun hHeld2 => ?_)
              · exact ⟨hV, hV.oldbox HBox.out hlt0, hV.old hc1⟩
              clear hK K hV hVl hHeld
              have hHeld := hHeld2
              clear hHeld2
              try simp only [Act.put, zA, zB, zC, zD, zE, zF]
              refine wT 9 ?_
              refine wT 10 ?_
              refine wT 11 ?_
              refine wR 12 fun K hK => ?_
              have hP := hHeld
              have hA := hHeld.1.allocd (#[.int .i64 0, .int .i64 0, .int .i64 0]) 40
              try simp only [World.size_drew] at hA
              try simp only [World.size_alloc] at hA
              go_simp
              refine hK.out _ _ ?_ (fun hHeld2 => ?_)
              · exact ⟨hA.bs.sub _ (by simp), hA.bs.oldbox HBox.out hlt0, hA.bs.old hc1⟩
              clear hK K hHeld
              have hHeld := hHeld2
              clear hHeld2
              try simp only [Act.put, zA, zB, zC, zD, zE, zF]
              refine wR 13 fun K hK => ?_
              go_simp
              have hA2 := (hP.1).allocd (#[.int .i64 y1 , .int .i64 y2 , .int .i64 y3]) 40
              refine hK.out _ _ ?_ (fun hHeld2 => ?_)
              try simp only [World.size_drew] at hA2
              try simp only [World.size_alloc] at hA2
              · exact ⟨hA2.bs.sub _ (by simp), hA2.bs.oldbox HBox.out hlt0, hA2.bs.old hc1⟩
              clear hA hP
              have hA := hA2
              clear hA2 hHeld
              have hHeld := hHeld2
              clear hHeld2
              clear hK K
              try simp only [Act.put, zA, zB, zC, zD, zE, zF]
              refine wT 14 ?_
              refine wpAnyH_done (by kernel_rfl) (NoPanic.normal ?_) _
              refine world_gen ?_
              intro wz hwz
              rw [← hwz] at hHeld hA
              clear hwz
              have rz := hHeld.1.row HRow.out
              have bz0 := hHeld.2.1 0
              have bz1 := hHeld.2.1 1
              simp at bz0 bz1
              have hne := hA.bs.ls
              have hbz := HB.out.below hA.bs.bel
              obtain ⟨⟨q0, q1, q2⟩, f0, f1, f2, z1, z2, bel⟩ := hA.cells3
              clear hHeld hA hne
              go_wp2
              refine bodyPost_ret (v := .tuple #[.slice none 0 0, .bool false]) (by simp [results, Tryz.results76, go_sem, *]) rfl ⟨_, rfl, World.ownsRow_nil _ _ _ _, by simp [Value.ownBlock], hbz.bel⟩
            · have hP := hHeld
              have hA := hHeld.1.allocd (#[.int .i64 0, .int .i64 0, .int .i64 0]) 40
              try simp only [World.size_drew] at hA
              try simp only [World.size_alloc] at hA
              go_simp
              refine hK.out _ _ ?_ (fun hHeld2 => ?_)
              · exact ⟨hA.bs.sub _ (by simp), hA.bs.oldbox HBox.out hlt0, hA.bs.old hc1⟩
              clear hK K hHeld
              have hHeld := hHeld2
              clear hHeld2
              try simp only [Act.put, zA, zB, zC, zD, zE, zF]
              refine wR 8 fun K hK => ?_
              go_simp
              refine (calls_b hA.bs (HG9.out _)).mono ?_
              rintro e wr3 ⟨rfl, hV, hVl⟩
              have hAn := hA.step hV hVl
              dsimp only
              refine hK.out _ _ ?_ (fun hHeld2 => ?_)
              · exact ⟨hV.sub _ (by simp), hV.oldbox HBox.out hlt0, hV.old hc1⟩
              clear hK K hV hVl hHeld hA hP
              have hA := hAn
              have hP := trivial
              clear hAn
              have hHeld := hHeld2
              clear hHeld2
              try simp only [Act.put, zA, zB, zC, zD, zE, zF]
              refine wT 9 ?_
              refine wT 10 ?_
              refine wT 11 ?_
              refine wR 13 fun K hK => ?_
              have kc0 := (cell?_of_heap (o := 0) hA.box)
              have kc1 := (cell?_of_heap (o := 1) hA.box)
              have kc2 := (cell?_of_heap (o := 2) hA.box)
              simp at kc0 kc1 kc2
              have kf0 := frozen?_of_heap (o := 0) hA.box
              have kf1 := frozen?_of_heap (o := 1) hA.box
              have kf2 := frozen?_of_heap (o := 2) hA.box
              go_simp
              refine hK.out _ _ ?_ (fun hHeld2 => ?_)
              · exact ⟨(((hA.set 0 _).set 1 _).set 2 _).bs.sub _ (by simp), (((hA.set 0 _).set 1 _).set 2 _).bs.oldbox HBox.out hlt0, (((hA.set 0 _).set 1 _).set 2 _).bs.old hc1⟩
              have hA2 : BA wr ([] : List Nat) _ (#[.int .i64 y1 , .int .i64 y2 , .int .i64 y3]) 40 _ := (((hA.set 0 (.int .i64 y1)).set 1 (.int .i64 y2)).set 2 (.int .i64 y3))
              clear kc0 kf0 kc1 kf1 kc2 kf2 hA hP
              have hA := hA2
              clear hA2 hHeld
              have hHeld := hHeld2
              clear hHeld2
              clear hK K
              try simp only [Act.put, zA, zB, zC, zD, zE, zF]
              refine wT 14 ?_
              refine wpAnyH_done (by kernel_rfl) (NoPanic.normal ?_) _
              refine world_gen ?_
              intro wz hwz
              rw [← hwz] at hHeld hA
              clear hwz
              have rz := hHeld.1.row HRow.out
              have bz0 := hHeld.2.1 0
              have bz1 := hHeld.2.1 1
              simp at bz0 bz1
              have hne := hA.bs.ls
              have hbz := HB.out.below hA.bs.bel
              obtain ⟨⟨q0, q1, q2⟩, f0, f1, f2, z1, z2, bel⟩ := hA.cells3
              clear hHeld hA hne
              go_wp2
              refine bodyPost_ret (v := .tuple #[.slice none 0 0, .bool false]) (by simp [results, Tryz.results76, go_sem, *]) rfl ⟨_, rfl, World.ownsRow_nil _ _ _ _, by simp [Value.ownBlock], hbz.bel⟩
          · have hP := hHeld
            have hA := hHeld.1.allocd (#[.int .i64 0, .int .i64 0, .int .i64 0]) 40
            try simp only [World.size_drew] at hA
            try simp only [World.size_alloc] at hA
            go_simp
            refine hK.out _ _ ?_ (fun hHeld2 => ?_)
            · exact ⟨hA.bs.sub _ (by simp), hA.bs.oldbox HBox.out hlt0, hA.bs.old hc1⟩
            clear hK K hHeld
            have hHeld := hHeld2
            clear hHeld2
            try simp only [Act.put, zA, zB, zC, zD, zE, zF]
            refine wR 5 fun K hK => ?_
            go_simp
            refine (calls_b hA.bs (HI9.out _)).mono ?_
            rintro e wr4 ⟨rfl, hV, hVl⟩
            have hAn := hA.step hV hVl
            dsimp only
            refine hK.out _ _ ?_ (fun hHeld2 => ?_)
            · exact ⟨hV.sub _ (by simp), hV.oldbox HBox.out hlt0, hV.old hc1⟩
            clear hK K hV hVl hHeld hA hP
            have hA := hAn
            have hP := trivial
            clear hAn
            have hHeld := hHeld2
            clear hHeld2
            try simp only [Act.put, zA, zB, zC, zD, zE, zF]
            refine wT 6 ?_
            refine wT 7 ?_
            refine wR 8 fun K hK => ?_
            go_simp
            refine (calls_b hA.bs (HG9.out _)).mono ?_
            rintro e wr5 ⟨rfl, hV, hVl⟩
            have hAn := hA.step hV hVl
            dsimp only
            refine hK.out _ _ ?_ (fun hHeld2 => ?_)
            · exact ⟨hV.sub _ (by simp), hV.oldbox HBox.out hlt0, hV.old hc1⟩
            clear hK K hV hVl hHeld hA hP
            have hA := hAn
            have hP := trivial
            clear hAn
            have hHeld := hHeld2
            clear hHeld2
            try simp only [Act.put, zA, zB, zC, zD, zE, zF]
            refine wT 9 ?_
            refine wT 10 ?_
            refine wT 11 ?_
            refine wR 13 fun K hK => ?_
            have kc0 := (cell?_of_heap (o := 0) hA.box)
            have kc1 := (cell?_of_heap (o := 1) hA.box)
            have kc2 := (cell?_of_heap (o := 2) hA.box)
            simp at kc0 kc1 kc2
            have kf0 := frozen?_of_heap (o := 0) hA.box
            have kf1 := frozen?_of_heap (o := 1) hA.box
            have kf2 := frozen?_of_heap (o := 2) hA.box
            go_simp
            refine hK.out _ _ ?_ (fun hHeld2 => ?_)
            · exact ⟨(((hA.set 0 _).set 1 _).set 2 _).bs.sub _ (by simp), (((hA.set 0 _).set 1 _).set 2 _).bs.oldbox HBox.out hlt0, (((hA.set 0 _).set 1 _).set 2 _).bs.old hc1⟩
            have hA2 : BA wr ([] : List Nat) _ (#[.int .i64 y1 , .int .i64 y2 , .int .i64 y3]) 40 _ := (((hA.set 0 (.int .i64 y1)).set 1 (.int .i64 y2)).set 2 (.int .i64 y3))
            clear kc0 kf0 kc1 kf1 kc2 kf2 hA hP
            have hA := hA2
            clear hA2 hHeld
            have hHeld := hHeld2
            clear hHeld2
            clear hK K
            try simp only [Act.put, zA, zB, zC, zD, zE, zF]
            refine wT 14 ?_
            refine wpAnyH_done (by kernel_rfl) (NoPanic.normal ?_) _
            refine world_gen ?_
            intro wz hwz
            rw [← hwz] at hHeld hA
            clear hwz
            have rz := hHeld.1.row HRow.out
            have bz0 := hHeld.2.1 0
            have bz1 := hHeld.2.1 1
            simp at bz0 bz1
            have hne := hA.bs.ls
            have hbz := HB.out.below hA.bs.bel
            obtain ⟨⟨q0, q1, q2⟩, f0, f1, f2, z1, z2, bel⟩ := hA.cells3
            clear hHeld hA hne
            go_wp2
            refine bodyPost_ret (v := .tuple #[.slice none 0 0, .bool false]) (by simp [results, Tryz.results76, go_sem, *]) rfl ⟨_, rfl, World.ownsRow_nil _ _ _ _, by simp [Value.ownBlock], hbz.bel⟩
        · have hs3 : startsL g p (p.toNat + 1 - (out ++ [a]).length) (a + y2) (out ++ [a]) = (rl, rb) := by simpa [hk0] using hs2
          have hk0b : (y1 == 0) = false := by simp [hk0]
          have hl1 := (k7 hk0).2
          have HN := Lib.hid hs3
          have HFF := Lib.hid hle
          clear hs2 hs3 hle k1 k2 k5 k6 k7 k8 hk0
          go_wp2_with fail
          refine wp_region_noPanic ?_
          refine wp_region_held_drew (S := fun w' => BS wr ([] : List Nat) w' ∧ (∀ o : Nat, w'.cell? ⟨w.heap.size, o, none⟩ = (#[.int .i64 t, .int .i64 p, .int .i64 s, .slice (some ad) n c] : Array Value)[o]?) ∧ w'.cell? (ad.add k) = some (.int .u32 v)) (by kernel_rfl) ?_ (fun hHeld => ?_)
          · exact ⟨(BS.start wr).drew, HBox.out, hc1⟩
          refine wT 0 ?_
          refine wT 1 ?_
          refine wT 2 ?_
          refine wT 3 ?_
          refine wT 4 ?_
          refine wpAnyH_ready (rs := [5, 12]) (by kernel_rfl) (by simp) ?_
          refine AllReadyH.cons (o := _) rfl (fun K hK => ?_) (AllReadyH.cons (o := _) rfl (fun K hK => ?_) AllReadyH.nil)
          · go_simp
            refine (calls_b hHeld.1 (HI9.out _)).mono ?_
            rintro e wr1 ⟨rfl, hV, hVl⟩
            dsimp only
            refine hK.out _ _ ?_ (fun hHeld2 => ?_)
            · exact ⟨hV, hV.oldbox HBox.out hlt0, hV.old hc1⟩
            clear hK K hV hVl hHeld
            have hHeld := hHeld2
            clear hHeld2
            try simp only [Act.put, zA, zB, zC, zD, zE, zF]
            refine wT 6 ?_
            refine wT 7 ?_
            refine wpAnyH_ready (rs := [8, 12]) (by kernel_rfl) (by simp) ?_
            refine AllReadyH.cons (o := _) rfl (fun K hK => ?_) (AllReadyH.cons (o := _) rfl (fun K hK => ?_) AllReadyH.nil)
            · go_simp
              refine (calls_b hHeld.1 (HG9.out _)).mono ?_
              rintro e wr2 ⟨rfl, hV, hVl⟩
              dsimp only
              refine hK.out _ _ ?_ (fun hHeld2 => ?_)
              · exact ⟨hV, hV.oldbox HBox.out hlt0, hV.old hc1⟩
              clear hK K hV hVl hHeld
              have hHeld := hHeld2
              clear hHeld2
              try simp only [Act.put, zA, zB, zC, zD, zE, zF]
              refine wT 9 ?_
              refine wT 10 ?_
              refine wT 11 ?_
              refine wR 12 fun K hK => ?_
              have hP := hHeld
              have hA := hHeld.1.allocd (#[.int .i64 0, .int .i64 0, .int .i64 0]) 40
              try simp only [World.size_drew] at hA
              try simp only [World.size_alloc] at hA
              go_simp
              refine hK.out _ _ ?_ (fun hHeld2 => ?_)
              · exact ⟨hA.bs.sub _ (by simp), hA.bs.oldbox HBox.out hlt0, hA.bs.old hc1⟩
              clear hK K hHeld
              have hHeld := hHeld2
              clear hHeld2
              try simp only [Act.put, zA, zB, zC, zD, zE, zF]
              refine wR 13 fun K hK => ?_
              go_simp
              have hA2 := (hP.1).allocd (#[.int .i64 y1 , .int .i64 y2 , .int .i64 y3]) 40
              refine hK.out _ _ ?_ (fun hHeld2 => ?_)
              try simp only [World.size_drew] at hA2
              try simp only [World.size_alloc] at hA2
              · exact ⟨hA2.bs.sub _ (by simp), hA2.bs.oldbox HBox.out hlt0, hA2.bs.old hc1⟩
              clear hA hP
              have hA := hA2
              clear hA2 hHeld
              have hHeld := hHeld2
              clear hHeld2
              clear hK K
              try simp only [Act.put, zA, zB, zC, zD, zE, zF]
              refine wT 14 ?_
              refine wpAnyH_done (by kernel_rfl) (NoPanic.normal ?_) _
              refine world_gen ?_
              intro wz hwz
              rw [← hwz] at hHeld hA
              clear hwz
              have rz := hHeld.1.row HRow.out
              have bz0 := hHeld.2.1 0
              have bz1 := hHeld.2.1 1
              simp at bz0 bz1
              have hne := hA.bs.ls
              have hbz := HB.out.below hA.bs.bel
              obtain ⟨⟨q0, q1, q2⟩, f0, f1, f2, z1, z2, bel⟩ := hA.cells3
              have hBA := Lib.hid hA
              have hzb := Lib.hid hHeld.2.1
              clear hHeld hA hne
              go_wp2_with (at_builtin; go_must (refine wpL_append rfl _ _ rfl 3 i0 (.int .i64 0) 1 8 Tryz.underlying108 HI.out.1 HI.out.2.1 HI.out.2.2.1 HI.out.2.2.2 rfl (by decide) (.slice pa out.length pc) out.length (ints out) rfl (rz.alloc _) ⟨wz.heap.size, 0, none⟩ 1 1 [.int .i64 a] rfl rfl (cell_one_new _ _ _) ?c1 ?c2 ?c3 ?_); go_must (case c1 => (simp [Value.oneCell'])); go_must (case c2 => (have := HFF.out; unfold maxLen; omega)); go_must (case c3 => (have := HFF.out; omega)); go_must (intro v' w5 hown5 hg5 hnew5 hnil5); clear hnil5; go_must (obtain ⟨g', cap', rfl⟩ := Joins.ownsRow_form hown5 (by omega)); go_must (have qz := hBA.out.grown hg5 (fun k hk => ownsRow_lt HRow.out hk)); go_must (have qz1 := qz 1); go_must (simp at qz1); clear qz)
              go_roundw
              case rel =>
                refine ⟨out ++ [a], a + y2, rfl, by omega, by omega, by simpa [ints] using hown5, hbz.append hg5 hnew5 hown5, ?_, ?_, HN.out, ?_⟩
                · exact loc_grown hg5 (by have := bel.size; simp; omega) (fun e => by have := HF.out _ e; omega) (loc_old _ (by have := bel.size; omega) hzb.out)
                · have := HFF.out; simp; omega
                · exact fun k hk => (hnew5 k hk).elim (HF.out k) (fun h => by have := bel.size; simp at h; omega)
              case measure => simp [lenS]; have := HFF.out; omega
            · have hP := hHeld
              have hA := hHeld.1.allocd (#[.int .i64 0, .int .i64 0, .int .i64 0]) 40
              try simp only [World.size_drew] at hA
              try simp only [World.size_alloc] at hA
              go_simp
              refine hK.out _ _ ?_ (fun hHeld2 => ?_)
              · exact ⟨hA.bs.sub _ (by simp), hA.bs.oldbox HBox.out hlt0, hA.bs.old hc1⟩
              clear hK K hHeld
              have hHeld := hHeld2
              clear hHeld2
              try simp only [Act.put, zA, zB, zC, zD, zE, zF]
              refine wR 8 fun K hK => ?_
              go_simp
              refine (calls_b hA.bs (HG9.out _)).mono ?_
              rintro e wr3 ⟨rfl, hV, hVl⟩
              have hAn := hA.step hV hVl
              dsimp only
              refine hK.out _ _ ?_ (fun hHeld2 => ?_)
              · exact ⟨hV.sub _ (by simp), hV.oldbox HBox.out hlt0, hV.old hc1⟩
              clear hK K hV hVl hHeld hA hP
              have hA := hAn
              have hP := trivial
              clear hAn
              have hHeld := hHeld2
              clear hHeld2
              try simp only [Act.put, zA, zB, zC, zD, zE, zF]
              refine wT 9 ?_
              refine wT 10 ?_
              refine wT 11 ?_
              refine wR 13 fun K hK => ?_
              have kc0 := (cell?_of_heap (o := 0) hA.box)
              have kc1 := (cell?_of_heap (o := 1) hA.box)
              have kc2 := (cell?_of_heap (o := 2) hA.box)
              simp at kc0 kc1 kc2
              have kf0 := frozen?_of_heap (o := 0) hA.box
              have kf1 := frozen?_of_heap (o := 1) hA.box
              have kf2 := frozen?_of_heap (o := 2) hA.box
              go_simp
              refine hK.out _ _ ?_ (fun hHeld2 => ?_)
              · exact ⟨(((hA.set 0 _).set 1 _).set 2 _).bs.sub _ (by simp), (((hA.set 0 _).set 1 _).set 2 _).bs.oldbox HBox.out hlt0, (((hA.set 0 _).set 1 _).set 2 _).bs.old hc1⟩
              have hA2 : BA wr ([] : List Nat) _ (#[.int .i64 y1 , .int .i64 y2 , .int .i64 y3]) 40 _ := (((hA.set 0 (.int .i64 y1)).set 1 (.int .i64 y2)).set 2 (.int .i64 y3))
              clear kc0 kf0 kc1 kf1 kc2 kf2 hA hP
              have hA := hA2
              clear hA2 hHeld
              have hHeld := hHeld2
              clear hHeld2
              clear hK K
              try simp only [Act.put, zA, zB, zC, zD, zE, zF]
              refine wT 14 ?_
              refine wpAnyH_done (by kernel_rfl) (NoPanic.normal ?_) _
              refine world_gen ?_
              intro wz hwz
              rw [← hwz] at hHeld hA
              clear hwz
              have rz := hHeld.1.row HRow.out
              have bz0 := hHeld.2.1 0
              have bz1 := hHeld.2.1 1
              simp at bz0 bz1
              have hne := hA.bs.ls
              have hbz := HB.out.below hA.bs.bel
              obtain ⟨⟨q0, q1, q2⟩, f0, f1, f2, z1, z2, bel⟩ := hA.cells3
              have hBA := Lib.hid hA
              have hzb := Lib.hid hHeld.2.1
              clear hHeld hA hne
              go_wp2_with (at_builtin; go_must (refine wpL_append rfl _ _ rfl 3 i0 (.int .i64 0) 1 8 Tryz.underlying108 HI.out.1 HI.out.2.1 HI.out.2.2.1 HI.out.2.2.2 rfl (by decide) (.slice pa out.length pc) out.length (ints out) rfl (rz.alloc _) ⟨wz.heap.size, 0, none⟩ 1 1 [.int .i64 a] rfl rfl (cell_one_new _ _ _) ?c1 ?c2 ?c3 ?_); go_must (case c1 => (simp [Value.oneCell'])); go_must (case c2 => (have := HFF.out; unfold maxLen; omega)); go_must (case c3 => (have := HFF.out; omega)); go_must (intro v' w5 hown5 hg5 hnew5 hnil5); clear hnil5; go_must (obtain ⟨g', cap', rfl⟩ := Joins.ownsRow_form hown5 (by omega)); go_must (have qz := hBA.out.grown hg5 (fun k hk => ownsRow_lt HRow.out hk)); go_must (have qz1 := qz 1); go_must (simp at qz1); clear qz)
              go_roundw
              case rel =>
                refine ⟨out ++ [a], a + y2, rfl, by omega, by omega, by simpa [ints] using hown5, hbz.append hg5 hnew5 hown5, ?_, ?_, HN.out, ?_⟩
                · exact loc_grown hg5 (by have := bel.size; simp; omega) (fun e => by have := HF.out _ e; omega) (loc_old _ (by have := bel.size; omega) hzb.out)
                · have := HFF.out; simp; omega
                · exact fun k hk => (hnew5 k hk).elim (HF.out k) (fun h => by have := bel.size; simp at h; omega)
              case measure => simp [lenS]; have := HFF.out; omega
          · have hP := hHeld
            have hA := hHeld.1.allocd (#[.int .i64 0, .int .i64 0, .int .i64 0]) 40
            try simp only [World.size_drew] at hA
            try simp only [World.size_alloc] at hA
            go_simp
            refine hK.out _ _ ?_ (fun hHeld2 => ?_)
            · exact ⟨hA.bs.sub _ (by simp), hA.bs.oldbox HBox.out hlt0, hA.bs.old hc1⟩
            clear hK K hHeld
            have hHeld := hHeld2
            clear hHeld2
            try simp only [Act.put, zA, zB, zC, zD, zE, zF]
            refine wR 5 fun K hK => ?_
            go_simp
            refine (calls_b hA.bs (HI9.out _)).mono ?_
            rintro e wr4 ⟨rfl, hV, hVl⟩
            have hAn := hA.step hV hVl
            dsimp only
            refine hK.out _ _ ?_ (fun hHeld2 => ?_)
            · exact ⟨hV.sub _ (by simp), hV.oldbox HBox.out hlt0, hV.old hc1⟩
            clear hK K hV hVl hHeld hA hP
            have hA := hAn
            have hP := trivial
            clear hAn
            have hHeld := hHeld2
            clear hHeld2
            try simp only [Act.put, zA, zB, zC, zD, zE, zF]
            refine wT 6 ?_
            refine wT 7 ?_
            refine wR 8 fun K hK => ?_
            go_simp
            refine (calls_b hA.bs (HG9.out _)).mono ?_
            rintro e wr5 ⟨rfl, hV, hVl⟩
            have hAn := hA.step hV hVl
            dsimp only
            refine hK.out _ _ ?_ (fun hHeld2 => ?_)
            · exact ⟨hV.sub _ (by simp), hV.oldbox HBox.out hlt0, hV.old hc1⟩
            clear hK K hV hVl hHeld hA hP
            have hA := hAn
            have hP := trivial
            clear hAn
            have hHeld := hHeld2
            clear hHeld2
            try simp only [Act.put, zA, zB, zC, zD, zE, zF]
            refine wT 9 ?_
            refine wT 10 ?_
            refine wT 11 ?_
            refine wR 13 fun K hK => ?_
            have kc0 := (cell?_of_heap (o := 0) hA.box)
            have kc1 := (cell?_of_heap (o := 1) hA.box)
            have kc2 := (cell?_of_heap (o := 2) hA.box)
            simp at kc0 kc1 kc2
            have kf0 := frozen?_of_heap (o := 0) hA.box
            have kf1 := frozen?_of_heap (o := 1) hA.box
            have kf2 := frozen?_of_heap (o := 2) hA.box
            go_simp
            refine hK.out _ _ ?_ (fun hHeld2 => ?_)
            · exact ⟨(((hA.set 0 _).set 1 _).set 2 _).bs.sub _ (by simp), (((hA.set 0 _).set 1 _).set 2 _).bs.oldbox HBox.out hlt0, (((hA.set 0 _).set 1 _).set 2 _).bs.old hc1⟩
            have hA2 : BA wr ([] : List Nat) _ (#[.int .i64 y1 , .int .i64 y2 , .int .i64 y3]) 40 _ := (((hA.set 0 (.int .i64 y1)).set 1 (.int .i64 y2)).set 2 (.int .i64 y3))
            clear kc0 kf0 kc1 kf1 kc2 kf2 hA hP
            have hA := hA2
            clear hA2 hHeld
            have hHeld := hHeld2
            clear hHeld2
            clear hK K
            try simp only [Act.put, zA, zB, zC, zD, zE, zF]
            refine wT 14 ?_
            refine wpAnyH_done (by kernel_rfl) (NoPanic.normal ?_) _
            refine world_gen ?_
            intro wz hwz
            rw [← hwz] at hHeld hA
            clear hwz
            have rz := hHeld.1.row HRow.out
            have bz0 := hHeld.2.1 0
            have bz1 := hHeld.2.1 1
            simp at bz0 bz1
            have hne := hA.bs.ls
            have hbz := HB.out.below hA.bs.bel
            obtain ⟨⟨q0, q1, q2⟩, f0, f1, f2, z1, z2, bel⟩ := hA.cells3
            have hBA := Lib.hid hA
            have hzb := Lib.hid hHeld.2.1
            clear hHeld hA hne
            go_wp2_with (at_builtin; go_must (refine wpL_append rfl _ _ rfl 3 i0 (.int .i64 0) 1 8 Tryz.underlying108 HI.out.1 HI.out.2.1 HI.out.2.2.1 HI.out.2.2.2 rfl (by decide) (.slice pa out.length pc) out.length (ints out) rfl (rz.alloc _) ⟨wz.heap.size, 0, none⟩ 1 1 [.int .i64 a] rfl rfl (cell_one_new _ _ _) ?c1 ?c2 ?c3 ?_); go_must (case c1 => (simp [Value.oneCell'])); go_must (case c2 => (have := HFF.out; unfold maxLen; omega)); go_must (case c3 => (have := HFF.out; omega)); go_must (intro v' w5 hown5 hg5 hnew5 hnil5); clear hnil5; go_must (obtain ⟨g', cap', rfl⟩ := Joins.ownsRow_form hown5 (by omega)); go_must (have qz := hBA.out.grown hg5 (fun k hk => ownsRow_lt HRow.out hk)); go_must (have qz1 := qz 1); go_must (simp at qz1); clear qz)
            go_roundw
            case rel =>
              refine ⟨out ++ [a], a + y2, rfl, by omega, by omega, by simpa [ints] using hown5, hbz.append hg5 hnew5 hown5, ?_, ?_, HN.out, ?_⟩
              · exact loc_grown hg5 (by have := bel.size; simp; omega) (fun e => by have := HF.out _ e; omega) (loc_old _ (by have := bel.size; omega) hzb.out)
              · have := HFF.out; simp; omega
              · exact fun k hk => (hnew5 k hk).elim (HF.out k) (fun h => by have := bel.size; simp at h; omega)
            case measure => simp [lenS]; have := HFF.out; omega
    · have hs2 : (out, a == p) = (rl, rb) := by
        have e0 := HS.out
        have e1 : p.toNat + 1 - out.length = (p.toNat - out.length) + 1 := by omega
        rw [e1] at e0
        simpa [startsL, hlt] using e0
      obtain ⟨rfl, rfl⟩ := Prod.mk.inj hs2
      clear HXX HS hs2
      go_wp2
      go_region
      all_goals
        go_wp2
        refine bodyPost_ret (v := .tuple #[.slice pa out.length pc, .bool (a == p)]) (by simp [results, Tryz.results76, go_sem, *]) rfl ⟨_, rfl, ?_⟩
        exact ⟨ownsRow_block HRow.out (fun _ _ => rfl), fun k hk => Nat.le_of_lt (HF.out k hk), HB.out.bel.drew⟩
end
end Go.Proofs.YtkhanbedcmmlcaaGreatDoor
/- the document's audit: in, binned, racked; the state of a walk that only reads. -/
set_option linter.unusedSimpArgs false
set_option linter.unusedVariables false
namespace Go.Proofs.YtkhanbedcmmlcaaGreatDoor
open Go.RowKit

theorem calls_row {P : Program} {f : FuncId} {args : Array Value} {F : Value → Value} {w0 w : World} {Ls : List Nat} {l : List Int} (h : BS w0 Ls w)
    (hc : Calls P f args w fun e w' => ∃ v, e = .returned (F v) ∧ RowP w l v w') :
    Calls P f args w fun e w' => ∃ v, e = .returned (F v) ∧ (BS w0 Ls w' ∧ ∀ L ∈ Ls, w'.heap[L]? = w.heap[L]?) ∧ RowP w l v w' :=
  hc.mono fun _ _ ⟨v, he, hr⟩ => ⟨v, he, ⟨h.below hr.2.2, fun L hL => hr.2.2.block L (h.ls L hL).1⟩, hr⟩

/-- X in its box, since w. -/
structure XB (w : World) (t p s : Int) (ad : Addr) (n c : Nat) (vs : List Int) (W : World) : Prop where
  bel : Below w.heap.size w W
  box : ∀ o : Nat, W.cell? ⟨w.heap.size, o, none⟩ = (#[.int .i64 t, .int .i64 p, .int .i64 s, .slice (some ad) n c] : Array Value)[o]?
  lt : w.heap.size < W.heap.size
  xv : XV W t p s ad n vs
section
variable {t p s : Int} {ad : Addr} {n c : Nat} {vs : List Int} {w W W' : World}
theorem XV.boxed (h : XV w t p s ad n vs) (c : Nat) : XB w t p s ad n c vs (w.alloc (.cells #[.int .i64 t, .int .i64 p, .int .i64 s, .slice (some ad) n c] 59)) :=
  ⟨(Below.refl _ _).alloc (Nat.le_refl _) _, loc_alloc w _ _, by simp, h.keep ((Below.refl _ _).alloc (Nat.le_refl _) _)⟩
theorem XB.keep (h : XB w t p s ad n c vs W) (hb : Below W.heap.size W W') : XB w t p s ad n c vs W' :=
  ⟨h.bel.trans (hb.mono h.bel.size), fun o => (hb.cell (p := ⟨w.heap.size, o, none⟩) h.lt).trans (h.box o), Nat.lt_of_lt_of_le h.lt hb.size, h.xv.keep hb⟩
theorem XB.alloc (h : XB w t p s ad n c vs W) (o : Obj) : XB w t p s ad n c vs (W.alloc o) := h.keep ((Below.refl _ _).alloc (Nat.le_refl _) _)
theorem XB.drew (h : XB w t p s ad n c vs W) : XB w t p s ad n c vs W.drew := h.keep ((Below.refl _ _).drew)
theorem XB.cells (h : XB w t p s ad n c vs W) : W.cell? ⟨w.heap.size, 0, none⟩ = some (.int .i64 t) ∧ W.cell? ⟨w.heap.size, 1, none⟩ = some (.int .i64 p) ∧ W.cell? ⟨w.heap.size, 2, none⟩ = some (.int .i64 s) ∧ W.cell? ⟨w.heap.size, 3, none⟩ = some (.slice (some ad) n c) :=
  ⟨h.box 0, h.box 1, h.box 2, h.box 3⟩

/-- what a box of three offers behind a call. -/
theorem box3 {x y z : Value} {T : TypeId} (hb : Below (W.alloc (.cells #[x, y, z] T)).heap.size (W.alloc (.cells #[x, y, z] T)) W') : W'.cell? ⟨W.heap.size, 0, none⟩ = some x ∧ W'.cell? ⟨W.heap.size, 1, none⟩ = some y ∧ W'.cell? ⟨W.heap.size, 2, none⟩ = some z := by
  have hc := fun o => (hb.cell (p := ⟨W.heap.size, o, none⟩) (by simp)).trans (loc_alloc W #[x, y, z] T o)
  exact ⟨hc 0, hc 1, hc 2⟩

def CntRel (l : List Int) (x : Int) (w : World) (a i : Value) (wr : World) : Prop := ∃ k : Nat, k ≤ l.length ∧ i = .int .i64 k ∧ a = .int .i64 ((l.take k).count x) ∧ w = wr
theorem xin_any (l : List Int) (x : Int) (v : Value) (w : World) (h : w.ownsRow 0 3 1 v l.length (ints l)) (hn : l.length ≤ 4294967296) :
    Calls Tryz.prog 85 #[v, .int .i64 x] w fun e w' => e = .returned (.int .i64 (l.count x)) ∧ Below w.heap.size w w' := by
  have hc : ∀ k, k < l.length → ∃ a m c, v = .slice (some ⟨a, 0, none⟩) m c ∧ w.cell? ⟨a, k, none⟩ = some (.int .i64 (l.getD k 0)) := by
    intro k hk
    obtain ⟨g, cap, rfl⟩ := Joins.ownsRow_form h (by omega)
    refine ⟨g, _, cap, rfl, ?_⟩
    rw [h.cellAt k (by omega)]
    simp [ints, hk]
  obtain ⟨a, c, rfl⟩ := row_shape h
  clear h
  go_enter Tryz.func85, Tryz.ntmps85
  go_wp2
  go_loopw [5, 6] (fun a i wr => CntRel l x w a i wr) (fun _ i _ => l.length - (intOf i).toNat)
  case atStart => exact ⟨0, by omega, rfl, by simp, rfl⟩
  case round =>
    obtain ⟨k, hk, rfl, rfl, rfl⟩ := hrel
    by_cases hlt : k < l.length
    · obtain ⟨g, m, c', hv, c0⟩ := hc k hlt
      simp only [Value.slice.injEq] at hv
      obtain ⟨rfl, rfl, rfl⟩ := hv
      clear hc
      have hx : l[k]? = some (l.getD k 0) := by simp [hlt]
      have hle := List.count_le_length (a := x) (l := l.take k)
      have hle2 : (l.take k).length ≤ l.length := by simp; omega
      have hs : (l.take (k + 1)).count x = (l.take k).count x + if l.getD k 0 == x then 1 else 0 := by
        rw [List.take_add_one, hx]
        simp [List.count_append, List.count_cons]
      have HS := Lib.hid hs
      clear hx hs
      generalize l.getD k 0 = y at *
      generalize (l.take k).count x = z at *
      have hz : (z : Int) ≤ 4294967296 := by omega
      clear hle hle2
      by_cases hy : y = x
      · have hb : (y == x) = true := by simp [hy]
        have HY := Lib.hid hb
        have hb2 : (y == x) = true := hb
        clear hy hb
        go_wp2
        go_roundw
        case rel => exact ⟨k + 1, by omega, by go_num, by rw [HS.out, HY.out]; simp, rfl⟩
        case measure => simp [intOf]; omega
      · have hb : (y == x) = false := by simp [hy]
        have HY := Lib.hid hb
        have hb2 : (y == x) = false := hb
        clear hy hb
        go_wp2
        go_roundw
        case rel => exact ⟨k + 1, by omega, by go_num, by rw [HS.out, HY.out]; simp, rfl⟩
        case measure => simp [intOf]; omega
    · obtain rfl : k = l.length := by omega
      clear hc
      go_wp2
      go_ret
      exact ⟨by simp, Below.refl _ _⟩

def binnedB (v k : Int) : Bool := iK v == 1 && logF (iL v) == k
def rackedB (v u k : Int) : Bool := iK v == 3 && iC v == k && !fullB u k

theorem binned_any (q : Int) (k : Nat) (c : Nat) (w : World) (h : XV w t p s ad n vs) (h0 : 0 ≤ q) (h1 : q < p) :
    Calls Tryz.prog 84 #[.agg #[.int .i64 t, .int .i64 p, .int .i64 s, .slice (some ad) n c], .int .i64 q, .int .i64 k] w fun e w' => e = .returned (.bool (binnedB (gv vs t q 0) k)) ∧ Below w.heap.size w w' := by
  have bd := inf_bd (gv vs t q 0)
  have hl := fun w => rlog_any (iL (gv vs t q 0)) w (by omega) (by omega)
  have HL := Lib.hid hl
  have X0 := h.boxed c
  have HI := Lib.hid (fun (w : World) (h : XV w t p s ad n vs) => xinfo_any q c w h h0 h1)
  generalize hr : binnedB (gv vs t q 0) k = r
  have hr2 : (iK (gv vs t q 0) == 1 && logF (iL (gv vs t q 0)) == k) = r := hr
  have HR := Lib.hid hr2
  clear hr hr2 hl h bd
  generalize iK (gv vs t q 0) = y1 at *
  generalize logF (iL (gv vs t q 0)) = y4 at *
  generalize iL (gv vs t q 0) = y2 at *
  generalize iC (gv vs t q 0) = y3 at *
  by_cases hk1 : y1 = 1
  · have hb : (y1 == 1) = true := by simp [hk1]
    have HR2 := HR.out
    rw [hb] at HR2
    have HR3 := Lib.hid HR2
    clear hk1 HR HR2
    go_enter Tryz.func84, Tryz.ntmps84
    go_wp2_with fail
    refine (HI.out _ X0.xv).mono ?_
    rintro e w1 ⟨rfl, hb1⟩
    have X1 := X0.keep hb1
    obtain ⟨X10, X11, X12, X13⟩ := X1.cells
    have X1z := X1.lt
    go_wp2_with fail
    refine (HL.out _).mono ?_
    rintro e w2 ⟨rfl, hb2⟩
    go_wp2
    go_ret
    refine ⟨ret_bool (by rw [← HR3.out]; simp), ?_⟩
    exact X1.bel.trans ((((Below.refl _ _).alloc (Nat.le_refl _) _).trans (hb2.mono (by simp))).mono X1.bel.size)
  · have hb : (y1 == 1) = false := by simp [hk1]
    have HR2 := HR.out
    rw [hb] at HR2
    have HR3 := Lib.hid HR2
    clear hk1 HR HR2
    go_enter Tryz.func84, Tryz.ntmps84
    go_wp2_with fail
    refine (HI.out _ X0.xv).mono ?_
    rintro e w1 ⟨rfl, hb1⟩
    have X1 := X0.keep hb1
    obtain ⟨X10, X11, X12, X13⟩ := X1.cells
    have X1z := X1.lt
    go_wp2
    go_ret
    refine ⟨ret_bool (by rw [← HR3.out]; simp), ?_⟩
    exact X1.bel.alloc X1.bel.size _

theorem racked_any (q : Int) (k : Nat) (c : Nat) (w : World) (h : XV w t p s ad n vs) (h0 : 0 ≤ q) (h1 : q < p) :
    Calls Tryz.prog 87 #[.agg #[.int .i64 t, .int .i64 p, .int .i64 s, .slice (some ad) n c], .int .i64 q, .int .i64 k] w fun e w' => e = .returned (.bool (rackedB (gv vs t q 0) (gv vs t q 5) k)) ∧ Below w.heap.size w w' := by
  have hg := h.gu q 5
  have HL := Lib.hid (fun w => rfull_any (gv vs t q 5) k w hg.1)
  have X0 := h.boxed c
  have HI := Lib.hid (fun (w : World) (h : XV w t p s ad n vs) => xinfo_any q c w h h0 h1)
  have HT := Lib.hid (fun (w : World) (h : XV w t p s ad n vs) => xtaken_any q c w h h0 h1)
  generalize hr : rackedB (gv vs t q 0) (gv vs t q 5) k = r
  have hr2 : (iK (gv vs t q 0) == 3 && iC (gv vs t q 0) == k && !fullB (gv vs t q 5) k) = r := hr
  have HR := Lib.hid hr2
  clear hr hr2 h hg
  generalize iK (gv vs t q 0) = y1 at *
  generalize fullB (gv vs t q 5) k = y4 at *
  generalize iL (gv vs t q 0) = y2 at *
  generalize iC (gv vs t q 0) = y3 at *
  generalize gv vs t q 5 = y5 at *
  by_cases hk1 : y1 = 3
  · have hb : (y1 == 3) = true := by simp [hk1]
    by_cases hk2 : y3 = k
    · have hbb : (y3 == k) = true := by simp [hk2]
      have HR2 := HR.out
      rw [hb, hbb] at HR2
      have HR3 := Lib.hid HR2
      clear hk1 HR HR2 hk2
      go_enter Tryz.func87, Tryz.ntmps87
      go_wp2_with fail
      refine (HI.out _ X0.xv).mono ?_
      rintro e w1 ⟨rfl, hb1⟩
      have X1 := X0.keep hb1
      obtain ⟨X10, X11, X12, X13⟩ := X1.cells
      have X1z := X1.lt
      have X1a := X1.alloc (.cells #[.int .i64 y1, .int .i64 y2, .int .i64 y3] 40)
      go_wp2_with fail
      refine (HT.out _ X1a.xv).mono ?_
      rintro e w2 ⟨rfl, hb2⟩
      have X2 := X1a.keep hb2
      obtain ⟨X20, X21, X22, X23⟩ := X2.cells
      have X2z := X2.lt
      obtain ⟨z0, z1, z2⟩ := box3 hb2
      go_wp2_with fail
      refine (HL.out _).mono ?_
      rintro e w3 ⟨rfl, hb3⟩
      go_wp2
      go_ret
      refine ⟨ret_bool (by rw [← HR3.out]; simp), ?_⟩
      exact X2.bel.trans (hb3.mono X2.bel.size)
    · have hbb : (y3 == k) = false := by simp [hk2]
      have HR2 := HR.out
      rw [hb, hbb] at HR2
      have HR3 := Lib.hid HR2
      clear hk1 HR HR2 hk2
      go_enter Tryz.func87, Tryz.ntmps87
      go_wp2_with fail
      refine (HI.out _ X0.xv).mono ?_
      rintro e w1 ⟨rfl, hb1⟩
      have X1 := X0.keep hb1
      obtain ⟨X10, X11, X12, X13⟩ := X1.cells
      have X1z := X1.lt
      go_wp2
      go_ret
      refine ⟨ret_bool (by rw [← HR3.out]; simp), ?_⟩
      exact X1.bel.alloc X1.bel.size _
  · have hb : (y1 == 3) = false := by simp [hk1]
    have HR2 := HR.out
    rw [hb] at HR2
    have HR3 := Lib.hid HR2
    clear hk1 HR HR2
    go_enter Tryz.func87, Tryz.ntmps87
    go_wp2_with fail
    refine (HI.out _ X0.xv).mono ?_
    rintro e w1 ⟨rfl, hb1⟩
    have X1 := X0.keep hb1
    obtain ⟨X10, X11, X12, X13⟩ := X1.cells
    have X1z := X1.lt
    go_wp2
    go_ret
    refine ⟨ret_bool (by rw [← HR3.out]; simp), ?_⟩
    exact X1.bel.alloc X1.bel.size _
end
end Go.Proofs.YtkhanbedcmmlcaaGreatDoor
/- the document's audit: the lists of a heap. -/
set_option linter.unusedSimpArgs false
set_option linter.unusedVariables false
namespace Go.Proofs.YtkhanbedcmmlcaaGreatDoor
open Go.RowKit
section
variable {t p s : Int} {ad : Addr} {n c : Nat} {vs : List Int}

def listL (vs : List Int) (t p : Int) : Nat → Int → Int → List Int → List Int × Bool
  | 0, _, _, out => (out, false)
  | f + 1, q, ah, out => if q = 0 then (out, true) else if p < q ∨ p ≤ out.length then (out, false) else if gv vs t (q - 1) 3 ≠ ah then (out, false) else listL vs t p f (gv vs t (q - 1) 2) q (out ++ [q - 1])
def listF (vs : List Int) (t p : Int) (head : Nat) : List Int × Bool := listL vs t p (p.toNat + 1) (vs.getD head 0) 0 []

structure LsRel (w : World) (vs : List Int) (t p s : Int) (sl : Value) (res : List Int × Bool) (v6 v7 v8 : Value) (wr : World) (out : List Int) (q ah : Int) : Prop where
  hq : v7 = .int .u32 q
  ha : v8 = .int .u32 ah
  q0 : 0 ≤ q ∧ q < 4294967296
  row : wr.ownsRow 0 3 1 v6 out.length (ints out)
  bs : BS w (w.heap.size :: v6.ownBlock.toList) wr
  box : ∀ o : Nat, wr.cell? ⟨w.heap.size, o, none⟩ = (#[.int .i64 t, .int .i64 p, .int .i64 s, sl] : Array Value)[o]?
  le : (out.length : Int) ≤ p
  res : listL vs t p (p.toNat + 1 - out.length) q ah out = res
  far : ∀ k, v6.ownBlock = some k → w.heap.size < k
def LsRelE (w : World) (vs : List Int) (t p s : Int) (sl : Value) (res : List Int × Bool) (v6 v7 v8 : Value) (wr : World) : Prop := ∃ out q ah, LsRel w vs t p s sl res v6 v7 v8 wr out q ah

set_option maxHeartbeats 2000000 in
set_option maxRecDepth 100000 in
theorem list_any (head : Nat) (c : Nat) (w : World) (h : XV w t p s ad n vs) (hh : head < n) :
    Calls Tryz.prog 82 #[.agg #[.int .i64 t, .int .i64 p, .int .i64 s, .slice (some ad) n c], .int .i64 head] w fun e w' => ∃ v, e = .returned (.tuple #[v, .bool (listF vs t p head).2]) ∧ RowP w (listF vs t p head).1 v w' := by
  have r0 := row_empty (w.alloc (.cells #[.int .i64 t, .int .i64 p, .int .i64 s, .slice (some ad) n c] 59)) 3 1
  have hS0 := ((BS.start w).alloc (.cells #[.int .i64 t, .int .i64 p, .int .i64 s, .slice (some ad) n c] 59)).alloc (.cells #[] 3)
  have d0 := loc_old (.cells #[] 3) (by simp) (loc_alloc w #[.int .i64 t, .int .i64 p, .int .i64 s, .slice (some ad) n c] 59)
  simp only [World.size_alloc] at hS0 r0
  have bd : 4 ≤ p ∧ p ≤ 1024 := by have := h.bd; omega
  have hres0 : listL vs t p (p.toNat + 1) (vs.getD head 0) 0 [] = listF vs t p head := rfl
  have HX : ∀ q, 0 ≤ q → q < p → ∃ k k2 : Nat, k < n ∧ k2 < n ∧ (∀ w, Calls Tryz.prog 89 #[.agg #[.int .i64 t, .int .i64 p, .int .i64 s], .int .i64 q] w fun e w' => e = .returned (.int .i64 k) ∧ Below w.heap.size w w') ∧ w.cell? (ad.add k) = some (.int .u32 (gv vs t q 3)) ∧ (∀ w, Calls Tryz.prog 88 #[.agg #[.int .i64 t, .int .i64 p, .int .i64 s], .int .i64 q] w fun e w' => e = .returned (.int .i64 k2) ∧ Below w.heap.size w w') ∧ w.cell? (ad.add k2) = some (.int .u32 (gv vs t q 2)) ∧ 0 ≤ gv vs t q 2 ∧ gv vs t q 2 < 4294967296 := by
    intro q h0 h1
    obtain ⟨hx1, hx2⟩ := h.cx h0 h1 (part := 3) (by omega) (by omega)
    obtain ⟨hy1, hy2⟩ := h.cx h0 h1 (part := 2) (by omega) (by omega)
    refine ⟨cix t q 3, cix t q 2, hx1, hy1, fun w => ?_, h.cells _ hx1, fun w => ?_, h.cells _ hy1, h.gu q 2⟩
    · have := rprev_any t p s q w
      rwa [hx2] at this
    · have := rnext_any t p s q w
      rwa [hy2] at this
  have hc00 := h.cells head hh
  have hcx := (XV.boxed h c).xv.cells head hh
  have hcy := ((XV.boxed h c).alloc (.cells #[] 3)).xv.cells head hh
  have hu := getD_u32 h.u32 head
  have HXX := Lib.hid HX
  clear HX h
  generalize hRs : listF vs t p head = rs at *
  obtain ⟨rl, rb⟩ := rs
  generalize vs.getD head 0 = q0 at *
  obtain ⟨i0, hi0, hi1, hi2, hi3⟩ := info_parts infoInt
  have HI := Lib.hid (And.intro hi0 (And.intro hi1 (And.intro hi2 hi3)))
  clear hi0 hi1 hi2 hi3 hRs
  have HR0 := Lib.hid hres0
  have HU := Lib.hid hu
  clear hres0 hu
  go_enter Tryz.func82, Tryz.ntmps82
  go_wp2_with fail
  go_loopw [6, 7, 8, 9] (fun v6 v7 v8 _ wr => LsRelE w vs t p s (.slice (some ad) n c) (rl, rb) v6 v7 v8 wr) (fun v6 _ _ _ _ => p.toNat - lenS v6)
  case atStart => exact ⟨[], q0, 0, rfl, rfl, HU.out, r0, hS0.sub _ (by simp [Value.ownBlock]), d0, by simp; omega, by simpa using HR0.out, by simp [Value.ownBlock]⟩
  case round =>
    obtain ⟨out, q, ah, hr⟩ := hrel
    obtain ⟨rfl, rfl, hq0, hrow, hbs, hbox, hle, hrs, hfar⟩ := hr
    obtain ⟨hq1, hq2⟩ := hq0
    have hlen : ∃ a m c, u6 = .slice a m c ∧ m = out.length := by
      rcases hrow.2 with ⟨h5, h6⟩ | ⟨g', cap', cur, h5, -⟩
      · exact ⟨_, _, _, h5, h6.symm⟩
      · exact ⟨_, _, _, h5, rfl⟩
    obtain ⟨pa, pm, pc, rfl, rfl⟩ := hlen
    have hlt0 := (hbs.ls w.heap.size (by simp)).1
    have HB := Lib.hid hbs
    have HF := Lib.hid hfar
    have HRow := Lib.hid hrow
    have HBox := Lib.hid hbox
    have b0 := hbox 0
    have b1 := hbox 1
    simp at b0 b1
    have hs0 : (if q = 0 then (out, true) else if p < q ∨ p ≤ out.length then (out, false) else if gv vs t (q - 1) 3 ≠ ah then (out, false) else listL vs t p (p.toNat - out.length) (gv vs t (q - 1) 2) q (out ++ [q - 1])) = (rl, rb) := by
      have e0 := hrs
      have e1 : p.toNat + 1 - out.length = (p.toNat - out.length) + 1 := by omega
      rw [e1] at e0
      exact e0
    have HS := Lib.hid hs0
    have HLe := Lib.hid hle
    clear hS0 r0 d0 HR0 hbs hfar hrs hrow hbox hcx hcy hc00 hs0
    by_cases hz : q = 0
    · have hzb : (q != 0) = false := by simp [hz]
      have e0 := HS.out
      rw [if_pos hz] at e0
      obtain ⟨rfl, rfl⟩ := Prod.mk.inj e0
      clear HXX HS e0 hz
      go_wp2
      refine bodyPost_ret (v := .tuple #[.slice pa out.length pc, .bool true]) (by simp [results, Tryz.results82, go_sem, *]) rfl ⟨_, rfl, ?_⟩
      exact ⟨HRow.out, fun k hk => Nat.le_of_lt (HF.out k hk), HB.out.bel⟩
    · have hzb : (q != 0) = true := by simp [hz]
      have hw : IntKind.i64.wrap q = q := wrap_in _ (by omega)
      have hw2 : IntKind.i64.wrap (q - 1) = q - 1 := wrap_in _ (by omega)
      by_cases hp : p < q
      · have e0 := HS.out
        rw [if_neg hz, if_pos (Or.inl hp)] at e0
        obtain ⟨rfl, rfl⟩ := Prod.mk.inj e0
        clear HXX HS e0 hz
        go_wp2
        refine bodyPost_ret (v := .tuple #[.slice pa out.length pc, .bool false]) (by simp [results, Tryz.results82, go_sem, *]) rfl ⟨_, rfl, ?_⟩
        exact ⟨HRow.out, fun k hk => Nat.le_of_lt (HF.out k hk), HB.out.bel⟩
      · by_cases hl : p ≤ out.length
        · have e0 := HS.out
          rw [if_neg hz, if_pos (Or.inr hl)] at e0
          obtain ⟨rfl, rfl⟩ := Prod.mk.inj e0
          clear HXX HS e0 hz
          go_wp2
          refine bodyPost_ret (v := .tuple #[.slice pa out.length pc, .bool false]) (by simp [results, Tryz.results82, go_sem, *]) rfl ⟨_, rfl, ?_⟩
          exact ⟨HRow.out, fun k hk => Nat.le_of_lt (HF.out k hk), HB.out.bel⟩
        · obtain ⟨k, k2, hk, hk2, hI, hc0, hI2, hd0, hg0, hg1⟩ := HXX.out (q - 1) (by omega) (by omega)
          have e0 := HS.out
          rw [if_neg hz, if_neg (by omega)] at e0
          have hc1 := HB.out.old hc0
          have H1 := Lib.hid hI
          have H2 := Lib.hid hI2
          have HD := Lib.hid hd0
          have HGU := Lib.hid (And.intro hg0 hg1)
          clear HXX HS hz hI hI2 hc0 hd0 hg0 hg1 hle
          generalize gv vs t (q - 1) 3 = u at *
          generalize gv vs t (q - 1) 2 = x at *
          by_cases hu : u = ah
          · have hub : (u != ah) = false := by simp [hu]
            rw [if_neg (by simpa using hu)] at e0
            have HN := Lib.hid e0
            clear e0 hu
            go_wp2_with fail
            refine wp_region_noPanic ?_
            refine wp_region_held_drew (S := fun w' => BS wr ([] : List Nat) w' ∧ (∀ o : Nat, w'.cell? ⟨w.heap.size, o, none⟩ = (#[.int .i64 t, .int .i64 p, .int .i64 s, .slice (some ad) n c] : Array Value)[o]?) ∧ w'.cell? (ad.add k) = some (.int .u32 u)) (by kernel_rfl) ?_ (fun hHeld => ?_)
            · exact ⟨(BS.start wr).drew, HBox.out, hc1⟩
            refine wT 0 ?_
            refine wT 1 ?_
            refine wT 2 ?_
            refine wT 3 ?_
            refine wT 4 ?_
            refine wT 8 ?_
            refine wR 5 fun K hK => ?_
            go_simp
            refine (calls_b hHeld.1 (H1.out _)).mono ?_
            rintro e wr1 ⟨rfl, hV, hVl⟩
            dsimp only
            refine hK.out _ _ ?_ (fun hHeld2 => ?_)
            · exact ⟨hV, hV.oldbox HBox.out hlt0, hV.old hc1⟩
            clear hK K hV hVl hHeld
            have hHeld := hHeld2
            clear hHeld2
            try simp only [Act.put, zA, zB, zC, zD, zE, zF]
            refine wT 6 ?_
            refine wT 7 ?_
            refine wT 9 ?_
            refine wpAnyH_done (by kernel_rfl) (NoPanic.normal ?_) _
            refine world_gen ?_
            intro wz hwz
            rw [← hwz] at hHeld
            clear hwz
            have rz := hHeld.1.row HRow.out
            have hzb2 := Lib.hid hHeld.2.1
            have hbz := HB.out.below hHeld.1.bel
            have bel := hHeld.1.bel
            clear hHeld
            go_wp2_with (at_builtin; go_must (refine wpL_append rfl _ _ rfl 3 i0 (.int .i64 0) 1 8 Tryz.underlying108 HI.out.1 HI.out.2.1 HI.out.2.2.1 HI.out.2.2.2 rfl (by decide) (.slice pa out.length pc) out.length (ints out) rfl (rz.alloc _) ⟨wz.heap.size, 0, none⟩ 1 1 [.int .i64 (q - 1)] rfl rfl (cell_one_new _ _ _) ?c1 ?c2 ?c3 ?_); go_must (case c1 => (simp [Value.oneCell'])); go_must (case c2 => (have := HLe.out; unfold maxLen; omega)); go_must (case c3 => (have := HLe.out; omega)); go_must (intro v' w5 hown5 hg5 hnew5 hnil5); clear hnil5; go_must (obtain ⟨g', cap', rfl⟩ := Joins.ownsRow_form hown5 (by omega)))
            have hb5 := hbz.append hg5 hnew5 hown5
            have hx5 : ∀ o : Nat, w5.cell? ⟨w.heap.size, o, none⟩ = (#[.int .i64 t, .int .i64 p, .int .i64 s, .slice (some ad) n c] : Array Value)[o]? := loc_grown hg5 (by have := bel.size; simp; omega) (fun e => by have := HF.out _ e; omega) (loc_old _ (by have := bel.size; omega) hzb2.out)
            have hd5 := hb5.old HD.out
            have hl5 := (hb5.ls w.heap.size (by simp)).1
            have HB5 := Lib.hid hb5
            have HX5 := Lib.hid hx5
            have far5 : ∀ k, (Value.slice (some ⟨g', 0, none⟩) (out.length + 1) cap').ownBlock = some k → w.heap.size < k := fun k hk => (hnew5 k hk).elim (HF.out k) (fun h => by have := bel.size; simp at h; omega)
            clear hb5 hx5 hg5 hnew5 rz hbz hzb2
            refine wp_region_noPanic ?_
            refine wp_region_held_drew (S := fun w' => BS w5 ([] : List Nat) w' ∧ (∀ o : Nat, w'.cell? ⟨w.heap.size, o, none⟩ = (#[.int .i64 t, .int .i64 p, .int .i64 s, .slice (some ad) n c] : Array Value)[o]?) ∧ w'.cell? (ad.add k2) = some (.int .u32 x)) (by kernel_rfl) ?_ (fun hHeld => ?_)
            · exact ⟨(BS.start w5).drew, HX5.out, hd5⟩
            refine wT 0 ?_
            refine wT 1 ?_
            refine wT 2 ?_
            refine wT 3 ?_
            refine wT 4 ?_
            refine wR 5 fun K hK => ?_
            go_simp
            refine (calls_b hHeld.1 (H2.out _)).mono ?_
            rintro e wr1 ⟨rfl, hV, hVl⟩
            dsimp only
            refine hK.out _ _ ?_ (fun hHeld2 => ?_)
            · exact ⟨hV, hV.oldbox HX5.out hl5, hV.old hd5⟩
            clear hK K hV hVl hHeld
            have hHeld := hHeld2
            clear hHeld2
            try simp only [Act.put, zA, zB, zC, zD, zE, zF]
            refine wT 6 ?_
            refine wT 7 ?_
            refine wT 8 ?_
            refine wpAnyH_done (by kernel_rfl) (NoPanic.normal ?_) _
            refine world_gen ?_
            intro wz hwz
            rw [← hwz] at hHeld
            clear hwz
            have rz := hHeld.1.row hown5
            have hzb2 := hHeld.2.1
            have hbz := HB5.out.below hHeld.1.bel
            clear hHeld
            go_wp2_with fail
            go_roundw
            case rel =>
              refine ⟨out ++ [q - 1], x, q, rfl, rfl, HGU.out, by simpa [ints] using rz, hbz, hzb2, by simp; omega, ?_, far5⟩
              have e2 : p.toNat + 1 - (out ++ [q - 1]).length = p.toNat - out.length := by rw [List.length_append, List.length_singleton]; omega
              rw [e2]
              exact HN.out
            case measure => simp [lenS]; omega
          · have hub : (u != ah) = true := by simp [hu]
            rw [if_pos hu] at e0
            obtain ⟨rfl, rfl⟩ := Prod.mk.inj e0
            clear e0 hu
            go_wp2_with fail
            refine wp_region_noPanic ?_
            refine wp_region_held_drew (S := fun w' => BS wr ([] : List Nat) w' ∧ (∀ o : Nat, w'.cell? ⟨w.heap.size, o, none⟩ = (#[.int .i64 t, .int .i64 p, .int .i64 s, .slice (some ad) n c] : Array Value)[o]?) ∧ w'.cell? (ad.add k) = some (.int .u32 u)) (by kernel_rfl) ?_ (fun hHeld => ?_)
            · exact ⟨(BS.start wr).drew, HBox.out, hc1⟩
            refine wT 0 ?_
            refine wT 1 ?_
            refine wT 2 ?_
            refine wT 3 ?_
            refine wT 4 ?_
            refine wT 8 ?_
            refine wR 5 fun K hK => ?_
            go_simp
            refine (calls_b hHeld.1 (H1.out _)).mono ?_
            rintro e wr1 ⟨rfl, hV, hVl⟩
            dsimp only
            refine hK.out _ _ ?_ (fun hHeld2 => ?_)
            · exact ⟨hV, hV.oldbox HBox.out hlt0, hV.old hc1⟩
            clear hK K hV hVl hHeld
            have hHeld := hHeld2
            clear hHeld2
            try simp only [Act.put, zA, zB, zC, zD, zE, zF]
            refine wT 6 ?_
            refine wT 7 ?_
            refine wT 9 ?_
            refine wpAnyH_done (by kernel_rfl) (NoPanic.normal ?_) _
            refine world_gen ?_
            intro wz hwz
            rw [← hwz] at hHeld
            clear hwz
            have rz := hHeld.1.row HRow.out
            have hbz := HB.out.below hHeld.1.bel
            clear hHeld
            go_wp2
            refine bodyPost_ret (v := .tuple #[.slice pa out.length pc, .bool false]) (by simp [results, Tryz.results82, go_sem, *]) rfl ⟨_, rfl, ?_⟩
            exact ⟨rz, fun k hk => Nat.le_of_lt (HF.out k hk), hbz.bel⟩
end
end Go.Proofs.YtkhanbedcmmlcaaGreatDoor
/- the document's audit: bins and racks. -/
set_option linter.unusedSimpArgs false
set_option linter.unusedVariables false
namespace Go.Proofs.YtkhanbedcmmlcaaGreatDoor
open Go.RowKit

def allN (f : Nat → Bool) : Nat → Bool
  | 0 => true
  | k + 1 => allN f k && f k
theorem allN_no {f : Nat → Bool} {k N : Nat} (hk : k < N) (h : f k = false) : allN f N = false := by
  induction N with
  | zero => omega
  | succ N ih =>
    by_cases e : k = N
    · subst e; simp [allN, h]
    · simp [allN, ih (by omega)]
theorem allN_iff {f : Nat → Bool} {N : Nat} : allN f N = true ↔ ∀ k, k < N → f k = true := by
  induction N with
  | zero => simp [allN]
  | succ N ih =>
    simp only [allN, Bool.and_eq_true, ih]
    constructor
    · intro h k hk
      by_cases e : k = N
      · rw [e]; exact h.2
      · exact h.1 k (by omega)
    · exact fun h => ⟨fun k hk => h k (by omega), h N (by omega)⟩
theorem RowP.row {w w' : World} {l : List Int} {v : Value} (h : RowP w l v w') : ∃ a c, v = .slice a l.length c := row_shape h.1
theorem listL_len {vs : List Int} {t p : Int} : ∀ (f : Nat) (q ah : Int) (out : List Int), (out.length : Int) ≤ p → ((listL vs t p f q ah out).1.length : Int) ≤ p := by
  intro f
  induction f with
  | zero => intro q ah out h; exact h
  | succ f ih =>
    intro q ah out h
    unfold listL
    split
    · exact h
    · split
      · exact h
      · split
        · exact h
        · exact ih _ _ _ (by simp; omega)
theorem listF_len {vs : List Int} {t p : Int} (h : 0 ≤ p) (k : Nat) : ((listF vs t p k).1.length : Int) ≤ p := listL_len _ _ _ _ (by simpa using h)
def wantI (b : Bool) : Int := if b then 1 else 0
section
variable {t p s : Int} {ad : Addr} {n c : Nat} {vs : List Int}
def AllRel (f : Nat → Bool) (N : Nat) (W0 : World) (v : Value) (wr : World) : Prop := ∃ k : Nat, k ≤ N ∧ v = .int .i64 k ∧ allN f k = true ∧ Below W0.heap.size W0 wr
def binsInB (vs : List Int) (t : Int) (l : List Int) (k : Nat) (q : Nat) : Bool := ((l.count (q : Int) : Nat) : Int) == wantI (binnedB (gv vs t (q : Int) 0) k)
def binsB (vs : List Int) (t p : Int) (k : Nat) : Bool := (listF vs t p (2 + k)).2 && allN (binsInB vs t (listF vs t p (2 + k)).1 k) p.toNat
def binsF (vs : List Int) (t p : Int) : Bool := allN (binsB vs t p) 11

set_option maxHeartbeats 1000000 in
set_option maxRecDepth 100000 in
theorem bins_any (c : Nat) (w : World) (h : XV w t p s ad n vs) :
    Calls Tryz.prog 43 #[.agg #[.int .i64 t, .int .i64 p, .int .i64 s, .slice (some ad) n c]] w fun e w' => e = .returned (.bool (binsF vs t p)) ∧ Below w.heap.size w w' := by
  have X0 := h.boxed c
  have bd : 4 ≤ p ∧ p ≤ 1024 := by have := h.bd; omega
  have hnn : (n : Int) = 30 + 4 * t + 6 * p ∧ 1 ≤ t := by have := h.bd; omega
  have HN := Lib.hid hnn
  generalize hr : binsF vs t p = r
  have hr2 : allN (binsB vs t p) 11 = r := hr
  have HR := Lib.hid hr2
  clear h hr hr2 hnn
  go_enter Tryz.func43, Tryz.ntmps43
  go_wp2_with fail
  go_loopw [3, 4, 5, 6, 7] (fun v3 _ _ _ _ wr => AllRel (binsB vs t p) 11 (w.alloc (.cells #[.int .i64 t, .int .i64 p, .int .i64 s, .slice (some ad) n c] 59)) v3 wr) (fun v3 _ _ _ _ _ => 11 - (intOf v3).toNat)
  case atStart => exact ⟨0, by omega, rfl, rfl, Below.refl _ _⟩
  case round =>
    obtain ⟨k, hk, rfl, hall, hbel⟩ := hrel
    have X1 := X0.keep hbel
    have HA := Lib.hid hall
    have HBel := Lib.hid hbel
    clear hall hbel X0
    by_cases hlt : k < 11
    · have hBin := Lib.hid (fun w => rbin_any k w hlt)
      have hLi := Lib.hid (fun (w : World) (h : XV w t p s ad n vs) => list_any (2 + k) c w h (by have := HN.out; omega))
      have hfk : binsB vs t p k = ((listF vs t p (2 + k)).2 && allN (binsInB vs t (listF vs t p (2 + k)).1 k) p.toNat) := rfl
      have HFK := Lib.hid hfk
      have hlen : (listF vs t p (2 + k)).1.length ≤ 4294967296 := by have := listF_len (vs := vs) (t := t) (p := p) (by omega) (2 + k); omega
      have HLen := Lib.hid hlen
      clear hfk hlen
      have Xr := X1.box
      have Xl := X1.lt
      generalize listF vs t p (2 + k) = lr at *
      obtain ⟨l, lb⟩ := lr
      go_wp2_with fail
      refine wp_region_noPanic ?_
      refine wp_region_held_drew (S := fun w' => BS wr ([] : List Nat) w' ∧ (∀ o : Nat, w'.cell? ⟨w.heap.size, o, none⟩ = (#[.int .i64 t, .int .i64 p, .int .i64 s, .slice (some ad) n c] : Array Value)[o]?)) (by kernel_rfl) ?_ (fun hHeld => ?_)
      · exact ⟨(BS.start wr).drew, Xr⟩
      refine wT 0 ?_
      refine wT 1 ?_
      refine wR 2 fun K hK => ?_
      go_simp
      refine (calls_b hHeld.1 (hBin.out _)).mono ?_
      rintro e wr1 ⟨rfl, hV, hVl⟩
      dsimp only
      refine hK.out _ _ ?_ (fun hHeld2 => ?_)
      · exact ⟨hV, hV.oldbox Xr Xl⟩
      clear hK K hV hVl hHeld
      have hHeld := hHeld2
      clear hHeld2
      try simp only [Act.put, zA, zB, zC, zD, zE, zF]
      refine wR 3 fun K hK => ?_
      go_simp
      refine (calls_row hHeld.1 (hLi.out _ (X1.xv.keep hHeld.1.bel))).mono ?_
      rintro e wr2 ⟨lv, rfl, ⟨hV, hVl⟩, hlv⟩
      dsimp only
      refine hK.out _ _ ?_ (fun hHeld2 => ?_)
      · exact ⟨hV, hV.oldbox Xr Xl⟩
      clear hK K hV hVl hHeld
      have hHeld := hHeld2
      clear hHeld2
      try simp only [Act.put, zA, zB, zC, zD, zE, zF]
      refine wT 4 ?_
      refine wT 5 ?_
      refine wT 6 ?_
      refine wT 7 ?_
      refine wT 8 ?_
      refine wpAnyH_done (by kernel_rfl) (NoPanic.normal ?_) _
      refine world_gen ?_
      intro wz hwz
      rw [← hwz] at hHeld hlv
      clear hwz
      have X2 := X1.keep hHeld.1.bel
      obtain ⟨x0, x1, x2, x3⟩ := X2.cells
      have xl := X2.lt
      have bel2 := hHeld.1.bel
      clear hHeld Xr Xl
      obtain ⟨la, lc, rfl⟩ := hlv.row
      have HL := Lib.hid hlv
      have HB2 := Lib.hid bel2
      clear hlv bel2
      cases lb
      · have hno : binsB vs t p k = false := by rw [HFK.out]; rfl
        have hres : r = false := by rw [← HR.out]; exact allN_no hlt hno
        subst hres
        clear hno
        go_wp2
        go_ret
        exact ⟨rfl, X2.bel⟩
      · have hfk2 : binsB vs t p k = allN (binsInB vs t l k) p.toNat := by rw [HFK.out]; rfl
        have HFK2 := Lib.hid hfk2
        clear hfk2 HFK
        go_wp2_with fail
        go_loopw [6, 7] (fun v6 _ wq => AllRel (binsInB vs t l k) p.toNat wz v6 wq) (fun v6 _ _ => p.toNat - (intOf v6).toNat)
        case atStart => exact ⟨0, by omega, rfl, rfl, Below.refl _ _⟩
        case round =>
          obtain ⟨q, hq, rfl, hallq, hbq⟩ := hrel
          have X3 := X2.keep hbq
          have HQ := Lib.hid hallq
          have HBq := Lib.hid hbq
          clear hallq hbq x0 x1 x2 x3 X2
          obtain ⟨x0, x1, x2, x3⟩ := X3.cells
          by_cases hqp : (q : Int) < p
          · have hC := Lib.hid (fun (w : World) (h : XV w t p s ad n vs) => binned_any q k c w h (by omega) hqp)
            have hin : binsInB vs t l k q = (((l.count (q : Int) : Nat) : Int) == wantI (binnedB (gv vs t (q : Int) 0) k)) := rfl
            have hIn := Lib.hid (fun (w' : World) (hb : Below wz.heap.size wz w') => xin_any l q (.slice la l.length lc) w' (ownsRow_block HL.out.1 fun k hk => hb.block k (ownsRow_lt HL.out.1 hk)) HLen.out)
            have hcb : l.count (q : Int) ≤ 4294967296 := Nat.le_trans List.count_le_length HLen.out
            generalize binnedB (gv vs t (q : Int) 0) k = cd at *
            generalize l.count (q : Int) = cn at *
            have HIN := Lib.hid hin
            clear hin
            by_cases hw : (cn : Int) = wantI cd
            · have hyes : binsInB vs t l k q = true := by rw [HIN.out]; simpa using hw
              have HY := Lib.hid hyes
              have HW := Lib.hid hw
              clear hyes hw HIN
              cases cd
              · have e1 := HW.out
                have hb1 : ((cn : Int) != 0) = false := by rw [e1]; rfl
                clear e1
                go_wp2_with fail
                refine (hC.out _ X3.xv).mono ?_
                rintro e w5 ⟨rfl, hb5⟩
                have X5 := X3.keep hb5
                obtain ⟨X50, X51, X52, X53⟩ := X5.cells
                have X5z := X5.lt
                go_wp2_with fail
                refine (hIn.out _ (HBq.out.trans (hb5.mono HBq.out.size))).mono ?_
                rintro e w6 ⟨rfl, hb6⟩
                have bel6 := (HBq.out.trans (hb5.mono HBq.out.size)).trans (hb6.mono (Nat.le_trans HBq.out.size hb5.size))
                go_wp2_with fail
                go_roundw
                case rel => exact ⟨q + 1, by omega, by go_num, by simp [allN, HQ.out, HY.out], bel6⟩
                case measure => simp [intOf]; omega
              · have e1 := HW.out
                have hb1 : ((cn : Int) != 1) = false := by rw [e1]; rfl
                clear e1
                go_wp2_with fail
                refine (hC.out _ X3.xv).mono ?_
                rintro e w5 ⟨rfl, hb5⟩
                have X5 := X3.keep hb5
                obtain ⟨X50, X51, X52, X53⟩ := X5.cells
                have X5z := X5.lt
                go_wp2_with fail
                refine (hIn.out _ (HBq.out.trans (hb5.mono HBq.out.size))).mono ?_
                rintro e w6 ⟨rfl, hb6⟩
                have bel6 := (HBq.out.trans (hb5.mono HBq.out.size)).trans (hb6.mono (Nat.le_trans HBq.out.size hb5.size))
                go_wp2_with fail
                go_roundw
                case rel => exact ⟨q + 1, by omega, by go_num, by simp [allN, HQ.out, HY.out], bel6⟩
                case measure => simp [intOf]; omega
            · have hno : binsInB vs t l k q = false := by rw [HIN.out]; simpa using hw
              have hno2 : binsB vs t p k = false := by rw [HFK2.out]; exact allN_no (by omega) hno
              have hres : r = false := by rw [← HR.out]; exact allN_no hlt hno2
              subst hres
              have HW := Lib.hid hw
              clear hno hno2 hw HIN HR
              cases cd
              · have hb1 : ((cn : Int) != 0) = true := by have := HW.out; simpa [wantI] using this
                go_wp2_with fail
                refine (hC.out _ X3.xv).mono ?_
                rintro e w5 ⟨rfl, hb5⟩
                have X5 := X3.keep hb5
                obtain ⟨X50, X51, X52, X53⟩ := X5.cells
                have X5z := X5.lt
                go_wp2_with fail
                refine (hIn.out _ (HBq.out.trans (hb5.mono HBq.out.size))).mono ?_
                rintro e w6 ⟨rfl, hb6⟩
                go_wp2_with fail
                go_ret
                exact ⟨rfl, (X5.keep hb6).bel⟩
              · have hb1 : ((cn : Int) != 1) = true := by have := HW.out; simpa [wantI] using this
                go_wp2_with fail
                refine (hC.out _ X3.xv).mono ?_
                rintro e w5 ⟨rfl, hb5⟩
                have X5 := X3.keep hb5
                obtain ⟨X50, X51, X52, X53⟩ := X5.cells
                have X5z := X5.lt
                go_wp2_with fail
                refine (hIn.out _ (HBq.out.trans (hb5.mono HBq.out.size))).mono ?_
                rintro e w6 ⟨rfl, hb6⟩
                go_wp2_with fail
                go_ret
                exact ⟨rfl, (X5.keep hb6).bel⟩
          · obtain rfl : q = p.toNat := by omega
            have bel6 := HBel.out.trans ((HB2.out.trans (HBq.out.mono HB2.out.size)).mono HBel.out.size)
            have hyes : binsB vs t p k = true := by rw [HFK2.out]; exact HQ.out
            have HY := Lib.hid hyes
            clear hyes
            go_wp2_with fail
            go_roundw
            case rel => exact ⟨k + 1, by omega, by go_num, by simp [allN, HA.out, HY.out], bel6⟩
            case measure => simp [intOf]; omega
    · obtain rfl : k = 11 := by omega
      have hres : r = true := by rw [← HR.out]; exact HA.out
      subst hres
      go_wp2
      go_ret
      exact ⟨rfl, X1.bel⟩

def racksInB (vs : List Int) (t : Int) (l : List Int) (k : Nat) (q : Nat) : Bool := ((l.count (q : Int) : Nat) : Int) == wantI (rackedB (gv vs t (q : Int) 0) (gv vs t (q : Int) 5) k)
def racksB (vs : List Int) (t p : Int) (k : Nat) : Bool := (listF vs t p (13 + k)).2 && allN (racksInB vs t (listF vs t p (13 + k)).1 k) p.toNat
def racksF (vs : List Int) (t p : Int) : Bool := allN (racksB vs t p) 9

set_option maxHeartbeats 1000000 in
set_option maxRecDepth 100000 in
theorem racks_any (c : Nat) (w : World) (h : XV w t p s ad n vs) :
    Calls Tryz.prog 44 #[.agg #[.int .i64 t, .int .i64 p, .int .i64 s, .slice (some ad) n c]] w fun e w' => e = .returned (.bool (racksF vs t p)) ∧ Below w.heap.size w w' := by
  have X0 := h.boxed c
  have bd : 4 ≤ p ∧ p ≤ 1024 := by have := h.bd; omega
  have hnn : (n : Int) = 30 + 4 * t + 6 * p ∧ 1 ≤ t := by have := h.bd; omega
  have HN := Lib.hid hnn
  generalize hr : racksF vs t p = r
  have hr2 : allN (racksB vs t p) 9 = r := hr
  have HR := Lib.hid hr2
  clear h hr hr2 hnn
  go_enter Tryz.func44, Tryz.ntmps44
  go_wp2_with fail
  go_loopw [3, 4, 5, 6, 7] (fun v3 _ _ _ _ wr => AllRel (racksB vs t p) 9 (w.alloc (.cells #[.int .i64 t, .int .i64 p, .int .i64 s, .slice (some ad) n c] 59)) v3 wr) (fun v3 _ _ _ _ _ => 9 - (intOf v3).toNat)
  case atStart => exact ⟨0, by omega, rfl, rfl, Below.refl _ _⟩
  case round =>
    obtain ⟨k, hk, rfl, hall, hbel⟩ := hrel
    have X1 := X0.keep hbel
    have HA := Lib.hid hall
    have HBel := Lib.hid hbel
    clear hall hbel X0
    by_cases hlt : k < 9
    · have hBin := Lib.hid (fun w => rrack_any k w hlt)
      have hLi := Lib.hid (fun (w : World) (h : XV w t p s ad n vs) => list_any (13 + k) c w h (by have := HN.out; omega))
      have hfk : racksB vs t p k = ((listF vs t p (13 + k)).2 && allN (racksInB vs t (listF vs t p (13 + k)).1 k) p.toNat) := rfl
      have HFK := Lib.hid hfk
      have hlen : (listF vs t p (13 + k)).1.length ≤ 4294967296 := by have := listF_len (vs := vs) (t := t) (p := p) (by omega) (13 + k); omega
      have HLen := Lib.hid hlen
      clear hfk hlen
      have Xr := X1.box
      have Xl := X1.lt
      generalize listF vs t p (13 + k) = lr at *
      obtain ⟨l, lb⟩ := lr
      go_wp2_with fail
      refine wp_region_noPanic ?_
      refine wp_region_held_drew (S := fun w' => BS wr ([] : List Nat) w' ∧ (∀ o : Nat, w'.cell? ⟨w.heap.size, o, none⟩ = (#[.int .i64 t, .int .i64 p, .int .i64 s, .slice (some ad) n c] : Array Value)[o]?)) (by kernel_rfl) ?_ (fun hHeld => ?_)
      · exact ⟨(BS.start wr).drew, Xr⟩
      refine wT 0 ?_
      refine wT 1 ?_
      refine wR 2 fun K hK => ?_
      go_simp
      refine (calls_b hHeld.1 (hBin.out _)).mono ?_
      rintro e wr1 ⟨rfl, hV, hVl⟩
      dsimp only
      refine hK.out _ _ ?_ (fun hHeld2 => ?_)
      · exact ⟨hV, hV.oldbox Xr Xl⟩
      clear hK K hV hVl hHeld
      have hHeld := hHeld2
      clear hHeld2
      try simp only [Act.put, zA, zB, zC, zD, zE, zF]
      refine wR 3 fun K hK => ?_
      go_simp
      refine (calls_row hHeld.1 (hLi.out _ (X1.xv.keep hHeld.1.bel))).mono ?_
      rintro e wr2 ⟨lv, rfl, ⟨hV, hVl⟩, hlv⟩
      dsimp only
      refine hK.out _ _ ?_ (fun hHeld2 => ?_)
      · exact ⟨hV, hV.oldbox Xr Xl⟩
      clear hK K hV hVl hHeld
      have hHeld := hHeld2
      clear hHeld2
      try simp only [Act.put, zA, zB, zC, zD, zE, zF]
      refine wT 4 ?_
      refine wT 5 ?_
      refine wT 6 ?_
      refine wT 7 ?_
      refine wT 8 ?_
      refine wpAnyH_done (by kernel_rfl) (NoPanic.normal ?_) _
      refine world_gen ?_
      intro wz hwz
      rw [← hwz] at hHeld hlv
      clear hwz
      have X2 := X1.keep hHeld.1.bel
      obtain ⟨x0, x1, x2, x3⟩ := X2.cells
      have xl := X2.lt
      have bel2 := hHeld.1.bel
      clear hHeld Xr Xl
      obtain ⟨la, lc, rfl⟩ := hlv.row
      have HL := Lib.hid hlv
      have HB2 := Lib.hid bel2
      clear hlv bel2
      cases lb
      · have hno : racksB vs t p k = false := by rw [HFK.out]; rfl
        have hres : r = false := by rw [← HR.out]; exact allN_no hlt hno
        subst hres
        clear hno
        go_wp2
        go_ret
        exact ⟨rfl, X2.bel⟩
      · have hfk2 : racksB vs t p k = allN (racksInB vs t l k) p.toNat := by rw [HFK.out]; rfl
        have HFK2 := Lib.hid hfk2
        clear hfk2 HFK
        go_wp2_with fail
        go_loopw [6, 7] (fun v6 _ wq => AllRel (racksInB vs t l k) p.toNat wz v6 wq) (fun v6 _ _ => p.toNat - (intOf v6).toNat)
        case atStart => exact ⟨0, by omega, rfl, rfl, Below.refl _ _⟩
        case round =>
          obtain ⟨q, hq, rfl, hallq, hbq⟩ := hrel
          have X3 := X2.keep hbq
          have HQ := Lib.hid hallq
          have HBq := Lib.hid hbq
          clear hallq hbq x0 x1 x2 x3 X2
          obtain ⟨x0, x1, x2, x3⟩ := X3.cells
          by_cases hqp : (q : Int) < p
          · have hC := Lib.hid (fun (w : World) (h : XV w t p s ad n vs) => racked_any q k c w h (by omega) hqp)
            have hin : racksInB vs t l k q = (((l.count (q : Int) : Nat) : Int) == wantI (rackedB (gv vs t (q : Int) 0) (gv vs t (q : Int) 5) k)) := rfl
            have hIn := Lib.hid (fun (w' : World) (hb : Below wz.heap.size wz w') => xin_any l q (.slice la l.length lc) w' (ownsRow_block HL.out.1 fun k hk => hb.block k (ownsRow_lt HL.out.1 hk)) HLen.out)
            have hcb : l.count (q : Int) ≤ 4294967296 := Nat.le_trans List.count_le_length HLen.out
            generalize rackedB (gv vs t (q : Int) 0) (gv vs t (q : Int) 5) k = cd at *
            generalize l.count (q : Int) = cn at *
            have HIN := Lib.hid hin
            clear hin
            by_cases hw : (cn : Int) = wantI cd
            · have hyes : racksInB vs t l k q = true := by rw [HIN.out]; simpa using hw
              have HY := Lib.hid hyes
              have HW := Lib.hid hw
              clear hyes hw HIN
              cases cd
              · have e1 := HW.out
                have hb1 : ((cn : Int) != 0) = false := by rw [e1]; rfl
                clear e1
                go_wp2_with fail
                refine (hC.out _ X3.xv).mono ?_
                rintro e w5 ⟨rfl, hb5⟩
                have X5 := X3.keep hb5
                obtain ⟨X50, X51, X52, X53⟩ := X5.cells
                have X5z := X5.lt
                go_wp2_with fail
                refine (hIn.out _ (HBq.out.trans (hb5.mono HBq.out.size))).mono ?_
                rintro e w6 ⟨rfl, hb6⟩
                have bel6 := (HBq.out.trans (hb5.mono HBq.out.size)).trans (hb6.mono (Nat.le_trans HBq.out.size hb5.size))
                go_wp2_with fail
                go_roundw
                case rel => exact ⟨q + 1, by omega, by go_num, by simp [allN, HQ.out, HY.out], bel6⟩
                case measure => simp [intOf]; omega
              · have e1 := HW.out
                have hb1 : ((cn : Int) != 1) = false := by rw [e1]; rfl
                clear e1
                go_wp2_with fail
                refine (hC.out _ X3.xv).mono ?_
                rintro e w5 ⟨rfl, hb5⟩
                have X5 := X3.keep hb5
                obtain ⟨X50, X51, X52, X53⟩ := X5.cells
                have X5z := X5.lt
                go_wp2_with fail
                refine (hIn.out _ (HBq.out.trans (hb5.mono HBq.out.size))).mono ?_
                rintro e w6 ⟨rfl, hb6⟩
                have bel6 := (HBq.out.trans (hb5.mono HBq.out.size)).trans (hb6.mono (Nat.le_trans HBq.out.size hb5.size))
                go_wp2_with fail
                go_roundw
                case rel => exact ⟨q + 1, by omega, by go_num, by simp [allN, HQ.out, HY.out], bel6⟩
                case measure => simp [intOf]; omega
            · have hno : racksInB vs t l k q = false := by rw [HIN.out]; simpa using hw
              have hno2 : racksB vs t p k = false := by rw [HFK2.out]; exact allN_no (by omega) hno
              have hres : r = false := by rw [← HR.out]; exact allN_no hlt hno2
              subst hres
              have HW := Lib.hid hw
              clear hno hno2 hw HIN HR
              cases cd
              · have hb1 : ((cn : Int) != 0) = true := by have := HW.out; simpa [wantI] using this
                go_wp2_with fail
                refine (hC.out _ X3.xv).mono ?_
                rintro e w5 ⟨rfl, hb5⟩
                have X5 := X3.keep hb5
                obtain ⟨X50, X51, X52, X53⟩ := X5.cells
                have X5z := X5.lt
                go_wp2_with fail
                refine (hIn.out _ (HBq.out.trans (hb5.mono HBq.out.size))).mono ?_
                rintro e w6 ⟨rfl, hb6⟩
                go_wp2_with fail
                go_ret
                exact ⟨rfl, (X5.keep hb6).bel⟩
              · have hb1 : ((cn : Int) != 1) = true := by have := HW.out; simpa [wantI] using this
                go_wp2_with fail
                refine (hC.out _ X3.xv).mono ?_
                rintro e w5 ⟨rfl, hb5⟩
                have X5 := X3.keep hb5
                obtain ⟨X50, X51, X52, X53⟩ := X5.cells
                have X5z := X5.lt
                go_wp2_with fail
                refine (hIn.out _ (HBq.out.trans (hb5.mono HBq.out.size))).mono ?_
                rintro e w6 ⟨rfl, hb6⟩
                go_wp2_with fail
                go_ret
                exact ⟨rfl, (X5.keep hb6).bel⟩
          · obtain rfl : q = p.toNat := by omega
            have bel6 := HBel.out.trans ((HB2.out.trans (HBq.out.mono HB2.out.size)).mono HBel.out.size)
            have hyes : racksB vs t p k = true := by rw [HFK2.out]; exact HQ.out
            have HY := Lib.hid hyes
            clear hyes
            go_wp2_with fail
            go_roundw
            case rel => exact ⟨k + 1, by omega, by go_num, by simp [allN, HA.out, HY.out], bel6⟩
            case measure => simp [intOf]; omega
    · obtain rfl : k = 9 := by omega
      have hres : r = true := by rw [← HR.out]; exact HA.out
      subst hres
      go_wp2
      go_ret
      exact ⟨rfl, X1.bel⟩
end
end Go.Proofs.YtkhanbedcmmlcaaGreatDoor
/- the document's audit: tiles, apart, feet. -/
set_option linter.unusedSimpArgs false
set_option linter.unusedVariables false
namespace Go.Proofs.YtkhanbedcmmlcaaGreatDoor
open Go.RowKit

def tilesN (vs : List Int) (t : Int) (l : List Int) : Nat → Option Nat
  | 0 => some 0
  | q + 1 => match tilesN vs t l q with
    | none => none
    | some n => if l[n]? = some (q : Int) then some (n + 1) else if gv vs t (q : Int) 0 = 0 then some n else none
def tilesF (vs : List Int) (t p : Int) : Bool := (startsF (fun q => gv vs t q 0) p).2 && (tilesN vs t (startsF (fun q => gv vs t q 0) p).1 p.toNat).isSome
theorem tilesN_no {vs : List Int} {t : Int} {l : List Int} {k N : Nat} (hk : k ≤ N) (h : tilesN vs t l k = none) : tilesN vs t l N = none := by
  induction N with
  | zero => obtain rfl : k = 0 := by omega
            exact h
  | succ N ih =>
    by_cases e : k = N + 1
    · subst e; exact h
    · unfold tilesN; rw [ih (by omega)]

theorem startsL_mem {g : Int → Int} {p : Int} : ∀ (f : Nat) (a : Int) (out : List Int), 0 ≤ a → (∀ x ∈ out, 0 ≤ x ∧ x < p) → (∀ x ∈ (startsL g p f a out).1, 0 ≤ x ∧ x < p) ∧ (out ≠ [] → (startsL g p f a out).2 = true → (startsL g p f a out).1 ≠ []) ∧ ((out.length : Int) ≤ a → (out.length : Int) ≤ p → ((startsL g p f a out).1.length : Int) ≤ p) := by
  intro f
  induction f with
  | zero => intro a out _ h; exact ⟨h, fun h _ => h, fun _ h => h⟩
  | succ f ih =>
    intro a out ha h
    unfold startsL
    by_cases h1 : a < p
    · rw [if_pos h1]
      by_cases h2 : okI (g a) = false ∨ iK (g a) = 0
      · rw [if_pos h2]
        exact ⟨by simp, by simp, by simp; omega⟩
      · rw [if_neg h2]
        have b := inf_bd (g a)
        have h3 : 1 ≤ iL (g a) := (b.2.2.2.2.2.2.1 (fun e => h2 (Or.inr e))).2
        obtain ⟨i1, i2, i3⟩ := ih (a + iL (g a)) (out ++ [a]) (by omega) (by
          intro x hx
          simp at hx
          rcases hx with hx | rfl
          · exact h x hx
          · exact ⟨ha, h1⟩)
        exact ⟨i1, fun _ => i2 (by simp), fun h4 h5 => i3 (by simp; omega) (by simp; omega)⟩
    · rw [if_neg h1]
      exact ⟨h, fun h _ => h, fun _ h => h⟩
theorem startsF_mem {g : Int → Int} {p : Int} (hp : 0 < p) : (∀ x ∈ (startsF g p).1, 0 ≤ x ∧ x < p) ∧ ((startsF g p).2 = true → (startsF g p).1 ≠ []) ∧ ((startsF g p).1.length : Int) ≤ p := by
  obtain ⟨h1, h2, h3⟩ := startsL_mem (g := g) (p := p) (p.toNat + 1) 0 [] (by omega) (by simp)
  refine ⟨h1, fun h => ?_, h3 (by simp) (by simp; omega)⟩
  unfold startsF at h ⊢
  unfold startsL at h ⊢
  rw [if_pos hp] at h ⊢
  by_cases h4 : okI (g 0) = false ∨ iK (g 0) = 0
  · rw [if_pos h4] at h; simp at h
  · rw [if_neg h4] at h ⊢
    have b := inf_bd (g 0)
    exact (startsL_mem _ _ _ (by omega) (by simp; omega)).2.1 (by simp) h

theorem RowP.cell {w w' : World} {l : List Int} {a : Option Addr} {m c : Nat} (h : RowP w l (.slice a m c) w') {k : Nat} (hk : k < l.length) :
    ∃ g, a = some ⟨g, 0, none⟩ ∧ w'.cell? ⟨g, k, none⟩ = some (.int .i64 (l.getD k 0)) := by
  obtain ⟨g, cap, e⟩ := Joins.ownsRow_form h.1 (by omega)
  simp only [Value.slice.injEq] at e
  obtain ⟨rfl, rfl, rfl⟩ := e
  refine ⟨g, rfl, ?_⟩
  rw [h.1.cellAt k (by omega)]
  simp [ints, hk]

theorem fieldInfo0 (x y z : Value) (w : World) : (Instr.field 40 (.agg #[x, y, z]) 0).run Tryz.prog w = .ok x w := by
  simp [Instr.field, asAgg, go_sem]
theorem fieldInfo1 (x y z : Value) (w : World) : (Instr.field 40 (.agg #[x, y, z]) 1).run Tryz.prog w = .ok y w := by
  simp [Instr.field, asAgg, go_sem]

section
variable {t p s : Int} {ad : Addr} {n c : Nat} {vs : List Int}

def TileRel (vs : List Int) (t p : Int) (l : List Int) (W0 : World) (v5 v6 : Value) (wr : World) : Prop := ∃ q m : Nat, (q : Int) ≤ p ∧ v6 = .int .i64 q ∧ v5 = .int .i64 m ∧ m ≤ q ∧ tilesN vs t l q = some m ∧ Below W0.heap.size W0 wr

set_option maxHeartbeats 1000000 in
set_option maxRecDepth 100000 in
theorem tiles_any (c : Nat) (w : World) (h : XV w t p s ad n vs) :
    Calls Tryz.prog 39 #[.agg #[.int .i64 t, .int .i64 p, .int .i64 s, .slice (some ad) n c]] w fun e w' => e = .returned (.bool (tilesF vs t p)) ∧ Below w.heap.size w w' := by
  have X0 := h.boxed c
  have bd : 4 ≤ p ∧ p ≤ 1024 := by have := h.bd; omega
  have HS := Lib.hid (fun (w : World) (h : XV w t p s ad n vs) => starts_any c w h)
  have HX : ∀ q, 0 ≤ q → q < p → ∃ k : Nat, k < n ∧ (∀ w, Calls Tryz.prog 77 #[.agg #[.int .i64 t, .int .i64 p, .int .i64 s], .int .i64 q] w fun e w' => e = .returned (.int .i64 k) ∧ Below w.heap.size w w') ∧ w.cell? (ad.add k) = some (.int .u32 (gv vs t q 0)) := by
    intro q h0 h1
    obtain ⟨hx1, hx2⟩ := h.cx h0 h1 (part := 0) (by omega) (by omega)
    refine ⟨cix t q 0, hx1, fun w => ?_, h.cells _ hx1⟩
    have := rinfo_any t p s q w
    rwa [hx2] at this
  have HXX := Lib.hid HX
  have hlen := (startsF_mem (g := fun q => gv vs t q 0) (p := p) (by omega)).2.2
  have HLen := Lib.hid hlen
  generalize hr : tilesF vs t p = r
  have hr2 : ((startsF (fun q => gv vs t q 0) p).2 && (tilesN vs t (startsF (fun q => gv vs t q 0) p).1 p.toNat).isSome) = r := hr
  have HR := Lib.hid hr2
  clear h hr hr2 HX hlen
  generalize startsF (fun q => gv vs t q 0) p = st at *
  obtain ⟨l, lb⟩ := st
  go_enter Tryz.func39, Tryz.ntmps39
  go_wp2_with fail
  refine (HS.out _ X0.xv).mono ?_
  rintro e w1 ⟨lv, rfl, hlv⟩
  have X1 := X0.keep hlv.2.2
  obtain ⟨la, lc, rfl⟩ := hlv.row
  have HL := Lib.hid hlv
  clear hlv X0
  cases lb
  · have hres : r = false := by rw [← HR.out]; rfl
    subst hres
    go_wp2
    go_ret
    exact ⟨rfl, X1.bel⟩
  · have hr3 : (tilesN vs t l p.toNat).isSome = r := by rw [← HR.out]; rfl
    have HR3 := Lib.hid hr3
    obtain ⟨x0, x1, x2, x3⟩ := X1.cells
    clear HR hr3
    go_wp2_with fail
    go_loopw [5, 6] (fun v5 v6 wr => TileRel vs t p l w1 v5 v6 wr) (fun _ v6 _ => p.toNat - (intOf v6).toNat)
    case atStart => exact ⟨0, 0, by omega, rfl, rfl, by omega, rfl, Below.refl _ _⟩
    case round =>
      obtain ⟨q, m, hq, rfl, rfl, hmq, htn, hbq⟩ := hrel
      have X3 := X1.keep hbq
      have HT := Lib.hid htn
      have HB := Lib.hid hbq
      clear htn hbq x0 x1 x2 x3
      obtain ⟨x0, x1, x2, x3⟩ := X3.cells
      have HLen2 := HLen.out
      by_cases hqp : (q : Int) < p
      · have hstep : tilesN vs t l (q + 1) = if l[m]? = some (q : Int) then some (m + 1) else if gv vs t (q : Int) 0 = 0 then some m else none := by
          show (match tilesN vs t l q with
            | none => none
            | some n => if l[n]? = some (q : Int) then some (n + 1) else if gv vs t (q : Int) 0 = 0 then some n else none) = _
          rw [HT.out]
        by_cases hl : m < l.length
        · obtain ⟨g, rfl, hc0⟩ := HL.out.cell hl
          have hc1 := (HB.out.cell (World.block_lt_of_cell? _ _ hc0)).trans hc0
          have hget : l[m]? = some (l.getD m 0) := by simp [hl]
          rw [hget] at hstep
          generalize l.getD m 0 = y at *
          by_cases hy : y = (q : Int)
          · have hb : (y == (q : Int)) = true := by simp [hy]
            rw [if_pos (by rw [hy])] at hstep
            have HS2 := Lib.hid hstep
            clear hstep hget hy hc0
            go_wp2_with fail
            go_roundw
            case rel => exact ⟨q + 1, m + 1, by omega, by go_num, by go_num, by omega, HS2.out, HB.out⟩
            case measure => simp [intOf]; omega
          · have hb : (y == (q : Int)) = false := by simp [hy]
            rw [if_neg (by simpa using hy)] at hstep
            obtain ⟨k, hkn, hI, hd0⟩ := HXX.out q (by omega) hqp
            have hd1 := X3.xv.cells
            have hd2 := (BS.mk X3.bel (by simp) : BS w [] wr).old hd0
            have HI := Lib.hid hI
            have HBox := Lib.hid X3.box
            have hxl := X3.lt
            clear hget hy hc0 hI hd0 hd1
            generalize gv vs t (q : Int) 0 = u at *
            by_cases hu : u = 0
            · have hub : (u != 0) = false := by simp [hu]
              rw [if_pos hu] at hstep
              have HS2 := Lib.hid hstep
              clear hstep hu
              go_wp2_with fail
              refine wp_region_noPanic ?_
              refine wp_region_held_drew (S := fun w' => BS wr ([] : List Nat) w' ∧ (∀ o : Nat, w'.cell? ⟨w.heap.size, o, none⟩ = (#[.int .i64 t, .int .i64 p, .int .i64 s, .slice (some ad) n c] : Array Value)[o]?) ∧ w'.cell? (ad.add k) = some (.int .u32 u)) (by kernel_rfl) ?_ (fun hHeld => ?_)
              · exact ⟨(BS.start wr).drew, HBox.out, hd2⟩
              refine wT 0 ?_
              refine wT 1 ?_
              refine wT 2 ?_
              refine wT 3 ?_
              refine wT 4 ?_
              refine wR 5 fun K hK => ?_
              go_simp
              refine (calls_b hHeld.1 (HI.out _)).mono ?_
              rintro e wr1 ⟨rfl, hV, hVl⟩
              dsimp only
              refine hK.out _ _ ?_ (fun hHeld2 => ?_)
              · exact ⟨hV, hV.oldbox HBox.out hxl, hV.old hd2⟩
              clear hK K hV hVl hHeld
              have hHeld := hHeld2
              clear hHeld2
              try simp only [Act.put, zA, zB, zC, zD, zE, zF]
              refine wT 6 ?_
              refine wT 7 ?_
              refine wT 8 ?_
              refine wpAnyH_done (by kernel_rfl) (NoPanic.normal ?_) _
              refine world_gen ?_
              intro wz hwz
              rw [← hwz] at hHeld
              clear hwz
              have hbz := HB.out.trans (hHeld.1.bel.mono HB.out.size)
              clear hHeld
              go_wp2_with fail
              go_roundw
              case rel => exact ⟨q + 1, m, by omega, by go_num, rfl, by omega, HS2.out, hbz⟩
              case measure => simp [intOf]; omega
            · have hub : (u != 0) = true := by simp [hu]
              rw [if_neg hu] at hstep
              have hres : r = false := by rw [← HR3.out, tilesN_no (k := q + 1) (by omega) hstep]; rfl
              subst hres
              clear hstep hu
              go_wp2_with fail
              refine wp_region_noPanic ?_
              refine wp_region_held_drew (S := fun w' => BS wr ([] : List Nat) w' ∧ (∀ o : Nat, w'.cell? ⟨w.heap.size, o, none⟩ = (#[.int .i64 t, .int .i64 p, .int .i64 s, .slice (some ad) n c] : Array Value)[o]?) ∧ w'.cell? (ad.add k) = some (.int .u32 u)) (by kernel_rfl) ?_ (fun hHeld => ?_)
              · exact ⟨(BS.start wr).drew, HBox.out, hd2⟩
              refine wT 0 ?_
              refine wT 1 ?_
              refine wT 2 ?_
              refine wT 3 ?_
              refine wT 4 ?_
              refine wR 5 fun K hK => ?_
              go_simp
              refine (calls_b hHeld.1 (HI.out _)).mono ?_
              rintro e wr1 ⟨rfl, hV, hVl⟩
              dsimp only
              refine hK.out _ _ ?_ (fun hHeld2 => ?_)
              · exact ⟨hV, hV.oldbox HBox.out hxl, hV.old hd2⟩
              clear hK K hV hVl hHeld
              have hHeld := hHeld2
              clear hHeld2
              try simp only [Act.put, zA, zB, zC, zD, zE, zF]
              refine wT 6 ?_
              refine wT 7 ?_
              refine wT 8 ?_
              refine wpAnyH_done (by kernel_rfl) (NoPanic.normal ?_) _
              refine world_gen ?_
              intro wz hwz
              rw [← hwz] at hHeld
              clear hwz
              have hbz := X3.keep hHeld.1.bel
              clear hHeld
              go_wp2
              go_ret
              exact ⟨rfl, hbz.bel⟩
        · have hgn : l[m]? = none := List.getElem?_eq_none (by omega)
          rw [hgn, if_neg (by simp)] at hstep
          obtain ⟨k, hkn, hI, hd0⟩ := HXX.out q (by omega) hqp
          have hd2 := (BS.mk X3.bel (by simp) : BS w [] wr).old hd0
          have HI := Lib.hid hI
          have HBox := Lib.hid X3.box
          have hxl := X3.lt
          clear hI hd0
          generalize gv vs t (q : Int) 0 = u at *
          by_cases hu : u = 0
          · have hub : (u != 0) = false := by simp [hu]
            rw [if_pos hu] at hstep
            have HS2 := Lib.hid hstep
            clear hstep hu
            go_wp2_with fail
            refine wp_region_noPanic ?_
            refine wp_region_held_drew (S := fun w' => BS wr ([] : List Nat) w' ∧ (∀ o : Nat, w'.cell? ⟨w.heap.size, o, none⟩ = (#[.int .i64 t, .int .i64 p, .int .i64 s, .slice (some ad) n c] : Array Value)[o]?) ∧ w'.cell? (ad.add k) = some (.int .u32 u)) (by kernel_rfl) ?_ (fun hHeld => ?_)
            · exact ⟨(BS.start wr).drew, HBox.out, hd2⟩
            refine wT 0 ?_
            refine wT 1 ?_
            refine wT 2 ?_
            refine wT 3 ?_
            refine wT 4 ?_
            refine wR 5 fun K hK => ?_
            go_simp
            refine (calls_b hHeld.1 (HI.out _)).mono ?_
            rintro e wr1 ⟨rfl, hV, hVl⟩
            dsimp only
            refine hK.out _ _ ?_ (fun hHeld2 => ?_)
            · exact ⟨hV, hV.oldbox HBox.out hxl, hV.old hd2⟩
            clear hK K hV hVl hHeld
            have hHeld := hHeld2
            clear hHeld2
            try simp only [Act.put, zA, zB, zC, zD, zE, zF]
            refine wT 6 ?_
            refine wT 7 ?_
            refine wT 8 ?_
            refine wpAnyH_done (by kernel_rfl) (NoPanic.normal ?_) _
            refine world_gen ?_
            intro wz hwz
            rw [← hwz] at hHeld
            clear hwz
            have hbz := HB.out.trans (hHeld.1.bel.mono HB.out.size)
            clear hHeld
            go_wp2_with fail
            go_roundw
            case rel => exact ⟨q + 1, m, by omega, by go_num, rfl, by omega, HS2.out, hbz⟩
            case measure => simp [intOf]; omega
          · have hub : (u != 0) = true := by simp [hu]
            rw [if_neg hu] at hstep
            have hres : r = false := by rw [← HR3.out, tilesN_no (k := q + 1) (by omega) hstep]; rfl
            subst hres
            clear hstep hu
            go_wp2_with fail
            refine wp_region_noPanic ?_
            refine wp_region_held_drew (S := fun w' => BS wr ([] : List Nat) w' ∧ (∀ o : Nat, w'.cell? ⟨w.heap.size, o, none⟩ = (#[.int .i64 t, .int .i64 p, .int .i64 s, .slice (some ad) n c] : Array Value)[o]?) ∧ w'.cell? (ad.add k) = some (.int .u32 u)) (by kernel_rfl) ?_ (fun hHeld => ?_)
            · exact ⟨(BS.start wr).drew, HBox.out, hd2⟩
            refine wT 0 ?_
            refine wT 1 ?_
            refine wT 2 ?_
            refine wT 3 ?_
            refine wT 4 ?_
            refine wR 5 fun K hK => ?_
            go_simp
            refine (calls_b hHeld.1 (HI.out _)).mono ?_
            rintro e wr1 ⟨rfl, hV, hVl⟩
            dsimp only
            refine hK.out _ _ ?_ (fun hHeld2 => ?_)
            · exact ⟨hV, hV.oldbox HBox.out hxl, hV.old hd2⟩
            clear hK K hV hVl hHeld
            have hHeld := hHeld2
            clear hHeld2
            try simp only [Act.put, zA, zB, zC, zD, zE, zF]
            refine wT 6 ?_
            refine wT 7 ?_
            refine wT 8 ?_
            refine wpAnyH_done (by kernel_rfl) (NoPanic.normal ?_) _
            refine world_gen ?_
            intro wz hwz
            rw [← hwz] at hHeld
            clear hwz
            have hbz := X3.keep hHeld.1.bel
            clear hHeld
            go_wp2
            go_ret
            exact ⟨rfl, hbz.bel⟩
      · obtain rfl : q = p.toNat := by omega
        have hres : r = true := by rw [← HR3.out, HT.out]; rfl
        subst hres
        go_wp2
        go_ret
        exact ⟨rfl, X3.bel⟩

end
end Go.Proofs.YtkhanbedcmmlcaaGreatDoor
