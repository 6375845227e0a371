/- a view of cells, as plain data: what Get and Put do. -/
import Derived.Test.YtloilknkhloegaaDoorHeap
set_option linter.unusedSimpArgs false
set_option linter.unusedVariables false
namespace Go.Proofs.YtloilknkhloegaaDoor
open Go.RowKit

def wix : List (Nat × Int) → Nat → Option Nat
  | [], _ => none
  | p :: r, i => if p.1 = i then some 0 else (wix r i).map (· + 1)

theorem wix_some {i : Nat} : ∀ {l : List (Nat × Int)} {j : Nat}, wix l i = some j → j < l.length ∧ ∃ v, l[j]? = some (i, v)
  | [], _, h => by simp [wix] at h
  | p :: r, j, h => by
    simp only [wix] at h
    split at h
    · rename_i hp
      cases h
      exact ⟨by simp, p.2, by simp [← hp]⟩
    · cases hr : wix r i with
      | none => simp [hr] at h
      | some k =>
        simp [hr] at h
        subst h
        obtain ⟨h1, v, h2⟩ := wix_some hr
        exact ⟨by simp; omega, v, by simpa using h2⟩
theorem wix_none {i : Nat} : ∀ {l : List (Nat × Int)}, wix l i = none ↔ i ∉ l.map (·.1)
  | [] => by simp [wix]
  | p :: r => by
    have ih := wix_none (i := i) (l := r)
    simp only [wix]
    split
    · rename_i h; simp [h]
    · rename_i h
      simp only [Option.map_eq_none_iff, List.map_cons, List.mem_cons, not_or, ih]
      exact ⟨fun x => ⟨fun y => h y.symm, x⟩, fun x => x.2⟩

structure VS where
  n : Nat
  known : Nat → Option Int
  reads : List Nat
  writes : List (Nat × Int)
  miss : Option Nat

namespace VS

def there (s : VS) (i : Int) : Bool := decide (0 ≤ i) && decide (i < s.n) && s.miss.isNone
def wr (s : VS) (i : Nat) : Option Int := (wix s.writes i).bind fun j => s.writes[j]?.map (·.2)
def read1 (s : VS) (i : Nat) : VS := if s.reads.contains i then s else { s with reads := s.reads ++ [i] }
def get (s : VS) (i : Int) : Int × VS :=
  if s.there i = true then
    match s.wr i.toNat with
    | some v => (v, s)
    | none => match s.known i.toNat with
      | some v => (v, s.read1 i.toNat)
      | none => (0, { s with miss := some i.toNat })
  else (0, s)
def setW (l : List (Nat × Int)) (i : Nat) (v : Int) : List (Nat × Int) := match wix l i with
  | some j => l.set j (i, v)
  | none => l ++ [(i, v)]
def put (s : VS) (i : Int) (v : Int) : VS := if s.there i = true then { s with writes := setW s.writes i.toNat v } else s

def U32 (v : Int) : Prop := 0 ≤ v ∧ v < 4294967296

theorem u32_zero : U32 0 := ⟨by decide, by decide⟩

structure Inv (s : VS) : Prop where
  small : s.n ≤ 2147483648
  rnd : s.reads.Nodup
  rlt : ∀ r ∈ s.reads, r < s.n
  wnd : (s.writes.map (·.1)).Nodup
  wlt : ∀ p ∈ s.writes, p.1 < s.n
  ku : ∀ i v, s.known i = some v → U32 v
  wu : ∀ p ∈ s.writes, U32 p.2

theorem there_iff {s : VS} {i : Int} : s.there i = true ↔ 0 ≤ i ∧ i < s.n ∧ s.miss = none := by
  simp [there, and_assoc]

theorem setW_keys_some {l : List (Nat × Int)} {i : Nat} {v : Int} {j : Nat} (h : wix l i = some j) : (l.set j (i, v)).map (·.1) = l.map (·.1) := by
  obtain ⟨h1, u, h2⟩ := wix_some h
  apply List.ext_getElem?
  intro k
  simp only [List.getElem?_map, List.getElem?_set]
  by_cases hk : j = k
  · subst hk
    have h3 : l[j] = (i, u) := by rw [List.getElem?_eq_getElem h1] at h2; exact Option.some.inj h2
    simp [h1, h3]
  · simp [hk]

theorem length_le_of_nodup : ∀ (n : Nat) (l : List Nat), l.Nodup → (∀ x ∈ l, x < n) → l.length ≤ n
  | 0, l, _, h => by
    cases l with
    | nil => simp
    | cons x r => have := h x (by simp); omega
  | n + 1, l, hn, h => by
    have h1 := length_le_of_nodup n (l.erase n) (hn.erase n) (fun x hx => by
      have h2 := h x (List.mem_of_mem_erase hx)
      have h3 : x ≠ n := fun e => by
        subst e
        exact (List.Nodup.not_mem_erase hn) hx
      omega)
    have h4 := List.length_erase (a := n) (l := l)
    split at h4 <;> omega

theorem Inv.reads_le {s : VS} (h : s.Inv) : s.reads.length ≤ s.n := length_le_of_nodup _ _ h.rnd h.rlt
theorem Inv.writes_le {s : VS} (h : s.Inv) : s.writes.length ≤ s.n := by
  have := length_le_of_nodup s.n _ h.wnd (fun x hx => by
    obtain ⟨p, hp, rfl⟩ := List.mem_map.1 hx
    exact h.wlt p hp)
  simpa using this

theorem Inv.get {s : VS} (h : s.Inv) (i : Int) : (s.get i).2.Inv := by
  unfold VS.get
  split
  · rename_i ht
    obtain ⟨h0, h1, _⟩ := there_iff.1 ht
    split
    · exact h
    · split
      · unfold read1
        split
        · exact h
        · rename_i hc
          have hc' : i.toNat ∉ s.reads := by simpa using hc
          refine ⟨h.small, ?_, ?_, h.wnd, h.wlt, h.ku, h.wu⟩
          · simp only [List.nodup_append]
            exact ⟨h.rnd, by simp, fun a ha b hb => by simp at hb; subst hb; exact fun e => hc' (e ▸ ha)⟩
          · intro r hr
            simp at hr
            rcases hr with hr | rfl
            · exact h.rlt r hr
            · show i.toNat < s.n; omega
      · exact ⟨h.small, h.rnd, h.rlt, h.wnd, h.wlt, h.ku, h.wu⟩
  · exact h

theorem Inv.put {s : VS} (h : s.Inv) (i v : Int) (hv : U32 v) : (s.put i v).Inv := by
  unfold VS.put
  split
  · rename_i ht
    obtain ⟨h0, h1, _⟩ := there_iff.1 ht
    unfold setW
    cases hw : wix s.writes i.toNat with
    | some j =>
      refine ⟨h.small, h.rnd, h.rlt, ?_, ?_, h.ku, ?_⟩
      · show ((s.writes.set j (i.toNat, v)).map (·.1)).Nodup
        rw [setW_keys_some hw]; exact h.wnd
      · intro p hp
        rcases List.mem_or_eq_of_mem_set hp with hp | rfl
        · exact h.wlt p hp
        · show i.toNat < s.n; omega
      · intro p hp
        rcases List.mem_or_eq_of_mem_set hp with hp | rfl
        · exact h.wu p hp
        · exact hv
    | none =>
      have hn := wix_none.1 hw
      refine ⟨h.small, h.rnd, h.rlt, ?_, ?_, h.ku, ?_⟩
      · show ((s.writes ++ [(i.toNat, v)]).map (·.1)).Nodup
        simp only [List.map_append, List.nodup_append]
        exact ⟨h.wnd, by simp, fun a ha b hb => by simp at hb; subst hb; exact fun e => hn (e ▸ ha)⟩
      · intro p hp
        simp only [List.mem_append, List.mem_singleton] at hp
        rcases hp with hp | rfl
        · exact h.wlt p hp
        · show i.toNat < s.n; omega
      · intro p hp
        simp only [List.mem_append, List.mem_singleton] at hp
        rcases hp with hp | rfl
        · exact h.wu p hp
        · exact hv
  · exact h

theorem get_u32 {s : VS} (h : s.Inv) (i : Int) : U32 (s.get i).1 := by
  unfold VS.get
  split
  · split
    · rename_i v hv
      unfold wr at hv
      cases hw : wix s.writes i.toNat with
      | none => simp [hw] at hv
      | some j =>
        obtain ⟨_, u, h2⟩ := wix_some hw
        simp [hw, h2] at hv
        subst hv
        exact h.wu _ (List.mem_of_getElem? h2)
    · split
      · rename_i v hv; exact h.ku _ _ hv
      · exact u32_zero
  · exact u32_zero

end VS

/-! ### how the program keeps it -/
def putRows (l : List (Nat × Int)) : List (Int × Int) := l.zipIdx.map fun x => ((x.1.1 : Int), (x.2 : Int))
def readRows (l : List Nat) : List (Int × Int) := l.map fun (r : Nat) => ((r : Int), (1 : Int))
def pairCells (l : List (Nat × Int)) : List Value := l.flatMap fun p => [.int .i64 p.1, .int .u32 p.2]
def intCells (l : List Nat) : List Value := l.map fun (r : Nat) => .int .i64 (r : Int)

theorem look_zip (i : Nat) : ∀ (l : List (Nat × Int)) (k m : Nat), look ((l.zipIdx k).map fun x => ((x.1.1 : Int), (x.2 : Int))) (i : Int) m = (wix l i).map fun j => (j + m, ((j + k : Nat) : Int))
  | [], _, _ => rfl
  | p :: r, k, m => by
    simp only [List.zipIdx_cons, List.map_cons, look, wix]
    by_cases h : p.1 = i
    · simp [h]
    · have h' : ¬ ((p.1 : Int) = (i : Int)) := by omega
      rw [if_neg h, if_neg h', look_zip i r (k + 1) (m + 1)]
      cases wix r i with
      | none => rfl
      | some j => simp; omega

theorem assoc_put (l : List (Nat × Int)) (i : Nat) : assoc (putRows l) (i : Int) = (wix l i).map fun j => (j : Int) := by
  unfold assoc putRows
  rw [look_zip]
  cases wix l i <;> simp
theorem putRows_some {l : List (Nat × Int)} {i j : Nat} (v : Int) (h : wix l i = some j) : putRows (l.set j (i, v)) = putRows l := by
  have hk := VS.setW_keys_some (v := v) h
  unfold putRows
  apply List.ext_getElem?
  intro k
  have := congrArg (fun x => x[k]?) hk
  simp only [List.getElem?_map, List.getElem?_zipIdx] at this ⊢
  cases h1 : (l.set j (i, v))[k]? <;> cases h2 : l[k]? <;> simp_all
theorem putRows_none {l : List (Nat × Int)} {i : Nat} (v : Int) (h : wix l i = none) : putRows (l ++ [(i, v)]) = upsert (putRows l) (i : Int) (l.length : Int) := by
  have hl : look (putRows l) (i : Int) 0 = none := by unfold putRows; rw [look_zip, h]; rfl
  unfold upsert
  rw [hl]
  simp [putRows, List.zipIdx_append]
theorem look_read (i : Nat) : ∀ (l : List Nat) (m : Nat), look (readRows l) (i : Int) m = none ↔ i ∉ l
  | [], _ => by simp [readRows, look]
  | r :: l, m => by
    simp only [readRows, List.map_cons, look]
    by_cases h : r = i
    · simp [h]
    · have h' : ¬ ((r : Int) = (i : Int)) := by omega
      rw [if_neg h']
      have := look_read i l (m + 1)
      unfold readRows at this
      rw [this]
      simp; exact fun _ => fun e => h e.symm
theorem look_read_one (i : Nat) : ∀ (l : List Nat) (m j : Nat) (v : Int), look (readRows l) (i : Int) m = some (j, v) → v = 1
  | [], _, _, _, h => by simp [readRows, look] at h
  | r :: l, m, j, v, h => by
    simp only [readRows, List.map_cons, look] at h
    split at h
    · simp at h; omega
    · exact look_read_one i l (m + 1) j v h
theorem assoc_read_in {l : List Nat} {i : Nat} (h : i ∈ l) : assoc (readRows l) (i : Int) = some 1 := by
  unfold assoc
  cases hl : look (readRows l) (i : Int) 0 with
  | none => exact absurd h ((look_read i l 0).1 hl)
  | some x => obtain ⟨j, v⟩ := x; have := look_read_one i l 0 j v hl; simp [this]
theorem assoc_read_out {l : List Nat} {i : Nat} (h : i ∉ l) : assoc (readRows l) (i : Int) = none := by
  unfold assoc
  rw [(look_read i l 0).2 h]; rfl
theorem readRows_add {l : List Nat} {i : Nat} (h : i ∉ l) : readRows (l ++ [i]) = upsert (readRows l) (i : Int) 1 := by
  unfold upsert
  rw [(look_read i l 0).2 h]
  simp [readRows]

end Go.Proofs.YtloilknkhloegaaDoor
