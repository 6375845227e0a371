/- the document's view, as memory; its Get. -/
import Derived.Test.YtkfcjlampnjfbaaRef
namespace Go.Proofs.Ytkfcjlampnjfbaa
open Go.RowKit

def rowF (n : Nat) (f : Nat → Value) : List Value := (List.range n).map f
theorem rowF_length (n : Nat) (f : Nat → Value) : (rowF n f).length = n := by simp [rowF]
theorem rowF_get {n i : Nat} (f : Nat → Value) (h : i < n) : (rowF n f)[i]? = some (f i) := by simp [rowF, h]
theorem rowF_set {n i : Nat} (f g : Nat → Value) (v : Value) (hi : g i = v) (hg : ∀ j, j ≠ i → g j = f j) : (rowF n f).set i v = rowF n g := by
  apply List.ext_getElem?
  intro j
  simp only [rowF, List.getElem?_set, List.getElem?_map, List.length_map, List.length_range]
  by_cases hj : i = j
  · subst hj
    by_cases hn : i < n
    · simp [hn, hi]
    · simp [hn]
  · rw [if_neg hj]
    by_cases hn : j < n
    · simp [hn, hg j (fun e => hj e.symm)]
    · simp [hn]

def knowF (s : VS) (i : Nat) : Value := .bool (s.known i).isSome
def valF (s : VS) (i : Nat) : Value := .int .u32 ((s.known i).getD 0)
def isF (s : VS) (i : Nat) : Value := .bool (s.wr i).isSome
def toF (s : VS) (i : Nat) : Value := .int .u32 ((s.wr i).getD 0)

structure RVs (w : World) (b : Nat) (S : Nat → Prop) (s : VS) (kv vv iv tv rv wv : Value) (all : Bool) : Prop where
  cells : w.heap[b]? = some (.cells #[.int .i64 s.n, kv, vv, iv, tv, rv, wv, .int .i64 (missI s), .bool all] 92)
  kr : w.ownsRow 0 4 1 kv s.n (rowF s.n (knowF s))
  vr : w.ownsRow 0 72 1 vv s.n (rowF s.n (valF s))
  ir : w.ownsRow 0 4 1 iv s.n (rowF s.n (isF s))
  tr : w.ownsRow 0 72 1 tv s.n (rowF s.n (toF s))
  rr : w.ownsRow 0 3 1 rv s.reads.length (intCells s.reads)
  wr : w.ownsRow 0 3 1 wv s.writes.length (intCells (s.writes.map (·.1)))
  d1 : ∀ k, kv.ownBlock = some k → iv.ownBlock ≠ some k
  d2 : ∀ k, vv.ownBlock = some k → tv.ownBlock ≠ some k
  d3 : ∀ k, rv.ownBlock = some k → wv.ownBlock ≠ some k
  inb : S b
  ink : ∀ k, kv.ownBlock = some k → S k
  inv' : ∀ k, vv.ownBlock = some k → S k
  ini : ∀ k, iv.ownBlock = some k → S k
  int : ∀ k, tv.ownBlock = some k → S k
  inr : ∀ k, rv.ownBlock = some k → S k
  inw : ∀ k, wv.ownBlock = some k → S k
  lt : ∀ k, S k → k < w.heap.size
  inv : s.Inv
  tot : ∀ i, i < s.n → ∃ v, s.known i = some v

def RV (w : World) (b : Nat) (S : Nat → Prop) (s : VS) : Prop := ∃ kv vv iv tv rv wv all, RVs w b S s kv vv iv tv rv wv all

theorem RVs.cell {w : World} {b : Nat} {S : Nat → Prop} {s : VS} {kv vv iv tv rv wv : Value} {all : Bool} (h : RVs w b S s kv vv iv tv rv wv all) (o : Nat) :
    w.cell? ⟨b, o, none⟩ = (#[.int .i64 s.n, kv, vv, iv, tv, rv, wv, .int .i64 (missI s), .bool all] : Array Value)[o]? := cell?_of_heap h.cells

theorem ownsRow_ne {w : World} {e e2 sz sz2 : Nat} {v v2 : Value} {n n2 : Nat} {xs xs2 : List Value} (h : w.ownsRow 0 e sz v n xs) (h2 : w.ownsRow 0 e2 sz2 v2 n2 xs2) (hne : e ≠ e2) {k : Nat} (hk : v2.ownBlock = some k) : v.ownBlock ≠ some k := by
  rcases h2.2 with ⟨rfl, -⟩ | ⟨g, cap, cur, rfl, -, hg, -⟩
  · simp [Value.ownBlock] at hk
  · simp [Value.ownBlock] at hk; subst hk; exact ownsRow_elem h hg hne

theorem keepsRV : Keeps RV where
  keep := by
    rintro w w' b S T s ⟨kv, vv, iv, tv, rv, wv, all, h⟩ F hd
    have blk : ∀ k, S k → w'.heap[k]? = w.heap[k]? := fun k hk => F.block k (h.lt k hk) (hd k hk)
    exact ⟨kv, vv, iv, tv, rv, wv, all, (blk b h.inb).trans h.cells, ownsRow_block h.kr fun k hk => blk k (h.ink k hk), ownsRow_block h.vr fun k hk => blk k (h.inv' k hk), ownsRow_block h.ir fun k hk => blk k (h.ini k hk), ownsRow_block h.tr fun k hk => blk k (h.int k hk),
      ownsRow_block h.rr fun k hk => blk k (h.inr k hk), ownsRow_block h.wr fun k hk => blk k (h.inw k hk), h.d1, h.d2, h.d3, h.inb, h.ink, h.inv', h.ini, h.int, h.inr, h.inw, fun k hk => Nat.lt_of_lt_of_le (h.lt k hk) F.size, h.inv, h.tot⟩
  lt := by rintro w b S s ⟨kv, vv, iv, tv, rv, wv, all, h⟩; exact h.lt
  inv := by rintro w b S s ⟨kv, vv, iv, tv, rv, wv, all, h⟩; exact h.inv
  mono := by
    rintro w b S S' s ⟨kv, vv, iv, tv, rv, wv, all, h⟩ hS hlt
    exact ⟨kv, vv, iv, tv, rv, wv, all, h.cells, h.kr, h.vr, h.ir, h.tr, h.rr, h.wr, h.d1, h.d2, h.d3, hS _ h.inb, fun k hk => hS _ (h.ink k hk), fun k hk => hS _ (h.inv' k hk), fun k hk => hS _ (h.ini k hk), fun k hk => hS _ (h.int k hk), fun k hk => hS _ (h.inr k hk), fun k hk => hS _ (h.inw k hk), hlt, h.inv, h.tot⟩

def NowR (w : World) (b : Nat) (S : Nat → Prop) (t : VS) (w' : World) : Prop := RV w' b (upd S w w') t ∧ Fr S w w'
theorem NowR.refl {w : World} {b : Nat} {S : Nat → Prop} {s : VS} (h : RV w b S s) : NowR w b S s w :=
  ⟨keepsRV.mono h (fun k hk => Or.inl hk) (fun k hk => by rcases hk with hk | hk; exact keepsRV.lt h k hk; exact hk.2), Fr.refl _ _⟩

/-- the four ways in which there is no such cell to be seen. -/
theorem rget_no (b : Nat) (i : Int) (w : World) (S : Nat → Prop) (s : VS) (h : RV w b S s) (ht : s.there i = false) :
    Calls Try.prog 64 #[.pointer (some ⟨b, 0, none⟩), .int .i64 i] w fun e w' => e = .returned (.int .u32 0) ∧ w = w' := by
  obtain ⟨kv, vv, iv, tv, rv, wv, all, hv⟩ := h
  have h0 := hv.cell 0
  have h7 := hv.cell 7
  simp at h0 h7
  clear hv
  by_cases h1 : i < 0
  · clear h0 h7 ht
    go_enter Try.func64, Try.ntmps64
    go_wp2
    go_ret
    exact ⟨rfl, rfl⟩
  · by_cases h2 : (s.n : Int) ≤ i
    · clear h7 ht
      go_enter Try.func64, Try.ntmps64
      go_wp2
      go_ret
      exact ⟨rfl, rfl⟩
    · have h3 : ∃ j, s.miss = some j := by
        cases hm : s.miss with
        | none => simp [VS.there, hm] at ht; omega
        | some j => exact ⟨j, rfl⟩
      obtain ⟨j, hj⟩ := h3
      have hm : missI s = (j : Int) := by simp [missI, hj]
      rw [hm] at h7
      have h8 : (0 : Int) ≤ (j : Int) := by omega
      clear ht hj hm
      go_enter Try.func64, Try.ntmps64
      go_wp2
      go_ret
      exact ⟨rfl, rfl⟩

theorem rget_put (b : Nat) (i : Int) (w : World) (S : Nat → Prop) (s : VS) (h : RV w b S s) (ht : s.there i = true) (v : Int) (hw : s.wr i.toNat = some v) :
    Calls Try.prog 64 #[.pointer (some ⟨b, 0, none⟩), .int .i64 i] w fun e w' => e = .returned (.int .u32 v) ∧ w = w' := by
  obtain ⟨hi0, hi1, hm⟩ := VS.there_iff.1 ht
  obtain ⟨n, rfl⟩ := Int.eq_ofNat_of_zero_le hi0
  simp only [Int.toNat_natCast] at hw
  obtain ⟨kv, vv, iv, tv, rv, wv, all, hv⟩ := h
  have h0 := hv.cell 0
  have h3 := hv.cell 3
  have h4 := hv.cell 4
  have h7 := hv.cell 7
  have e7 : missI s = -1 := by simp [missI, hm]
  simp [e7] at h0 h3 h4 h7
  obtain ⟨gi, ci, rfl⟩ := Joins.ownsRow_form hv.ir (by omega)
  obtain ⟨gt, ct, rfl⟩ := Joins.ownsRow_form hv.tr (by omega)
  have ci0 : w.cell? ⟨gi, n, none⟩ = some (.bool true) := by rw [hv.ir.cellAt n (by omega), rowF_get _ (by omega)]; simp [isF, hw]
  have ct0 : w.cell? ⟨gt, n, none⟩ = some (.int .u32 v) := by rw [hv.tr.cellAt n (by omega), rowF_get _ (by omega)]; simp [toF, hw]
  clear hv hm ht hw e7
  go_enter Try.func64, Try.ntmps64
  go_wp2
  go_ret
  exact ⟨rfl, rfl⟩

theorem rget_old (b : Nat) (i : Int) (w : World) (S : Nat → Prop) (s : VS) (h : RV w b S s) (ht : s.there i = true) (v : Int) (hw : s.wr i.toNat = none) (hk : s.known i.toNat = some v) (hr : i.toNat ∈ s.reads) :
    Calls Try.prog 64 #[.pointer (some ⟨b, 0, none⟩), .int .i64 i] w fun e w' => e = .returned (.int .u32 v) ∧ w = w' := by
  obtain ⟨hi0, hi1, hm⟩ := VS.there_iff.1 ht
  obtain ⟨n, rfl⟩ := Int.eq_ofNat_of_zero_le hi0
  simp only [Int.toNat_natCast] at hw hk hr
  obtain ⟨kv, vv, iv, tv, rv, wv, all, hv⟩ := h
  have h0 := hv.cell 0
  have h1 := hv.cell 1
  have h2 := hv.cell 2
  have h3 := hv.cell 3
  have h5 := hv.cell 5
  have h7 := hv.cell 7
  have e7 : missI s = -1 := by simp [missI, hm]
  simp [e7] at h0 h1 h2 h3 h5 h7
  obtain ⟨gi, ci, rfl⟩ := Joins.ownsRow_form hv.ir (by omega)
  obtain ⟨gk, ck, rfl⟩ := Joins.ownsRow_form hv.kr (by omega)
  obtain ⟨gv, cv, rfl⟩ := Joins.ownsRow_form hv.vr (by omega)
  have ci0 : w.cell? ⟨gi, n, none⟩ = some (.bool false) := by rw [hv.ir.cellAt n (by omega), rowF_get _ (by omega)]; simp [isF, hw]
  have ck0 : w.cell? ⟨gk, n, none⟩ = some (.bool true) := by rw [hv.kr.cellAt n (by omega), rowF_get _ (by omega)]; simp [knowF, hk]
  have cv0 : w.cell? ⟨gv, n, none⟩ = some (.int .u32 v) := by rw [hv.vr.cellAt n (by omega), rowF_get _ (by omega)]; simp [valF, hk]
  have hl := hv.inv.reads_le
  have hs := hv.inv.small
  have H := has_any s.reads n rv w hv.rr (by omega)
  simp only [hr, decide_true] at H
  have HH := Lib.hid H
  clear hv hm ht hw hk hr e7 H
  go_enter Try.func64, Try.ntmps64
  go_wp2_with (go_at_call 103; go_must (refine HH.out.mono ?_); rintro e w1 ⟨rfl, rfl⟩)
  go_ret
  exact ⟨rfl, rfl⟩

end Go.Proofs.Ytkfcjlampnjfbaa
