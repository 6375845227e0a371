/- the document's memories, as memory: words, stores. -/
import Derived.Test.YtdfjgaeiodjmnaaNvD
import Derived.Test.YtdfjgaeiodjmnaaRefV
set_option linter.unusedSimpArgs false
set_option linter.unusedVariables false
namespace Go.Proofs.Ytdfjgaeiodjmnaa
open Go.RowKit

structure RQ (w : World) (b : Nat) (S : Nat → Prop) (W K : List Int) (wv kv : Value) (pv : Nat → Value) (k : Nat) (rows : Nat → List Value) : Prop where
  box : ∃ cs : Array Value, w.heap[b]? = some (.cells cs 46) ∧ cs.size = 19 ∧ cs[0]? = some wv ∧ cs[1]? = some kv ∧ ∀ i, i < 17 → cs[2 + i]? = some (pv i)
  wr : w.ownsRow 0 24 1 wv W.length (u64s W)
  kr : w.ownsRow 0 24 1 kv K.length (u64s K)
  pr : ∀ i, i < k → w.ownsRow 0 4 1 (pv i) (W.length / 8) (rows i)
  ne : ∀ x, wv.ownBlock = some x → kv.ownBlock ≠ some x
  pd : ∀ i, i < k → ∀ j, j < k → i ≠ j → ∀ x, (pv i).ownBlock = some x → (pv j).ownBlock ≠ some x
  inb : S b
  inw : ∀ x, wv.ownBlock = some x → S x
  ink : ∀ x, kv.ownBlock = some x → S x
  inp : ∀ i, i < k → ∀ x, (pv i).ownBlock = some x → S x
  lt : ∀ x, S x → x < w.heap.size

section
variable {w w' : World} {b : Nat} {S : Nat → Prop} {W K : List Int} {wv kv : Value} {pv : Nat → Value} {k : Nat} {rows : Nat → List Value}
theorem RQ.cell0 (h : RQ w b S W K wv kv pv k rows) : w.cell? ⟨b, 0, none⟩ = some wv := by
  obtain ⟨cs, h1, -, h2, -⟩ := h.box
  rw [cell?_of_heap h1, h2]
theorem RQ.cell1 (h : RQ w b S W K wv kv pv k rows) : w.cell? ⟨b, 1, none⟩ = some kv := by
  obtain ⟨cs, h1, -, -, h2, -⟩ := h.box
  rw [cell?_of_heap h1, h2]
theorem RQ.cellP (h : RQ w b S W K wv kv pv k rows) {i : Nat} (hi : i < 17) : w.cell? ⟨b, 2 + i, none⟩ = some (pv i) := by
  obtain ⟨cs, h1, -, -, -, h2⟩ := h.box
  rw [cell?_of_heap h1, h2 i hi]
theorem RQ.froz (h : RQ w b S W K wv kv pv k rows) (o : Nat) : w.frozen? ⟨b, o, none⟩ = false := by
  obtain ⟨cs, h1, -⟩ := h.box
  exact frozen?_of_heap h1
theorem RQ.wb (h : RQ w b S W K wv kv pv k rows) : wv.ownBlock ≠ some b := by
  obtain ⟨cs, h1, -⟩ := h.box
  exact ownsRow_elem h.wr h1 (by decide)
theorem RQ.kb (h : RQ w b S W K wv kv pv k rows) : kv.ownBlock ≠ some b := by
  obtain ⟨cs, h1, -⟩ := h.box
  exact ownsRow_elem h.kr h1 (by decide)
theorem RQ.pb (h : RQ w b S W K wv kv pv k rows) {i : Nat} (hi : i < k) : (pv i).ownBlock ≠ some b := by
  obtain ⟨cs, h1, -⟩ := h.box
  exact ownsRow_elem (h.pr i hi) h1 (by decide)
theorem RQ.wp (h : RQ w b S W K wv kv pv k rows) {i : Nat} (hi : i < k) {x : Nat} (hx : (pv i).ownBlock = some x) : wv.ownBlock ≠ some x := ownsRow_ne h.wr (h.pr i hi) (by decide) hx
theorem RQ.kp (h : RQ w b S W K wv kv pv k rows) {i : Nat} (hi : i < k) {x : Nat} (hx : (pv i).ownBlock = some x) : kv.ownBlock ≠ some x := ownsRow_ne h.kr (h.pr i hi) (by decide) hx

/-- the blocks of S stand as they stood. -/
theorem RQ.move (h : RQ w b S W K wv kv pv k rows) {S' : Nat → Prop} (hk : ∀ x, S x → w'.heap[x]? = w.heap[x]?) (hs : ∀ x, S x → S' x) (hl : ∀ x, S' x → x < w'.heap.size) : RQ w' b S' W K wv kv pv k rows := by
  obtain ⟨cs, h1, h2⟩ := h.box
  exact ⟨⟨cs, (hk b h.inb).trans h1, h2⟩, ownsRow_block h.wr fun x hx => hk x (h.inw x hx), ownsRow_block h.kr fun x hx => hk x (h.ink x hx), fun i hi => ownsRow_block (h.pr i hi) fun x hx => hk x (h.inp i hi x hx), h.ne, h.pd, hs _ h.inb, fun x hx => hs x (h.inw x hx), fun x hx => hs x (h.ink x hx), fun i hi x hx => hs x (h.inp i hi x hx), hl⟩
theorem RQ.up (h : RQ w' b S W K wv kv pv k rows) : RQ w' b (upd S w w') W K wv kv pv k rows :=
  h.move (fun _ _ => rfl) (fun _ hx => Or.inl hx) (fun x hx => by rcases hx with hx | hx; exact h.lt x hx; exact hx.2)
theorem RQ.drew (h : RQ w b S W K wv kv pv k rows) : RQ w.drew b S W K wv kv pv k rows := h.move (w' := w.drew) (fun _ _ => rfl) (fun _ hx => hx) h.lt

theorem RQ.storeW {g c : Nat} (h : RQ w b S W K (.slice (some ⟨g, 0, none⟩) W.length c) kv pv k rows) (n : Nat) (v : Int) :
    RQ (w.setCell ⟨g, n, none⟩ (.int .u64 v)) b S (W.set n v) K (.slice (some ⟨g, 0, none⟩) W.length c) kv pv k rows ∧ Fr S w (w.setCell ⟨g, n, none⟩ (.int .u64 v)) := by
  have hW := (h.wr.stored n (.int .u64 v)).1
  rw [u64s_set] at hW
  have hb := h.wb
  simp [Value.ownBlock] at hb
  have ho : ∀ x, x ≠ g → (w.setCell ⟨g, n, none⟩ (.int .u64 v)).heap[x]? = w.heap[x]? := fun x hx => heap_setCell_other hx
  obtain ⟨cs, h1, h2⟩ := h.box
  refine ⟨⟨⟨cs, (ho b (fun e => hb e.symm)).trans h1, h2⟩, ?_, ownsRow_block h.kr fun x hx => ho x (fun e => h.ne g rfl (e ▸ hx)), ?_, ?_, h.pd, h.inb, h.inw, h.ink, h.inp, fun x hx => by simpa using h.lt x hx⟩, (Fr.refl _ _).setCell _ _ (Or.inl (h.inw g rfl))⟩
  · show World.ownsRow _ 0 _ 1 _ (W.set n v).length _
    rw [List.length_set]
    exact hW
  · intro i hi
    rw [List.length_set]
    exact ownsRow_block (h.pr i hi) fun x hx => ho x (fun e => h.wp hi hx (by simp [Value.ownBlock, e]))
  · exact h.ne
theorem RQ.storeK {g c : Nat} (h : RQ w b S W K wv (.slice (some ⟨g, 0, none⟩) K.length c) pv k rows) (n : Nat) (v : Int) :
    RQ (w.setCell ⟨g, n, none⟩ (.int .u64 v)) b S W (K.set n v) wv (.slice (some ⟨g, 0, none⟩) K.length c) pv k rows ∧ Fr S w (w.setCell ⟨g, n, none⟩ (.int .u64 v)) := by
  have hK := (h.kr.stored n (.int .u64 v)).1
  rw [u64s_set] at hK
  have hb := h.kb
  simp [Value.ownBlock] at hb
  have ho : ∀ x, x ≠ g → (w.setCell ⟨g, n, none⟩ (.int .u64 v)).heap[x]? = w.heap[x]? := fun x hx => heap_setCell_other hx
  obtain ⟨cs, h1, h2⟩ := h.box
  refine ⟨⟨⟨cs, (ho b (fun e => hb e.symm)).trans h1, h2⟩, ownsRow_block h.wr fun x hx => ho x (fun e => h.ne x hx (by simp [Value.ownBlock, e])), ?_, ?_, h.ne, h.pd, h.inb, h.inw, h.ink, h.inp, fun x hx => by simpa using h.lt x hx⟩, (Fr.refl _ _).setCell _ _ (Or.inl (h.ink g rfl))⟩
  · show World.ownsRow _ 0 _ 1 _ (K.set n v).length _
    rw [List.length_set]
    exact hK
  · intro i hi
    exact ownsRow_block (h.pr i hi) fun x hx => ho x (fun e => h.kp hi hx (by simp [Value.ownBlock, e]))
/-- a flag of the row i. -/
theorem RQ.storeP (h : RQ w b S W K wv kv pv k rows) {i g c : Nat} (hi : i < k) (hp : pv i = .slice (some ⟨g, 0, none⟩) (W.length / 8) c) (n : Nat) (v : Bool) :
    RQ (w.setCell ⟨g, n, none⟩ (.bool v)) b S W K wv kv pv k (fun j => if j = i then (rows i).set n (.bool v) else rows j) ∧ Fr S w (w.setCell ⟨g, n, none⟩ (.bool v)) := by
  have hr := h.pr i hi
  rw [hp] at hr
  have hR := (hr.stored n (.bool v)).1
  have hb := h.pb hi
  rw [hp] at hb
  simp [Value.ownBlock] at hb
  have hg : (pv i).ownBlock = some g := by rw [hp]; rfl
  have ho : ∀ x, x ≠ g → (w.setCell ⟨g, n, none⟩ (.bool v)).heap[x]? = w.heap[x]? := fun x hx => heap_setCell_other hx
  obtain ⟨cs, h1, h2⟩ := h.box
  refine ⟨⟨⟨cs, (ho b (fun e => hb e.symm)).trans h1, h2⟩, ownsRow_block h.wr fun x hx => ho x (fun e => h.wp hi hg (e ▸ hx)), ownsRow_block h.kr fun x hx => ho x (fun e => h.kp hi hg (e ▸ hx)), ?_, h.ne, h.pd, h.inb, h.inw, h.ink, h.inp, fun x hx => by simpa using h.lt x hx⟩, (Fr.refl _ _).setCell _ _ (Or.inl (h.inp i hi g hg))⟩
  intro j hj
  by_cases hji : j = i
  · subst hji
    rw [if_pos rfl, hp]
    exact hR
  · rw [if_neg hji]
    exact ownsRow_block (h.pr j hj) fun x hx => ho x (fun e => h.pd i hi j hj (fun e2 => hji e2.symm) g hg (e ▸ hx))
end

/-- the flags of somebody. -/
def flagRow (s : NM) (i : Nat) : List Value := rowF (s.W.length / 8) fun l => .bool (decide (((i : Int), (l : Int)) ∈ s.P))

/-- the document's memory at block b, over the blocks of S, is s. -/
def RM (w : World) (b : Nat) (S : Nat → Prop) (s : NM) : Prop := s.Inv ∧ ∃ wv kv pv, RQ w b S s.W s.K wv kv pv 17 (flagRow s)

theorem keepsRM : KeepsG RM where
  keep := by
    rintro w w' b S T s ⟨hi, wv, kv, pv, h⟩ F hd
    exact ⟨hi, wv, kv, pv, h.move (fun x hx => F.block x (h.lt x hx) (hd x hx)) (fun _ hx => hx) (fun x hx => Nat.lt_of_lt_of_le (h.lt x hx) F.size)⟩
  lt := fun ⟨_, _, _, _, h⟩ => h.lt
  mono := fun ⟨hi, wv, kv, pv, h⟩ hs hl => ⟨hi, wv, kv, pv, h.move (fun _ _ => rfl) hs hl⟩

section
variable {w : World} {b : Nat} {S : Nat → Prop} {W K : List Int} {wv kv : Value} {pv : Nat → Value} {k : Nat} {rows : Nat → List Value}
theorem RQ.wform (h : RQ w b S W K wv kv pv k rows) (h0 : 0 < W.length) : ∃ g c, wv = .slice (some ⟨g, 0, none⟩) W.length c := Joins.ownsRow_form h.wr h0
theorem RQ.kform (h : RQ w b S W K wv kv pv k rows) (h0 : 0 < K.length) : ∃ g c, kv = .slice (some ⟨g, 0, none⟩) K.length c := Joins.ownsRow_form h.kr h0
theorem RQ.pform (h : RQ w b S W K wv kv pv k rows) {i : Nat} (hi : i < k) (h0 : 0 < W.length / 8) : ∃ g c, pv i = .slice (some ⟨g, 0, none⟩) (W.length / 8) c := Joins.ownsRow_form (h.pr i hi) h0
end

/-! ### words -/
theorem rload_any (b : Nat) (i : Int) (w : World) (S : Nat → Prop) (s : NM) (h : RM w b S s) :
    Calls Try.prog 33 #[.pointer (some ⟨b, 0, none⟩), .int .i64 i] w fun e w' => e = .returned (.tuple #[.int .u64 (s.load i).1, .bool (s.load i).2]) ∧ w = w' := by
  obtain ⟨hi, wv, kv, pv, hv⟩ := h
  obtain ⟨g, c, rfl⟩ := hv.wform hi.pos
  have h0 := hv.cell0
  unfold NM.load
  by_cases h1 : i < 0
  · have ht : s.th i = false := by simp [NM.th]; omega
    rw [ht]
    clear hv
    go_enter Try.func33, Try.ntmps33
    go_wp2
    exact bodyPost_ret (v := .tuple #[.int .u64 0, .bool false]) (by simp [results, Try.results33, go_sem]) rfl ⟨rfl, rfl⟩
  · by_cases h2 : (s.W.length : Int) ≤ i
    · have ht : s.th i = false := by simp [NM.th]; omega
      rw [ht]
      clear hv
      go_enter Try.func33, Try.ntmps33
      go_wp2
      exact bodyPost_ret (v := .tuple #[.int .u64 0, .bool false]) (by simp [results, Try.results33, go_sem]) rfl ⟨rfl, rfl⟩
    · have ht : s.th i = true := by simp [NM.th]; omega
      rw [ht]
      obtain ⟨n, rfl⟩ := Int.eq_ofNat_of_zero_le (show 0 ≤ i by omega)
      have hc := (hv.wr.cellAt n (by omega)).trans (u64s_get (by omega))
      have hlt : (n : Int) < s.W.length := by omega
      have hd : decide ((s.W.length : Int) ≤ n) = false := by simp; omega
      simp only [Int.toNat_natCast, if_true]
      clear hv ht
      go_enter Try.func33, Try.ntmps33
      go_wp2
      exact bodyPost_ret (v := .tuple #[.int .u64 (s.W.getD n 0), .bool true]) (by simp [results, Try.results33, go_sem]) rfl ⟨rfl, rfl⟩
end Go.Proofs.Ytdfjgaeiodjmnaa
