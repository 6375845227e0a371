/- the program's memories, as memory: words, stores. -/
import Derived.Test.YtdfjgaeiodjmnaaNvSt
import Derived.Test.YtdfjgaeiodjmnaaNvL
import Derived.Test.YtdfjgaeiodjmnaaNvMap
set_option linter.unusedSimpArgs false
set_option linter.unusedVariables false
namespace Go.Proofs.Ytdfjgaeiodjmnaa
open Go.RowKit

def u64s (l : List Int) : List Value := l.map (Value.int .u64)
theorem u64s_len (l : List Int) : (u64s l).length = l.length := by simp [u64s]
theorem u64s_get {l : List Int} {k : Nat} (h : k < l.length) : (u64s l)[k]? = some (.int .u64 (l.getD k 0)) := by simp [u64s, h]
theorem u64s_set (l : List Int) (k : Nat) (v : Int) : (u64s l).set k (.int .u64 v) = u64s (l.set k v) := by simp [u64s]

structure PMs (w : World) (b : Nat) (S : Nat → Prop) (s : NM) (wv kv : Value) (pb : Nat) : Prop where
  cells : w.heap[b]? = some (.cells #[wv, kv, .map (some pb)] 54)
  wr : w.ownsRow 0 24 1 wv s.W.length (u64s s.W)
  kr : w.ownsRow 0 24 1 kv s.K.length (u64s s.K)
  mp : PMap w pb s.P
  ne : ∀ k, wv.ownBlock = some k → kv.ownBlock ≠ some k
  inb : S b
  inp : S pb
  inw : ∀ k, wv.ownBlock = some k → S k
  ink : ∀ k, kv.ownBlock = some k → S k
  lt : ∀ k, S k → k < w.heap.size
  inv : s.Inv

/-- the memory at block b, over the blocks of S, is s. -/
def PM (w : World) (b : Nat) (S : Nat → Prop) (s : NM) : Prop := ∃ wv kv pb, PMs w b S s wv kv pb

theorem pmap_elem {w : World} {e size g : Nat} {v : Value} {n : Nat} {xs : List Value} {l : List (Int × Int)} (h : w.ownsRow 0 e size v n xs) (hg : PMap w g l) : v.ownBlock ≠ some g := by
  obtain ⟨es, clk, hb, -⟩ := hg
  rcases h.2 with ⟨rfl, -⟩ | ⟨g', cap, cur, rfl, -, hg', -⟩
  · simp [Value.ownBlock]
  · intro e1
    have : g' = g := by simpa [Value.ownBlock] using e1
    subst this
    rw [hb] at hg'
    cases hg'

section
variable {w w' : World} {b : Nat} {S : Nat → Prop} {s : NM} {wv kv : Value} {pb : Nat}
theorem PMs.cell (h : PMs w b S s wv kv pb) (o : Nat) : w.cell? ⟨b, o, none⟩ = (#[wv, kv, .map (some pb)] : Array Value)[o]? := cell?_of_heap h.cells
theorem PMs.pb_ne (h : PMs w b S s wv kv pb) : pb ≠ b := by
  obtain ⟨es, clk, hb, -⟩ := h.mp
  intro e
  subst e
  rw [h.cells] at hb
  cases hb
theorem PMs.wb_ne (h : PMs w b S s wv kv pb) : wv.ownBlock ≠ some b := ownsRow_elem h.wr h.cells (by decide)
theorem PMs.kb_ne (h : PMs w b S s wv kv pb) : kv.ownBlock ≠ some b := ownsRow_elem h.kr h.cells (by decide)
theorem PMs.wp_ne (h : PMs w b S s wv kv pb) : wv.ownBlock ≠ some pb := pmap_elem h.wr h.mp
theorem PMs.kp_ne (h : PMs w b S s wv kv pb) : kv.ownBlock ≠ some pb := pmap_elem h.kr h.mp
theorem PMs.wform (h : PMs w b S s wv kv pb) : ∃ g c, wv = .slice (some ⟨g, 0, none⟩) s.W.length c := Joins.ownsRow_form h.wr h.inv.pos
theorem PMs.kform (h : PMs w b S s wv kv pb) : ∃ g c, kv = .slice (some ⟨g, 0, none⟩) s.K.length c := Joins.ownsRow_form h.kr (by rw [h.inv.kl]; exact h.inv.pos)
end

theorem keepsPM : KeepsG PM where
  keep := by
    rintro w w' b S T s ⟨wv, kv, pb, h⟩ F hd
    have hk : ∀ k, S k → w'.heap[k]? = w.heap[k]? := fun k x => F.block k (h.lt k x) (hd k x)
    exact ⟨wv, kv, pb, ⟨(hk b h.inb).trans h.cells, ownsRow_block h.wr fun k x => hk k (h.inw k x), ownsRow_block h.kr fun k x => hk k (h.ink k x), h.mp.block (hk pb h.inp), h.ne, h.inb, h.inp, h.inw, h.ink, fun k x => Nat.lt_of_lt_of_le (h.lt k x) F.size, h.inv⟩⟩
  lt := fun ⟨_, _, _, h⟩ => h.lt
  mono := fun ⟨wv, kv, pb, h⟩ hs hl => ⟨wv, kv, pb, ⟨h.cells, h.wr, h.kr, h.mp, h.ne, hs _ h.inb, hs _ h.inp, fun k x => hs k (h.inw k x), fun k x => hs k (h.ink k x), hl, h.inv⟩⟩

theorem PM.inv {w : World} {b : Nat} {S : Nat → Prop} {s : NM} (h : PM w b S s) : s.Inv := by
  obtain ⟨_, _, _, h⟩ := h
  exact h.inv

/-! ### words -/
theorem mthere_yes (b : Nat) (i : Int) (w : World) (ad : Option Addr) (n c : Nat) (kv : Value) (h0 : w.cell? ⟨b, 0, none⟩ = some (.slice ad n c)) (h1 : 0 ≤ i) (h2 : i < n) :
    Calls Try.prog 28 #[.pointer (some ⟨b, 0, none⟩), .int .i64 i] w fun e w' => e = .returned (.bool true) ∧ w = w' := by
  go_enter Try.func28, Try.ntmps28
  go_wp2
  go_ret
  exact ⟨rfl, rfl⟩
theorem mthere_low (b : Nat) (i : Int) (w : World) (h1 : i < 0) :
    Calls Try.prog 28 #[.pointer (some ⟨b, 0, none⟩), .int .i64 i] w fun e w' => e = .returned (.bool false) ∧ w = w' := by
  go_enter Try.func28, Try.ntmps28
  go_wp2
  go_ret
  exact ⟨rfl, rfl⟩
theorem mthere_high (b : Nat) (i : Int) (w : World) (ad : Option Addr) (n c : Nat) (h0 : w.cell? ⟨b, 0, none⟩ = some (.slice ad n c)) (h1 : 0 ≤ i) (h2 : (n : Int) ≤ i) :
    Calls Try.prog 28 #[.pointer (some ⟨b, 0, none⟩), .int .i64 i] w fun e w' => e = .returned (.bool false) ∧ w = w' := by
  have hd : decide (i < (n : Int)) = false := by simp; omega
  go_enter Try.func28, Try.ntmps28
  go_wp2
  go_ret
  exact ⟨rfl, rfl⟩
theorem mthere_nil (i : Int) (w : World) :
    Calls Try.prog 28 #[.pointer none, .int .i64 i] w fun e w' => e = .returned (.bool false) ∧ w = w' := by
  go_enter Try.func28, Try.ntmps28
  go_wp2
  go_ret
  exact ⟨rfl, rfl⟩
theorem mthere_any (b : Nat) (i : Int) (w : World) (S : Nat → Prop) (s : NM) (h : PM w b S s) :
    Calls Try.prog 28 #[.pointer (some ⟨b, 0, none⟩), .int .i64 i] w fun e w' => e = .returned (.bool (s.th i)) ∧ w = w' := by
  obtain ⟨wv, kv, pb, hv⟩ := h
  obtain ⟨g, c, rfl⟩ := hv.wform
  have h0 := hv.cell 0
  simp at h0
  by_cases h1 : i < 0
  · have : s.th i = false := by simp [NM.th]; omega
    rw [this]; exact mthere_low b i w h1
  · by_cases h2 : (s.W.length : Int) ≤ i
    · have : s.th i = false := by simp [NM.th]; omega
      rw [this]; exact mthere_high b i w _ _ _ h0 (by omega) h2
    · have : s.th i = true := by simp [NM.th]; omega
      rw [this]; exact mthere_yes b i w _ _ _ kv h0 (by omega) (by omega)
theorem msome_any (i : Int) (w : World) :
    Calls Try.prog 29 #[.int .i64 i] w fun e w' => e = .returned (.bool (NM.som i)) ∧ w = w' := by
  by_cases h1 : i < 0
  · have e1 : NM.som i = false := by simp [NM.som]; omega
    rw [e1]
    go_enter Try.func29, Try.ntmps29
    go_wp2
    go_ret
    exact ⟨rfl, rfl⟩
  · by_cases h2 : i ≤ 16
    · have e1 : NM.som i = true := by simp [NM.som]; omega
      rw [e1]
      go_enter Try.func29, Try.ntmps29
      go_wp2
      go_ret
      exact ⟨rfl, rfl⟩
    · have e1 : NM.som i = false := by simp [NM.som]; omega
      rw [e1]
      go_enter Try.func29, Try.ntmps29
      go_wp2
      go_ret
      exact ⟨rfl, rfl⟩

theorem mload_any (b : Nat) (i : Int) (w : World) (S : Nat → Prop) (s : NM) (h : PM w b S s) :
    Calls Try.prog 13 #[.pointer (some ⟨b, 0, none⟩), .int .i64 i] w fun e w' => e = .returned (.tuple #[.int .u64 (s.load i).1, .bool (s.load i).2]) ∧ w = w' := by
  have H := mthere_any b i w S s h
  obtain ⟨wv, kv, pb, hv⟩ := h
  obtain ⟨g, c, rfl⟩ := hv.wform
  have h0 := hv.cell 0
  simp at h0
  unfold NM.load
  cases ht : s.th i
  · rw [ht] at H
    have HH := Lib.hid H
    clear H hv
    go_enter Try.func13, Try.ntmps13
    go_wp2_with fail
    refine HH.out.mono ?_
    rintro e w1 ⟨rfl, rfl⟩
    go_wp2
    exact bodyPost_ret (v := .tuple #[.int .u64 0, .bool false]) (by simp [results, Try.results13, go_sem]) rfl ⟨rfl, rfl⟩
  · rw [ht] at H
    have HH := Lib.hid H
    obtain ⟨h1, h2⟩ := NM.th_iff.1 ht
    obtain ⟨n, rfl⟩ := Int.eq_ofNat_of_zero_le h1
    have hc := (hv.wr.cellAt n (by omega)).trans (u64s_get (by omega))
    simp only [Int.toNat_natCast, if_true]
    clear H hv ht
    go_enter Try.func13, Try.ntmps13
    go_wp2_with fail
    refine HH.out.mono ?_
    rintro e w1 ⟨rfl, rfl⟩
    go_wp2
    exact bodyPost_ret (v := .tuple #[.int .u64 (s.W.getD n 0), .bool true]) (by simp [results, Try.results13, go_sem]) rfl ⟨rfl, rfl⟩

/-- a word is another one. -/
theorem PMs.store {w : World} {b g c pb : Nat} {S : Nat → Prop} {s : NM} {kv : Value} (h : PMs w b S s (.slice (some ⟨g, 0, none⟩) s.W.length c) kv pb) {k : Nat} (hk : k < s.W.length) {v : Int} (hv : NM.U64 v) :
    PM (w.setCell ⟨g, k, none⟩ (.int .u64 v)) b (upd S w (w.setCell ⟨g, k, none⟩ (.int .u64 v))) { s with W := s.W.set k v } ∧ Fr S w (w.setCell ⟨g, k, none⟩ (.int .u64 v)) := by
  have F : Fr S w (w.setCell ⟨g, k, none⟩ (.int .u64 v)) := (Fr.refl _ _).setCell _ _ (Or.inl (h.inw g rfl))
  have hw := h.wb_ne
  have hp := h.wp_ne
  have e1 := h.ne g rfl
  simp [Value.ownBlock] at hw hp
  have hW := (h.wr.stored k (.int .u64 v)).1
  rw [u64s_set] at hW
  have hinv : ({ s with W := s.W.set k v } : NM).Inv := by
    have := h.inv.store (k : Int) hv
    unfold NM.store at this
    rw [if_pos (NM.th_iff.2 ⟨by omega, by omega⟩)] at this
    simpa using this
  refine ⟨⟨_, kv, pb, ⟨(heap_setCell_other (fun e => hw e.symm)).trans h.cells, ?_, ownsRow_block h.kr fun j x => heap_setCell_other (fun e => e1 (e ▸ x)), h.mp.block (heap_setCell_other (fun e => hp e.symm)), ?_, Or.inl h.inb, Or.inl h.inp, fun j x => Or.inl (h.inw j x), fun j x => Or.inl (h.ink j x), ?_, hinv⟩⟩, F⟩
  · show (w.setCell ⟨g, k, none⟩ (.int .u64 v)).ownsRow 0 24 1 (.slice (some ⟨g, 0, none⟩) s.W.length c) (s.W.set k v).length (u64s (s.W.set k v))
    rw [List.length_set]
    exact hW
  · exact h.ne
  · intro j x
    rcases x with x | x
    · simpa using h.lt j x
    · exact x.2

theorem PMs.same {w : World} {b pb : Nat} {S : Nat → Prop} {s : NM} {wv kv : Value} (h : PMs w b S s wv kv pb) : PM w b (upd S w w) s ∧ Fr S w w :=
  ⟨⟨wv, kv, pb, ⟨h.cells, h.wr, h.kr, h.mp, h.ne, Or.inl h.inb, Or.inl h.inp, fun k x => Or.inl (h.inw k x), fun k x => Or.inl (h.ink k x), fun k x => by rcases x with x | x; exact h.lt k x; omega, h.inv⟩⟩, Fr.refl _ _⟩

theorem mstore_any (b : Nat) (i v : Int) (w : World) (S : Nat → Prop) (s : NM) (h : PM w b S s) (hu : NM.U64 v) :
    Calls Try.prog 10 #[.pointer (some ⟨b, 0, none⟩), .int .i64 i, .int .u64 v] w fun e w' => e = .returned (.bool (s.store i v).1) ∧ (PM w' b (upd S w w') (s.store i v).2 ∧ Fr S w w') := by
  have H := mthere_any b i w S s h
  obtain ⟨wv, kv, pb, hv⟩ := h
  obtain ⟨g, c, rfl⟩ := hv.wform
  have h0 := hv.cell 0
  simp at h0
  unfold NM.store
  cases ht : s.th i
  · rw [ht] at H
    have HH := Lib.hid H
    have HV := Lib.hid hv
    clear H hv
    go_enter Try.func10, Try.ntmps10
    go_wp2_with fail
    refine HH.out.mono ?_
    rintro e w1 ⟨rfl, rfl⟩
    go_wp2
    go_ret
    exact ⟨rfl, HV.out.same⟩
  · rw [ht] at H
    have HH := Lib.hid H
    obtain ⟨h1, h2⟩ := NM.th_iff.1 ht
    obtain ⟨n, rfl⟩ := Int.eq_ofNat_of_zero_le h1
    have hc := (hv.wr.cellAt n (by omega)).trans (u64s_get (by omega))
    have hf := hv.wr.frozenAt n
    have HV := Lib.hid (hv.store (k := n) (by omega) hu)
    simp only [Int.toNat_natCast, if_true]
    clear H hv ht
    go_enter Try.func10, Try.ntmps10
    go_wp2_with fail
    refine HH.out.mono ?_
    rintro e w1 ⟨rfl, rfl⟩
    go_wp2
    go_ret
    exact ⟨rfl, HV.out⟩

theorem mswap_any (b : Nat) (i o v : Int) (w : World) (S : Nat → Prop) (s : NM) (h : PM w b S s) (hu : NM.U64 v) :
    Calls Try.prog 30 #[.pointer (some ⟨b, 0, none⟩), .int .i64 i, .int .u64 o, .int .u64 v] w fun e w' => e = .returned (.bool (s.swap i o v).1) ∧ (PM w' b (upd S w w') (s.swap i o v).2 ∧ Fr S w w') := by
  have H := mthere_any b i w S s h
  obtain ⟨wv, kv, pb, hv⟩ := h
  obtain ⟨g, c, rfl⟩ := hv.wform
  have h0 := hv.cell 0
  simp at h0
  unfold NM.swap
  cases ht : s.th i
  · rw [ht] at H
    have HH := Lib.hid H
    have HV := Lib.hid hv
    simp only [Bool.false_eq_true, false_and, if_false]
    clear H hv
    go_enter Try.func30, Try.ntmps30
    go_wp2_with fail
    refine HH.out.mono ?_
    rintro e w1 ⟨rfl, rfl⟩
    go_wp2
    go_ret
    exact ⟨rfl, HV.out.same⟩
  · rw [ht] at H
    have HH := Lib.hid H
    obtain ⟨h1, h2⟩ := NM.th_iff.1 ht
    obtain ⟨n, rfl⟩ := Int.eq_ofNat_of_zero_le h1
    have hc := (hv.wr.cellAt n (by omega)).trans (u64s_get (by omega))
    have hf := hv.wr.frozenAt n
    simp only [Int.toNat_natCast, true_and]
    generalize s.W.getD n 0 = x at *
    by_cases hx : x = o
    · subst hx
      have HV := Lib.hid (hv.store (k := n) (by omega) hu)
      simp only [if_true]
      clear H hv ht
      go_enter Try.func30, Try.ntmps30
      go_wp2_with fail
      refine HH.out.mono ?_
      rintro e w1 ⟨rfl, rfl⟩
      go_wp2
      go_ret
      exact ⟨rfl, HV.out⟩
    · have HV := Lib.hid hv
      rw [if_neg hx]
      have hx2 : (x != o) = true := by simpa using hx
      have hx3 : (x == o) = false := by simpa using hx
      clear H hv ht hx
      go_enter Try.func30, Try.ntmps30
      go_wp2_with fail
      refine HH.out.mono ?_
      rintro e w1 ⟨rfl, rfl⟩
      go_wp2
      go_ret
      exact ⟨rfl, HV.out.same⟩
end Go.Proofs.Ytdfjgaeiodjmnaa
