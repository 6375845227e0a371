/- view: the program's view, as memory; Get and Put. -/
import Derived.Test.YtcicmljnjdhkjaaGreatRows
import Derived.Test.YtcicmljnjdhkjaaGreatVS
namespace Go.Proofs.YtcicmljnjdhkjaaGreat
open Go.RowKit

def missI (s : VS) : Int := match s.miss with | none => -1 | some i => (i : Int)

def Src (w : World) (fv wv : Value) (S : Nat → Prop) (s : VS) : Prop :=
  ∃ (sv : Value) (vals : List Int), fv = .iface 102 sv ∧ w.ownsRow 0 37 1 sv s.n (vals.map (Value.int .u32)) ∧ (∀ i, i < s.n → s.known i = vals[i]?) ∧ (∀ k, sv.ownBlock = some k → S k) ∧ wv = sv

structure PVs (w : World) (b : Nat) (S : Nat → Prop) (s : VS) (fv wv rv pv : Value) (rd pt : Nat) : Prop where
  cells : w.heap[b]? = some (.cells #[.int .i64 s.n, fv, wv, .map (some rd), rv, .map (some pt), pv, .int .i64 (missI s), .bool s.miss.isSome] 109)
  mr : MapIs w rd (readRows s.reads)
  mp : MapIs w pt (putRows s.writes)
  rr : w.ownsRow 0 3 1 rv s.reads.length (intCells s.reads)
  pr : w.ownsRow 0 119 2 pv s.writes.length (pairCells s.writes)
  src : Src w fv wv S s
  ne : rd ≠ pt
  inb : S b
  inr : S rd
  inp : S pt
  inrv : ∀ k, rv.ownBlock = some k → S k
  inpv : ∀ k, pv.ownBlock = some k → S k
  lt : ∀ k, S k → k < w.heap.size
  inv : s.Inv

/-- the view at block b, over the blocks of S, is s. -/
def PV (w : World) (b : Nat) (S : Nat → Prop) (s : VS) : Prop := ∃ fv wv rv pv rd pt, PVs w b S s fv wv rv pv rd pt

theorem there_yes (b : Nat) (i : Int) (w : World) (n : Nat) (h0 : w.cell? ⟨b, 0, none⟩ = some (.int .i64 n)) (h8 : w.cell? ⟨b, 8, none⟩ = some (.bool false)) (h1 : 0 ≤ i) (h2 : i < n) :
    Calls Tryz.prog 112 #[.pointer (some ⟨b, 0, none⟩), .int .i64 i] w fun e w' => e = .returned (.bool true) ∧ w = w' := by
  go_enter Tryz.func112, Tryz.ntmps112
  go_wp2
  go_ret
  exact ⟨rfl, rfl⟩

theorem there_low (b : Nat) (i : Int) (w : World) (h1 : i < 0) :
    Calls Tryz.prog 112 #[.pointer (some ⟨b, 0, none⟩), .int .i64 i] w fun e w' => e = .returned (.bool false) ∧ w = w' := by
  go_enter Tryz.func112, Tryz.ntmps112
  go_wp2
  go_ret
  exact ⟨rfl, rfl⟩

theorem there_high (b : Nat) (i : Int) (w : World) (n : Nat) (h0 : w.cell? ⟨b, 0, none⟩ = some (.int .i64 n)) (h1 : 0 ≤ i) (h2 : (n : Int) ≤ i) :
    Calls Tryz.prog 112 #[.pointer (some ⟨b, 0, none⟩), .int .i64 i] w fun e w' => e = .returned (.bool false) ∧ w = w' := by
  go_enter Tryz.func112, Tryz.ntmps112
  go_wp2
  go_ret
  exact ⟨rfl, rfl⟩

theorem there_stuck (b : Nat) (i : Int) (w : World) (n : Nat) (h0 : w.cell? ⟨b, 0, none⟩ = some (.int .i64 n)) (h8 : w.cell? ⟨b, 8, none⟩ = some (.bool true)) (h1 : 0 ≤ i) (h2 : i < n) :
    Calls Tryz.prog 112 #[.pointer (some ⟨b, 0, none⟩), .int .i64 i] w fun e w' => e = .returned (.bool false) ∧ w = w' := by
  go_enter Tryz.func112, Tryz.ntmps112
  go_wp2
  go_ret
  exact ⟨rfl, rfl⟩

theorem PVs.cell {w : World} {b : Nat} {S : Nat → Prop} {s : VS} {fv wv rv pv : Value} {rd pt : Nat} (h : PVs w b S s fv wv rv pv rd pt) (o : Nat) :
    w.cell? ⟨b, o, none⟩ = (#[.int .i64 s.n, fv, wv, .map (some rd), rv, .map (some pt), pv, .int .i64 (missI s), .bool s.miss.isSome] : Array Value)[o]? := cell?_of_heap h.cells

theorem there_any (b : Nat) (i : Int) (w : World) (S : Nat → Prop) (s : VS) (h : PV w b S s) :
    Calls Tryz.prog 112 #[.pointer (some ⟨b, 0, none⟩), .int .i64 i] w fun e w' => e = .returned (.bool (s.there i)) ∧ w = w' := by
  obtain ⟨fv, wv, rv, pv, rd, pt, hv⟩ := h
  have h0 := hv.cell 0
  have h8 := hv.cell 8
  simp at h0 h8
  by_cases h1 : i < 0
  · have : s.there i = false := by simp [VS.there]; omega
    rw [this]; exact there_low b i w h1
  · by_cases h2 : (s.n : Int) ≤ i
    · have : s.there i = false := by simp [VS.there]; omega
      rw [this]; exact there_high b i w _ h0 (by omega) h2
    · cases hm : s.miss with
      | none =>
        have : s.there i = true := by simp [VS.there, hm]; omega
        rw [this]; rw [hm] at h8
        exact there_yes b i w _ h0 h8 (by omega) (by omega)
      | some j =>
        have : s.there i = false := by simp [VS.there, hm]
        rw [this]; rw [hm] at h8
        exact there_stuck b i w _ h0 h8 (by omega) (by omega)

theorem uMap : Tryz.prog.underlying 107 = some (.map 3 3) := by kernel_rfl
theorem zInt (w : World) : (zeroValue 3).run Tryz.prog w = .ok (.int .i64 0) w := by kernel_rfl

/-- the cell of the value of the j-th pair. -/
theorem pair_cell {l : List (Nat × Int)} {j i : Nat} {v : Int} (h : l[j]? = some (i, v)) : (pairCells l)[j * 2]? = some (.int .i64 i) ∧ (pairCells l)[j * 2 + 1]? = some (.int .u32 v) := by
  induction l generalizing j with
  | nil => simp at h
  | cons p r ih =>
    cases j with
    | zero => simp at h; subst h; simp [pairCells]
    | succ j =>
      have := ih (j := j) (by simpa using h)
      unfold pairCells at this ⊢
      simp only [List.flatMap_cons]
      have e1 : (j + 1) * 2 = j * 2 + 2 := by omega
      rw [e1]
      simpa using this
theorem pairCells_length (l : List (Nat × Int)) : (pairCells l).length = l.length * 2 := by
  induction l with
  | nil => rfl
  | cons p r ih => unfold pairCells at ih ⊢; simp [ih]; omega

theorem get_no (b : Nat) (i : Int) (w : World) (S : Nat → Prop) (s : VS) (h : PV w b S s) (ht : s.there i = false) :
    Calls Tryz.prog 79 #[.pointer (some ⟨b, 0, none⟩), .int .i64 i] w fun e w' => e = .returned (.int .u32 0) ∧ w = w' := by
  have H := there_any b i w S s h
  rw [ht] at H
  have HH := Lib.hid H
  clear H
  go_enter Tryz.func79, Tryz.ntmps79
  go_wp2_with fail
  refine HH.out.mono ?_
  rintro e w1 ⟨rfl, rfl⟩
  go_wp2
  go_ret
  exact ⟨rfl, rfl⟩

theorem get_put (b : Nat) (i : Int) (w : World) (S : Nat → Prop) (s : VS) (h : PV w b S s) (ht : s.there i = true) (j : Nat) (v : Int) (hj : wix s.writes i.toNat = some j) (hv : s.writes[j]? = some (i.toNat, v)) :
    Calls Tryz.prog 79 #[.pointer (some ⟨b, 0, none⟩), .int .i64 i] w fun e w' => e = .returned (.int .u32 v) ∧ w = w' := by
  have H := there_any b i w S s h
  rw [ht] at H
  have HH := Lib.hid H
  clear H
  obtain ⟨h0, h1, -⟩ := VS.there_iff.1 ht
  obtain ⟨n, rfl⟩ := Int.eq_ofNat_of_zero_le h0
  simp only [Int.toNat_natCast] at hj hv
  obtain ⟨fv, wv, rv, pv, rd, pt, hp⟩ := h
  obtain ⟨hjl, -⟩ := wix_some hj
  obtain ⟨g, cap, rfl⟩ := Joins.ownsRow_form hp.pr (by omega)
  have hc1 := (hp.pr.cellAt (j * 2 + 1) (by omega)).trans (pair_cell hv).2
  have ha : assoc (putRows s.writes) (n : Int) = some (j : Int) := by rw [assoc_put, hj]; rfl
  have c5 := hp.cell 5
  have c6 := hp.cell 6
  simp at c5 c6
  have hmp := Lib.hid hp.mp
  have hw := hp.inv.writes_le
  have hn := hp.inv.small
  clear hp ht hj hv
  go_enter Tryz.func79, Tryz.ntmps79
  go_wp2_with fail
  refine HH.out.mono ?_
  rintro e w1 ⟨rfl, rfl⟩
  go_wp2_with (at_lookup; refine wpL_lookup rfl _ _ true rfl uMap Tryz.underlying3 (zInt _) pt (putRows s.writes) n rfl hmp.out rfl ?_; simp only [ha, if_true, Option.getD_some, Option.isSome_some])
  go_ret
  exact ⟨rfl, rfl⟩

theorem met_known (T : Value) (w : World) : (method 321 102 T "nacre/view.known").run Tryz.prog w = .ok (235, T) w := by kernel_rfl

theorem known_any (g cap n i : Nat) (v : Int) (w : World) (hi : i < n) (_hn : n ≤ 2147483648) (hc : w.cell? ⟨g, i, none⟩ = some (.int .u32 v)) :
    Calls Tryz.prog 235 #[.slice (some ⟨g, 0, none⟩) n cap, .int .i64 i] w fun e w' => e = .returned (.tuple #[.int .u32 v, .bool true]) ∧ w = w' := by
  go_enter Tryz.func235, Tryz.ntmps235
  go_wp2
  go_ret2
  exact ⟨rfl, rfl⟩

set_option maxRecDepth 100000 in
theorem get_old (b : Nat) (i : Int) (w : World) (S : Nat → Prop) (s : VS) (h : PV w b S s) (ht : s.there i = true) (v : Int) (hj : wix s.writes i.toNat = none) (hk : s.known i.toNat = some v) (hr : i.toNat ∈ s.reads) :
    Calls Tryz.prog 79 #[.pointer (some ⟨b, 0, none⟩), .int .i64 i] w fun e w' => e = .returned (.int .u32 v) ∧ w = w' := by
  have H := there_any b i w S s h
  rw [ht] at H
  have HH := Lib.hid H
  clear H
  obtain ⟨h0, h1, -⟩ := VS.there_iff.1 ht
  obtain ⟨n, rfl⟩ := Int.eq_ofNat_of_zero_le h0
  simp only [Int.toNat_natCast] at hj hk hr
  obtain ⟨fv, wv, rv, pv, rd, pt, hp⟩ := h
  obtain ⟨sv, vals, rfl, hrow, hkn, -⟩ := hp.src
  obtain ⟨g, cap, rfl⟩ := Joins.ownsRow_form hrow (by omega)
  have hvn : vals[n]? = some v := by rw [← hkn n (by omega)]; exact hk
  have hc1 : w.cell? ⟨g, n, none⟩ = some (.int .u32 v) := by rw [hrow.cellAt n (by omega)]; simp [hvn]
  have ha : assoc (putRows s.writes) (n : Int) = none := by rw [assoc_put, hj]; rfl
  have hb : assoc (readRows s.reads) (n : Int) = some 1 := assoc_read_in hr
  have c1 := hp.cell 1
  have c3 := hp.cell 3
  have c5 := hp.cell 5
  simp at c1 c3 c5
  have hmp := Lib.hid hp.mp
  have hmr := Lib.hid hp.mr
  have hn := hp.inv.small
  have HK := Lib.hid (known_any g cap s.n n v w (by omega) hn hc1)
  have mk := met_known
  clear hp ht hj hk hr hrow hkn hvn hc1
  go_enter Tryz.func79, Tryz.ntmps79
  go_wp2_with fail
  refine HH.out.mono ?_
  rintro e w1 ⟨rfl, rfl⟩
  go_wp2_with (first | (at_lookup; refine wpL_lookup rfl _ _ true rfl uMap Tryz.underlying3 (zInt _) pt (putRows s.writes) n rfl hmp.out rfl ?_; simp only [ha, if_true, Option.getD_none, Option.isSome_none]) | (at_lookup; refine wpL_lookup rfl _ _ false rfl uMap Tryz.underlying3 (zInt _) rd (readRows s.reads) n rfl hmr.out rfl ?_; simp only [hb, Option.getD_some]) | (go_at_call 235; refine HK.out.mono ?_; rintro e w1 ⟨rfl, rfl⟩))
  go_ret
  exact ⟨rfl, rfl⟩

theorem frozen_of_cells (w : World) (b : Nat) (cs : Array Value) {T : TypeId} (h : w.heap[b]? = some (.cells cs T)) (o : Nat) : w.frozen? ⟨b, o, none⟩ = false := by simp [World.frozen?, h]

theorem infoInt : (Tryz.prog.info? 3).map (fun i => (i.zero, i.size, i.bytes)) = some (some (.int .i64 0), 1, 8) := by kernel_rfl

/-- nothing but S turned, and the view is t now. -/
def Now (w : World) (b : Nat) (S : Nat → Prop) (t : VS) (w' : World) : Prop := PV w' b (upd S w w') t ∧ Fr S w w'

theorem ownsRow_elem {w : World} {e e2 size g : Nat} {v : Value} {n : Nat} {xs : List Value} {cur : Array Value} {fr : Nat × Nat} (h : w.ownsRow 0 e size v n xs) (hg : w.heap[g]? = some (.cells cur e2 fr)) (hne : e ≠ e2) : v.ownBlock ≠ some g := by
  intro hv
  rcases h.2 with ⟨rfl, -⟩ | ⟨g', cap, cur', rfl, -, hg', -⟩
  · simp [Value.ownBlock] at hv
  · simp [Value.ownBlock] at hv
    subst hv
    rw [hg] at hg'
    simp only [Option.some.injEq, Obj.cells.injEq] at hg'
    exact hne hg'.2.1.symm
theorem ownsRow_map {w : World} {e size g : Nat} {v : Value} {n : Nat} {xs : List Value} {l : List (Int × Int)} (h : w.ownsRow 0 e size v n xs) (hg : MapIs w g l) : v.ownBlock ≠ some g := by
  intro hv
  obtain ⟨es, clk, hm, -⟩ := hg
  rcases h.2 with ⟨rfl, -⟩ | ⟨g', cap, cur', rfl, -, hg', -⟩
  · simp [Value.ownBlock] at hv
  · simp [Value.ownBlock] at hv
    subst hv
    rw [hm] at hg'
    simp at hg'
theorem cells_map {w : World} {b g : Nat} {cs : Array Value} {e : TypeId} {fr : Nat × Nat} {l : List (Int × Int)} (h : w.heap[b]? = some (.cells cs e fr)) (hg : MapIs w g l) : b ≠ g := by
  intro hv
  obtain ⟨es, clk, hm, -⟩ := hg
  subst hv
  rw [h] at hm
  simp at hm
theorem MapIs.block {w w' : World} {b : Nat} {l : List (Int × Int)} (h : MapIs w b l) (hb : w'.heap[b]? = w.heap[b]?) : MapIs w' b l := by
  obtain ⟨es, clk, h1, h2⟩ := h
  exact ⟨es, clk, hb.trans h1, h2⟩
theorem MapIs.lt {w : World} {b : Nat} {l : List (Int × Int)} (h : MapIs w b l) : b < w.heap.size := by
  obtain ⟨es, clk, h1, h2⟩ := h
  exact (Array.getElem?_eq_some_iff.1 h1).1

theorem block_kept {w w1 : World} {row : Option Nat} (h : w.grownBy w1 row) {k : Nat} (hk : k < w.heap.size) (hn : some k ≠ row) : w1.heap[k]? = w.heap[k]? := h.block k hk hn
theorem ownsRow_lt {w : World} {e size : Nat} {v : Value} {n : Nat} {xs : List Value} (h : w.ownsRow 0 e size v n xs) {k : Nat} (hk : v.ownBlock = some k) : k < w.heap.size := (h.lt k hk).2
/-- an owned row in a world in which its block is as it was. -/
theorem ownsRow_block {w w' : World} {e size : Nat} {v : Value} {n : Nat} {xs : List Value} (h : w.ownsRow 0 e size v n xs) (hb : ∀ k, v.ownBlock = some k → w'.heap[k]? = w.heap[k]?) : w'.ownsRow 0 e size v n xs := by
  refine ⟨h.1, ?_⟩
  rcases h.2 with hn | ⟨g, cap, cur, rfl, hb', hgg, rest⟩
  · exact .inl hn
  · exact .inr ⟨g, cap, cur, rfl, hb', (hb g rfl).trans hgg, rest⟩
theorem Src.block {w w' : World} {fv wv : Value} {S S' : Nat → Prop} {s s' : VS} (h : Src w fv wv S s) (hn : s'.n = s.n) (hk : s'.known = s.known) (hS : ∀ k, S k → S' k) (hb : ∀ k, S k → w.heap[k]? ≠ none → w'.heap[k]? = w.heap[k]?) : Src w' fv wv S' s' := by
  obtain ⟨sv, vals, h1, h2, h3, h4, h5⟩ := h
  refine ⟨sv, vals, h1, ?_, ?_, fun k hk => hS k (h4 k hk), h5⟩
  · rw [hn]; exact ownsRow_block h2 fun k hk => hb k (h4 k hk) (by rw [Array.getElem?_eq_getElem (ownsRow_lt h2 hk)]; simp)
  · rw [hn, hk]; exact h3
theorem Src.elem {w : World} {fv wv : Value} {S : Nat → Prop} {s : VS} (h : Src w fv wv S s) : ∃ (F : Nat → Prop), (∀ k, F k → S k ∧ k < w.heap.size ∧ ∃ cur, w.heap[k]? = some (.cells cur 37 (0, 0))) ∧
    ∀ (w' : World) (S' : Nat → Prop) (s' : VS), s'.n = s.n → s'.known = s.known → (∀ k, F k → S' k) → (∀ k, F k → w'.heap[k]? = w.heap[k]?) → Src w' fv wv S' s' := by
  obtain ⟨sv, vals, h1, h2, h3, h4, h5⟩ := h
  refine ⟨fun k => sv.ownBlock = some k, ?_, ?_⟩
  · intro k hk
    refine ⟨h4 k hk, ownsRow_lt h2 hk, ?_⟩
    rcases h2.2 with ⟨rfl, -⟩ | ⟨g, cap, cur, rfl, -, hg, -⟩
    · simp [Value.ownBlock] at hk
    · simp [Value.ownBlock] at hk; subst hk; exact ⟨cur, hg⟩
  · intro w' S' s' hn hk hS hb
    exact ⟨sv, vals, h1, by rw [hn]; exact ownsRow_block h2 hb, by rw [hn, hk]; exact h3, hS, h5⟩

theorem now_read {w w1 w2 : World} {b : Nat} {S : Nat → Prop} {s : VS} {fv wv rv pv v' : Value} {rd pt n : Nat} (hv : PVs w b S s fv wv rv pv rd pt) (hn : n ∉ s.reads) (hlt : n < s.n) (X : Obj)
    (hm1 : MapIs w1 rd (upsert (readRows s.reads) n 1)) (hg1 : w.grownBy w1 (some rd)) (hown : w2.ownsRow 0 3 1 v' (s.reads.length + 1) (intCells s.reads ++ [.int .i64 n]))
    (hg2 : (w1.alloc X).grownBy w2 rv.ownBlock) (hnew : ∀ k, v'.ownBlock = some k → rv.ownBlock = some k ∨ (w1.alloc X).heap.size ≤ k) :
    Now w b S { s with reads := s.reads ++ [n] } (w2.setCell ⟨b, 4, none⟩ v') := by
  have hblt : b < w.heap.size := (Array.getElem?_eq_some_iff.1 hv.cells).1
  have hbr := cells_map hv.cells hv.mr
  have hbp := cells_map hv.cells hv.mp
  have hz1 := hg1.size
  have hz2 := hg2.size
  simp only [World.size_alloc] at hz2
  -- a block that is none of the three is as it was
  have blk : ∀ k, k < w.heap.size → k ≠ rd → rv.ownBlock ≠ some k → k ≠ b → (w2.setCell ⟨b, 4, none⟩ v').heap[k]? = w.heap[k]? := by
    intro k hk h1 h2 h3
    rw [Below.heap_setCell _ _ _ _ (by simpa using h3), hg2.block k (by simp; omega) (fun e => h2 e.symm), Below.heap_alloc _ _ _ (by omega), hg1.block k hk (by simpa using h1)]
  have bb : w2.heap[b]? = w.heap[b]? := by
    rw [hg2.block b (by simp; omega) (fun e => ownsRow_elem hv.rr hv.cells (by decide) e.symm), Below.heap_alloc _ _ _ (by omega), hg1.block b hblt (by simpa using hbr)]
  have hrnm := ownsRow_map hv.rr hv.mr
  have hrnp := ownsRow_map hv.rr hv.mp
  have F : Fr S w (w2.setCell ⟨b, 4, none⟩ v') :=
    ((((Fr.refl S w).grown hg1 (fun k hk => by cases hk; exact Or.inl hv.inr)).alloc X).grown hg2 (fun k hk => Or.inl (hv.inrv k hk))).setCell _ _ (Or.inl hv.inb)
  refine ⟨⟨fv, wv, v', pv, rd, pt, ?_⟩, F⟩
  obtain ⟨SF, hSF, mkSrc⟩ := hv.src.elem
  have su : ∀ k, S k → upd S w (w2.setCell ⟨b, 4, none⟩ v') k := fun k hk => Or.inl hk
  refine ⟨?_, ?_, ?_, ?_, ?_, ?_, hv.ne, su _ hv.inb, su _ hv.inr, su _ hv.inp, ?_, fun k hk => su _ (hv.inpv k hk), ?_, ?_⟩
  · have := Joins.block_setCell (i := 4) (bb.trans hv.cells) v'
    rw [this]
    rfl
  · rw [readRows_add hn]
    refine hm1.block ?_
    rw [Below.heap_setCell _ _ _ _ (by simpa using fun e => hbr e.symm), hg2.block rd (by simp; have := hm1.lt; omega) (fun e => hrnm e.symm), Below.heap_alloc _ _ _ hm1.lt]
  · exact hv.mp.block (blk pt hv.mp.lt (fun e => hv.ne e.symm) hrnp (fun e => hbp e.symm))
  · have e1 : (s.reads ++ [n]).length = s.reads.length + 1 := by simp
    have e2 : intCells (s.reads ++ [n]) = intCells s.reads ++ [.int .i64 n] := by simp [intCells]
    show (w2.setCell _ v').ownsRow 0 _ 1 v' (s.reads ++ [n]).length (intCells (s.reads ++ [n]))
    rw [e1, e2]
    refine ownsRow_block hown fun k hk => Below.heap_setCell _ _ _ _ ?_
    rcases hnew k hk with h | h
    · exact fun e => ownsRow_elem hv.rr hv.cells (by decide) (by rw [h]; exact congrArg some e)
    · simp at h; show k ≠ b; omega
  · refine ownsRow_block hv.pr fun k hk => ?_
    have hkl := ownsRow_lt hv.pr hk
    refine blk k hkl ?_ ?_ ?_
    · exact fun e => ownsRow_map hv.pr hv.mr (by rw [hk, e])
    · intro e
      rcases hv.rr.2 with ⟨h5, -⟩ | ⟨g, cap, cur, h5, -, hg, -⟩
      · rw [h5] at e; simp [Value.ownBlock] at e
      · rw [h5] at e
        simp [Value.ownBlock] at e
        subst e
        exact ownsRow_elem hv.pr hg (by decide) hk
    · exact fun e => ownsRow_elem hv.pr hv.cells (by decide) (by rw [hk, e])
  · refine mkSrc _ _ _ rfl rfl (fun k hk => su k (hSF k hk).1) (fun k hk => ?_)
    obtain ⟨-, hkl, cur, hcur⟩ := hSF k hk
    refine blk k hkl ?_ ?_ ?_
    · exact cells_map hcur hv.mr
    · exact fun e => ownsRow_elem hv.rr hcur (by decide) e
    · intro e
      subst e
      have := hv.cells
      rw [hcur] at this
      simp at this
  · intro k hk
    rcases hnew k hk with h | h
    · exact su k (hv.inrv k h)
    · refine Or.inr ⟨by simp at h; omega, ?_⟩
      have := ownsRow_lt hown hk
      simpa using this
  · intro k hk
    rcases hk with hk | hk
    · have := hv.lt k hk; simp; omega
    · exact hk.2
  · have h0 := hv.inv
    refine ⟨h0.small, ?_, ?_, h0.wnd, h0.wlt, h0.ku, h0.wu⟩
    · simp only [List.nodup_append]
      exact ⟨h0.rnd, by simp, fun a ha c hc => by simp at hc; subst hc; exact fun e => hn (e ▸ ha)⟩
    · intro r hr
      simp at hr
      rcases hr with hr | rfl
      · exact h0.rlt r hr
      · exact hlt

set_option maxRecDepth 100000 in
theorem get_new (b : Nat) (i : Int) (w : World) (S : Nat → Prop) (s : VS) (h : PV w b S s) (ht : s.there i = true) (v : Int) (hj : wix s.writes i.toNat = none) (hk : s.known i.toNat = some v) (hr : i.toNat ∉ s.reads) :
    Calls Tryz.prog 79 #[.pointer (some ⟨b, 0, none⟩), .int .i64 i] w fun e w' => e = .returned (.int .u32 v) ∧ Now w b S { s with reads := s.reads ++ [i.toNat] } w' := by
  have H := there_any b i w S s h
  rw [ht] at H
  have HH := Lib.hid H
  clear H
  have HP := Lib.hid h
  obtain ⟨h0, h1, -⟩ := VS.there_iff.1 ht
  obtain ⟨n, rfl⟩ := Int.eq_ofNat_of_zero_le h0
  simp only [Int.toNat_natCast] at hj hk hr ⊢
  obtain ⟨fv, wv, rv, pv, rd, pt, hp⟩ := h
  have HV := Lib.hid hp
  obtain ⟨sv, vals, rfl, hrow, hkn, -⟩ := hp.src
  obtain ⟨g, cap, rfl⟩ := Joins.ownsRow_form hrow (by omega)
  have hvn : vals[n]? = some v := by rw [← hkn n (by omega)]; exact hk
  have hc1 : w.cell? ⟨g, n, none⟩ = some (.int .u32 v) := by rw [hrow.cellAt n (by omega)]; simp [hvn]
  have ha : assoc (putRows s.writes) (n : Int) = none := by rw [assoc_put, hj]; rfl
  have hb : assoc (readRows s.reads) (n : Int) = none := assoc_read_out hr
  have c1 := hp.cell 1
  have c3 := hp.cell 3
  have c4 := hp.cell 4
  have c5 := hp.cell 5
  simp at c1 c3 c4 c5
  have hmp := Lib.hid hp.mp
  have hmr := Lib.hid hp.mr
  have hrr := Lib.hid hp.rr
  have hn := hp.inv.small
  have hrl := hp.inv.reads_le
  have hbr := cells_map hp.cells hp.mr
  have hblt : b < w.heap.size := (Array.getElem?_eq_some_iff.1 hp.cells).1
  have hrnb := Lib.hid (ownsRow_elem hp.rr hp.cells (by decide))
  have hrnm := Lib.hid (ownsRow_map hp.rr hp.mr)
  have HK := Lib.hid (known_any g cap s.n n v w (by omega) hn hc1)
  obtain ⟨i0, hi0, hi1, hi2, hi3⟩ := info_parts infoInt
  have HI := Lib.hid (And.intro hi0 (And.intro hi1 (And.intro hi2 hi3)))
  have mk := met_known
  clear hp ht hj hk hrow hkn hvn hc1 hi0 hi1 hi2 hi3
  go_enter Tryz.func79, Tryz.ntmps79
  go_wp2_with fail
  refine HH.out.mono ?_
  rintro e w1 ⟨rfl, rfl⟩
  go_wp2_with (first | (at_lookup; refine wpL_lookup rfl _ _ true rfl uMap Tryz.underlying3 (zInt _) pt (putRows s.writes) n rfl hmp.out rfl ?_; simp only [ha, if_true, Option.getD_none, Option.isSome_none]) | (at_lookup; refine wpL_lookup rfl _ _ false rfl uMap Tryz.underlying3 (zInt _) rd (readRows s.reads) n rfl hmr.out rfl ?_; simp only [hb, Option.getD_none]) | (go_at_call 235; refine HK.out.mono ?_; rintro e w1 ⟨rfl, rfl⟩) | (at_mapUpdate; refine wpL_update rfl _ _ _ rfl uMap Tryz.underlying3 rd (readRows s.reads) n 1 rfl hmr.out rfl rfl ?_; intro w1 hm1 hg1; have d4 : w1.cell? ⟨b, 4, none⟩ = some rv := hg1.cell c4 (by simpa using hbr)) | (at_builtin; go_must (refine wpL_append rfl _ _ rfl 3 i0 (.int .i64 0) 1 8 Tryz.underlying52 HI.out.1 HI.out.2.1 HI.out.2.2.1 HI.out.2.2.2 rfl (by decide) rv s.reads.length (intCells s.reads) rfl ((hrr.out.kept hg1 (Or.inr hrnm.out)).alloc _) ⟨w1.heap.size, 0, none⟩ 1 1 [.int .i64 n] rfl rfl (cell_one_new _ _ _) ?c1 ?c2 ?c3 ?_); go_must (case c1 => (simp [Value.oneCell'])); go_must (case c2 => (unfold maxLen; omega)); go_must (case c3 => (omega)); go_must (intro v' w2 hown2 hg2 hnew2 hnil2); clear hnil2; go_must (obtain ⟨g', cap', rfl⟩ := Joins.ownsRow_form hown2 (by omega)); go_must (have e4 : w2.cell? ⟨b, 4, none⟩ = some rv := hg2.cell ((World.cell?_alloc_lt _ _ _ (World.block_lt_of_cell? w1 _ d4)).trans d4) (fun e => hrnb.out e.symm)); go_must (have f4 : w2.frozen? ⟨b, 4, none⟩ = false := frozen_of_cells w2 b _ (by rw [hg2.block b (by have := World.block_lt_of_cell? w1 _ d4; simp at this ⊢; omega) (fun e => hrnb.out e.symm), Below.heap_alloc _ _ _ (World.block_lt_of_cell? w1 _ d4), hg1.block b hblt (by simpa using hbr)]; exact HV.out.cells) 4)))
  go_ret
  exact ⟨rfl, now_read HV.out hr (by omega) _ hm1 hg1 hown2 hg2 hnew2⟩

theorem PV.mono {w : World} {b : Nat} {S S' : Nat → Prop} {s : VS} (h : PV w b S s) (hS : ∀ k, S k → S' k) (hlt : ∀ k, S' k → k < w.heap.size) : PV w b S' s := by
  obtain ⟨fv, wv, rv, pv, rd, pt, hv⟩ := h
  refine ⟨fv, wv, rv, pv, rd, pt, hv.cells, hv.mr, hv.mp, hv.rr, hv.pr, ?_, hv.ne, hS _ hv.inb, hS _ hv.inr, hS _ hv.inp, fun k hk => hS _ (hv.inrv k hk), fun k hk => hS _ (hv.inpv k hk), hlt, hv.inv⟩
  exact hv.src.block rfl rfl hS (fun _ _ _ => rfl)
theorem PV.lt {w : World} {b : Nat} {S : Nat → Prop} {s : VS} (h : PV w b S s) : ∀ k, S k → k < w.heap.size := by
  obtain ⟨fv, wv, rv, pv, rd, pt, hv⟩ := h
  exact hv.lt
theorem PV.inv {w : World} {b : Nat} {S : Nat → Prop} {s : VS} (h : PV w b S s) : s.Inv := by
  obtain ⟨fv, wv, rv, pv, rd, pt, hv⟩ := h
  exact hv.inv
theorem Now.refl {w : World} {b : Nat} {S : Nat → Prop} {s : VS} (h : PV w b S s) : Now w b S s w :=
  ⟨h.mono (fun k hk => Or.inl hk) (fun k hk => by rcases hk with hk | hk; exact h.lt k hk; exact hk.2), Fr.refl _ _⟩
/-- a view whose blocks did not turn. -/
theorem PV.keep {w w' : World} {b : Nat} {S T : Nat → Prop} {s : VS} (h : PV w b S s) (F : Fr T w w') (hd : ∀ k, S k → ¬ T k) : PV w' b S s := by
  obtain ⟨fv, wv, rv, pv, rd, pt, hv⟩ := h
  have blk : ∀ k, S k → w'.heap[k]? = w.heap[k]? := fun k hk => F.block k (hv.lt k hk) (hd k hk)
  refine ⟨fv, wv, rv, pv, rd, pt, (blk b hv.inb).trans hv.cells, hv.mr.block (blk _ hv.inr), hv.mp.block (blk _ hv.inp), ownsRow_block hv.rr fun k hk => blk k (hv.inrv k hk), ownsRow_block hv.pr fun k hk => blk k (hv.inpv k hk), ?_, hv.ne, hv.inb, hv.inr, hv.inp, hv.inrv, hv.inpv, fun k hk => Nat.lt_of_lt_of_le (hv.lt k hk) F.size, hv.inv⟩
  exact hv.src.block rfl rfl (fun k hk => hk) (fun k hk _ => blk k hk)

theorem VS.known_some {w : World} {b : Nat} {S : Nat → Prop} {s : VS} (h : PV w b S s) {i : Nat} (hi : i < s.n) : ∃ v, s.known i = some v := by
  obtain ⟨fv, wv, rv, pv, rd, pt, hv⟩ := h
  obtain ⟨sv, vals, -, hrow, hkn, -⟩ := hv.src
  have hl := hrow.1
  simp at hl
  exact ⟨vals[i], by rw [hkn i hi]; exact List.getElem?_eq_getElem (by omega)⟩

theorem get_any (b : Nat) (i : Int) (w : World) (S : Nat → Prop) (s : VS) (h : PV w b S s) :
    Calls Tryz.prog 79 #[.pointer (some ⟨b, 0, none⟩), .int .i64 i] w fun e w' => e = .returned (.int .u32 (s.get i).1) ∧ Now w b S (s.get i).2 w' := by
  cases ht : s.there i with
  | false =>
    have e : s.get i = (0, s) := by simp [VS.get, ht]
    rw [e]
    exact (get_no b i w S s h ht).mono fun e w' ⟨h1, h2⟩ => ⟨h1, h2 ▸ Now.refl h⟩
  | true =>
    obtain ⟨h0, h1, -⟩ := VS.there_iff.1 ht
    cases hj : wix s.writes i.toNat with
    | some j =>
      obtain ⟨hjl, v, hv⟩ := wix_some hj
      have e : s.get i = (v, s) := by simp [VS.get, ht, VS.wr, hj, hv]
      rw [e]
      exact (get_put b i w S s h ht j v hj hv).mono fun e w' ⟨h1, h2⟩ => ⟨h1, h2 ▸ Now.refl h⟩
    | none =>
      obtain ⟨v, hk⟩ := VS.known_some h (i := i.toNat) (by omega)
      by_cases hr : i.toNat ∈ s.reads
      · have e : s.get i = (v, s) := by simp [VS.get, ht, VS.wr, hj, hk, VS.read1, hr]
        rw [e]
        exact (get_old b i w S s h ht v hj hk hr).mono fun e w' ⟨h1, h2⟩ => ⟨h1, h2 ▸ Now.refl h⟩
      · have e : s.get i = (v, { s with reads := s.reads ++ [i.toNat] }) := by simp [VS.get, ht, VS.wr, hj, hk, VS.read1, hr]
        rw [e]
        exact get_new b i w S s h ht v hj hk hr

end Go.Proofs.YtcicmljnjdhkjaaGreat
