/- the program's memories: a crash; New; copies. -/
import Derived.Test.YtdfjgaeiodjmnaaNvF
import Derived.Laws.CopyRow
import Derived.Carry
set_option linter.unusedSimpArgs false
set_option linter.unusedVariables false
namespace Go.Proofs.Ytdfjgaeiodjmnaa
open Go.RowKit

theorem ownsRow_keep {w w' : World} {base e size : Nat} {v : Value} {n : Nat} {xs : List Value} (h : w.ownsRow base e size v n xs) (hb : ∀ k, v.ownBlock = some k → w'.heap[k]? = w.heap[k]?) : w'.ownsRow base e size v n xs := by
  rcases h.2 with ⟨rfl, h0⟩ | ⟨g, cap, cur, rfl, h1, hg, h2⟩
  · exact ⟨h.1, Or.inl ⟨rfl, h0⟩⟩
  · exact ⟨h.1, Or.inr ⟨g, cap, cur, rfl, h1, (hb g rfl).trans hg, h2⟩⟩
theorem size_setRow (w : World) (g : Nat) (cs : Array Value) : (w.setRow g cs).heap.size = w.heap.size := by simp [World.setRow]
theorem heap_setRow_at {w : World} {g : Nat} {cs ds : Array Value} {e : TypeId} {fr : Nat × Nat} (h : w.heap[g]? = some (.cells cs e fr)) : (w.setRow g ds).heap[g]? = some (.cells ds e fr) := by
  simp only [World.setRow]
  rw [Array.getElem?_modify, if_pos rfl, h]
  rfl
theorem heap_setRow_other {w : World} {g k : Nat} {ds : Array Value} (h : k ≠ g) : (w.setRow g ds).heap[k]? = w.heap[k]? := by
  simp only [World.setRow]
  rw [Array.getElem?_modify, if_neg (Ne.symm h)]
theorem fr_setRow {S : Nat → Prop} (w : World) {g : Nat} (ds : Array Value) (hg : S g) : Fr S w (w.setRow g ds) :=
  ⟨rfl, rfl, rfl, by rw [size_setRow]; exact Nat.le_refl _, fun k _ hn => heap_setRow_other (fun e => hn (e ▸ hg))⟩

/-- the words are those that are kept. -/
theorem PMs.back {w : World} {b g c gk ck pb : Nat} {S : Nat → Prop} {s : NM} (h : PMs w b S s (.slice (some ⟨g, 0, none⟩) s.W.length c) (.slice (some ⟨gk, 0, none⟩) s.K.length ck) pb) :
    ∃ r w1, (∀ ty, (Builtin.copy_ #[22, 22] ty #[.slice (some ⟨g, 0, none⟩) s.W.length c, .slice (some ⟨gk, 0, none⟩) s.K.length ck]).run Try.prog w = .ok r w1) ∧
      PMs w1 b S { s with W := s.K } (.slice (some ⟨g, 0, none⟩) s.W.length c) (.slice (some ⟨gk, 0, none⟩) s.K.length ck) pb ∧ Fr S w w1 := by
  have hi := h.inv
  have hkl := hi.kl
  rcases h.wr.2 with ⟨h0, -⟩ | ⟨g', cap, cur, h0, -, hg, hnc, hcm, hcs, htake⟩
  · cases h0
  simp only [Value.slice.injEq, Option.some.injEq, Addr.mk.injEq, and_true, true_and] at h0
  obtain ⟨rfl, rfl⟩ := h0
  have hw := h.wb_ne
  have hp := h.wp_ne
  have e1 := h.ne g rfl
  simp [Value.ownBlock] at hw hp e1
  have q2 := h.kr.cells (g := gk) rfl
  have hlen : (u64s s.K).length = Nat.min s.K.length s.W.length := by rw [u64s_len, hkl]; simp
  have hsz : cur.size = c := by simpa using hcs
  have hcopy := fun ty => run_copy_row (P := Try.prog) w 22 22 ty 24 g 0 s.W.length c ⟨gk, 0, none⟩ s.K.length ck cur 24 (u64s s.K) Try.underlying22 (by kernel_rfl) hg hlen q2 (by rw [u64s_len, hkl, hsz]; omega) (by intro v hv; obtain ⟨z, -, rfl⟩ := List.mem_map.1 hv; rfl)
  refine ⟨_, _, hcopy, ?_, fr_setRow w _ (h.inw g rfl)⟩
  generalize hds : (cur.toList.take 0 ++ u64s s.K ++ cur.toList.drop (0 + (u64s s.K).length)).toArray = ds
  have hdl : ds.size = c := by
    rw [← hds]
    simp [u64s_len]
    omega
  have hdt : ds.toList.take s.K.length = u64s s.K := by
    rw [← hds]
    simp [List.take_append, u64s_len, List.take_of_length_le]
  refine ⟨(heap_setRow_other (fun e => hw e.symm)).trans h.cells, ⟨by simp [u64s_len], .inr ⟨g, c, ds, by rw [hkl], Nat.zero_le _, heap_setRow_at hg, by show s.K.length ≤ c; omega, hcm, by simpa using hdl, by rw [Nat.mul_one]; exact hdt⟩⟩, ownsRow_block h.kr fun j x => heap_setRow_other (fun e => e1 (by simp [Value.ownBlock] at x; omega)), h.mp.block (heap_setRow_other (fun e => hp e.symm)), h.ne, h.inb, h.inp, h.inw, h.ink, fun j x => by rw [size_setRow]; exact h.lt j x, ?_⟩
  exact ⟨rfl, by show 0 < s.K.length; rw [hkl]; exact hi.pos, by show s.K.length ≤ _; rw [hkl]; exact hi.small, by show s.K.length % 8 = 0; rw [hkl]; exact hi.oct, hi.ku, hi.ku, hi.nd, by show ∀ p ∈ s.P, _; rw [show (({ s with W := s.K } : NM).W.length) = s.W.length from hkl]; exact hi.pb⟩

theorem mcrash_any (b : Nat) (w : World) (S : Nat → Prop) (s : NM) (h : PM w b S s) :
    Calls Try.prog 15 #[.pointer (some ⟨b, 0, none⟩)] w fun e w' => e = .returned (.tuple #[]) ∧ (PM w' b (upd S w w') s.crash ∧ Fr S w w') := by
  obtain ⟨wv, kv, pb, hv⟩ := h
  obtain ⟨g, c, rfl⟩ := hv.wform
  obtain ⟨gk, ck, rfl⟩ := hv.kform
  have h0 := hv.cell 0
  have h1 := hv.cell 1
  simp at h0 h1
  obtain ⟨r, w1, hcopy, hb, hf⟩ := hv.drew.back
  have hcp := hcopy 3
  have h2 := hb.cell 2
  simp at h2
  have HB := Lib.hid hb
  have HM := Lib.hid hb.mp
  have hf0 : Fr S w w1 := ((Fr.refl S w).drew).trans hf (fun i hi => Or.inl hi)
  have HF := Lib.hid hf0
  have HI := Lib.hid hv.inv.crash
  clear hv hb hf hcopy hf0
  go_enter Try.func15, Try.ntmps15
  go_wp2
  go_region
  go_wp2_with (refine wpL_pclear rfl _ rfl HM.out uPend rfl ?_; intro w2 hm2 hg2)
  obtain ⟨n1, n2⟩ := HB.out.pendI (P' := []) hm2 hg2 HI.out
  have HN := Lib.hid (n1.up (HF.out.trans n2 (fun i hi => Or.inl hi)))
  clear n1 n2 hm2 hg2
  go_wp2
  go_end0
  exact ⟨rfl, HN.out⟩

/-- a copy of words that a call hands back. -/
def RowP (w : World) (n : Nat) (xs : List Int) (e : Ending) (w' : World) : Prop := ∃ v', e = .returned v' ∧ w'.ownsRow w.heap.size 24 1 v' n (u64s xs) ∧ v' ≠ .slice none 0 0 ∧ Below w.heap.size w w'

theorem mwords_any (b : Nat) (w : World) (S : Nat → Prop) (s : NM) (h : PM w b S s) :
    Calls Try.prog 20 #[.pointer (some ⟨b, 0, none⟩)] w (RowP w s.W.length s.W) := by
  obtain ⟨wv, kv, pb, hv⟩ := h
  obtain ⟨g, c, rfl⟩ := hv.wform
  have h0 := hv.cell 0
  simp at h0
  have hs := hv.inv.small
  have HC := Lib.hid (clone64 ⟨g, 0, none⟩ s.W.length c s.W w rfl (by omega) (fun j hj => (hv.wr.cells (g := g) rfl j _ (u64s_get hj))))
  clear hv
  go_enter Try.func20, Try.ntmps20
  go_wp2_with fail
  refine HC.out.mono ?_
  rintro e w1 ⟨v, rfl, ho⟩
  have HO := Lib.hid ho
  clear ho
  go_wp2
  go_ret
  exact ⟨v, rfl, HO.out⟩
theorem mkept_any (b : Nat) (w : World) (S : Nat → Prop) (s : NM) (h : PM w b S s) :
    Calls Try.prog 16 #[.pointer (some ⟨b, 0, none⟩)] w (RowP w s.W.length s.K) := by
  obtain ⟨wv, kv, pb, hv⟩ := h
  obtain ⟨g, c, rfl⟩ := hv.kform
  have h0 := hv.cell 1
  simp at h0
  have hs := hv.inv.small
  have hkl := hv.inv.kl
  have HC := Lib.hid (clone64 ⟨g, 0, none⟩ s.W.length c s.K w hkl (by omega) (fun j hj => (hv.kr.cells (g := g) rfl j _ (u64s_get (by omega)))))
  rw [hkl] at h0
  clear hv hkl
  go_enter Try.func16, Try.ntmps16
  go_wp2_with fail
  refine HC.out.mono ?_
  rintro e w1 ⟨v, rfl, ho⟩
  have HO := Lib.hid ho
  clear ho
  go_wp2
  go_ret
  exact ⟨v, rfl, HO.out⟩

/-! ### New -/
theorem mnew_no (ad : Option Addr) (n c : Nat) (w : World) (h : n = 0 ∨ n % 8 ≠ 0 ∨ 65536 < n) :
    Calls Try.prog 9 #[.slice ad n c] w fun e w' => e = .returned (.pointer none) ∧ w = w' := by
  by_cases h1 : n = 0
  · subst h1
    go_enter Try.func9, Try.ntmps9
    go_wp2
    go_ret
    exact ⟨rfl, rfl⟩
  · have h1b : ((n : Int) == 0) = false := by simp; omega
    by_cases h2 : n % 8 = 0
    · have h2b : ((n : Int) % 8 != 0) = false := by simp; omega
      have h2c : ((n : Int).tmod 8 != 0) = false := by rw [Int.tmod_eq_emod_of_nonneg (by omega)]; simp; omega
      have h3 : (65536 : Int) < n := by omega
      go_enter Try.func9, Try.ntmps9
      go_wp2
      go_ret
      exact ⟨rfl, rfl⟩
    · have h2b : ((n : Int) % 8 != 0) = true := by simp; omega
      go_enter Try.func9, Try.ntmps9
      go_wp2
      go_ret
      exact ⟨rfl, rfl⟩

theorem pm_made {w0 w : World} {v1 v2 : Value} {pb : Nat} {s : NM} (hb : Below w0.heap.size w0 w) (r1 : w.ownsRow w0.heap.size 24 1 v1 s.W.length (u64s s.W)) (r2 : w.ownsRow w0.heap.size 24 1 v2 s.K.length (u64s s.K))
    (hne : ∀ k, v1.ownBlock = some k → v2.ownBlock ≠ some k) (hp : PMap w pb s.P) (hpb : w0.heap.size ≤ pb) (hi : s.Inv) :
    ∃ S, PM (w.alloc (.cells #[v1, v2, .map (some pb)] 54)) w.heap.size S s ∧ (∀ k, S k → w0.heap.size ≤ k) ∧ Below w0.heap.size w0 (w.alloc (.cells #[v1, v2, .map (some pb)] 54)) := by
  have hz := hb.size
  have hpl := hp.lt
  refine ⟨fun k => w0.heap.size ≤ k ∧ k < w.heap.size + 1, ⟨v1, v2, pb, ⟨heap_alloc_new w _, Joins.ownsRow_le (r1.alloc _) (Nat.zero_le _), Joins.ownsRow_le (r2.alloc _) (Nat.zero_le _), hp.block (Below.heap_alloc _ _ _ hpl), hne, ⟨hz, by omega⟩, ⟨hpb, by omega⟩, ?_, ?_, ?_, hi⟩⟩, fun k h => h.1, hb.alloc hz _⟩
  · intro k hk
    have := r1.lt k hk
    exact ⟨this.1, by omega⟩
  · intro k hk
    have := r2.lt k hk
    exact ⟨this.1, by omega⟩
  · intro k hk
    simp
    omega

/-- a memory that a call has made. -/
def NewP (w : World) (s : NM) (e : Ending) (w' : World) : Prop := ∃ b, e = .returned (.pointer (some ⟨b, 0, none⟩)) ∧ w.heap.size ≤ b ∧ (∃ S, PM w' b S s ∧ ∀ k, S k → w.heap.size ≤ k) ∧ Below w.heap.size w w'

theorem NM.new_inv {xs : List Int} (h1 : xs.length ≠ 0) (h2 : xs.length % 8 = 0) (h3 : xs.length ≤ 65536) (hu : ∀ v ∈ xs, NM.U64 v) : (⟨xs, xs, []⟩ : NM).Inv := ⟨rfl, by show 0 < xs.length; omega, h3, h2, hu, hu, by simp, by simp⟩

theorem mnew_any (ad : Addr) (n c : Nat) (xs : List Int) (w : World) (hl : xs.length = n) (h1 : n ≠ 0) (h2 : n % 8 = 0) (h3 : n ≤ 65536) (hu : ∀ v ∈ xs, NM.U64 v) (hc : ∀ j, j < n → w.cell? (ad.add j) = some (.int .u64 (xs.getD j 0))) :
    Calls Try.prog 9 #[.slice (some ad) n c] w (NewP w ⟨xs, xs, []⟩) := by
  have HC := Lib.hid (fun W (hb : Below w.heap.size w W) => clone64 ad n c xs W hl (by omega) (fun j hj => (hb.cell (World.block_lt_of_cell? w _ (hc j hj))).trans (hc j hj)))
  have h1b : ((n : Int) == 0) = false := by simp; omega
  have h2b : ((n : Int) % 8 != 0) = false := by simp; omega
  have h3b : ¬ (65536 : Int) < n := by omega
  have HI := Lib.hid (NM.new_inv (xs := xs) (by omega) (by omega) (by omega) hu)
  have HL := Lib.hid hl
  have HN0 := Lib.hid (show 0 < n by omega)
  have hmk : ∀ W : World, (Instr.makeMap 52 none).run Try.prog W = .ok (.map (some W.heap.size)) (W.alloc (.map #[] 0)) := fun W => run_makeMap _ W
  clear hc hu h1 h2 h3 hl
  go_enter Try.func9, Try.ntmps9
  go_wp2_with fail
  refine (HC.out _ (Below.refl _ _)).mono ?_
  rintro e w1 ⟨v1, rfl, o1, -, b1⟩
  obtain ⟨g1, c1, rfl⟩ := Joins.ownsRow_form o1 HN0.out
  have O1 := Lib.hid o1
  have B1 := Lib.hid b1
  clear o1 b1
  go_wp2_with fail
  refine (HC.out _ B1.out).mono ?_
  rintro e w2 ⟨v2, rfl, o2, -, b2⟩
  obtain ⟨g2, c2, rfl⟩ := Joins.ownsRow_form o2 HN0.out
  have hz1 := B1.out.size
  have B2 := Lib.hid (B1.out.trans (b2.mono hz1))
  have O1b := Lib.hid (show w2.ownsRow w.heap.size 24 1 (.slice (some ⟨g1, 0, none⟩) n c1) n (u64s xs) from ownsRow_keep O1.out fun k hk => b2.block k (O1.out.lt k hk).2)
  have O2 := Lib.hid (Joins.ownsRow_le o2 hz1)
  have hne := Lib.hid (show ∀ k, (Value.slice (some ⟨g1, 0, none⟩) n c1).ownBlock = some k → (Value.slice (some ⟨g2, 0, none⟩) n c2).ownBlock ≠ some k from fun k hk hk2 => by have := (O1.out.lt k hk).2; have := (o2.lt k hk2).1; omega)
  clear o2 b2
  go_wp2
  go_ret
  have hz2 := B2.out.size
  obtain ⟨S, p1, p2, p3⟩ := pm_made (w0 := w) (w := w2.alloc (.map #[] 0)) (pb := w2.heap.size) (s := ⟨xs, xs, []⟩) (B2.out.alloc hz2 _) (by show (w2.alloc _).ownsRow _ _ _ _ xs.length _; rw [HL.out]; exact O1b.out.alloc _) (by show (w2.alloc _).ownsRow _ _ _ _ xs.length _; rw [HL.out]; exact O2.out.alloc _) hne.out (PMap.made w2) hz2 HI.out
  rw [World.size_alloc] at p1
  exact ⟨_, rfl, by omega, ⟨S, p1, p2⟩, p3⟩
end Go.Proofs.Ytdfjgaeiodjmnaa
