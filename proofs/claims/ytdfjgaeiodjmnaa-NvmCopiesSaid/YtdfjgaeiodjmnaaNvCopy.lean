/- the program's memories: Copy; what is no memory. -/
import Derived.Test.YtdfjgaeiodjmnaaNvFenM
import Derived.Shelf.SlMaps.Clone
set_option linter.unusedSimpArgs false
set_option linter.unusedVariables false
namespace Go.Proofs.Ytdfjgaeiodjmnaa
open Go.RowKit

theorem mclone_any (pb : Nat) (es : Array MapEntry) (clk : Nat) (w : World) (hb : w.heap[pb]? = some (.map es clk)) :
    Calls Try.prog 41 #[.map (some pb)] w fun e w' => e = .returned (.map (some w.heap.size)) ∧ w' = w.alloc (.map es clk) := by
  have hq := fun w => run_eql_map_nil_sl (P := Try.prog) w 52 _ _ (some pb) Try.underlying52
  go_enter Try.func41, Try.ntmps41
  go_wp2
  rw [run_callFunc_extern Try.func45 (by kernel_rfl) (by kernel_rfl) (by kernel_rfl) (e := Extern.MapsClone.clone) (by kernel_rfl), run_maps_clone_sl w 52 hb]
  simp only [Result.andThen]
  rw [Oper.upon_value]
  go_wp2
  rw [run_typeAssert_map_sl _ 52 _ _ _ _ Try.underlying52]
  simp only [Result.andThen]
  rw [Oper.upon_value]
  go_wp2
  go_ret
  exact ⟨rfl, rfl⟩

theorem clone64_nil (w : World) : Calls Try.prog 27 #[.slice none 0 0] w fun e w' => e = .returned (.slice none 0 0) ∧ w = w' := by
  have q22 : ∀ (w : World) (a : Option Addr) (n c n' c' : Nat), (binOp .eql 22 (.slice a n c) (.slice none n' c')).run Try.prog w = .ok (.bool a.isNone) w := fun w a n c n' c' => Lib.run_eql_slice_nil w _ _ a n c n' c' Try.underlying22
  go_enter Try.func27, Try.ntmps27
  go_wp2
  go_ret
  exact ⟨rfl, rfl⟩

set_option maxRecDepth 100000 in
theorem mcopy_any (b : Nat) (w : World) (S : Nat → Prop) (s : NM) (h : PM w b S s) :
    Calls Try.prog 25 #[.pointer (some ⟨b, 0, none⟩)] w (NewP w s) := by
  obtain ⟨wv, kv, pb, hv⟩ := h
  obtain ⟨g, c, rfl⟩ := hv.wform
  obtain ⟨gk, ck, rfl⟩ := hv.kform
  have hs := hv.inv.small
  have hpos := hv.inv.pos
  have hkl := hv.inv.kl
  rw [hkl] at hv
  have h0 := hv.cell 0
  have h1 := hv.cell 1
  have h2 := hv.cell 2
  simp at h0 h1 h2
  obtain ⟨es, clk, hmb, hpe⟩ := hv.mp
  have hpl : pb < w.heap.size := hv.mp.lt
  have HI := Lib.hid hv.inv
  have HPe := Lib.hid hpe
  have CW := Lib.hid (fun W (hb : Below w.heap.size w W) => clone64 ⟨g, 0, none⟩ s.W.length c s.W W rfl (by omega) (fun j hj => by
    have := hv.wr.cells (g := g) rfl j _ (u64s_get hj)
    exact (hb.cell (World.block_lt_of_cell? w _ this)).trans this))
  have CK := Lib.hid (fun W (hb : Below w.heap.size w W) => clone64 ⟨gk, 0, none⟩ s.W.length ck s.K W hkl (by omega) (fun j hj => by
    have := hv.kr.cells (g := gk) rfl j _ (u64s_get (by omega))
    exact (hb.cell (World.block_lt_of_cell? w _ this)).trans this))
  have CM := Lib.hid (fun W (hb : Below w.heap.size w W) => mclone_any pb es clk W ((hb.block pb hpl).trans hmb))
  have HX := Lib.hid (fun W (hb : Below w.heap.size w W) => (⟨hb, (hb.cell (World.block_lt_of_cell? w _ h0)).trans h0, (hb.cell (World.block_lt_of_cell? w _ h1)).trans h1, (hb.cell (World.block_lt_of_cell? w _ h2)).trans h2⟩ : Below w.heap.size w W ∧ W.cell? ⟨b, 0, none⟩ = some (.slice (some ⟨g, 0, none⟩) s.W.length c) ∧ W.cell? ⟨b, 1, none⟩ = some (.slice (some ⟨gk, 0, none⟩) s.W.length ck) ∧ W.cell? ⟨b, 2, none⟩ = some (.map (some pb))))
  have HKl := Lib.hid hkl
  clear hv hmb hpe h0 h1 h2 hkl
  go_enter Try.func25, Try.ntmps25
  go_wp2
  refine wp_region_noPanic ?_
  refine wp_region_held_drew (S := fun w' => Below w.heap.size w w' ∧ w'.cell? ⟨b, 0, none⟩ = some (.slice (some ⟨g, 0, none⟩) s.W.length c) ∧ w'.cell? ⟨b, 1, none⟩ = some (.slice (some ⟨gk, 0, none⟩) s.W.length ck) ∧ w'.cell? ⟨b, 2, none⟩ = some (.map (some pb))) (by kernel_rfl) ?_ (fun hHeld => ?_)
  · exact HX.out _ (Below.refl _ _).drew
  refine wpAnyH_take (i := 0) (oi := _) (v := ?_) rfl (by kernel_rfl) (by kernel_rfl) (by kernel_rfl) (fun _ _ _ h => h) (Or.inl ⟨by rfl, ?_⟩) (by assumption) ?_
  rotate_left
  · intro w hSw; (try dsimp only at hSw); go_simp; try with_reducible rfl
  try simp only [Act.put, List.getElem_toArray, List.getElem_cons_zero, List.setIfInBounds_toArray, List.set_cons_zero, List.set_cons_succ]
  refine wpAnyH_take (i := 1) (oi := _) (v := ?_) rfl (by kernel_rfl) (by kernel_rfl) (by kernel_rfl) (fun _ _ _ h => h) (Or.inl ⟨by rfl, ?_⟩) (by assumption) ?_
  rotate_left
  · intro w hSw; (try dsimp only at hSw); go_simp; try with_reducible rfl
  try simp only [Act.put, List.getElem_toArray, List.getElem_cons_zero, List.getElem_cons_succ, List.setIfInBounds_toArray, List.set_cons_zero, List.set_cons_succ]
  refine wpAnyH_take (i := 2) (oi := _) (v := ?_) rfl (by kernel_rfl) (by kernel_rfl) (by kernel_rfl) (fun _ _ _ h => h) (Or.inl ⟨by rfl, ?_⟩) (by assumption) ?_
  rotate_left
  · intro w hSw; (try dsimp only at hSw); go_simp; try with_reducible rfl
  try simp only [Act.put, List.getElem_toArray, List.getElem_cons_zero, List.getElem_cons_succ, List.setIfInBounds_toArray, List.set_cons_zero, List.set_cons_succ]
  refine wpAnyH_take (i := 3) (oi := _) (v := ?_) rfl (by kernel_rfl) (by kernel_rfl) (by kernel_rfl) (fun _ _ _ h => h) (Or.inl ⟨by rfl, ?_⟩) (by assumption) ?_
  rotate_left
  · intro w hSw; (try dsimp only at hSw); go_simp; try with_reducible rfl
  try simp only [Act.put, List.getElem_toArray, List.getElem_cons_zero, List.getElem_cons_succ, List.setIfInBounds_toArray, List.set_cons_zero, List.set_cons_succ]
  refine wpAnyH_take (i := 5) (oi := _) (v := ?_) rfl (by kernel_rfl) (by kernel_rfl) (by kernel_rfl) (fun _ _ _ h => h) (Or.inl ⟨by rfl, ?_⟩) (by assumption) ?_
  rotate_left
  · intro w hSw; (try dsimp only at hSw); go_simp; try with_reducible rfl
  try simp only [Act.put, List.getElem_toArray, List.getElem_cons_zero, List.getElem_cons_succ, List.setIfInBounds_toArray, List.set_cons_zero, List.set_cons_succ]
  refine wpAnyH_take (i := 6) (oi := _) (v := ?_) rfl (by kernel_rfl) (by kernel_rfl) (by kernel_rfl) (fun _ _ _ h => h) (Or.inl ⟨by rfl, ?_⟩) (by assumption) ?_
  rotate_left
  · intro w hSw; (try dsimp only at hSw); go_simp; try with_reducible rfl
  try simp only [Act.put, List.getElem_toArray, List.getElem_cons_zero, List.getElem_cons_succ, List.setIfInBounds_toArray, List.set_cons_zero, List.set_cons_succ]
  refine wpAnyH_take (i := 7) (oi := _) (v := ?_) rfl (by kernel_rfl) (by kernel_rfl) (by kernel_rfl) (fun _ _ _ h => h) (Or.inl ⟨by rfl, ?_⟩) (by assumption) ?_
  rotate_left
  · intro w hSw; (try dsimp only at hSw); go_simp; try with_reducible rfl
  try simp only [Act.put, List.getElem_toArray, List.getElem_cons_zero, List.getElem_cons_succ, List.setIfInBounds_toArray, List.set_cons_zero, List.set_cons_succ]
  refine wpAnyH_take (i := 8) (oi := _) (v := ?_) rfl (by kernel_rfl) (by kernel_rfl) (by kernel_rfl) (fun _ _ _ h => h) (Or.inl ⟨by rfl, ?_⟩) (by assumption) ?_
  rotate_left
  · intro w hSw; (try dsimp only at hSw); go_simp; try with_reducible rfl
  try simp only [Act.put, List.getElem_toArray, List.getElem_cons_zero, List.getElem_cons_succ, List.setIfInBounds_toArray, List.set_cons_zero, List.set_cons_succ]
  refine wpAnyH_take (i := 10) (oi := _) (v := ?_) rfl (by kernel_rfl) (by kernel_rfl) (by kernel_rfl) (fun _ _ _ h => h) (Or.inl ⟨by rfl, ?_⟩) (by assumption) ?_
  rotate_left
  · intro w hSw; (try dsimp only at hSw); go_simp; try with_reducible rfl
  try simp only [Act.put, List.getElem_toArray, List.getElem_cons_zero, List.getElem_cons_succ, List.setIfInBounds_toArray, List.set_cons_zero, List.set_cons_succ]
  refine wpAnyH_take (i := 11) (oi := _) (v := ?_) rfl (by kernel_rfl) (by kernel_rfl) (by kernel_rfl) (fun _ _ _ h => h) (Or.inl ⟨by rfl, ?_⟩) (by assumption) ?_
  rotate_left
  · intro w hSw; (try dsimp only at hSw); go_simp; try with_reducible rfl
  try simp only [Act.put, List.getElem_toArray, List.getElem_cons_zero, List.getElem_cons_succ, List.setIfInBounds_toArray, List.set_cons_zero, List.set_cons_succ]
  refine wpAnyH_take (i := 12) (oi := _) (v := ?_) rfl (by kernel_rfl) (by kernel_rfl) (by kernel_rfl) (fun _ _ _ h => h) (Or.inl ⟨by rfl, ?_⟩) (by assumption) ?_
  rotate_left
  · intro w hSw; (try dsimp only at hSw); go_simp; try with_reducible rfl
  try simp only [Act.put, List.getElem_toArray, List.getElem_cons_zero, List.getElem_cons_succ, List.setIfInBounds_toArray, List.set_cons_zero, List.set_cons_succ]
  refine wpAnyH_take (i := 13) (oi := _) (v := ?_) rfl (by kernel_rfl) (by kernel_rfl) (by kernel_rfl) (fun _ _ _ h => h) (Or.inl ⟨by rfl, ?_⟩) (by assumption) ?_
  rotate_left
  · intro w hSw; (try dsimp only at hSw); go_simp; try with_reducible rfl
  try simp only [Act.put, List.getElem_toArray, List.getElem_cons_zero, List.getElem_cons_succ, List.setIfInBounds_toArray, List.set_cons_zero, List.set_cons_succ]
  refine wpAnyH_ready (rs := [4]) (by kernel_rfl) (by simp) ?_
  refine AllReadyH.cons (o := _) rfl (fun K hK => ?_) AllReadyH.nil
  go_simp
  refine (CW.out _ hHeld.1).mono ?_
  rintro e w1 ⟨v1, rfl, o1, -, b1⟩
  have r1 : NewRow w w1 v1 s.W.length s.W := ⟨Joins.ownsRow_le o1 hHeld.1.size, hHeld.1.trans (b1.mono hHeld.1.size)⟩
  obtain ⟨g1, c1, rfl⟩ := Joins.ownsRow_form o1 hpos
  dsimp only
  refine hK.out _ _ ?_ (fun hHeld => ?_)
  · exact HX.out _ r1.bel
  clear hK K
  try simp only [Act.put, List.getElem_toArray, List.getElem_cons_zero, List.getElem_cons_succ, List.setIfInBounds_toArray, List.set_cons_zero, List.set_cons_succ]
  refine wpAnyH_ready (rs := [9]) (by kernel_rfl) (by simp) ?_
  refine AllReadyH.cons (o := _) rfl (fun K hK => ?_) AllReadyH.nil
  go_simp
  refine (CK.out _ hHeld.1).mono ?_
  rintro e w2 ⟨v2, rfl, o2, -, b2⟩
  have r2 : NewRow w1 w2 v2 s.W.length s.K := ⟨o2, b2⟩
  obtain ⟨g2, c2, rfl⟩ := Joins.ownsRow_form o2 hpos
  have B2 := r1.bel.trans (b2.mono r1.bel.size)
  dsimp only
  refine hK.out _ _ ?_ (fun hHeld => ?_)
  · exact HX.out _ B2
  clear hK K
  try simp only [Act.put, List.getElem_toArray, List.getElem_cons_zero, List.getElem_cons_succ, List.setIfInBounds_toArray, List.set_cons_zero, List.set_cons_succ]
  refine wpAnyH_ready (rs := [14]) (by kernel_rfl) (by simp) ?_
  refine AllReadyH.cons (o := _) rfl (fun K hK => ?_) AllReadyH.nil
  go_simp
  refine (CM.out _ hHeld.1).mono ?_
  rintro e w3 ⟨rfl, rfl⟩
  dsimp only
  refine hK.out _ _ ?_ (fun hHeld => ?_)
  · exact HX.out _ (B2.alloc B2.size _)
  clear hK K
  try simp only [Act.put, List.getElem_toArray, List.getElem_cons_zero, List.getElem_cons_succ, List.setIfInBounds_toArray, List.set_cons_zero, List.set_cons_succ]
  refine wpAnyH_take (i := 15) (oi := _) (v := ?_) rfl (by kernel_rfl) (by kernel_rfl) (by kernel_rfl) (fun _ _ _ h => h) (Or.inl ⟨by rfl, ?_⟩) (by assumption) ?_
  rotate_left
  · intro w hSw; (try dsimp only at hSw); go_simp; try with_reducible rfl
  try simp only [Act.put, List.getElem_toArray, List.getElem_cons_zero, List.getElem_cons_succ, List.setIfInBounds_toArray, List.set_cons_zero, List.set_cons_succ]
  refine wpAnyH_ready (rs := [16]) (by kernel_rfl) (by simp) ?_
  refine AllReadyH.cons (o := _) rfl (fun K hK => ?_) AllReadyH.nil
  go_simp
  refine hK.out _ _ ?_ (fun hHeld => ?_)
  · exact HX.out _ ((B2.alloc B2.size _).alloc (by have := B2.size; simp; omega) _)
  clear hK K
  try simp only [Act.put, List.getElem_toArray, List.getElem_cons_zero, List.getElem_cons_succ, List.setIfInBounds_toArray, List.set_cons_zero, List.set_cons_succ]
  refine wpAnyH_take (i := 17) (oi := _) (v := ?_) rfl (by kernel_rfl) (by kernel_rfl) (by kernel_rfl) (fun _ _ _ h => h) (Or.inl ⟨by rfl, ?_⟩) (by assumption) ?_
  rotate_left
  · intro w hSw; (try dsimp only at hSw); go_simp; try with_reducible rfl
  try simp only [Act.put, List.getElem_toArray, List.getElem_cons_zero, List.getElem_cons_succ, List.setIfInBounds_toArray, List.set_cons_zero, List.set_cons_succ]
  refine wpAnyH_done (by kernel_rfl) ?_ _
  refine NoPanic.normal ?_
  have hz1 := r1.bel.size
  have hz2 := r2.bel.size
  obtain ⟨S1, p1, p2, p3⟩ := pm_made (w0 := w) (w := w2.alloc (.map es clk)) (pb := w2.heap.size) (s := s) (B2.alloc B2.size _) ((ownsRow_keep r1.row fun k hk => r2.bel.block k (r1.row.lt k hk).2).alloc _) (by rw [HKl.out]; exact (Joins.ownsRow_le r2.row hz1).alloc _) (fun k hk hk2 => by have := (r1.row.lt k hk).2; have := (r2.row.lt k hk2).1; omega) ⟨es, clk, heap_alloc_new w2 _, HPe.out⟩ (by omega) HI.out
  have P1 := Lib.hid p1
  have P2 := Lib.hid p2
  have P3 := Lib.hid p3
  clear hHeld p1 p2 p3 r1 r2 o1 o2 b1 b2
  go_wp2
  go_ret
  rw [World.size_alloc] at P1
  exact ⟨_, rfl, by have := B2.size; omega, ⟨S1, P1.out, P2.out⟩, P3.out⟩
end Go.Proofs.Ytdfjgaeiodjmnaa
