/- the document's audit: blocks, Has, roots. -/
import Derived.Test.YtcicmljnjdhkjaaGreatAudN
namespace Go.Proofs.YtcicmljnjdhkjaaGreat
open Go.RowKit

theorem infoBlock : (Tryz.prog.info? 79).map (fun i => (i.zero, i.size, i.bytes)) = some (some (.agg #[.int .i64 0, .int .i64 0]), 2, 16) := by kernel_rfl
def blockCells (l : List (Int × Int)) : List Value := l.flatMap fun x => [.int .i64 x.1, .int .i64 x.2]
theorem blockCells_len (l : List (Int × Int)) : (blockCells l).length = l.length * 2 := by
  induction l with
  | nil => rfl
  | cons y ys ih => unfold blockCells at ih ⊢; simp [ih]; omega
theorem blockCells_app (l m : List (Int × Int)) : blockCells (l ++ m) = blockCells l ++ blockCells m := by simp [blockCells]
def RowB (w : World) (l : List (Int × Int)) (v : Value) (w' : World) : Prop :=
  w'.ownsRow 0 79 2 v l.length (blockCells l) ∧ (∀ k, v.ownBlock = some k → w.heap.size ≤ k) ∧ Below w.heap.size w w'

/-- the live ones of parts. -/
def liveL : List (Int × Int × Int) → List (Int × Int)
  | [] => []
  | x :: l => (if x.1 = 2 then [(x.2.1, x.2.2)] else []) ++ liveL l
theorem liveL_app (l m : List (Int × Int × Int)) : liveL (l ++ m) = liveL l ++ liveL m := by
  induction l with
  | nil => rfl
  | cons x l ih => simp [liveL, ih]
theorem liveL_len (l : List (Int × Int × Int)) : (liveL l).length ≤ l.length := by
  induction l with
  | nil => exact Nat.le_refl _
  | cons x l ih =>
    simp only [liveL, List.length_append, List.length_cons]
    split <;> simp <;> omega
theorem liveL_take {l : List (Int × Int × Int)} {k : Nat} {x : Int × Int × Int} (h : l[k]? = some x) : liveL (l.take (k + 1)) = liveL (l.take k) ++ if x.1 = 2 then [(x.2.1, x.2.2)] else [] := by
  rw [List.take_add_one, h, liveL_app]
  simp [liveL]
theorem part_cell {l : List (Int × Int × Int)} {k : Nat} {x : Int × Int × Int} (h : l[k]? = some x) : (partCells l)[k * 3]? = some (.int .i64 x.1) ∧ (partCells l)[k * 3 + 1]? = some (.int .i64 x.2.1) ∧ (partCells l)[k * 3 + 2]? = some (.int .i64 x.2.2) := by
  induction l generalizing k with
  | nil => simp at h
  | cons y ys ih =>
    have e : partCells (y :: ys) = [.int .i64 y.1, .int .i64 y.2.1, .int .i64 y.2.2] ++ partCells ys := by simp [partCells]
    rw [e]
    cases k with
    | zero => simp at h; subst h; simp
    | succ k =>
      have h2 : ys[k]? = some x := by simpa using h
      obtain ⟨a, b, d⟩ := ih h2
      refine ⟨?_, ?_, ?_⟩
      · rw [List.getElem?_append_right (by simp; omega)]; rw [← a]; congr 1; simp; omega
      · rw [List.getElem?_append_right (by simp; omega)]; rw [← b]; congr 1; simp; omega
      · rw [List.getElem?_append_right (by simp; omega)]; rw [← d]; congr 1; simp; omega
theorem block_cell {l : List (Int × Int)} {k : Nat} {x : Int × Int} (h : l[k]? = some x) : (blockCells l)[k * 2]? = some (.int .i64 x.1) ∧ (blockCells l)[k * 2 + 1]? = some (.int .i64 x.2) := by
  induction l generalizing k with
  | nil => simp at h
  | cons y ys ih =>
    have e : blockCells (y :: ys) = [.int .i64 y.1, .int .i64 y.2] ++ blockCells ys := by simp [blockCells]
    rw [e]
    cases k with
    | zero => simp at h; subst h; simp
    | succ k =>
      have h2 : ys[k]? = some x := by simpa using h
      obtain ⟨a, b⟩ := ih h2
      refine ⟨?_, ?_⟩
      · rw [List.getElem?_append_right (by simp; omega)]; rw [← a]; congr 1; simp; omega
      · rw [List.getElem?_append_right (by simp; omega)]; rw [← b]; congr 1; simp; omega

section
variable {t p s : Int} {ad : Addr} {n c : Nat} {vs : List Int}
def blocksF (vs : List Int) (t p s : Int) : List (Int × Int) := liveL (partsF vs t p s)

structure BlRel (w : World) (l : List (Int × Int × Int)) (lv : Value) (v3 v5 : Value) (wr : World) (k : Nat) : Prop where
  hk : v5 = .int .i64 k
  le : k ≤ l.length
  row : wr.ownsRow 0 79 2 v3 (liveL (l.take k)).length (blockCells (liveL (l.take k)))
  bs : BS w (w.heap.size :: v3.ownBlock.toList) wr
  lrow : wr.ownsRow 0 82 3 lv l.length (partCells l)
  far : ∀ k, v3.ownBlock = some k → lv.ownBlock ≠ some k
def BlRelE (w : World) (l : List (Int × Int × Int)) (lv : Value) (v3 v5 : Value) (wr : World) : Prop := ∃ k, BlRel w l lv v3 v5 wr k

set_option maxHeartbeats 4000000 in
set_option maxRecDepth 100000 in
theorem blocks_any (c : Nat) (w : World) (h : XV w t p s ad n vs) :
    Calls Tryz.prog 119 #[.agg #[.int .i64 t, .int .i64 p, .int .i64 s, .slice (some ad) n c]] w fun e w' => ∃ v, e = .returned v ∧ RowB w (blocksF vs t p s) v w' := by
  have X0 := (h.boxed c).alloc (.cells #[] 79)
  have r0 := row_empty (w.alloc (.cells #[.int .i64 t, .int .i64 p, .int .i64 s, .slice (some ad) n c] 89)) 79 2
  have hS0 := ((BS.start w).alloc (.cells #[.int .i64 t, .int .i64 p, .int .i64 s, .slice (some ad) n c] 89)).alloc (.cells #[] 79)
  simp only [World.size_alloc] at hS0 r0
  have HP := Lib.hid (fun (w : World) (h : XV w t p s ad n vs) => parts_any c w h)
  have hll : (partsF vs t p s).length ≤ 2112 := by
    have := partsL_len vs t s p.toNat
    have := h.bd
    unfold partsF; omega
  obtain ⟨i0, hi0, hi1, hi2, hi3⟩ := info_parts infoBlock
  have HI := Lib.hid (And.intro hi0 (And.intro hi1 (And.intro hi2 hi3)))
  have hF0 : blocksF vs t p s = liveL (partsF vs t p s) := rfl
  generalize blocksF vs t p s = F at *
  generalize partsF vs t p s = l at *
  have HF0 := Lib.hid hF0
  clear hi0 hi1 hi2 hi3 h hF0
  obtain ⟨x0, x1, x2, x3⟩ := X0.cells
  have xz := X0.lt
  go_enter Tryz.func119, Tryz.ntmps119
  go_wp2_with fail
  refine (HP.out _ X0.xv).mono ?_
  rintro e w1 ⟨lv, rfl, hlv⟩
  have r1 := ((BS.start _).below hlv.2.2).row r0
  have hS1 := hS0.below hlv.2.2
  have hlr := hlv.1
  have hlf := hlv.2.1
  have hls : ∃ a c, lv = .slice a l.length c := row_shape hlr
  obtain ⟨la, lc, rfl⟩ := hls
  simp only [World.size_alloc] at hlf
  clear hlv r0 hS0 X0 x0 x1 x2 x3 xz
  go_wp2_with fail
  go_loopw [3, 5] (fun v3 v5 wr => BlRelE w l (.slice la l.length lc) v3 v5 wr) (fun _ v5 _ => l.length - (intOf v5).toNat)
  case atStart => exact ⟨0, rfl, by omega, by simpa [liveL, blockCells] using r1, hS1.sub _ (by simp [Value.ownBlock]), hlr, fun k hk e => by have := hlf k e; simp [Value.ownBlock] at hk; omega⟩
  case round =>
    obtain ⟨k, rfl, hle, hrow, hbs, hlrow, hfar⟩ := hrel
    have hll2 := liveL_len (l.take k)
    have hll3 : (l.take k).length ≤ l.length := by simp; omega
    have HTk := Lib.hid (fun x (h : l[k]? = some x) => liveL_take h)
    have HTe := Lib.hid (fun (h : k = l.length) => (show liveL (l.take k) = liveL l by rw [h, List.take_length]))
    generalize liveL (l.take k) = o at *
    have hol : o.length ≤ 2112 := by omega
    have hlen : ∃ a c, u3 = .slice a o.length c := row_shape hrow
    obtain ⟨pa, pc, rfl⟩ := hlen
    have HB := Lib.hid hbs
    have HF := Lib.hid hfar
    have HRow := Lib.hid hrow
    have HLr := Lib.hid hlrow
    clear r1 hS1 hlr hlf hbs hfar hrow hlrow hll2 hll3
    by_cases hlt : k < l.length
    · obtain ⟨⟨y1, y2, y3⟩, hx⟩ : ∃ x, l[k]? = some x := ⟨_, List.getElem?_eq_getElem hlt⟩
      obtain ⟨g, cap, hg⟩ := Joins.ownsRow_form HLr.out (by omega)
      simp only [Value.slice.injEq, true_and] at hg
      obtain ⟨rfl, rfl⟩ := hg
      obtain ⟨p0, p1, p2⟩ := part_cell hx
      have q0 := (HLr.out.cellAt (k * 3) (by omega)).trans p0
      have q1 := (HLr.out.cellAt (k * 3 + 1) (by omega)).trans p1
      have q2 := (HLr.out.cellAt (k * 3 + 2) (by omega)).trans p2
      have ht := HTk.out _ hx
      simp only at ht q0 q1 q2
      have hgl : g < wr.heap.size := ownsRow_lt HLr.out (by simp [Value.ownBlock])
      have hgn : (Value.slice pa o.length pc).ownBlock ≠ some g := fun e => HF.out g e (by simp [Value.ownBlock])
      clear p0 p1 p2 hx HTk HTe
      by_cases hy : y1 = 2
      · subst hy
        rw [if_pos rfl] at ht
        have HT := Lib.hid ht
        have HQ1 := Lib.hid q1
        have HQ2 := Lib.hid q2
        have HGn := Lib.hid hgn
        clear ht hgn
        go_wp2_with fail
        refine wp_region_noPanic ?_
        refine wp_region_held_drew (S := fun w' => w'.cell? ⟨g, k * 3 + 1, none⟩ = some (.int .i64 y2) ∧ w'.cell? ⟨g, k * 3 + 2, none⟩ = some (.int .i64 y3)) (by kernel_rfl) ?_ (fun hHeld => ?_)
        · exact ⟨HQ1.out, HQ2.out⟩
        refine wpAnyH_take (i := 0) (oi := _) (v := ?_) rfl (by kernel_rfl) (by kernel_rfl) (by kernel_rfl) (fun _ _ _ h => h) (Or.inl ⟨by rfl, ?_⟩) (by assumption) ?_
        rotate_left
        · intro w hSw; (try dsimp only at hSw); go_simp; try with_reducible rfl
        try simp only [Act.put, List.getElem_toArray, List.getElem_cons_zero, List.setIfInBounds_toArray, List.set_cons_zero, List.set_cons_succ]
        refine wpAnyH_take (i := 1) (oi := _) (v := ?_) rfl (by kernel_rfl) (by kernel_rfl) (by kernel_rfl) (fun _ _ _ h => h) (Or.inl ⟨by rfl, ?_⟩) (by assumption) ?_
        rotate_left
        · intro w hSw; (try dsimp only at hSw); go_simp; try with_reducible rfl
        try simp only [Act.put, List.getElem_toArray, List.getElem_cons_zero, List.getElem_cons_succ, List.setIfInBounds_toArray, List.set_cons_zero, List.set_cons_succ]
        refine wpAnyH_take (i := 2) (oi := _) (v := ?_) rfl (by kernel_rfl) (by kernel_rfl) (by kernel_rfl) (fun _ _ _ h => h) (Or.inl ⟨by rfl, ?_⟩) (by assumption) ?_
        rotate_left
        · intro w hSw; (try dsimp only at hSw); go_simp; try with_reducible rfl
        try simp only [Act.put, List.getElem_toArray, List.getElem_cons_zero, List.getElem_cons_succ, List.setIfInBounds_toArray, List.set_cons_zero, List.set_cons_succ]
        refine wpAnyH_take (i := 3) (oi := _) (v := ?_) rfl (by kernel_rfl) (by kernel_rfl) (by kernel_rfl) (fun _ _ _ h => h) (Or.inl ⟨by rfl, ?_⟩) (by assumption) ?_
        rotate_left
        · intro w hSw; (try dsimp only at hSw); go_simp; try with_reducible rfl
        try simp only [Act.put, List.getElem_toArray, List.getElem_cons_zero, List.getElem_cons_succ, List.setIfInBounds_toArray, List.set_cons_zero, List.set_cons_succ]
        refine wpAnyH_take (i := 4) (oi := _) (v := ?_) rfl (by kernel_rfl) (by kernel_rfl) (by kernel_rfl) (fun _ _ _ h => h) (Or.inl ⟨by rfl, ?_⟩) (by assumption) ?_
        rotate_left
        · intro w hSw; (try dsimp only at hSw); go_simp; try with_reducible rfl
        try simp only [Act.put, List.getElem_toArray, List.getElem_cons_zero, List.getElem_cons_succ, List.setIfInBounds_toArray, List.set_cons_zero, List.set_cons_succ]
        refine wpAnyH_take (i := 5) (oi := _) (v := ?_) rfl (by kernel_rfl) (by kernel_rfl) (by kernel_rfl) (fun _ _ _ h => h) (Or.inl ⟨by rfl, ?_⟩) (by assumption) ?_
        rotate_left
        · intro w hSw; (try dsimp only at hSw); go_simp; try with_reducible rfl
        try simp only [Act.put, List.getElem_toArray, List.getElem_cons_zero, List.getElem_cons_succ, List.setIfInBounds_toArray, List.set_cons_zero, List.set_cons_succ]
        refine wpAnyH_take (i := 6) (oi := _) (v := ?_) rfl (by kernel_rfl) (by kernel_rfl) (by kernel_rfl) (fun _ _ _ h => h) (Or.inl ⟨by rfl, ?_⟩) (by assumption) ?_
        rotate_left
        · intro w hSw; (try dsimp only at hSw); go_simp; try with_reducible rfl
        try simp only [Act.put, List.getElem_toArray, List.getElem_cons_zero, List.getElem_cons_succ, List.setIfInBounds_toArray, List.set_cons_zero, List.set_cons_succ]
        refine wpAnyH_take (i := 7) (oi := _) (v := ?_) rfl (by kernel_rfl) (by kernel_rfl) (by kernel_rfl) (fun _ _ _ h => h) (Or.inl ⟨by rfl, ?_⟩) (by assumption) ?_
        rotate_left
        · intro w hSw; (try dsimp only at hSw); go_simp; try with_reducible rfl
        try simp only [Act.put, List.getElem_toArray, List.getElem_cons_zero, List.getElem_cons_succ, List.setIfInBounds_toArray, List.set_cons_zero, List.set_cons_succ]
        refine wpAnyH_take (i := 8) (oi := _) (v := ?_) rfl (by kernel_rfl) (by kernel_rfl) (by kernel_rfl) (fun _ _ _ h => h) (Or.inl ⟨by rfl, ?_⟩) (by assumption) ?_
        rotate_left
        · intro w hSw; (try dsimp only at hSw); go_simp; try with_reducible rfl
        try simp only [Act.put, List.getElem_toArray, List.getElem_cons_zero, List.getElem_cons_succ, List.setIfInBounds_toArray, List.set_cons_zero, List.set_cons_succ]
        refine wpAnyH_take (i := 9) (oi := _) (v := ?_) rfl (by kernel_rfl) (by kernel_rfl) (by kernel_rfl) (fun _ _ _ h => h) (Or.inl ⟨by rfl, ?_⟩) (by assumption) ?_
        rotate_left
        · intro w hSw; (try dsimp only at hSw); go_simp; try with_reducible rfl
        try simp only [Act.put, List.getElem_toArray, List.getElem_cons_zero, List.getElem_cons_succ, List.setIfInBounds_toArray, List.set_cons_zero, List.set_cons_succ]
        refine wpAnyH_take (i := 10) (oi := _) (v := ?_) rfl (by kernel_rfl) (by kernel_rfl) (by kernel_rfl) (fun _ _ _ h => h) (Or.inl ⟨by rfl, ?_⟩) (by assumption) ?_
        rotate_left
        · intro w hSw; (try dsimp only at hSw); go_simp; try with_reducible rfl
        try simp only [Act.put, List.getElem_toArray, List.getElem_cons_zero, List.getElem_cons_succ, List.setIfInBounds_toArray, List.set_cons_zero, List.set_cons_succ]
        refine wpAnyH_take (i := 11) (oi := _) (v := ?_) rfl (by kernel_rfl) (by kernel_rfl) (by kernel_rfl) (fun _ _ _ h => h) (Or.inl ⟨by rfl, ?_⟩) (by assumption) ?_
        rotate_left
        · intro w hSw; (try dsimp only at hSw); go_simp; try with_reducible rfl
        try simp only [Act.put, List.getElem_toArray, List.getElem_cons_zero, List.getElem_cons_succ, List.setIfInBounds_toArray, List.set_cons_zero, List.set_cons_succ]
        refine wpAnyH_ready (rs := [12]) (by kernel_rfl) (by simp) ?_
        refine AllReadyH.cons (o := _) rfl (fun K hK => ?_) AllReadyH.nil
        go_simp
        refine hK.out _ _ ?_ (fun hHeld => ?_)
        · exact ⟨(World.cell?_alloc_lt (a := ⟨g, k * 3 + 1, none⟩) _ _ (by simpa using hgl)).trans HQ1.out, (World.cell?_alloc_lt (a := ⟨g, k * 3 + 2, none⟩) _ _ (by simpa using hgl)).trans HQ2.out⟩
        clear hK K
        try simp only [Act.put, List.getElem_toArray, List.getElem_cons_zero, List.getElem_cons_succ, List.setIfInBounds_toArray, List.set_cons_zero, List.set_cons_succ]
        refine wpAnyH_ready (rs := [13]) (by kernel_rfl) (by simp) ?_
        refine AllReadyH.cons (o := _) rfl (fun K hK => ?_) AllReadyH.nil
        refine step_append_new rfl (.tmp 21) (.tmp 33) rfl 79 i0 (.agg #[.int .i64 0, .int .i64 0]) 2 16 Tryz.underlying30 HI.out.1 HI.out.2.1 HI.out.2.2.1 HI.out.2.2.2 rfl (by decide) (.slice pa o.length pc) o.length (blockCells o) rfl ((ownsRow_block (w' := wr.drew) HRow.out (fun _ _ => rfl)).alloc _) ⟨_, 0, none⟩ 1 1 [.int .i64 y2, .int .i64 y3] rfl rfl (cell_two_at _ _ _ _ _ (by simp)) ?c1 ?c2 ?c3 ?_
        case c1 => (simp [Value.oneCell'])
        case c2 => (unfold maxLen; omega)
        case c3 => (omega)
        intro v' w5 hown5 hg5 hnew5 hnil5
        clear hnil5
        obtain ⟨g', cap', rfl⟩ := Joins.ownsRow_form hown5 (by omega)
        have hc5 := fun i => (World.cell?_of_block (a := ⟨g, i, none⟩) (hg5.block g (by simp; omega) (fun e => HGn.out e.symm))).trans (World.cell?_alloc_lt (w := wr.drew) (a := ⟨g, i, none⟩) _ (by simpa using hgl))
        refine hK.out _ _ ?_ (fun hHeld => ?_)
        · exact ⟨(hc5 _).trans HQ1.out, (hc5 _).trans HQ2.out⟩
        clear hK K
        try simp only [Act.put, List.getElem_toArray, List.getElem_cons_zero, List.getElem_cons_succ, List.setIfInBounds_toArray, List.set_cons_zero, List.set_cons_succ]
        refine wpAnyH_take (i := 14) (oi := _) (v := ?_) rfl (by kernel_rfl) (by kernel_rfl) (by kernel_rfl) (fun _ _ _ h => h) (Or.inl ⟨by rfl, ?_⟩) (by assumption) ?_
        rotate_left
        · intro w hSw; (try dsimp only at hSw); go_simp; try with_reducible rfl
        try simp only [Act.put, List.getElem_toArray, List.getElem_cons_zero, List.getElem_cons_succ, List.setIfInBounds_toArray, List.set_cons_zero, List.set_cons_succ]
        refine wpAnyH_done (by kernel_rfl) ?_ _
        refine NoPanic.normal ?_
        go_wp2_with fail
        go_roundw
        case rel =>
          have B5 := HB.out.drew.append hg5 hnew5 hown5
          refine ⟨k + 1, by go_num, by omega, ?_, B5, ownsRow_block HLr.out (fun j hj => ?_), fun j hj e => ?_⟩
          · rw [HT.out, blockCells_app, List.length_append]; exact hown5
          · simp [Value.ownBlock] at hj
            subst hj
            exact (hg5.block g (by simp; omega) (fun e => HGn.out e.symm)).trans (heap_alloc_old _ _ (by simpa using hgl))
          · simp [Value.ownBlock] at e
            subst e
            rcases hnew5 g hj with x | x
            · exact HGn.out x
            · simp at x; omega
        case measure => simp [intOf]; omega
      · rw [if_neg hy, List.append_nil] at ht
        have HT := Lib.hid ht
        have hyb : (y1 == 2) = false := by simp [hy]
        clear ht hgn hy
        go_wp2_with fail
        go_roundw
        case rel =>
          refine ⟨k + 1, by go_num, by omega, ?_, HB.out, HLr.out, HF.out⟩
          rw [HT.out]; exact HRow.out
        case measure => simp [intOf]; omega
    · have hFo : F = o := by rw [HF0.out, HTe.out (by omega)]
      subst hFo
      clear HTk HTe
      go_wp2
      go_ret
      refine ⟨.slice pa F.length pc, rfl, HRow.out, fun k hk => (HB.out.ls k (List.mem_cons_of_mem _ ?_)).2, HB.out.bel⟩
      rw [hk]; simp

def hasB (l : List (Int × Int)) (a : Int) : Bool := l.any fun x => x.1 == a
def HsRel (l : List (Int × Int)) (a : Int) (w : World) (i : Value) (wr : World) : Prop := ∃ k : Nat, k ≤ l.length ∧ i = .int .i64 k ∧ (∀ j x, j < k → l[j]? = some x → x.1 ≠ a) ∧ w = wr
theorem hasb_any (l : List (Int × Int)) (a : Int) (v : Value) (w : World) (h : w.ownsRow 0 79 2 v l.length (blockCells l)) (hn : l.length ≤ 4294967296) :
    Calls Tryz.prog 147 #[v, .int .i64 a] w fun e w' => e = .returned (.bool (hasB l a)) ∧ Below w.heap.size w w' := by
  have hc : ∀ k x, l[k]? = some x → ∃ g m c, v = .slice (some ⟨g, 0, none⟩) m c ∧ w.cell? ⟨g, k * 2, none⟩ = some (.int .i64 x.1) := by
    intro k x hk
    have hkl := (List.getElem?_eq_some_iff.1 hk).1
    obtain ⟨g, cap, rfl⟩ := Joins.ownsRow_form h (by omega)
    exact ⟨g, _, cap, rfl, (h.cellAt (k * 2) (by omega)).trans (block_cell hk).1⟩
  obtain ⟨pa, pc, rfl⟩ := row_shape h
  clear h
  generalize hr : hasB l a = r
  have HR := Lib.hid hr
  clear hr
  go_enter Tryz.func147, Tryz.ntmps147
  go_wp2
  go_loopw [5] (fun i wr => HsRel l a w i wr) (fun i _ => l.length - (intOf i).toNat)
  case atStart => exact ⟨0, by omega, rfl, by omega, rfl⟩
  case round =>
    obtain ⟨k, hk, rfl, hno, rfl⟩ := hrel
    have HN := Lib.hid hno
    clear hno
    by_cases hlt : k < l.length
    · obtain ⟨⟨y1, y2⟩, hx⟩ : ∃ x, l[k]? = some x := ⟨_, List.getElem?_eq_getElem hlt⟩
      obtain ⟨g, m, c', hv, c0⟩ := hc k _ hx
      simp only [Value.slice.injEq] at hv
      obtain ⟨rfl, rfl, rfl⟩ := hv
      have HX := Lib.hid hx
      clear hc hx
      simp only at c0
      by_cases hy : y1 = a
      · have HY := Lib.hid hy
        have hb : (y1 == a) = true := by simp [hy]
        have hres : r = true := by
          rw [← HR.out]
          unfold hasB
          rw [List.any_eq_true]
          exact ⟨_, List.mem_of_getElem? HX.out, by simpa using hy⟩
        subst hres
        clear hy
        go_wp2
        go_ret
        exact ⟨rfl, Below.refl _ _⟩
      · have hb : (y1 == a) = false := by simp [hy]
        have HY := Lib.hid hy
        clear hy
        go_wp2
        go_roundw
        case rel =>
          refine ⟨k + 1, by omega, by go_num, fun j x hj hjx => ?_, rfl⟩
          by_cases e : j = k
          · subst e; rw [HX.out] at hjx; simp at hjx; subst hjx; exact HY.out
          · exact HN.out j x (by omega) hjx
        case measure => simp [intOf]; omega
    · have hres : r = false := by
        rw [← HR.out]
        unfold hasB
        rw [List.any_eq_false]
        intro x hx
        obtain ⟨j, hj⟩ := List.mem_iff_getElem?.1 hx
        have := HN.out j x (by have := (List.getElem?_eq_some_iff.1 hj).1; omega) hj
        simpa using this
      subst hres
      clear hc
      go_wp2
      go_ret
      exact ⟨rfl, Below.refl _ _⟩

def rootB (vs : List Int) (bl : List (Int × Int)) (i : Nat) : Bool := vs.getD (22 + i) 0 == 0 || hasB bl (vs.getD (22 + i) 0)
def rootsF (vs : List Int) (t p s : Int) : Bool := allN (rootB vs (blocksF vs t p s)) 8
theorem blocksF_len (vs : List Int) (t p s : Int) (h : p ≤ 64) : (blocksF vs t p s).length ≤ 2112 := by
  have h1 := liveL_len (partsF vs t p s)
  have h2 := partsL_len vs t s p.toNat
  unfold blocksF
  unfold partsF at h1 ⊢
  omega

set_option maxHeartbeats 4000000 in
set_option maxRecDepth 100000 in
theorem roots_any (c : Nat) (w : World) (h : XV w t p s ad n vs) :
    Calls Tryz.prog 67 #[.agg #[.int .i64 t, .int .i64 p, .int .i64 s, .slice (some ad) n c]] w fun e w' => e = .returned (.bool (rootsF vs t p s)) ∧ Below w.heap.size w w' := by
  have X0 := h.boxed c
  have hnn : 30 ≤ n := by have := h.bd; omega
  have hbl := blocksF_len vs t p s h.few
  have HP := Lib.hid (fun (w : World) (h : XV w t p s ad n vs) => blocks_any c w h)
  have HC := Lib.hid h.cells
  have HU := Lib.hid (fun i => getD_u32 h.u32 i)
  generalize hr : rootsF vs t p s = r
  have hr2 : allN (rootB vs (blocksF vs t p s)) 8 = r := hr
  have HR := Lib.hid hr2
  generalize blocksF vs t p s = l at *
  clear h hr hr2
  obtain ⟨x0, x1, x2, x3⟩ := X0.cells
  have xz := X0.lt
  go_enter Tryz.func67, Tryz.ntmps67
  go_wp2_with fail
  refine (HP.out _ X0.xv).mono ?_
  rintro e w1 ⟨lv, rfl, hlv⟩
  have X1 := X0.keep hlv.2.2
  have hls : ∃ a c, lv = .slice a l.length c := row_shape hlv.1
  obtain ⟨la, lc, rfl⟩ := hls
  have HL := Lib.hid hlv.1
  clear hlv X0 x0 x1 x2 x3 xz
  go_wp2_with fail
  go_loopw [4, 5] (fun v4 _ wr => AllRel (rootB vs l) 8 w1 v4 wr) (fun v4 _ _ => 8 - (intOf v4).toNat)
  case atStart => exact ⟨0, by omega, rfl, rfl, Below.refl _ _⟩
  case round =>
    obtain ⟨i, hi, rfl, hall, hbel⟩ := hrel
    have X3 := X1.keep hbel
    have HA := Lib.hid hall
    have HB := Lib.hid hbel
    clear hall hbel
    obtain ⟨x0, x1, x2, x3⟩ := X3.cells
    by_cases hlt : i < 8
    · have hRo := Lib.hid (fun w => rroot_any i w hlt)
      have hd0 := (BS.mk X3.bel (by simp) : BS w [] wr).old (HC.out (22 + i) (by omega))
      have hu := HU.out (22 + i)
      have hrb : rootB vs l i = (vs.getD (22 + i) 0 == 0 || hasB l (vs.getD (22 + i) 0)) := rfl
      have HBox := Lib.hid X3.box
      have hxl := X3.lt
      have hin : 22 + i < n := by omega
      generalize vs.getD (22 + i) 0 = a at *
      generalize hki : 22 + i = ki at *
      clear hki
      obtain ⟨hu0, hu1⟩ := hu
      have hwa : IntKind.i64.wrap a = a := wrap_in _ (by omega)
      have HH := Lib.hid (fun (w' : World) (hb : Below w1.heap.size w1 w') => hasb_any l a (.slice la l.length lc) w' (ownsRow_block HL.out fun k hk => hb.block k (ownsRow_lt HL.out hk)) (by omega))
      clear HC HU
      by_cases ha : a = 0
      · subst ha
        have hyes : rootB vs l i = true := by rw [hrb]; simp
        have HY := Lib.hid hyes
        clear hyes hrb
        go_wp2_with fail
        refine wp_region_noPanic ?_
        refine wp_region_held_drew (S := fun w' => BS wr ([] : List Nat) w' ∧ (∀ o : Nat, w'.cell? ⟨w.heap.size, o, none⟩ = (#[.int .i64 t, .int .i64 p, .int .i64 s, .slice (some ad) n c] : Array Value)[o]?) ∧ w'.cell? (ad.add ki) = some (.int .u32 0)) (by kernel_rfl) ?_ (fun hHeld => ?_)
        · exact ⟨(BS.start wr).drew, HBox.out, hd0⟩
        refine wpAnyH_take (i := 0) (oi := _) (v := ?_) rfl (by kernel_rfl) (by kernel_rfl) (by kernel_rfl) (fun _ _ _ h => h) (Or.inl ⟨by rfl, ?_⟩) (by assumption) ?_
        rotate_left
        · intro w hSw; (try dsimp only at hSw); go_simp; try with_reducible rfl
        try simp only [Act.put, List.getElem_toArray, List.getElem_cons_zero, List.setIfInBounds_toArray, List.set_cons_zero, List.set_cons_succ]
        refine wpAnyH_take (i := 1) (oi := _) (v := ?_) rfl (by kernel_rfl) (by kernel_rfl) (by kernel_rfl) (fun _ _ _ h => h) (Or.inl ⟨by rfl, ?_⟩) (by assumption) ?_
        rotate_left
        · intro w hSw; (try dsimp only at hSw); go_simp; try with_reducible rfl
        try simp only [Act.put, List.getElem_toArray, List.getElem_cons_zero, List.getElem_cons_succ, List.setIfInBounds_toArray, List.set_cons_zero, List.set_cons_succ]
        refine wpAnyH_take (i := 2) (oi := _) (v := ?_) rfl (by kernel_rfl) (by kernel_rfl) (by kernel_rfl) (fun _ _ _ h => h) (Or.inl ⟨by rfl, ?_⟩) (by assumption) ?_
        rotate_left
        · intro w hSw; (try dsimp only at hSw); go_simp; try with_reducible rfl
        try simp only [Act.put, List.getElem_toArray, List.getElem_cons_zero, List.getElem_cons_succ, List.setIfInBounds_toArray, List.set_cons_zero, List.set_cons_succ]
        refine wpAnyH_ready (rs := [3]) (by kernel_rfl) (by simp) ?_
        refine AllReadyH.cons (o := _) rfl (fun K hK => ?_) AllReadyH.nil
        go_simp
        refine (calls_b hHeld.1 (hRo.out _)).mono ?_
        rintro e wr1 ⟨rfl, hV, hVl⟩
        dsimp only
        refine hK.out _ _ ?_ (fun hHeld2 => ?_)
        · exact ⟨hV, hV.oldbox HBox.out hxl, hV.old hd0⟩
        clear hK K hV hVl hHeld
        have hHeld := hHeld2
        clear hHeld2
        try simp only [Act.put, List.getElem_toArray, List.getElem_cons_zero, List.getElem_cons_succ, List.setIfInBounds_toArray, List.set_cons_zero, List.set_cons_succ]
        refine wpAnyH_take (i := 4) (oi := _) (v := ?_) rfl (by kernel_rfl) (by kernel_rfl) (by kernel_rfl) (fun _ _ _ h => h) (Or.inl ⟨by rfl, ?_⟩) (by assumption) ?_
        rotate_left
        · intro w hSw; (try dsimp only at hSw); go_simp; try with_reducible rfl
        try simp only [Act.put, List.getElem_toArray, List.getElem_cons_zero, List.getElem_cons_succ, List.setIfInBounds_toArray, List.set_cons_zero, List.set_cons_succ]
        refine wpAnyH_take (i := 5) (oi := _) (v := ?_) rfl (by kernel_rfl) (by kernel_rfl) (by kernel_rfl) (fun _ _ _ h => h) (Or.inl ⟨by rfl, ?_⟩) (by assumption) ?_
        rotate_left
        · intro w hSw; (try dsimp only at hSw); go_simp; try with_reducible rfl
        try simp only [Act.put, List.getElem_toArray, List.getElem_cons_zero, List.getElem_cons_succ, List.setIfInBounds_toArray, List.set_cons_zero, List.set_cons_succ]
        refine wpAnyH_take (i := 6) (oi := _) (v := ?_) rfl (by kernel_rfl) (by kernel_rfl) (by kernel_rfl) (fun _ _ _ h => h) (Or.inl ⟨by rfl, ?_⟩) (by assumption) ?_
        rotate_left
        · intro w hSw; (try dsimp only at hSw); go_simp; try with_reducible rfl
        try simp only [Act.put, List.getElem_toArray, List.getElem_cons_zero, List.getElem_cons_succ, List.setIfInBounds_toArray, List.set_cons_zero, List.set_cons_succ]
        refine wpAnyH_take (i := 7) (oi := _) (v := ?_) rfl (by kernel_rfl) (by kernel_rfl) (by kernel_rfl) (fun _ _ _ h => h) (Or.inl ⟨by rfl, ?_⟩) (by assumption) ?_
        rotate_left
        · intro w hSw; (try dsimp only at hSw); go_simp; try with_reducible rfl
        try simp only [Act.put, List.getElem_toArray, List.getElem_cons_zero, List.getElem_cons_succ, List.setIfInBounds_toArray, List.set_cons_zero, List.set_cons_succ]
        refine wpAnyH_done (by kernel_rfl) ?_ _
        refine NoPanic.normal ?_
        refine world_gen ?_
        intro wz hwz
        rw [← hwz] at hHeld
        clear hwz
        have hbz := HB.out.trans (hHeld.1.bel.mono HB.out.size)
        clear hHeld
        go_wp2_with fail
        go_roundw
        case rel => exact ⟨i + 1, by omega, by go_num, by simp [allN, HA.out, HY.out], hbz⟩
        case measure => simp [intOf]; omega
      · have hab : (a != 0) = true := by simp [ha]
        cases hz : hasB l a
        · have hno : rootB vs l i = false := by rw [hrb, hz]; simp [ha]
          have hres : r = false := by rw [← HR.out]; exact allN_no hlt hno
          subst hres
          rw [hz] at HH
          clear hno hrb ha hz
          go_wp2_with fail
          refine wp_region_noPanic ?_
          refine wp_region_held_drew (S := fun w' => BS wr ([] : List Nat) w' ∧ (∀ o : Nat, w'.cell? ⟨w.heap.size, o, none⟩ = (#[.int .i64 t, .int .i64 p, .int .i64 s, .slice (some ad) n c] : Array Value)[o]?) ∧ w'.cell? (ad.add ki) = some (.int .u32 a)) (by kernel_rfl) ?_ (fun hHeld => ?_)
          · exact ⟨(BS.start wr).drew, HBox.out, hd0⟩
          refine wpAnyH_take (i := 0) (oi := _) (v := ?_) rfl (by kernel_rfl) (by kernel_rfl) (by kernel_rfl) (fun _ _ _ h => h) (Or.inl ⟨by rfl, ?_⟩) (by assumption) ?_
          rotate_left
          · intro w hSw; (try dsimp only at hSw); go_simp; try with_reducible rfl
          try simp only [Act.put, List.getElem_toArray, List.getElem_cons_zero, List.setIfInBounds_toArray, List.set_cons_zero, List.set_cons_succ]
          refine wpAnyH_take (i := 1) (oi := _) (v := ?_) rfl (by kernel_rfl) (by kernel_rfl) (by kernel_rfl) (fun _ _ _ h => h) (Or.inl ⟨by rfl, ?_⟩) (by assumption) ?_
          rotate_left
          · intro w hSw; (try dsimp only at hSw); go_simp; try with_reducible rfl
          try simp only [Act.put, List.getElem_toArray, List.getElem_cons_zero, List.getElem_cons_succ, List.setIfInBounds_toArray, List.set_cons_zero, List.set_cons_succ]
          refine wpAnyH_take (i := 2) (oi := _) (v := ?_) rfl (by kernel_rfl) (by kernel_rfl) (by kernel_rfl) (fun _ _ _ h => h) (Or.inl ⟨by rfl, ?_⟩) (by assumption) ?_
          rotate_left
          · intro w hSw; (try dsimp only at hSw); go_simp; try with_reducible rfl
          try simp only [Act.put, List.getElem_toArray, List.getElem_cons_zero, List.getElem_cons_succ, List.setIfInBounds_toArray, List.set_cons_zero, List.set_cons_succ]
          refine wpAnyH_ready (rs := [3]) (by kernel_rfl) (by simp) ?_
          refine AllReadyH.cons (o := _) rfl (fun K hK => ?_) AllReadyH.nil
          go_simp
          refine (calls_b hHeld.1 (hRo.out _)).mono ?_
          rintro e wr1 ⟨rfl, hV, hVl⟩
          dsimp only
          refine hK.out _ _ ?_ (fun hHeld2 => ?_)
          · exact ⟨hV, hV.oldbox HBox.out hxl, hV.old hd0⟩
          clear hK K hV hVl hHeld
          have hHeld := hHeld2
          clear hHeld2
          try simp only [Act.put, List.getElem_toArray, List.getElem_cons_zero, List.getElem_cons_succ, List.setIfInBounds_toArray, List.set_cons_zero, List.set_cons_succ]
          refine wpAnyH_take (i := 4) (oi := _) (v := ?_) rfl (by kernel_rfl) (by kernel_rfl) (by kernel_rfl) (fun _ _ _ h => h) (Or.inl ⟨by rfl, ?_⟩) (by assumption) ?_
          rotate_left
          · intro w hSw; (try dsimp only at hSw); go_simp; try with_reducible rfl
          try simp only [Act.put, List.getElem_toArray, List.getElem_cons_zero, List.getElem_cons_succ, List.setIfInBounds_toArray, List.set_cons_zero, List.set_cons_succ]
          refine wpAnyH_take (i := 5) (oi := _) (v := ?_) rfl (by kernel_rfl) (by kernel_rfl) (by kernel_rfl) (fun _ _ _ h => h) (Or.inl ⟨by rfl, ?_⟩) (by assumption) ?_
          rotate_left
          · intro w hSw; (try dsimp only at hSw); go_simp; try with_reducible rfl
          try simp only [Act.put, List.getElem_toArray, List.getElem_cons_zero, List.getElem_cons_succ, List.setIfInBounds_toArray, List.set_cons_zero, List.set_cons_succ]
          refine wpAnyH_take (i := 6) (oi := _) (v := ?_) rfl (by kernel_rfl) (by kernel_rfl) (by kernel_rfl) (fun _ _ _ h => h) (Or.inl ⟨by rfl, ?_⟩) (by assumption) ?_
          rotate_left
          · intro w hSw; (try dsimp only at hSw); go_simp; try with_reducible rfl
          try simp only [Act.put, List.getElem_toArray, List.getElem_cons_zero, List.getElem_cons_succ, List.setIfInBounds_toArray, List.set_cons_zero, List.set_cons_succ]
          refine wpAnyH_take (i := 7) (oi := _) (v := ?_) rfl (by kernel_rfl) (by kernel_rfl) (by kernel_rfl) (fun _ _ _ h => h) (Or.inl ⟨by rfl, ?_⟩) (by assumption) ?_
          rotate_left
          · intro w hSw; (try dsimp only at hSw); go_simp; try with_reducible rfl
          try simp only [Act.put, List.getElem_toArray, List.getElem_cons_zero, List.getElem_cons_succ, List.setIfInBounds_toArray, List.set_cons_zero, List.set_cons_succ]
          refine wpAnyH_done (by kernel_rfl) ?_ _
          refine NoPanic.normal ?_
          refine world_gen ?_
          intro wz hwz
          rw [← hwz] at hHeld
          clear hwz
          have hbz := HB.out.trans (hHeld.1.bel.mono HB.out.size)
          have X5 := X3.keep hHeld.1.bel
          clear hHeld
          go_wp2_with fail
          refine (HH.out _ hbz).mono ?_
          rintro e w5 ⟨rfl, hb5⟩
          go_wp2
          go_ret
          exact ⟨rfl, (X5.keep hb5).bel⟩
        · have hyes : rootB vs l i = true := by rw [hrb, hz]; simp
          have HY := Lib.hid hyes
          rw [hz] at HH
          clear hyes hrb ha hz
          go_wp2_with fail
          refine wp_region_noPanic ?_
          refine wp_region_held_drew (S := fun w' => BS wr ([] : List Nat) w' ∧ (∀ o : Nat, w'.cell? ⟨w.heap.size, o, none⟩ = (#[.int .i64 t, .int .i64 p, .int .i64 s, .slice (some ad) n c] : Array Value)[o]?) ∧ w'.cell? (ad.add ki) = some (.int .u32 a)) (by kernel_rfl) ?_ (fun hHeld => ?_)
          · exact ⟨(BS.start wr).drew, HBox.out, hd0⟩
          refine wpAnyH_take (i := 0) (oi := _) (v := ?_) rfl (by kernel_rfl) (by kernel_rfl) (by kernel_rfl) (fun _ _ _ h => h) (Or.inl ⟨by rfl, ?_⟩) (by assumption) ?_
          rotate_left
          · intro w hSw; (try dsimp only at hSw); go_simp; try with_reducible rfl
          try simp only [Act.put, List.getElem_toArray, List.getElem_cons_zero, List.setIfInBounds_toArray, List.set_cons_zero, List.set_cons_succ]
          refine wpAnyH_take (i := 1) (oi := _) (v := ?_) rfl (by kernel_rfl) (by kernel_rfl) (by kernel_rfl) (fun _ _ _ h => h) (Or.inl ⟨by rfl, ?_⟩) (by assumption) ?_
          rotate_left
          · intro w hSw; (try dsimp only at hSw); go_simp; try with_reducible rfl
          try simp only [Act.put, List.getElem_toArray, List.getElem_cons_zero, List.getElem_cons_succ, List.setIfInBounds_toArray, List.set_cons_zero, List.set_cons_succ]
          refine wpAnyH_take (i := 2) (oi := _) (v := ?_) rfl (by kernel_rfl) (by kernel_rfl) (by kernel_rfl) (fun _ _ _ h => h) (Or.inl ⟨by rfl, ?_⟩) (by assumption) ?_
          rotate_left
          · intro w hSw; (try dsimp only at hSw); go_simp; try with_reducible rfl
          try simp only [Act.put, List.getElem_toArray, List.getElem_cons_zero, List.getElem_cons_succ, List.setIfInBounds_toArray, List.set_cons_zero, List.set_cons_succ]
          refine wpAnyH_ready (rs := [3]) (by kernel_rfl) (by simp) ?_
          refine AllReadyH.cons (o := _) rfl (fun K hK => ?_) AllReadyH.nil
          go_simp
          refine (calls_b hHeld.1 (hRo.out _)).mono ?_
          rintro e wr1 ⟨rfl, hV, hVl⟩
          dsimp only
          refine hK.out _ _ ?_ (fun hHeld2 => ?_)
          · exact ⟨hV, hV.oldbox HBox.out hxl, hV.old hd0⟩
          clear hK K hV hVl hHeld
          have hHeld := hHeld2
          clear hHeld2
          try simp only [Act.put, List.getElem_toArray, List.getElem_cons_zero, List.getElem_cons_succ, List.setIfInBounds_toArray, List.set_cons_zero, List.set_cons_succ]
          refine wpAnyH_take (i := 4) (oi := _) (v := ?_) rfl (by kernel_rfl) (by kernel_rfl) (by kernel_rfl) (fun _ _ _ h => h) (Or.inl ⟨by rfl, ?_⟩) (by assumption) ?_
          rotate_left
          · intro w hSw; (try dsimp only at hSw); go_simp; try with_reducible rfl
          try simp only [Act.put, List.getElem_toArray, List.getElem_cons_zero, List.getElem_cons_succ, List.setIfInBounds_toArray, List.set_cons_zero, List.set_cons_succ]
          refine wpAnyH_take (i := 5) (oi := _) (v := ?_) rfl (by kernel_rfl) (by kernel_rfl) (by kernel_rfl) (fun _ _ _ h => h) (Or.inl ⟨by rfl, ?_⟩) (by assumption) ?_
          rotate_left
          · intro w hSw; (try dsimp only at hSw); go_simp; try with_reducible rfl
          try simp only [Act.put, List.getElem_toArray, List.getElem_cons_zero, List.getElem_cons_succ, List.setIfInBounds_toArray, List.set_cons_zero, List.set_cons_succ]
          refine wpAnyH_take (i := 6) (oi := _) (v := ?_) rfl (by kernel_rfl) (by kernel_rfl) (by kernel_rfl) (fun _ _ _ h => h) (Or.inl ⟨by rfl, ?_⟩) (by assumption) ?_
          rotate_left
          · intro w hSw; (try dsimp only at hSw); go_simp; try with_reducible rfl
          try simp only [Act.put, List.getElem_toArray, List.getElem_cons_zero, List.getElem_cons_succ, List.setIfInBounds_toArray, List.set_cons_zero, List.set_cons_succ]
          refine wpAnyH_take (i := 7) (oi := _) (v := ?_) rfl (by kernel_rfl) (by kernel_rfl) (by kernel_rfl) (fun _ _ _ h => h) (Or.inl ⟨by rfl, ?_⟩) (by assumption) ?_
          rotate_left
          · intro w hSw; (try dsimp only at hSw); go_simp; try with_reducible rfl
          try simp only [Act.put, List.getElem_toArray, List.getElem_cons_zero, List.getElem_cons_succ, List.setIfInBounds_toArray, List.set_cons_zero, List.set_cons_succ]
          refine wpAnyH_done (by kernel_rfl) ?_ _
          refine NoPanic.normal ?_
          refine world_gen ?_
          intro wz hwz
          rw [← hwz] at hHeld
          clear hwz
          have hbz := HB.out.trans (hHeld.1.bel.mono HB.out.size)
          clear hHeld
          go_wp2_with fail
          refine (HH.out _ hbz).mono ?_
          rintro e w5 ⟨rfl, hb5⟩
          have hbz5 := hbz.trans (hb5.mono hbz.size)
          go_wp2_with fail
          go_roundw
          case rel => exact ⟨i + 1, by omega, by go_num, by simp [allN, HA.out, HY.out], hbz5⟩
          case measure => simp [intOf]; omega
    · obtain rfl : i = 8 := by omega
      have hres : r = true := by rw [← HR.out]; exact HA.out
      subst hres
      go_wp2
      go_ret
      exact ⟨rfl, X3.bel⟩
end
end Go.Proofs.YtcicmljnjdhkjaaGreat
