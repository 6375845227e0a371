/- the document's view: Writes, Pairs, Same. -/
import Derived.Test.YtkfcjlampnjfbaaRefWhole
import Derived.Deep.RegionLaw
namespace Go.Proofs.Ytkfcjlampnjfbaa
open Go.RowKit

theorem step_append_new {P : Program} {ops : Array Oper} {o : Oper} {a : Act} {w : World} {K : Act → World → Prop} {Q : Exit → Act → World → Prop} {E : Prop} {t : TypeId}
    (hg : o.guard = none) (s x : Operand) (ho : o.op = .call { callee := .builtin .append, args := #[s, x], argTypes := #[t, t] })
    (e : TypeId) (i : TypeInfo) (z : Value) (size bytes : Nat) (ht : P.underlying t = some (.slice e)) (hi : P.info? e = some i) (hz : i.zero = some z)
    (hsize : i.size = size) (hby : i.bytes = bytes) (hzs : z.cells.size = size) (hsz : 0 < size)
    (v : Value) (n : Nat) (xs : List Value) (hs : a.eval s = v) (hown : w.ownsRow 0 e size v n xs)
    (ad : Addr) (m c : Nat) (news : List Value) (hx : a.eval x = .slice (some ad) m c) (hl : news.length = m * size) (hnews : ∀ j u, news[j]? = some u → w.cell? (ad.add j) = some u) (h1 : ∀ u ∈ news, u.oneCell' = true)
    (h63 : n + m ≤ maxLen) (hbytes : (n + m) * bytes ≤ 140737488355328)
    (h : ∀ v' w', w'.ownsRow 0 e size v' (n + m) (xs ++ news) → w.grownBy w' v.ownBlock → (∀ k, v'.ownBlock = some k → v.ownBlock = some k ∨ w.heap.size ≤ k) → (v' = .slice none 0 0 ↔ v = .slice none 0 0 ∧ m = 0) → K (a.put o.dst v') w') :
    if Region.wanted o (yielded ops a.tmps) = true then Oper.wp P o a w K Q else E := by
  have hw : Region.wanted o (yielded ops a.tmps) = true := by simp [Region.wanted, hg]
  rw [if_pos hw]
  obtain ⟨v', w', hr, h2, h3, h4, h5⟩ := run_append_new (P := P) (w := w) t o.type e i z size bytes ht hi hz hsize hby hzs hsz v n xs hown ad m c news hl hnews h1 h63 hbytes
  unfold Oper.wp execOp
  simp only [ho, resolve, invoke, builtin, Sem.run_bind, Sem.run_pure, Result.andThen_ok, List.map_toArray, List.map_cons, List.map_nil, hs, hx, hr]
  exact h v' w' h2 h3 h4 h5

theorem cell_two_at (w : World) (u1 u2 : Value) (T : TypeId) (k : Nat) (hk : k = w.heap.size) : ∀ (j : Nat) (x : Value), [u1, u2][j]? = some x → (w.alloc (.cells #[u1, u2] T)).cell? ((⟨k, 0, none⟩ : Addr).add j) = some x := by
  subst hk
  intro j x hj
  rcases j with _ | _ | j
  · simp at hj; subst hj; exact cell?_of_heap (o := 0) (heap_alloc_new w (.cells #[u1, u2] T))
  · simp at hj; subst hj; exact cell?_of_heap (o := 1) (heap_alloc_new w (.cells #[u1, u2] T))
  · simp at hj

theorem pairCells_take {l : List (Nat × Int)} {k i : Nat} {v : Int} (h : l[k]? = some (i, v)) : pairCells (l.take (k + 1)) = pairCells (l.take k) ++ [.int .i64 i, .int .u32 v] := by
  rw [List.take_add_one, h]
  simp [pairCells]

theorem wix_at : ∀ {l : List (Nat × Int)} {k i : Nat} {v : Int}, (l.map (·.1)).Nodup → l[k]? = some (i, v) → wix l i = some k := by
  intro l k i v hnd hk
  cases hw : wix l i with
  | none => exact absurd (List.mem_map.2 ⟨(i, v), List.mem_of_getElem? hk, rfl⟩) (wix_none.1 hw)
  | some j =>
    obtain ⟨h1, u, h2⟩ := wix_some hw
    have hk' : k < l.length := (List.getElem?_eq_some_iff.1 hk).1
    have e1 : (l.map (·.1))[j]'(by simpa using h1) = i := (List.getElem?_eq_some_iff.1 (show (l.map (·.1))[j]? = some i by simp [h2])).2
    have e2 : (l.map (·.1))[k]'(by simpa using hk') = i := (List.getElem?_eq_some_iff.1 (show (l.map (·.1))[k]? = some i by simp [hk])).2
    have hp := List.pairwise_iff_getElem.1 hnd
    rcases Nat.lt_trichotomy j k with hjk | hjk | hjk
    · exact absurd (e1.trans e2.symm) (hp j k _ _ hjk)
    · rw [hjk]
    · exact absurd (e2.trans e1.symm) (hp k j _ _ hjk)

def WrRel (w : World) (s : VS) (v3 v4 : Value) (wr : World) : Prop := ∃ k : Nat, k ≤ s.writes.length ∧ v4 = .int .i64 k ∧ wr.ownsRow 0 97 2 v3 k (pairCells (s.writes.take k)) ∧ (∀ j, v3.ownBlock = some j → w.heap.size ≤ j) ∧ Below w.heap.size w wr

set_option maxRecDepth 100000 in
theorem rwrites_any (b : Nat) (w : World) (S : Nat → Prop) (s : VS) (h : RV w b S s) :
    Calls Try.prog 67 #[.pointer (some ⟨b, 0, none⟩)] w (CloneP w 97 2 s.writes.length (pairCells s.writes)) := by
  obtain ⟨kv, vv, iv, tv, rv, wv, all, hv⟩ := h
  have hlen := hv.inv.writes_le
  have hsm := hv.inv.small
  obtain ⟨pw, cw, rfl⟩ := row_shape hv.wr
  have h6 := hv.cell 6
  simp at h6
  have hb := World.block_lt_of_cell? w _ h6
  simp at hb
  have HV := Lib.hid hv
  obtain ⟨i0, hi0, hi1, hi2, hi3⟩ := info_parts infoPair
  have HI := Lib.hid (And.intro hi0 (And.intro hi1 (And.intro hi2 hi3)))
  clear hv hi0 hi1 hi2 hi3
  go_enter Try.func67, Try.ntmps67
  go_wp2_with fail
  go_loopw [3, 4] (fun v3 v4 wr => WrRel w s v3 v4 wr) (fun _ v4 _ => s.writes.length - (intOf v4).toNat)
  case atStart =>
    refine ⟨0, Nat.zero_le _, rfl, by simpa [pairCells] using row_empty w _ 2, ?_, (Below.refl _ _).alloc (Nat.le_refl _) _⟩
    intro j hj; simp [Value.ownBlock] at hj; omega
  case round =>
    obtain ⟨k, hk, rfl, hrow, hnew, hbel⟩ := hrel
    obtain ⟨pa, pc, rfl⟩ := row_shape hrow
    have hz := hbel.size
    have e6 := (hbel.cell (p := ⟨b, 6, none⟩) hb).trans h6
    have HR := Lib.hid hrow
    have HN := Lib.hid hnew
    have HB := Lib.hid hbel
    clear hrow hnew hbel
    by_cases hlt : k < s.writes.length
    · have hv := HV.out
      obtain ⟨⟨i, v⟩, hiv⟩ : ∃ p, s.writes[k]? = some p := ⟨_, List.getElem?_eq_getElem hlt⟩
      have hin : i < s.n := hv.inv.wlt _ (List.mem_of_getElem? hiv)
      obtain ⟨gw, cw', hpw⟩ := Joins.ownsRow_form hv.wr (by omega)
      simp only [Value.slice.injEq] at hpw
      obtain ⟨rfl, -, rfl⟩ := hpw
      obtain ⟨gt, ct, rfl⟩ := Joins.ownsRow_form hv.tr (by omega)
      have q4 := hv.cell 4
      simp at q4
      have qw : w.cell? ⟨gw, k, none⟩ = some (.int .i64 i) := by rw [hv.wr.cellAt k (by omega)]; simp [intCells, hiv]
      have qt : w.cell? ⟨gt, i, none⟩ = some (.int .u32 v) := by
        rw [hv.tr.cellAt i (by omega), rowF_get _ hin]
        have : s.wr i = some v := by rw [VS.wr, wix_at hv.inv.wnd hiv]; simp [hiv]
        simp [toF, this]
      have F4 : ∀ w', Below w.heap.size w w' → w'.cell? ⟨b, 6, none⟩ = some (.slice (some ⟨gw, 0, none⟩) s.writes.length cw) ∧ w'.cell? ⟨gw, k, none⟩ = some (.int .i64 i) ∧ w'.cell? ⟨b, 4, none⟩ = some (.slice (some ⟨gt, 0, none⟩) s.n ct) ∧ w'.cell? ⟨gt, i, none⟩ = some (.int .u32 v) :=
        fun w' hb' => ⟨(hb'.cell (World.block_lt_of_cell? w _ h6)).trans h6, (hb'.cell (World.block_lt_of_cell? w _ qw)).trans qw, (hb'.cell (World.block_lt_of_cell? w _ q4)).trans q4, (hb'.cell (World.block_lt_of_cell? w _ qt)).trans qt⟩
      have H4 := Lib.hid F4
      have HP := Lib.hid hiv
      clear hv hiv F4 q4 qw qt
      go_wp2
      refine wp_region_noPanic ?_
      refine wp_region_held_drew (S := fun w' => w'.cell? ⟨b, 6, none⟩ = some (.slice (some ⟨gw, 0, none⟩) s.writes.length cw) ∧ w'.cell? ⟨gw, k, none⟩ = some (.int .i64 i) ∧ w'.cell? ⟨b, 4, none⟩ = some (.slice (some ⟨gt, 0, none⟩) s.n ct) ∧ w'.cell? ⟨gt, i, none⟩ = some (.int .u32 v)) (by kernel_rfl) ?_ (fun hHeld => ?_)
      · exact H4.out _ HB.out.drew
      refine wpAnyH_take (i := 0) (oi := _) (v := ?_) rfl (by kernel_rfl) (by kernel_rfl) (by kernel_rfl) (fun _ _ _ h => h) (Or.inl ⟨by rfl, ?_⟩) (by assumption) ?_
      rotate_left
      · intro w hSw; (try dsimp only at hSw); go_simp; try with_reducible rfl
      try simp only [Act.put, List.getElem_toArray, List.getElem_cons_zero, List.setIfInBounds_toArray, List.set_cons_zero, List.set_cons_succ]
      refine wpAnyH_take (i := 1) (oi := _) (v := ?_) rfl (by kernel_rfl) (by kernel_rfl) (by kernel_rfl) (fun _ _ _ h => h) (Or.inl ⟨by rfl, ?_⟩) (by assumption) ?_
      rotate_left
      · intro w hSw; (try dsimp only at hSw); go_simp; try with_reducible rfl
      try simp only [Act.put, List.getElem_toArray, List.getElem_cons_zero, List.getElem_cons_succ, List.setIfInBounds_toArray, List.set_cons_zero, List.set_cons_succ]
      refine wpAnyH_take (i := 2) (oi := _) (v := ?_) rfl (by kernel_rfl) (by kernel_rfl) (by kernel_rfl) (fun _ _ _ h => h) (Or.inl ⟨by rfl, ?_⟩) (by assumption) ?_
      rotate_left
      · intro w hSw; (try dsimp only at hSw); go_simp; try with_reducible rfl
      try simp only [Act.put, List.getElem_toArray, List.getElem_cons_zero, List.getElem_cons_succ, List.setIfInBounds_toArray, List.set_cons_zero, List.set_cons_succ]
      refine wpAnyH_take (i := 3) (oi := _) (v := ?_) rfl (by kernel_rfl) (by kernel_rfl) (by kernel_rfl) (fun _ _ _ h => h) (Or.inl ⟨by rfl, ?_⟩) (by assumption) ?_
      rotate_left
      · intro w hSw; (try dsimp only at hSw); go_simp; try with_reducible rfl
      try simp only [Act.put, List.getElem_toArray, List.getElem_cons_zero, List.getElem_cons_succ, List.setIfInBounds_toArray, List.set_cons_zero, List.set_cons_succ]
      refine wpAnyH_take (i := 4) (oi := _) (v := ?_) rfl (by kernel_rfl) (by kernel_rfl) (by kernel_rfl) (fun _ _ _ h => h) (Or.inl ⟨by rfl, ?_⟩) (by assumption) ?_
      rotate_left
      · intro w hSw; (try dsimp only at hSw); go_simp; try with_reducible rfl
      try simp only [Act.put, List.getElem_toArray, List.getElem_cons_zero, List.getElem_cons_succ, List.setIfInBounds_toArray, List.set_cons_zero, List.set_cons_succ]
      refine wpAnyH_take (i := 5) (oi := _) (v := ?_) rfl (by kernel_rfl) (by kernel_rfl) (by kernel_rfl) (fun _ _ _ h => h) (Or.inl ⟨by rfl, ?_⟩) (by assumption) ?_
      rotate_left
      · intro w hSw; (try dsimp only at hSw); go_simp; try with_reducible rfl
      try simp only [Act.put, List.getElem_toArray, List.getElem_cons_zero, List.getElem_cons_succ, List.setIfInBounds_toArray, List.set_cons_zero, List.set_cons_succ]
      refine wpAnyH_take (i := 6) (oi := _) (v := ?_) rfl (by kernel_rfl) (by kernel_rfl) (by kernel_rfl) (fun _ _ _ h => h) (Or.inl ⟨by rfl, ?_⟩) (by assumption) ?_
      rotate_left
      · intro w hSw; (try dsimp only at hSw); go_simp; try with_reducible rfl
      try simp only [Act.put, List.getElem_toArray, List.getElem_cons_zero, List.getElem_cons_succ, List.setIfInBounds_toArray, List.set_cons_zero, List.set_cons_succ]
      refine wpAnyH_take (i := 7) (oi := _) (v := ?_) rfl (by kernel_rfl) (by kernel_rfl) (by kernel_rfl) (fun _ _ _ h => h) (Or.inl ⟨by rfl, ?_⟩) (by assumption) ?_
      rotate_left
      · intro w hSw; (try dsimp only at hSw); go_simp; try with_reducible rfl
      try simp only [Act.put, List.getElem_toArray, List.getElem_cons_zero, List.getElem_cons_succ, List.setIfInBounds_toArray, List.set_cons_zero, List.set_cons_succ]
      refine wpAnyH_take (i := 8) (oi := _) (v := ?_) rfl (by kernel_rfl) (by kernel_rfl) (by kernel_rfl) (fun _ _ _ h => h) (Or.inl ⟨by rfl, ?_⟩) (by assumption) ?_
      rotate_left
      · intro w hSw; (try dsimp only at hSw); go_simp; try with_reducible rfl
      try simp only [Act.put, List.getElem_toArray, List.getElem_cons_zero, List.getElem_cons_succ, List.setIfInBounds_toArray, List.set_cons_zero, List.set_cons_succ]
      refine wpAnyH_take (i := 9) (oi := _) (v := ?_) rfl (by kernel_rfl) (by kernel_rfl) (by kernel_rfl) (fun _ _ _ h => h) (Or.inl ⟨by rfl, ?_⟩) (by assumption) ?_
      rotate_left
      · intro w hSw; (try dsimp only at hSw); go_simp; try with_reducible rfl
      try simp only [Act.put, List.getElem_toArray, List.getElem_cons_zero, List.getElem_cons_succ, List.setIfInBounds_toArray, List.set_cons_zero, List.set_cons_succ]
      refine wpAnyH_take (i := 10) (oi := _) (v := ?_) rfl (by kernel_rfl) (by kernel_rfl) (by kernel_rfl) (fun _ _ _ h => h) (Or.inl ⟨by rfl, ?_⟩) (by assumption) ?_
      rotate_left
      · intro w hSw; (try dsimp only at hSw); go_simp; try with_reducible rfl
      try simp only [Act.put, List.getElem_toArray, List.getElem_cons_zero, List.getElem_cons_succ, List.setIfInBounds_toArray, List.set_cons_zero, List.set_cons_succ]
      refine wpAnyH_take (i := 11) (oi := _) (v := ?_) rfl (by kernel_rfl) (by kernel_rfl) (by kernel_rfl) (fun _ _ _ h => h) (Or.inl ⟨by rfl, ?_⟩) (by assumption) ?_
      rotate_left
      · intro w hSw; (try dsimp only at hSw); go_simp; try with_reducible rfl
      try simp only [Act.put, List.getElem_toArray, List.getElem_cons_zero, List.getElem_cons_succ, List.setIfInBounds_toArray, List.set_cons_zero, List.set_cons_succ]
      refine wpAnyH_take (i := 12) (oi := _) (v := ?_) rfl (by kernel_rfl) (by kernel_rfl) (by kernel_rfl) (fun _ _ _ h => h) (Or.inl ⟨by rfl, ?_⟩) (by assumption) ?_
      rotate_left
      · intro w hSw; (try dsimp only at hSw); go_simp; try with_reducible rfl
      try simp only [Act.put, List.getElem_toArray, List.getElem_cons_zero, List.getElem_cons_succ, List.setIfInBounds_toArray, List.set_cons_zero, List.set_cons_succ]
      refine wpAnyH_take (i := 13) (oi := _) (v := ?_) rfl (by kernel_rfl) (by kernel_rfl) (by kernel_rfl) (fun _ _ _ h => h) (Or.inl ⟨by rfl, ?_⟩) (by assumption) ?_
      rotate_left
      · intro w hSw; (try dsimp only at hSw); go_simp; try with_reducible rfl
      try simp only [Act.put, List.getElem_toArray, List.getElem_cons_zero, List.getElem_cons_succ, List.setIfInBounds_toArray, List.set_cons_zero, List.set_cons_succ]
      refine wpAnyH_take (i := 14) (oi := _) (v := ?_) rfl (by kernel_rfl) (by kernel_rfl) (by kernel_rfl) (fun _ _ _ h => h) (Or.inl ⟨by rfl, ?_⟩) (by assumption) ?_
      rotate_left
      · intro w hSw; (try dsimp only at hSw); go_simp; try with_reducible rfl
      try simp only [Act.put, List.getElem_toArray, List.getElem_cons_zero, List.getElem_cons_succ, List.setIfInBounds_toArray, List.set_cons_zero, List.set_cons_succ]
      refine wpAnyH_take (i := 15) (oi := _) (v := ?_) rfl (by kernel_rfl) (by kernel_rfl) (by kernel_rfl) (fun _ _ _ h => h) (Or.inl ⟨by rfl, ?_⟩) (by assumption) ?_
      rotate_left
      · intro w hSw; (try dsimp only at hSw); go_simp; try with_reducible rfl
      try simp only [Act.put, List.getElem_toArray, List.getElem_cons_zero, List.getElem_cons_succ, List.setIfInBounds_toArray, List.set_cons_zero, List.set_cons_succ]
      refine wpAnyH_take (i := 16) (oi := _) (v := ?_) rfl (by kernel_rfl) (by kernel_rfl) (by kernel_rfl) (fun _ _ _ h => h) (Or.inl ⟨by rfl, ?_⟩) (by assumption) ?_
      rotate_left
      · intro w hSw; (try dsimp only at hSw); go_simp; try with_reducible rfl
      try simp only [Act.put, List.getElem_toArray, List.getElem_cons_zero, List.getElem_cons_succ, List.setIfInBounds_toArray, List.set_cons_zero, List.set_cons_succ]
      refine wpAnyH_take (i := 17) (oi := _) (v := ?_) rfl (by kernel_rfl) (by kernel_rfl) (by kernel_rfl) (fun _ _ _ h => h) (Or.inl ⟨by rfl, ?_⟩) (by assumption) ?_
      rotate_left
      · intro w hSw; (try dsimp only at hSw); go_simp; try with_reducible rfl
      try simp only [Act.put, List.getElem_toArray, List.getElem_cons_zero, List.getElem_cons_succ, List.setIfInBounds_toArray, List.set_cons_zero, List.set_cons_succ]
      refine wpAnyH_take (i := 18) (oi := _) (v := ?_) rfl (by kernel_rfl) (by kernel_rfl) (by kernel_rfl) (fun _ _ _ h => h) (Or.inl ⟨by rfl, ?_⟩) (by assumption) ?_
      rotate_left
      · intro w hSw; (try dsimp only at hSw); go_simp; try with_reducible rfl
      try simp only [Act.put, List.getElem_toArray, List.getElem_cons_zero, List.getElem_cons_succ, List.setIfInBounds_toArray, List.set_cons_zero, List.set_cons_succ]
      refine wpAnyH_take (i := 19) (oi := _) (v := ?_) rfl (by kernel_rfl) (by kernel_rfl) (by kernel_rfl) (fun _ _ _ h => h) (Or.inl ⟨by rfl, ?_⟩) (by assumption) ?_
      rotate_left
      · intro w hSw; (try dsimp only at hSw); go_simp; try with_reducible rfl
      try simp only [Act.put, List.getElem_toArray, List.getElem_cons_zero, List.getElem_cons_succ, List.setIfInBounds_toArray, List.set_cons_zero, List.set_cons_succ]
      refine wpAnyH_take (i := 20) (oi := _) (v := ?_) rfl (by kernel_rfl) (by kernel_rfl) (by kernel_rfl) (fun _ _ _ h => h) (Or.inl ⟨by rfl, ?_⟩) (by assumption) ?_
      rotate_left
      · intro w hSw; (try dsimp only at hSw); go_simp; try with_reducible rfl
      try simp only [Act.put, List.getElem_toArray, List.getElem_cons_zero, List.getElem_cons_succ, List.setIfInBounds_toArray, List.set_cons_zero, List.set_cons_succ]
      refine wpAnyH_take (i := 21) (oi := _) (v := ?_) rfl (by kernel_rfl) (by kernel_rfl) (by kernel_rfl) (fun _ _ _ h => h) (Or.inl ⟨by rfl, ?_⟩) (by assumption) ?_
      rotate_left
      · intro w hSw; (try dsimp only at hSw); go_simp; try with_reducible rfl
      try simp only [Act.put, List.getElem_toArray, List.getElem_cons_zero, List.getElem_cons_succ, List.setIfInBounds_toArray, List.set_cons_zero, List.set_cons_succ]
      refine wpAnyH_ready (rs := [22]) (by kernel_rfl) (by simp) ?_
      refine AllReadyH.cons (o := _) rfl (fun K hK => ?_) AllReadyH.nil
      go_simp
      refine hK.out _ _ ?_ (fun hHeld => ?_)
      · exact H4.out _ (HB.out.drew.alloc (by simp; omega) _)
      clear hK K
      try simp only [Act.put, List.getElem_toArray, List.getElem_cons_zero, List.getElem_cons_succ, List.setIfInBounds_toArray, List.set_cons_zero, List.set_cons_succ]
      refine wpAnyH_ready (rs := [23]) (by kernel_rfl) (by simp) ?_
      refine AllReadyH.cons (o := _) rfl (fun K hK => ?_) AllReadyH.nil
      refine step_append_new rfl (.tmp 15) (.tmp 37) rfl 97 i0 (.agg #[.int .i64 0, .int .u32 0]) 2 16 Try.underlying51 HI.out.1 HI.out.2.1 HI.out.2.2.1 HI.out.2.2.2 rfl (by decide) (.slice pa k pc) k (pairCells (s.writes.take k)) rfl ((ownsRow_block (w' := wr.drew) HR.out (fun _ _ => rfl)).alloc _) ⟨_, 0, none⟩ 1 1 [.int .i64 i, .int .u32 v] rfl rfl (cell_two_at _ _ _ _ _ (by simp)) ?c1 ?c2 ?c3 ?_
      case c1 => (simp [Value.oneCell'])
      case c2 => (unfold maxLen; omega)
      case c3 => (omega)
      intro v' w5 hown5 hg5 hnew5 hnil5
      clear hnil5
      have bel5 : Below w.heap.size w w5 := (HB.out.drew.alloc (by simp; omega) _).grown hg5 (by simp; omega) (fun k hk => HN.out k hk)
      refine hK.out _ _ ?_ (fun hHeld => ?_)
      · exact H4.out _ bel5
      clear hK K
      try simp only [Act.put, List.getElem_toArray, List.getElem_cons_zero, List.getElem_cons_succ, List.setIfInBounds_toArray, List.set_cons_zero, List.set_cons_succ]
      refine wpAnyH_take (i := 24) (oi := _) (v := ?_) rfl (by kernel_rfl) (by kernel_rfl) (by kernel_rfl) (fun _ _ _ h => h) (Or.inl ⟨by rfl, ?_⟩) (by assumption) ?_
      rotate_left
      · intro w hSw; (try dsimp only at hSw); go_simp; try with_reducible rfl
      try simp only [Act.put, List.getElem_toArray, List.getElem_cons_zero, List.getElem_cons_succ, List.setIfInBounds_toArray, List.set_cons_zero, List.set_cons_succ]
      refine wpAnyH_done (by kernel_rfl) ?_ _
      refine NoPanic.normal ?_
      go_wp2
      go_roundw
      case rel =>
        refine ⟨k + 1, by omega, by go_num, ?_, ?_, bel5⟩
        · rw [pairCells_take HP.out]; exact hown5
        · intro j hj
          rcases hnew5 j hj with x | x
          · exact HN.out j x
          · simp at x; omega
      case measure => simp [intOf]; omega
    · have e : k = s.writes.length := by omega
      subst e
      go_wp2
      go_ret
      refine ⟨_, rfl, ?_, HN.out, HB.out⟩
      simpa using HR.out

end Go.Proofs.Ytkfcjlampnjfbaa
