/- the document's audit: the lists of a heap. -/
import Derived.Test.YtcicmljnjdhkjaaGreatAudD
namespace Go.Proofs.YtcicmljnjdhkjaaGreat
open Go.RowKit
section
variable {t p s : Int} {ad : Addr} {n c : Nat} {vs : List Int}

def listL (vs : List Int) (t p : Int) : Nat → Int → Int → List Int → List Int × Bool
  | 0, _, _, out => (out, false)
  | f + 1, q, ah, out => if q = 0 then (out, true) else if p < q ∨ p ≤ out.length then (out, false) else if gv vs t (q - 1) 3 ≠ ah then (out, false) else listL vs t p f (gv vs t (q - 1) 2) q (out ++ [q - 1])
def listF (vs : List Int) (t p : Int) (head : Nat) : List Int × Bool := listL vs t p (p.toNat + 1) (vs.getD head 0) 0 []

structure LsRel (w : World) (vs : List Int) (t p s : Int) (sl : Value) (res : List Int × Bool) (v6 v7 v8 : Value) (wr : World) (out : List Int) (q ah : Int) : Prop where
  hq : v7 = .int .u32 q
  ha : v8 = .int .u32 ah
  q0 : 0 ≤ q ∧ q < 4294967296
  row : wr.ownsRow 0 3 1 v6 out.length (ints out)
  bs : BS w (w.heap.size :: v6.ownBlock.toList) wr
  box : ∀ o : Nat, wr.cell? ⟨w.heap.size, o, none⟩ = (#[.int .i64 t, .int .i64 p, .int .i64 s, sl] : Array Value)[o]?
  le : (out.length : Int) ≤ p
  res : listL vs t p (p.toNat + 1 - out.length) q ah out = res
  far : ∀ k, v6.ownBlock = some k → w.heap.size < k
def LsRelE (w : World) (vs : List Int) (t p s : Int) (sl : Value) (res : List Int × Bool) (v6 v7 v8 : Value) (wr : World) : Prop := ∃ out q ah, LsRel w vs t p s sl res v6 v7 v8 wr out q ah

set_option maxHeartbeats 2000000 in
set_option maxRecDepth 100000 in
theorem list_any (head : Nat) (c : Nat) (w : World) (h : XV w t p s ad n vs) (hh : head < n) :
    Calls Tryz.prog 139 #[.agg #[.int .i64 t, .int .i64 p, .int .i64 s, .slice (some ad) n c], .int .i64 head] w fun e w' => ∃ v, e = .returned (.tuple #[v, .bool (listF vs t p head).2]) ∧ RowP w (listF vs t p head).1 v w' := by
  have r0 := row_empty (w.alloc (.cells #[.int .i64 t, .int .i64 p, .int .i64 s, .slice (some ad) n c] 89)) 3 1
  have hS0 := ((BS.start w).alloc (.cells #[.int .i64 t, .int .i64 p, .int .i64 s, .slice (some ad) n c] 89)).alloc (.cells #[] 3)
  have d0 := loc_old (.cells #[] 3) (by simp) (loc_alloc w #[.int .i64 t, .int .i64 p, .int .i64 s, .slice (some ad) n c] 89)
  simp only [World.size_alloc] at hS0 r0
  have bd : 4 ≤ p ∧ p ≤ 64 := by have := h.bd; omega
  have hres0 : listL vs t p (p.toNat + 1) (vs.getD head 0) 0 [] = listF vs t p head := rfl
  have HX : ∀ q, 0 ≤ q → q < p → ∃ k k2 : Nat, k < n ∧ k2 < n ∧ (∀ w, Calls Tryz.prog 145 #[.agg #[.int .i64 t, .int .i64 p, .int .i64 s], .int .i64 q] w fun e w' => e = .returned (.int .i64 k) ∧ Below w.heap.size w w') ∧ w.cell? (ad.add k) = some (.int .u32 (gv vs t q 3)) ∧ (∀ w, Calls Tryz.prog 144 #[.agg #[.int .i64 t, .int .i64 p, .int .i64 s], .int .i64 q] w fun e w' => e = .returned (.int .i64 k2) ∧ Below w.heap.size w w') ∧ w.cell? (ad.add k2) = some (.int .u32 (gv vs t q 2)) ∧ 0 ≤ gv vs t q 2 ∧ gv vs t q 2 < 4294967296 := by
    intro q h0 h1
    obtain ⟨hx1, hx2⟩ := h.cx h0 h1 (part := 3) (by omega) (by omega)
    obtain ⟨hy1, hy2⟩ := h.cx h0 h1 (part := 2) (by omega) (by omega)
    refine ⟨cix t q 3, cix t q 2, hx1, hy1, fun w => ?_, h.cells _ hx1, fun w => ?_, h.cells _ hy1, h.gu q 2⟩
    · have := rprev_any t p s q w
      rwa [hx2] at this
    · have := rnext_any t p s q w
      rwa [hy2] at this
  have hc00 := h.cells head hh
  have hcx := (XV.boxed h c).xv.cells head hh
  have hcy := ((XV.boxed h c).alloc (.cells #[] 3)).xv.cells head hh
  have hu := getD_u32 h.u32 head
  have HXX := Lib.hid HX
  clear HX h
  generalize hRs : listF vs t p head = rs at *
  obtain ⟨rl, rb⟩ := rs
  generalize vs.getD head 0 = q0 at *
  obtain ⟨i0, hi0, hi1, hi2, hi3⟩ := info_parts infoInt
  have HI := Lib.hid (And.intro hi0 (And.intro hi1 (And.intro hi2 hi3)))
  clear hi0 hi1 hi2 hi3 hRs
  have HR0 := Lib.hid hres0
  have HU := Lib.hid hu
  clear hres0 hu
  go_enter Tryz.func139, Tryz.ntmps139
  go_wp2_with fail
  go_loopw [6, 7, 8, 9] (fun v6 v7 v8 _ wr => LsRelE w vs t p s (.slice (some ad) n c) (rl, rb) v6 v7 v8 wr) (fun v6 _ _ _ _ => p.toNat - lenS v6)
  case atStart => exact ⟨[], q0, 0, rfl, rfl, HU.out, r0, hS0.sub _ (by simp [Value.ownBlock]), d0, by simp; omega, by simpa using HR0.out, by simp [Value.ownBlock]⟩
  case round =>
    obtain ⟨out, q, ah, hr⟩ := hrel
    obtain ⟨rfl, rfl, hq0, hrow, hbs, hbox, hle, hrs, hfar⟩ := hr
    obtain ⟨hq1, hq2⟩ := hq0
    have hlen : ∃ a m c, u6 = .slice a m c ∧ m = out.length := by
      rcases hrow.2 with ⟨h5, h6⟩ | ⟨g', cap', cur, h5, -⟩
      · exact ⟨_, _, _, h5, h6.symm⟩
      · exact ⟨_, _, _, h5, rfl⟩
    obtain ⟨pa, pm, pc, rfl, rfl⟩ := hlen
    have hlt0 := (hbs.ls w.heap.size (by simp)).1
    have HB := Lib.hid hbs
    have HF := Lib.hid hfar
    have HRow := Lib.hid hrow
    have HBox := Lib.hid hbox
    have b0 := hbox 0
    have b1 := hbox 1
    simp at b0 b1
    have hs0 : (if q = 0 then (out, true) else if p < q ∨ p ≤ out.length then (out, false) else if gv vs t (q - 1) 3 ≠ ah then (out, false) else listL vs t p (p.toNat - out.length) (gv vs t (q - 1) 2) q (out ++ [q - 1])) = (rl, rb) := by
      have e0 := hrs
      have e1 : p.toNat + 1 - out.length = (p.toNat - out.length) + 1 := by omega
      rw [e1] at e0
      exact e0
    have HS := Lib.hid hs0
    have HLe := Lib.hid hle
    clear hS0 r0 d0 HR0 hbs hfar hrs hrow hbox hcx hcy hc00 hs0
    by_cases hz : q = 0
    · have hzb : (q != 0) = false := by simp [hz]
      have e0 := HS.out
      rw [if_pos hz] at e0
      obtain ⟨rfl, rfl⟩ := Prod.mk.inj e0
      clear HXX HS e0 hz
      go_wp2
      refine bodyPost_ret (v := .tuple #[.slice pa out.length pc, .bool true]) (by simp [results, Tryz.results139, go_sem, *]) rfl ⟨_, rfl, ?_⟩
      exact ⟨HRow.out, fun k hk => Nat.le_of_lt (HF.out k hk), HB.out.bel⟩
    · have hzb : (q != 0) = true := by simp [hz]
      have hw : IntKind.i64.wrap q = q := wrap_in _ (by omega)
      have hw2 : IntKind.i64.wrap (q - 1) = q - 1 := wrap_in _ (by omega)
      by_cases hp : p < q
      · have e0 := HS.out
        rw [if_neg hz, if_pos (Or.inl hp)] at e0
        obtain ⟨rfl, rfl⟩ := Prod.mk.inj e0
        clear HXX HS e0 hz
        go_wp2
        refine bodyPost_ret (v := .tuple #[.slice pa out.length pc, .bool false]) (by simp [results, Tryz.results139, go_sem, *]) rfl ⟨_, rfl, ?_⟩
        exact ⟨HRow.out, fun k hk => Nat.le_of_lt (HF.out k hk), HB.out.bel⟩
      · by_cases hl : p ≤ out.length
        · have e0 := HS.out
          rw [if_neg hz, if_pos (Or.inr hl)] at e0
          obtain ⟨rfl, rfl⟩ := Prod.mk.inj e0
          clear HXX HS e0 hz
          go_wp2
          refine bodyPost_ret (v := .tuple #[.slice pa out.length pc, .bool false]) (by simp [results, Tryz.results139, go_sem, *]) rfl ⟨_, rfl, ?_⟩
          exact ⟨HRow.out, fun k hk => Nat.le_of_lt (HF.out k hk), HB.out.bel⟩
        · obtain ⟨k, k2, hk, hk2, hI, hc0, hI2, hd0, hg0, hg1⟩ := HXX.out (q - 1) (by omega) (by omega)
          have e0 := HS.out
          rw [if_neg hz, if_neg (by omega)] at e0
          have hc1 := HB.out.old hc0
          have H1 := Lib.hid hI
          have H2 := Lib.hid hI2
          have HD := Lib.hid hd0
          have HGU := Lib.hid (And.intro hg0 hg1)
          clear HXX HS hz hI hI2 hc0 hd0 hg0 hg1 hle
          generalize gv vs t (q - 1) 3 = u at *
          generalize gv vs t (q - 1) 2 = x at *
          by_cases hu : u = ah
          · have hub : (u != ah) = false := by simp [hu]
            rw [if_neg (by simpa using hu)] at e0
            have HN := Lib.hid e0
            clear e0 hu
            go_wp2_with fail
            refine wp_region_noPanic ?_
            refine wp_region_held_drew (S := fun w' => BS wr ([] : List Nat) w' ∧ (∀ o : Nat, w'.cell? ⟨w.heap.size, o, none⟩ = (#[.int .i64 t, .int .i64 p, .int .i64 s, .slice (some ad) n c] : Array Value)[o]?) ∧ w'.cell? (ad.add k) = some (.int .u32 u)) (by kernel_rfl) ?_ (fun hHeld => ?_)
            · exact ⟨(BS.start wr).drew, HBox.out, hc1⟩
            refine wpAnyH_take (i := 0) (oi := _) (v := ?_) rfl (by kernel_rfl) (by kernel_rfl) (by kernel_rfl) (fun _ _ _ h => h) (Or.inl ⟨by rfl, ?_⟩) (by assumption) ?_
            rotate_left
            · intro w hSw; (try dsimp only at hSw); go_simp; try with_reducible rfl
            try simp only [Act.put, List.getElem_toArray, List.getElem_cons_zero, List.setIfInBounds_toArray, List.set_cons_zero, List.set_cons_succ]
            refine wpAnyH_take (i := 1) (oi := _) (v := ?_) rfl (by kernel_rfl) (by kernel_rfl) (by kernel_rfl) (fun _ _ _ h => h) (Or.inl ⟨by rfl, ?_⟩) (by assumption) ?_
            rotate_left
            · intro w hSw; (try dsimp only at hSw); go_simp; try with_reducible rfl
            try simp only [Act.put, List.getElem_toArray, List.getElem_cons_zero, List.getElem_cons_succ, List.setIfInBounds_toArray, List.set_cons_zero, List.set_cons_succ]
            refine wpAnyH_take (i := 2) (oi := _) (v := ?_) rfl (by kernel_rfl) (by kernel_rfl) (by kernel_rfl) (fun _ _ _ h => h) (Or.inl ⟨by rfl, ?_⟩) (by assumption) ?_
            rotate_left
            · intro w hSw; (try dsimp only at hSw); go_simp; try with_reducible rfl
            try simp only [Act.put, List.getElem_toArray, List.getElem_cons_zero, List.getElem_cons_succ, List.setIfInBounds_toArray, List.set_cons_zero, List.set_cons_succ]
            refine wpAnyH_take (i := 3) (oi := _) (v := ?_) rfl (by kernel_rfl) (by kernel_rfl) (by kernel_rfl) (fun _ _ _ h => h) (Or.inl ⟨by rfl, ?_⟩) (by assumption) ?_
            rotate_left
            · intro w hSw; (try dsimp only at hSw); go_simp; try with_reducible rfl
            try simp only [Act.put, List.getElem_toArray, List.getElem_cons_zero, List.getElem_cons_succ, List.setIfInBounds_toArray, List.set_cons_zero, List.set_cons_succ]
            refine wpAnyH_take (i := 4) (oi := _) (v := ?_) rfl (by kernel_rfl) (by kernel_rfl) (by kernel_rfl) (fun _ _ _ h => h) (Or.inl ⟨by rfl, ?_⟩) (by assumption) ?_
            rotate_left
            · intro w hSw; (try dsimp only at hSw); go_simp; try with_reducible rfl
            try simp only [Act.put, List.getElem_toArray, List.getElem_cons_zero, List.getElem_cons_succ, List.setIfInBounds_toArray, List.set_cons_zero, List.set_cons_succ]
            refine wpAnyH_take (i := 8) (oi := _) (v := ?_) rfl (by kernel_rfl) (by kernel_rfl) (by kernel_rfl) (fun _ _ _ h => h) (Or.inl ⟨by rfl, ?_⟩) (by assumption) ?_
            rotate_left
            · intro w hSw; (try dsimp only at hSw); go_simp; try with_reducible rfl
            try simp only [Act.put, List.getElem_toArray, List.getElem_cons_zero, List.getElem_cons_succ, List.setIfInBounds_toArray, List.set_cons_zero, List.set_cons_succ]
            refine wpAnyH_ready (rs := [5]) (by kernel_rfl) (by simp) ?_
            refine AllReadyH.cons (o := _) rfl (fun K hK => ?_) AllReadyH.nil
            go_simp
            refine (calls_b hHeld.1 (H1.out _)).mono ?_
            rintro e wr1 ⟨rfl, hV, hVl⟩
            dsimp only
            refine hK.out _ _ ?_ (fun hHeld2 => ?_)
            · exact ⟨hV, hV.oldbox HBox.out hlt0, hV.old hc1⟩
            clear hK K hV hVl hHeld
            have hHeld := hHeld2
            clear hHeld2
            try simp only [Act.put, List.getElem_toArray, List.getElem_cons_zero, List.getElem_cons_succ, List.setIfInBounds_toArray, List.set_cons_zero, List.set_cons_succ]
            refine wpAnyH_take (i := 6) (oi := _) (v := ?_) rfl (by kernel_rfl) (by kernel_rfl) (by kernel_rfl) (fun _ _ _ h => h) (Or.inl ⟨by rfl, ?_⟩) (by assumption) ?_
            rotate_left
            · intro w hSw; (try dsimp only at hSw); go_simp; try with_reducible rfl
            try simp only [Act.put, List.getElem_toArray, List.getElem_cons_zero, List.getElem_cons_succ, List.setIfInBounds_toArray, List.set_cons_zero, List.set_cons_succ]
            refine wpAnyH_take (i := 7) (oi := _) (v := ?_) rfl (by kernel_rfl) (by kernel_rfl) (by kernel_rfl) (fun _ _ _ h => h) (Or.inl ⟨by rfl, ?_⟩) (by assumption) ?_
            rotate_left
            · intro w hSw; (try dsimp only at hSw); go_simp; try with_reducible rfl
            try simp only [Act.put, List.getElem_toArray, List.getElem_cons_zero, List.getElem_cons_succ, List.setIfInBounds_toArray, List.set_cons_zero, List.set_cons_succ]
            refine wpAnyH_take (i := 9) (oi := _) (v := ?_) rfl (by kernel_rfl) (by kernel_rfl) (by kernel_rfl) (fun _ _ _ h => h) (Or.inl ⟨by rfl, ?_⟩) (by assumption) ?_
            rotate_left
            · intro w hSw; (try dsimp only at hSw); go_simp; try with_reducible rfl
            try simp only [Act.put, List.getElem_toArray, List.getElem_cons_zero, List.getElem_cons_succ, List.setIfInBounds_toArray, List.set_cons_zero, List.set_cons_succ]
            refine wpAnyH_done (by kernel_rfl) ?_ _
            refine NoPanic.normal ?_
            refine world_gen ?_
            intro wz hwz
            rw [← hwz] at hHeld
            clear hwz
            have rz := hHeld.1.row HRow.out
            have hzb2 := Lib.hid hHeld.2.1
            have hbz := HB.out.below hHeld.1.bel
            have bel := hHeld.1.bel
            clear hHeld
            go_wp2_with (at_builtin; go_must (refine wpL_append rfl _ _ rfl 3 i0 (.int .i64 0) 1 8 Tryz.underlying52 HI.out.1 HI.out.2.1 HI.out.2.2.1 HI.out.2.2.2 rfl (by decide) (.slice pa out.length pc) out.length (ints out) rfl (rz.alloc _) ⟨wz.heap.size, 0, none⟩ 1 1 [.int .i64 (q - 1)] rfl rfl (cell_one_new _ _ _) ?c1 ?c2 ?c3 ?_); go_must (case c1 => (simp [Value.oneCell'])); go_must (case c2 => (have := HLe.out; unfold maxLen; omega)); go_must (case c3 => (have := HLe.out; omega)); go_must (intro v' w5 hown5 hg5 hnew5 hnil5); clear hnil5; go_must (obtain ⟨g', cap', rfl⟩ := Joins.ownsRow_form hown5 (by omega)))
            have hb5 := hbz.append hg5 hnew5 hown5
            have hx5 : ∀ o : Nat, w5.cell? ⟨w.heap.size, o, none⟩ = (#[.int .i64 t, .int .i64 p, .int .i64 s, .slice (some ad) n c] : Array Value)[o]? := loc_grown hg5 (by have := bel.size; simp; omega) (fun e => by have := HF.out _ e; omega) (loc_old _ (by have := bel.size; omega) hzb2.out)
            have hd5 := hb5.old HD.out
            have hl5 := (hb5.ls w.heap.size (by simp)).1
            have HB5 := Lib.hid hb5
            have HX5 := Lib.hid hx5
            have far5 : ∀ k, (Value.slice (some ⟨g', 0, none⟩) (out.length + 1) cap').ownBlock = some k → w.heap.size < k := fun k hk => (hnew5 k hk).elim (HF.out k) (fun h => by have := bel.size; simp at h; omega)
            clear hb5 hx5 hg5 hnew5 rz hbz hzb2
            refine wp_region_noPanic ?_
            refine wp_region_held_drew (S := fun w' => BS w5 ([] : List Nat) w' ∧ (∀ o : Nat, w'.cell? ⟨w.heap.size, o, none⟩ = (#[.int .i64 t, .int .i64 p, .int .i64 s, .slice (some ad) n c] : Array Value)[o]?) ∧ w'.cell? (ad.add k2) = some (.int .u32 x)) (by kernel_rfl) ?_ (fun hHeld => ?_)
            · exact ⟨(BS.start w5).drew, HX5.out, hd5⟩
            refine wpAnyH_take (i := 0) (oi := _) (v := ?_) rfl (by kernel_rfl) (by kernel_rfl) (by kernel_rfl) (fun _ _ _ h => h) (Or.inl ⟨by rfl, ?_⟩) (by assumption) ?_
            rotate_left
            · intro w hSw; (try dsimp only at hSw); go_simp; try with_reducible rfl
            try simp only [Act.put, List.getElem_toArray, List.getElem_cons_zero, List.setIfInBounds_toArray, List.set_cons_zero, List.set_cons_succ]
            refine wpAnyH_take (i := 1) (oi := _) (v := ?_) rfl (by kernel_rfl) (by kernel_rfl) (by kernel_rfl) (fun _ _ _ h => h) (Or.inl ⟨by rfl, ?_⟩) (by assumption) ?_
            rotate_left
            · intro w hSw; (try dsimp only at hSw); go_simp; try with_reducible rfl
            try simp only [Act.put, List.getElem_toArray, List.getElem_cons_zero, List.getElem_cons_succ, List.setIfInBounds_toArray, List.set_cons_zero, List.set_cons_succ]
            refine wpAnyH_take (i := 2) (oi := _) (v := ?_) rfl (by kernel_rfl) (by kernel_rfl) (by kernel_rfl) (fun _ _ _ h => h) (Or.inl ⟨by rfl, ?_⟩) (by assumption) ?_
            rotate_left
            · intro w hSw; (try dsimp only at hSw); go_simp; try with_reducible rfl
            try simp only [Act.put, List.getElem_toArray, List.getElem_cons_zero, List.getElem_cons_succ, List.setIfInBounds_toArray, List.set_cons_zero, List.set_cons_succ]
            refine wpAnyH_take (i := 3) (oi := _) (v := ?_) rfl (by kernel_rfl) (by kernel_rfl) (by kernel_rfl) (fun _ _ _ h => h) (Or.inl ⟨by rfl, ?_⟩) (by assumption) ?_
            rotate_left
            · intro w hSw; (try dsimp only at hSw); go_simp; try with_reducible rfl
            try simp only [Act.put, List.getElem_toArray, List.getElem_cons_zero, List.getElem_cons_succ, List.setIfInBounds_toArray, List.set_cons_zero, List.set_cons_succ]
            refine wpAnyH_take (i := 4) (oi := _) (v := ?_) rfl (by kernel_rfl) (by kernel_rfl) (by kernel_rfl) (fun _ _ _ h => h) (Or.inl ⟨by rfl, ?_⟩) (by assumption) ?_
            rotate_left
            · intro w hSw; (try dsimp only at hSw); go_simp; try with_reducible rfl
            try simp only [Act.put, List.getElem_toArray, List.getElem_cons_zero, List.getElem_cons_succ, List.setIfInBounds_toArray, List.set_cons_zero, List.set_cons_succ]
            refine wpAnyH_ready (rs := [5]) (by kernel_rfl) (by simp) ?_
            refine AllReadyH.cons (o := _) rfl (fun K hK => ?_) AllReadyH.nil
            go_simp
            refine (calls_b hHeld.1 (H2.out _)).mono ?_
            rintro e wr1 ⟨rfl, hV, hVl⟩
            dsimp only
            refine hK.out _ _ ?_ (fun hHeld2 => ?_)
            · exact ⟨hV, hV.oldbox HX5.out hl5, hV.old hd5⟩
            clear hK K hV hVl hHeld
            have hHeld := hHeld2
            clear hHeld2
            try simp only [Act.put, List.getElem_toArray, List.getElem_cons_zero, List.getElem_cons_succ, List.setIfInBounds_toArray, List.set_cons_zero, List.set_cons_succ]
            refine wpAnyH_take (i := 6) (oi := _) (v := ?_) rfl (by kernel_rfl) (by kernel_rfl) (by kernel_rfl) (fun _ _ _ h => h) (Or.inl ⟨by rfl, ?_⟩) (by assumption) ?_
            rotate_left
            · intro w hSw; (try dsimp only at hSw); go_simp; try with_reducible rfl
            try simp only [Act.put, List.getElem_toArray, List.getElem_cons_zero, List.getElem_cons_succ, List.setIfInBounds_toArray, List.set_cons_zero, List.set_cons_succ]
            refine wpAnyH_take (i := 7) (oi := _) (v := ?_) rfl (by kernel_rfl) (by kernel_rfl) (by kernel_rfl) (fun _ _ _ h => h) (Or.inl ⟨by rfl, ?_⟩) (by assumption) ?_
            rotate_left
            · intro w hSw; (try dsimp only at hSw); go_simp; try with_reducible rfl
            try simp only [Act.put, List.getElem_toArray, List.getElem_cons_zero, List.getElem_cons_succ, List.setIfInBounds_toArray, List.set_cons_zero, List.set_cons_succ]
            refine wpAnyH_take (i := 8) (oi := _) (v := ?_) rfl (by kernel_rfl) (by kernel_rfl) (by kernel_rfl) (fun _ _ _ h => h) (Or.inl ⟨by rfl, ?_⟩) (by assumption) ?_
            rotate_left
            · intro w hSw; (try dsimp only at hSw); go_simp; try with_reducible rfl
            try simp only [Act.put, List.getElem_toArray, List.getElem_cons_zero, List.getElem_cons_succ, List.setIfInBounds_toArray, List.set_cons_zero, List.set_cons_succ]
            refine wpAnyH_done (by kernel_rfl) ?_ _
            refine NoPanic.normal ?_
            refine world_gen ?_
            intro wz hwz
            rw [← hwz] at hHeld
            clear hwz
            have rz := hHeld.1.row hown5
            have hzb2 := hHeld.2.1
            have hbz := HB5.out.below hHeld.1.bel
            clear hHeld
            go_wp2_with fail
            go_roundw
            case rel =>
              refine ⟨out ++ [q - 1], x, q, rfl, rfl, HGU.out, by simpa [ints] using rz, hbz, hzb2, by simp; omega, ?_, far5⟩
              have e2 : p.toNat + 1 - (out ++ [q - 1]).length = p.toNat - out.length := by rw [List.length_append, List.length_singleton]; omega
              rw [e2]
              exact HN.out
            case measure => simp [lenS]; omega
          · have hub : (u != ah) = true := by simp [hu]
            rw [if_pos hu] at e0
            obtain ⟨rfl, rfl⟩ := Prod.mk.inj e0
            clear e0 hu
            go_wp2_with fail
            refine wp_region_noPanic ?_
            refine wp_region_held_drew (S := fun w' => BS wr ([] : List Nat) w' ∧ (∀ o : Nat, w'.cell? ⟨w.heap.size, o, none⟩ = (#[.int .i64 t, .int .i64 p, .int .i64 s, .slice (some ad) n c] : Array Value)[o]?) ∧ w'.cell? (ad.add k) = some (.int .u32 u)) (by kernel_rfl) ?_ (fun hHeld => ?_)
            · exact ⟨(BS.start wr).drew, HBox.out, hc1⟩
            refine wpAnyH_take (i := 0) (oi := _) (v := ?_) rfl (by kernel_rfl) (by kernel_rfl) (by kernel_rfl) (fun _ _ _ h => h) (Or.inl ⟨by rfl, ?_⟩) (by assumption) ?_
            rotate_left
            · intro w hSw; (try dsimp only at hSw); go_simp; try with_reducible rfl
            try simp only [Act.put, List.getElem_toArray, List.getElem_cons_zero, List.setIfInBounds_toArray, List.set_cons_zero, List.set_cons_succ]
            refine wpAnyH_take (i := 1) (oi := _) (v := ?_) rfl (by kernel_rfl) (by kernel_rfl) (by kernel_rfl) (fun _ _ _ h => h) (Or.inl ⟨by rfl, ?_⟩) (by assumption) ?_
            rotate_left
            · intro w hSw; (try dsimp only at hSw); go_simp; try with_reducible rfl
            try simp only [Act.put, List.getElem_toArray, List.getElem_cons_zero, List.getElem_cons_succ, List.setIfInBounds_toArray, List.set_cons_zero, List.set_cons_succ]
            refine wpAnyH_take (i := 2) (oi := _) (v := ?_) rfl (by kernel_rfl) (by kernel_rfl) (by kernel_rfl) (fun _ _ _ h => h) (Or.inl ⟨by rfl, ?_⟩) (by assumption) ?_
            rotate_left
            · intro w hSw; (try dsimp only at hSw); go_simp; try with_reducible rfl
            try simp only [Act.put, List.getElem_toArray, List.getElem_cons_zero, List.getElem_cons_succ, List.setIfInBounds_toArray, List.set_cons_zero, List.set_cons_succ]
            refine wpAnyH_take (i := 3) (oi := _) (v := ?_) rfl (by kernel_rfl) (by kernel_rfl) (by kernel_rfl) (fun _ _ _ h => h) (Or.inl ⟨by rfl, ?_⟩) (by assumption) ?_
            rotate_left
            · intro w hSw; (try dsimp only at hSw); go_simp; try with_reducible rfl
            try simp only [Act.put, List.getElem_toArray, List.getElem_cons_zero, List.getElem_cons_succ, List.setIfInBounds_toArray, List.set_cons_zero, List.set_cons_succ]
            refine wpAnyH_take (i := 4) (oi := _) (v := ?_) rfl (by kernel_rfl) (by kernel_rfl) (by kernel_rfl) (fun _ _ _ h => h) (Or.inl ⟨by rfl, ?_⟩) (by assumption) ?_
            rotate_left
            · intro w hSw; (try dsimp only at hSw); go_simp; try with_reducible rfl
            try simp only [Act.put, List.getElem_toArray, List.getElem_cons_zero, List.getElem_cons_succ, List.setIfInBounds_toArray, List.set_cons_zero, List.set_cons_succ]
            refine wpAnyH_take (i := 8) (oi := _) (v := ?_) rfl (by kernel_rfl) (by kernel_rfl) (by kernel_rfl) (fun _ _ _ h => h) (Or.inl ⟨by rfl, ?_⟩) (by assumption) ?_
            rotate_left
            · intro w hSw; (try dsimp only at hSw); go_simp; try with_reducible rfl
            try simp only [Act.put, List.getElem_toArray, List.getElem_cons_zero, List.getElem_cons_succ, List.setIfInBounds_toArray, List.set_cons_zero, List.set_cons_succ]
            refine wpAnyH_ready (rs := [5]) (by kernel_rfl) (by simp) ?_
            refine AllReadyH.cons (o := _) rfl (fun K hK => ?_) AllReadyH.nil
            go_simp
            refine (calls_b hHeld.1 (H1.out _)).mono ?_
            rintro e wr1 ⟨rfl, hV, hVl⟩
            dsimp only
            refine hK.out _ _ ?_ (fun hHeld2 => ?_)
            · exact ⟨hV, hV.oldbox HBox.out hlt0, hV.old hc1⟩
            clear hK K hV hVl hHeld
            have hHeld := hHeld2
            clear hHeld2
            try simp only [Act.put, List.getElem_toArray, List.getElem_cons_zero, List.getElem_cons_succ, List.setIfInBounds_toArray, List.set_cons_zero, List.set_cons_succ]
            refine wpAnyH_take (i := 6) (oi := _) (v := ?_) rfl (by kernel_rfl) (by kernel_rfl) (by kernel_rfl) (fun _ _ _ h => h) (Or.inl ⟨by rfl, ?_⟩) (by assumption) ?_
            rotate_left
            · intro w hSw; (try dsimp only at hSw); go_simp; try with_reducible rfl
            try simp only [Act.put, List.getElem_toArray, List.getElem_cons_zero, List.getElem_cons_succ, List.setIfInBounds_toArray, List.set_cons_zero, List.set_cons_succ]
            refine wpAnyH_take (i := 7) (oi := _) (v := ?_) rfl (by kernel_rfl) (by kernel_rfl) (by kernel_rfl) (fun _ _ _ h => h) (Or.inl ⟨by rfl, ?_⟩) (by assumption) ?_
            rotate_left
            · intro w hSw; (try dsimp only at hSw); go_simp; try with_reducible rfl
            try simp only [Act.put, List.getElem_toArray, List.getElem_cons_zero, List.getElem_cons_succ, List.setIfInBounds_toArray, List.set_cons_zero, List.set_cons_succ]
            refine wpAnyH_take (i := 9) (oi := _) (v := ?_) rfl (by kernel_rfl) (by kernel_rfl) (by kernel_rfl) (fun _ _ _ h => h) (Or.inl ⟨by rfl, ?_⟩) (by assumption) ?_
            rotate_left
            · intro w hSw; (try dsimp only at hSw); go_simp; try with_reducible rfl
            try simp only [Act.put, List.getElem_toArray, List.getElem_cons_zero, List.getElem_cons_succ, List.setIfInBounds_toArray, List.set_cons_zero, List.set_cons_succ]
            refine wpAnyH_done (by kernel_rfl) ?_ _
            refine NoPanic.normal ?_
            refine world_gen ?_
            intro wz hwz
            rw [← hwz] at hHeld
            clear hwz
            have rz := hHeld.1.row HRow.out
            have hbz := HB.out.below hHeld.1.bel
            clear hHeld
            go_wp2
            refine bodyPost_ret (v := .tuple #[.slice pa out.length pc, .bool false]) (by simp [results, Tryz.results139, go_sem, *]) rfl ⟨_, rfl, ?_⟩
            exact ⟨rz, fun k hk => Nat.le_of_lt (HF.out k hk), hbz.bel⟩
end
end Go.Proofs.YtcicmljnjdhkjaaGreat
