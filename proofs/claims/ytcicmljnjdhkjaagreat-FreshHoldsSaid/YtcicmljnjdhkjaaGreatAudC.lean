/- the document's audit: the bits of pages, the starts of spans. -/
import Derived.Test.YtcicmljnjdhkjaaGreatAudB
namespace Go.Proofs.YtcicmljnjdhkjaaGreat
open Go.RowKit
section
variable {t p s : Int} {ad : Addr} {n : Nat} {vs : List Int}

theorem xslots_any (q : Int) (c : Nat) (w : World) (h : XV w t p s ad n vs) (h0 : 0 ≤ q) (h1 : q < p) :
    Calls Tryz.prog 137 #[.agg #[.int .i64 t, .int .i64 p, .int .i64 s, .slice (some ad) n c], .int .i64 q] w fun e w' => e = .returned (.int .u32 (gv vs t q 4)) ∧ Below w.heap.size w w' := by
  obtain ⟨hx1, hx2⟩ := h.cx h0 h1 (part := 4) (by omega) (by omega)
  have hc0 := h.cells _ hx1
  have hI := fun w => rslots_any t p s q w
  rw [hx2] at hI
  have hd : vs.getD (cix t q 4) 0 = gv vs t q 4 := rfl
  rw [hd] at hc0
  generalize gv vs t q 4 = v at *
  generalize cix t q 4 = k at *
  have H1 := Lib.hid hI
  clear h hd hI hx2
  have hS0 := ((BS.start w).alloc (.cells #[.int .i64 t, .int .i64 p, .int .i64 s, .slice (some ad) n c] 89))
  go_enter Tryz.func137, Tryz.ntmps137
  go_wp2_with fail
  refine wp_region_noPanic ?_
  refine wp_region_held_drew (S := fun w' => BS w [w.heap.size] w' ∧ (∀ o : Nat, w'.cell? ⟨w.heap.size, o, none⟩ = (#[.int .i64 t, .int .i64 p, .int .i64 s, .slice (some ad) n c] : Array Value)[o]?) ∧ w'.cell? (ad.add k) = some (.int .u32 v)) (by kernel_rfl) ?_ (fun hHeld => ?_)
  · exact ⟨hS0.drew, (loc_alloc w _ _), hS0.drew.old hc0⟩
  refine wpAnyH_take (i := 0) (oi := _) (v := ?_) rfl (by kernel_rfl) (by kernel_rfl) (by kernel_rfl) (fun _ _ _ h => h) (Or.inl ⟨by rfl, ?_⟩) (by assumption) ?_
  rotate_left
  · intro w hSw; (try dsimp only at hSw); go_simp; try with_reducible rfl
  try simp only [Act.put, List.getElem_toArray, List.getElem_cons_zero, List.setIfInBounds_toArray, List.set_cons_zero, List.set_cons_succ]
  refine wpAnyH_take (i := 1) (oi := _) (v := ?_) rfl (by kernel_rfl) (by kernel_rfl) (by kernel_rfl) (fun _ _ _ h => h) (Or.inl ⟨by rfl, ?_⟩) (by assumption) ?_
  rotate_left
  · intro w hSw; (try dsimp only at hSw); go_simp; try with_reducible rfl
  try simp only [Act.put, List.getElem_toArray, List.getElem_cons_zero, List.getElem_cons_succ, List.setIfInBounds_toArray, List.set_cons_zero, List.set_cons_succ]
  refine wpAnyH_take (i := 2) (oi := _) (v := ?_) rfl (by kernel_rfl) (by kernel_rfl) (by kernel_rfl) (fun _ _ _ h => h) (Or.inl ⟨by rfl, ?_⟩) (by assumption) ?_
  rotate_left
  · intro w hSw; (try dsimp only at hSw); go_simp; try with_reducible rfl
  try simp only [Act.put, List.getElem_toArray, List.getElem_cons_zero, List.getElem_cons_succ, List.setIfInBounds_toArray, List.set_cons_zero, List.set_cons_succ]
  refine wpAnyH_take (i := 3) (oi := _) (v := ?_) rfl (by kernel_rfl) (by kernel_rfl) (by kernel_rfl) (fun _ _ _ h => h) (Or.inl ⟨by rfl, ?_⟩) (by assumption) ?_
  rotate_left
  · intro w hSw; (try dsimp only at hSw); go_simp; try with_reducible rfl
  try simp only [Act.put, List.getElem_toArray, List.getElem_cons_zero, List.getElem_cons_succ, List.setIfInBounds_toArray, List.set_cons_zero, List.set_cons_succ]
  refine wpAnyH_take (i := 4) (oi := _) (v := ?_) rfl (by kernel_rfl) (by kernel_rfl) (by kernel_rfl) (fun _ _ _ h => h) (Or.inl ⟨by rfl, ?_⟩) (by assumption) ?_
  rotate_left
  · intro w hSw; (try dsimp only at hSw); go_simp; try with_reducible rfl
  try simp only [Act.put, List.getElem_toArray, List.getElem_cons_zero, List.getElem_cons_succ, List.setIfInBounds_toArray, List.set_cons_zero, List.set_cons_succ]
  refine wpAnyH_ready (rs := [5]) (by kernel_rfl) (by simp) ?_
  refine AllReadyH.cons (o := _) rfl (fun K hK => ?_) AllReadyH.nil
  go_simp
  refine (calls_b hHeld.1 (H1.out _)).mono ?_
  rintro e wr1 ⟨rfl, hV, hVl⟩
  dsimp only
  refine hK.out _ _ ?_ (fun hHeld2 => ?_)
  · exact ⟨hV, loc_step hVl (by simp) hHeld.2.1, hV.old hc0⟩
  clear hK K hV hVl hHeld
  have hHeld := hHeld2
  clear hHeld2
  try simp only [Act.put, List.getElem_toArray, List.getElem_cons_zero, List.getElem_cons_succ, List.setIfInBounds_toArray, List.set_cons_zero, List.set_cons_succ]
  refine wpAnyH_take (i := 6) (oi := _) (v := ?_) rfl (by kernel_rfl) (by kernel_rfl) (by kernel_rfl) (fun _ _ _ h => h) (Or.inl ⟨by rfl, ?_⟩) (by assumption) ?_
  rotate_left
  · intro w hSw; (try dsimp only at hSw); go_simp; try with_reducible rfl
  try simp only [Act.put, List.getElem_toArray, List.getElem_cons_zero, List.getElem_cons_succ, List.setIfInBounds_toArray, List.set_cons_zero, List.set_cons_succ]
  refine wpAnyH_take (i := 7) (oi := _) (v := ?_) rfl (by kernel_rfl) (by kernel_rfl) (by kernel_rfl) (fun _ _ _ h => h) (Or.inl ⟨by rfl, ?_⟩) (by assumption) ?_
  rotate_left
  · intro w hSw; (try dsimp only at hSw); go_simp; try with_reducible rfl
  try simp only [Act.put, List.getElem_toArray, List.getElem_cons_zero, List.getElem_cons_succ, List.setIfInBounds_toArray, List.set_cons_zero, List.set_cons_succ]
  refine wpAnyH_take (i := 8) (oi := _) (v := ?_) rfl (by kernel_rfl) (by kernel_rfl) (by kernel_rfl) (fun _ _ _ h => h) (Or.inl ⟨by rfl, ?_⟩) (by assumption) ?_
  rotate_left
  · intro w hSw; (try dsimp only at hSw); go_simp; try with_reducible rfl
  try simp only [Act.put, List.getElem_toArray, List.getElem_cons_zero, List.getElem_cons_succ, List.setIfInBounds_toArray, List.set_cons_zero, List.set_cons_succ]
  refine wpAnyH_done (by kernel_rfl) ?_ _
  refine NoPanic.normal ?_
  refine world_gen ?_
  intro wz hwz
  rw [← hwz] at hHeld
  clear hwz
  have bel := hHeld.1.bel
  clear hHeld hS0 hc0 H1
  go_wp2
  go_ret
  exact ⟨rfl, bel⟩

theorem xtaken_any (q : Int) (c : Nat) (w : World) (h : XV w t p s ad n vs) (h0 : 0 ≤ q) (h1 : q < p) :
    Calls Tryz.prog 138 #[.agg #[.int .i64 t, .int .i64 p, .int .i64 s, .slice (some ad) n c], .int .i64 q] w fun e w' => e = .returned (.int .u32 (gv vs t q 5)) ∧ Below w.heap.size w w' := by
  obtain ⟨hx1, hx2⟩ := h.cx h0 h1 (part := 5) (by omega) (by omega)
  have hc0 := h.cells _ hx1
  have hI := fun w => rtaken_any t p s q w
  rw [hx2] at hI
  have hd : vs.getD (cix t q 5) 0 = gv vs t q 5 := rfl
  rw [hd] at hc0
  generalize gv vs t q 5 = v at *
  generalize cix t q 5 = k at *
  have H1 := Lib.hid hI
  clear h hd hI hx2
  have hS0 := ((BS.start w).alloc (.cells #[.int .i64 t, .int .i64 p, .int .i64 s, .slice (some ad) n c] 89))
  go_enter Tryz.func138, Tryz.ntmps138
  go_wp2_with fail
  refine wp_region_noPanic ?_
  refine wp_region_held_drew (S := fun w' => BS w [w.heap.size] w' ∧ (∀ o : Nat, w'.cell? ⟨w.heap.size, o, none⟩ = (#[.int .i64 t, .int .i64 p, .int .i64 s, .slice (some ad) n c] : Array Value)[o]?) ∧ w'.cell? (ad.add k) = some (.int .u32 v)) (by kernel_rfl) ?_ (fun hHeld => ?_)
  · exact ⟨hS0.drew, (loc_alloc w _ _), hS0.drew.old hc0⟩
  refine wpAnyH_take (i := 0) (oi := _) (v := ?_) rfl (by kernel_rfl) (by kernel_rfl) (by kernel_rfl) (fun _ _ _ h => h) (Or.inl ⟨by rfl, ?_⟩) (by assumption) ?_
  rotate_left
  · intro w hSw; (try dsimp only at hSw); go_simp; try with_reducible rfl
  try simp only [Act.put, List.getElem_toArray, List.getElem_cons_zero, List.setIfInBounds_toArray, List.set_cons_zero, List.set_cons_succ]
  refine wpAnyH_take (i := 1) (oi := _) (v := ?_) rfl (by kernel_rfl) (by kernel_rfl) (by kernel_rfl) (fun _ _ _ h => h) (Or.inl ⟨by rfl, ?_⟩) (by assumption) ?_
  rotate_left
  · intro w hSw; (try dsimp only at hSw); go_simp; try with_reducible rfl
  try simp only [Act.put, List.getElem_toArray, List.getElem_cons_zero, List.getElem_cons_succ, List.setIfInBounds_toArray, List.set_cons_zero, List.set_cons_succ]
  refine wpAnyH_take (i := 2) (oi := _) (v := ?_) rfl (by kernel_rfl) (by kernel_rfl) (by kernel_rfl) (fun _ _ _ h => h) (Or.inl ⟨by rfl, ?_⟩) (by assumption) ?_
  rotate_left
  · intro w hSw; (try dsimp only at hSw); go_simp; try with_reducible rfl
  try simp only [Act.put, List.getElem_toArray, List.getElem_cons_zero, List.getElem_cons_succ, List.setIfInBounds_toArray, List.set_cons_zero, List.set_cons_succ]
  refine wpAnyH_take (i := 3) (oi := _) (v := ?_) rfl (by kernel_rfl) (by kernel_rfl) (by kernel_rfl) (fun _ _ _ h => h) (Or.inl ⟨by rfl, ?_⟩) (by assumption) ?_
  rotate_left
  · intro w hSw; (try dsimp only at hSw); go_simp; try with_reducible rfl
  try simp only [Act.put, List.getElem_toArray, List.getElem_cons_zero, List.getElem_cons_succ, List.setIfInBounds_toArray, List.set_cons_zero, List.set_cons_succ]
  refine wpAnyH_take (i := 4) (oi := _) (v := ?_) rfl (by kernel_rfl) (by kernel_rfl) (by kernel_rfl) (fun _ _ _ h => h) (Or.inl ⟨by rfl, ?_⟩) (by assumption) ?_
  rotate_left
  · intro w hSw; (try dsimp only at hSw); go_simp; try with_reducible rfl
  try simp only [Act.put, List.getElem_toArray, List.getElem_cons_zero, List.getElem_cons_succ, List.setIfInBounds_toArray, List.set_cons_zero, List.set_cons_succ]
  refine wpAnyH_ready (rs := [5]) (by kernel_rfl) (by simp) ?_
  refine AllReadyH.cons (o := _) rfl (fun K hK => ?_) AllReadyH.nil
  go_simp
  refine (calls_b hHeld.1 (H1.out _)).mono ?_
  rintro e wr1 ⟨rfl, hV, hVl⟩
  dsimp only
  refine hK.out _ _ ?_ (fun hHeld2 => ?_)
  · exact ⟨hV, loc_step hVl (by simp) hHeld.2.1, hV.old hc0⟩
  clear hK K hV hVl hHeld
  have hHeld := hHeld2
  clear hHeld2
  try simp only [Act.put, List.getElem_toArray, List.getElem_cons_zero, List.getElem_cons_succ, List.setIfInBounds_toArray, List.set_cons_zero, List.set_cons_succ]
  refine wpAnyH_take (i := 6) (oi := _) (v := ?_) rfl (by kernel_rfl) (by kernel_rfl) (by kernel_rfl) (fun _ _ _ h => h) (Or.inl ⟨by rfl, ?_⟩) (by assumption) ?_
  rotate_left
  · intro w hSw; (try dsimp only at hSw); go_simp; try with_reducible rfl
  try simp only [Act.put, List.getElem_toArray, List.getElem_cons_zero, List.getElem_cons_succ, List.setIfInBounds_toArray, List.set_cons_zero, List.set_cons_succ]
  refine wpAnyH_take (i := 7) (oi := _) (v := ?_) rfl (by kernel_rfl) (by kernel_rfl) (by kernel_rfl) (fun _ _ _ h => h) (Or.inl ⟨by rfl, ?_⟩) (by assumption) ?_
  rotate_left
  · intro w hSw; (try dsimp only at hSw); go_simp; try with_reducible rfl
  try simp only [Act.put, List.getElem_toArray, List.getElem_cons_zero, List.getElem_cons_succ, List.setIfInBounds_toArray, List.set_cons_zero, List.set_cons_succ]
  refine wpAnyH_take (i := 8) (oi := _) (v := ?_) rfl (by kernel_rfl) (by kernel_rfl) (by kernel_rfl) (fun _ _ _ h => h) (Or.inl ⟨by rfl, ?_⟩) (by assumption) ?_
  rotate_left
  · intro w hSw; (try dsimp only at hSw); go_simp; try with_reducible rfl
  try simp only [Act.put, List.getElem_toArray, List.getElem_cons_zero, List.getElem_cons_succ, List.setIfInBounds_toArray, List.set_cons_zero, List.set_cons_succ]
  refine wpAnyH_done (by kernel_rfl) ?_ _
  refine NoPanic.normal ?_
  refine world_gen ?_
  intro wz hwz
  rw [← hwz] at hHeld
  clear hwz
  have bel := hHeld.1.bel
  clear hHeld hS0 hc0 H1
  go_wp2
  go_ret
  exact ⟨rfl, bel⟩

/-- a new row of numbers comes back. -/
def RowP (w : World) (l : List Int) (v : Value) (w' : World) : Prop :=
  w'.ownsRow 0 3 1 v l.length (ints l) ∧ (∀ k, v.ownBlock = some k → w.heap.size ≤ k) ∧ Below w.heap.size w w'

def startsL (g : Int → Int) (p : Int) : Nat → Int → List Int → List Int × Bool
  | 0, a, out => (out, a == p)
  | f + 1, a, out => if a < p then (if okI (g a) = false ∨ iK (g a) = 0 then ([], false) else startsL g p f (a + iL (g a)) (out ++ [a])) else (out, a == p)
def startsF (g : Int → Int) (p : Int) : List Int × Bool := startsL g p (p.toNat + 1) 0 []

structure StRel (w : World) (g : Int → Int) (t p s : Int) (sl : Value) (res : List Int × Bool) (v4 v5 : Value) (wr : World) (out : List Int) (a : Int) : Prop where
  ha : v5 = .int .i64 a
  a0 : 0 ≤ a
  a1 : a ≤ p + 1024
  row : wr.ownsRow 0 3 1 v4 out.length (ints out)
  bs : BS w (w.heap.size :: v4.ownBlock.toList) wr
  box : ∀ o : Nat, wr.cell? ⟨w.heap.size, o, none⟩ = (#[.int .i64 t, .int .i64 p, .int .i64 s, sl] : Array Value)[o]?
  le : (out.length : Int) ≤ a ∧ (out.length : Int) ≤ p
  res : startsL g p (p.toNat + 1 - out.length) a out = res
  far : ∀ k, v4.ownBlock = some k → w.heap.size < k
def StRelE (w : World) (g : Int → Int) (t p s : Int) (sl : Value) (res : List Int × Bool) (v4 v5 : Value) (wr : World) : Prop := ∃ out a, StRel w g t p s sl res v4 v5 wr out a

set_option maxHeartbeats 2000000 in
set_option maxRecDepth 100000 in
theorem starts_any (c : Nat) (w : World) (h : XV w t p s ad n vs) :
    Calls Tryz.prog 132 #[.agg #[.int .i64 t, .int .i64 p, .int .i64 s, .slice (some ad) n c]] w fun e w' => ∃ v, e = .returned (.tuple #[v, .bool (startsF (fun q => gv vs t q 0) p).2]) ∧ RowP w (startsF (fun q => gv vs t q 0) p).1 v w' := by
  have r0 := row_empty (w.alloc (.cells #[.int .i64 t, .int .i64 p, .int .i64 s, .slice (some ad) n c] 89)) 3 1
  have hS0 := ((BS.start w).alloc (.cells #[.int .i64 t, .int .i64 p, .int .i64 s, .slice (some ad) n c] 89)).alloc (.cells #[] 3)
  have d0 := loc_old (.cells #[] 3) (by simp) (loc_alloc w #[.int .i64 t, .int .i64 p, .int .i64 s, .slice (some ad) n c] 89)
  simp only [World.size_alloc] at hS0 r0
  have bd : 4 ≤ p ∧ p ≤ 64 := by have := h.bd; omega
  have hres0 : startsL (fun q => gv vs t q 0) p (p.toNat + 1) 0 [] = startsF (fun q => gv vs t q 0) p := rfl
  have HX : ∀ q, 0 ≤ q → q < p → ∃ k : Nat, k < n ∧ (∀ w, Calls Tryz.prog 133 #[.agg #[.int .i64 t, .int .i64 p, .int .i64 s], .int .i64 q] w fun e w' => e = .returned (.int .i64 k) ∧ Below w.heap.size w w') ∧ w.cell? (ad.add k) = some (.int .u32 (gv vs t q 0)) ∧ 0 ≤ gv vs t q 0 ∧ gv vs t q 0 < 4294967296 := by
    intro q h0 h1
    obtain ⟨hx1, hx2⟩ := h.cx h0 h1 (part := 0) (by omega) (by omega)
    refine ⟨cix t q 0, hx1, fun w => ?_, h.cells _ hx1, h.gu q 0⟩
    have := rinfo_any t p s q w
    rwa [hx2] at this
  clear h
  obtain ⟨g, hg⟩ : ∃ g : Int → Int, g = fun q => gv vs t q 0 := ⟨_, rfl⟩
  have HG : ∀ q, gv vs t q 0 = g q := fun q => by rw [hg]
  rw [← hg] at hres0 ⊢
  simp only [HG] at HX
  have HXX := Lib.hid HX
  clear HX HG hg
  generalize hRs : startsF g p = rs at *
  obtain ⟨rl, rb⟩ := rs
  obtain ⟨i0, hi0, hi1, hi2, hi3⟩ := info_parts infoInt
  have HI := Lib.hid (And.intro hi0 (And.intro hi1 (And.intro hi2 hi3)))
  clear hi0 hi1 hi2 hi3 hRs
  have HR0 := Lib.hid hres0
  clear hres0
  go_enter Tryz.func132, Tryz.ntmps132
  go_wp2_with fail
  go_loopw [4, 5, 6, 7] (fun v4 v5 _ _ wr => StRelE w g t p s (.slice (some ad) n c) (rl, rb) v4 v5 wr) (fun v4 _ _ _ _ => p.toNat - lenS v4)
  case atStart => exact ⟨[], 0, rfl, by omega, by omega, r0, hS0.sub _ (by simp [Value.ownBlock]), d0, by simp; omega, by simpa using HR0.out, by simp [Value.ownBlock]⟩
  case round =>
    obtain ⟨out, a, hr⟩ := hrel
    obtain ⟨rfl, a0, a1, hrow, hbs, hbox, hle, hrs, hfar⟩ := hr
    have hlen : ∃ a m c, u4 = .slice a m c ∧ m = out.length := by
      rcases hrow.2 with ⟨h5, h6⟩ | ⟨g', cap', cur, h5, -⟩
      · exact ⟨_, _, _, h5, h6.symm⟩
      · exact ⟨_, _, _, h5, rfl⟩
    obtain ⟨pa, pm, pc, rfl, rfl⟩ := hlen
    have hlt0 := (hbs.ls w.heap.size (by simp)).1
    have HB := Lib.hid hbs
    have HF := Lib.hid hfar
    have HS := Lib.hid hrs
    have HRow := Lib.hid hrow
    have HBox := Lib.hid hbox
    have b0 := hbox 0
    have b1 := hbox 1
    have b2 := hbox 2
    have b3 := hbox 3
    simp at b0 b1 b2 b3
    clear hS0 r0 d0 HR0 hbs hfar hrs hrow hbox
    by_cases hlt : a < p
    · obtain ⟨k, hkn, hI, hc0, hg0, hg1⟩ := HXX.out a a0 hlt
      clear HXX
      have hc1 := HB.out.old hc0
      have bd9 := inf_bd (g a)
      have HG9 := Lib.hid (fun w => rget9_any (g a) w hg0 hg1)
      have HI9 := Lib.hid hI
      have hs2 : (if okI (g a) = false ∨ iK (g a) = 0 then ([], false) else startsL g p (p.toNat + 1 - (out ++ [a]).length) (a + iL (g a)) (out ++ [a])) = (rl, rb) := by
        have e0 := HS.out
        have e1 : p.toNat + 1 - out.length = (p.toNat - out.length) + 1 := by omega
        rw [e1] at e0
        have e2 : p.toNat + 1 - (out ++ [a]).length = p.toNat - out.length := by rw [List.length_append, List.length_singleton]; omega
        rw [e2]
        simpa [startsL, hlt] using e0
      clear HS hc0 hI b2 b3
      generalize okI (g a) = ok at *
      generalize iK (g a) = y1 at *
      generalize iL (g a) = y2 at *
      generalize iC (g a) = y3 at *
      generalize g a = v at *
      obtain ⟨k1, k2, k3, k4, k5, k6, k7, k8⟩ := bd9
      cases ok
      · have hs3 : ([], false) = (rl, rb) := by simpa using hs2
        obtain ⟨rfl, rfl⟩ := Prod.mk.inj hs3
        clear hs2 hs3 k1 k2 k3 k4 k5 k6 k7 k8
        go_wp2_with fail
        refine wp_region_noPanic ?_
        refine wp_region_held_drew (S := fun w' => BS wr ([] : List Nat) w' ∧ (∀ o : Nat, w'.cell? ⟨w.heap.size, o, none⟩ = (#[.int .i64 t, .int .i64 p, .int .i64 s, .slice (some ad) n c] : Array Value)[o]?) ∧ w'.cell? (ad.add k) = some (.int .u32 v)) (by kernel_rfl) ?_ (fun hHeld => ?_)
        · exact ⟨(BS.start wr).drew, HBox.out, hc1⟩
        refine wpAnyH_take (i := 0) (oi := _) (v := ?_) rfl (by kernel_rfl) (by kernel_rfl) (by kernel_rfl) (fun _ _ _ h => h) (Or.inl ⟨by rfl, ?_⟩) (by assumption) ?_
        rotate_left
        · intro w hSw; (try dsimp only at hSw); go_simp; try with_reducible rfl
        try simp only [Act.put, List.getElem_toArray, List.getElem_cons_zero, List.setIfInBounds_toArray, List.set_cons_zero, List.set_cons_succ]
        refine wpAnyH_take (i := 1) (oi := _) (v := ?_) rfl (by kernel_rfl) (by kernel_rfl) (by kernel_rfl) (fun _ _ _ h => h) (Or.inl ⟨by rfl, ?_⟩) (by assumption) ?_
        rotate_left
        · intro w hSw; (try dsimp only at hSw); go_simp; try with_reducible rfl
        try simp only [Act.put, List.getElem_toArray, List.getElem_cons_zero, List.getElem_cons_succ, List.setIfInBounds_toArray, List.set_cons_zero, List.set_cons_succ]
        refine wpAnyH_take (i := 2) (oi := _) (v := ?_) rfl (by kernel_rfl) (by kernel_rfl) (by kernel_rfl) (fun _ _ _ h => h) (Or.inl ⟨by rfl, ?_⟩) (by assumption) ?_
        rotate_left
        · intro w hSw; (try dsimp only at hSw); go_simp; try with_reducible rfl
        try simp only [Act.put, List.getElem_toArray, List.getElem_cons_zero, List.getElem_cons_succ, List.setIfInBounds_toArray, List.set_cons_zero, List.set_cons_succ]
        refine wpAnyH_take (i := 3) (oi := _) (v := ?_) rfl (by kernel_rfl) (by kernel_rfl) (by kernel_rfl) (fun _ _ _ h => h) (Or.inl ⟨by rfl, ?_⟩) (by assumption) ?_
        rotate_left
        · intro w hSw; (try dsimp only at hSw); go_simp; try with_reducible rfl
        try simp only [Act.put, List.getElem_toArray, List.getElem_cons_zero, List.getElem_cons_succ, List.setIfInBounds_toArray, List.set_cons_zero, List.set_cons_succ]
        refine wpAnyH_take (i := 4) (oi := _) (v := ?_) rfl (by kernel_rfl) (by kernel_rfl) (by kernel_rfl) (fun _ _ _ h => h) (Or.inl ⟨by rfl, ?_⟩) (by assumption) ?_
        rotate_left
        · intro w hSw; (try dsimp only at hSw); go_simp; try with_reducible rfl
        try simp only [Act.put, List.getElem_toArray, List.getElem_cons_zero, List.getElem_cons_succ, List.setIfInBounds_toArray, List.set_cons_zero, List.set_cons_succ]
        refine wpAnyH_ready (rs := [5, 12]) (by kernel_rfl) (by simp) ?_
        refine AllReadyH.cons (o := _) rfl (fun K hK => ?_) (AllReadyH.cons (o := _) rfl (fun K hK => ?_) AllReadyH.nil)
        · go_simp
          refine (calls_b hHeld.1 (HI9.out _)).mono ?_
          rintro e wr1 ⟨rfl, hV, hVl⟩
          dsimp only
          refine hK.out _ _ ?_ (fun hHeld2 => ?_)
          · exact ⟨hV, hV.oldbox HBox.out hlt0, hV.old hc1⟩
          clear hK K hV hVl hHeld
          have hHeld := hHeld2
          clear hHeld2
          try simp only [Act.put, List.getElem_toArray, List.getElem_cons_zero, List.getElem_cons_succ, List.setIfInBounds_toArray, List.set_cons_zero, List.set_cons_succ]
          refine wpAnyH_take (i := 6) (oi := _) (v := ?_) rfl (by kernel_rfl) (by kernel_rfl) (by kernel_rfl) (fun _ _ _ h => h) (Or.inl ⟨by rfl, ?_⟩) (by assumption) ?_
          rotate_left
          · intro w hSw; (try dsimp only at hSw); go_simp; try with_reducible rfl
          try simp only [Act.put, List.getElem_toArray, List.getElem_cons_zero, List.getElem_cons_succ, List.setIfInBounds_toArray, List.set_cons_zero, List.set_cons_succ]
          refine wpAnyH_take (i := 7) (oi := _) (v := ?_) rfl (by kernel_rfl) (by kernel_rfl) (by kernel_rfl) (fun _ _ _ h => h) (Or.inl ⟨by rfl, ?_⟩) (by assumption) ?_
          rotate_left
          · intro w hSw; (try dsimp only at hSw); go_simp; try with_reducible rfl
          try simp only [Act.put, List.getElem_toArray, List.getElem_cons_zero, List.getElem_cons_succ, List.setIfInBounds_toArray, List.set_cons_zero, List.set_cons_succ]
          refine wpAnyH_ready (rs := [8, 12]) (by kernel_rfl) (by simp) ?_
          refine AllReadyH.cons (o := _) rfl (fun K hK => ?_) (AllReadyH.cons (o := _) rfl (fun K hK => ?_) AllReadyH.nil)
          · go_simp
            refine (calls_b hHeld.1 (HG9.out _)).mono ?_
            rintro e wr2 ⟨rfl, hV, hVl⟩
            dsimp only
            refine hK.out _ _ ?_ (fun hHeld2 => ?_)
            · exact ⟨hV, hV.oldbox HBox.out hlt0, hV.old hc1⟩
            clear hK K hV hVl hHeld
            have hHeld := hHeld2
            clear hHeld2
            try simp only [Act.put, List.getElem_toArray, List.getElem_cons_zero, List.getElem_cons_succ, List.setIfInBounds_toArray, List.set_cons_zero, List.set_cons_succ]
            refine wpAnyH_take (i := 9) (oi := _) (v := ?_) rfl (by kernel_rfl) (by kernel_rfl) (by kernel_rfl) (fun _ _ _ h => h) (Or.inl ⟨by rfl, ?_⟩) (by assumption) ?_
            rotate_left
            · intro w hSw; (try dsimp only at hSw); go_simp; try with_reducible rfl
            try simp only [Act.put, List.getElem_toArray, List.getElem_cons_zero, List.getElem_cons_succ, List.setIfInBounds_toArray, List.set_cons_zero, List.set_cons_succ]
            refine wpAnyH_take (i := 10) (oi := _) (v := ?_) rfl (by kernel_rfl) (by kernel_rfl) (by kernel_rfl) (fun _ _ _ h => h) (Or.inl ⟨by rfl, ?_⟩) (by assumption) ?_
            rotate_left
            · intro w hSw; (try dsimp only at hSw); go_simp; try with_reducible rfl
            try simp only [Act.put, List.getElem_toArray, List.getElem_cons_zero, List.getElem_cons_succ, List.setIfInBounds_toArray, List.set_cons_zero, List.set_cons_succ]
            refine wpAnyH_take (i := 11) (oi := _) (v := ?_) rfl (by kernel_rfl) (by kernel_rfl) (by kernel_rfl) (fun _ _ _ h => h) (Or.inl ⟨by rfl, ?_⟩) (by assumption) ?_
            rotate_left
            · intro w hSw; (try dsimp only at hSw); go_simp; try with_reducible rfl
            try simp only [Act.put, List.getElem_toArray, List.getElem_cons_zero, List.getElem_cons_succ, List.setIfInBounds_toArray, List.set_cons_zero, List.set_cons_succ]
            refine wpAnyH_ready (rs := [12]) (by kernel_rfl) (by simp) ?_
            refine AllReadyH.cons (o := _) rfl (fun K hK => ?_) AllReadyH.nil
            have hP := hHeld
            have hA := hHeld.1.allocd (#[.int .i64 0, .int .i64 0, .int .i64 0]) 111
            try simp only [World.size_drew] at hA
            try simp only [World.size_alloc] at hA
            go_simp
            refine hK.out _ _ ?_ (fun hHeld2 => ?_)
            · exact ⟨hA.bs.sub _ (by simp), hA.bs.oldbox HBox.out hlt0, hA.bs.old hc1⟩
            clear hK K hHeld
            have hHeld := hHeld2
            clear hHeld2
            try simp only [Act.put, List.getElem_toArray, List.getElem_cons_zero, List.getElem_cons_succ, List.setIfInBounds_toArray, List.set_cons_zero, List.set_cons_succ]
            refine wpAnyH_ready (rs := [13]) (by kernel_rfl) (by simp) ?_
            refine AllReadyH.cons (o := _) rfl (fun K hK => ?_) AllReadyH.nil
            go_simp
            have hA2 := (hP.1).allocd (#[.int .i64 y1 , .int .i64 y2 , .int .i64 y3]) 111
            refine hK.out _ _ ?_ (fun hHeld2 => ?_)
            try simp only [World.size_drew] at hA2
            try simp only [World.size_alloc] at hA2
            · exact ⟨hA2.bs.sub _ (by simp), hA2.bs.oldbox HBox.out hlt0, hA2.bs.old hc1⟩
            clear hA hP
            have hA := hA2
            clear hA2 hHeld
            have hHeld := hHeld2
            clear hHeld2
            clear hK K
            try simp only [Act.put, List.getElem_toArray, List.getElem_cons_zero, List.getElem_cons_succ, List.setIfInBounds_toArray, List.set_cons_zero, List.set_cons_succ]
            refine wpAnyH_take (i := 14) (oi := _) (v := ?_) rfl (by kernel_rfl) (by kernel_rfl) (by kernel_rfl) (fun _ _ _ h => h) (Or.inl ⟨by rfl, ?_⟩) (by assumption) ?_
            rotate_left
            · intro w hSw; (try dsimp only at hSw); go_simp; try with_reducible rfl
            try simp only [Act.put, List.getElem_toArray, List.getElem_cons_zero, List.getElem_cons_succ, List.setIfInBounds_toArray, List.set_cons_zero, List.set_cons_succ]
            refine wpAnyH_done (by kernel_rfl) ?_ _
            refine NoPanic.normal ?_
            refine world_gen ?_
            intro wz hwz
            rw [← hwz] at hHeld hA
            clear hwz
            have rz := hHeld.1.row HRow.out
            have bz0 := hHeld.2.1 0
            have bz1 := hHeld.2.1 1
            simp at bz0 bz1
            have hne := hA.bs.ls
            have hbz := HB.out.below hA.bs.bel
            obtain ⟨⟨q0, q1, q2⟩, f0, f1, f2, z1, z2, bel⟩ := hA.cells3
            clear hHeld hA hne
            go_wp2
            refine bodyPost_ret (v := .tuple #[.slice none 0 0, .bool false]) (by simp [results, Tryz.results132, go_sem, *]) rfl ⟨_, rfl, World.ownsRow_nil _ _ _ _, by simp [Value.ownBlock], hbz.bel⟩
          · have hP := hHeld
            have hA := hHeld.1.allocd (#[.int .i64 0, .int .i64 0, .int .i64 0]) 111
            try simp only [World.size_drew] at hA
            try simp only [World.size_alloc] at hA
            go_simp
            refine hK.out _ _ ?_ (fun hHeld2 => ?_)
            · exact ⟨hA.bs.sub _ (by simp), hA.bs.oldbox HBox.out hlt0, hA.bs.old hc1⟩
            clear hK K hHeld
            have hHeld := hHeld2
            clear hHeld2
            try simp only [Act.put, List.getElem_toArray, List.getElem_cons_zero, List.getElem_cons_succ, List.setIfInBounds_toArray, List.set_cons_zero, List.set_cons_succ]
            refine wpAnyH_ready (rs := [8]) (by kernel_rfl) (by simp) ?_
            refine AllReadyH.cons (o := _) rfl (fun K hK => ?_) AllReadyH.nil
            go_simp
            refine (calls_b hA.bs (HG9.out _)).mono ?_
            rintro e wr3 ⟨rfl, hV, hVl⟩
            have hAn := hA.step hV hVl
            dsimp only
            refine hK.out _ _ ?_ (fun hHeld2 => ?_)
            · exact ⟨hV.sub _ (by simp), hV.oldbox HBox.out hlt0, hV.old hc1⟩
            clear hK K hV hVl hHeld hA hP
            have hA := hAn
            have hP := trivial
            clear hAn
            have hHeld := hHeld2
            clear hHeld2
            try simp only [Act.put, List.getElem_toArray, List.getElem_cons_zero, List.getElem_cons_succ, List.setIfInBounds_toArray, List.set_cons_zero, List.set_cons_succ]
            refine wpAnyH_take (i := 9) (oi := _) (v := ?_) rfl (by kernel_rfl) (by kernel_rfl) (by kernel_rfl) (fun _ _ _ h => h) (Or.inl ⟨by rfl, ?_⟩) (by assumption) ?_
            rotate_left
            · intro w hSw; (try dsimp only at hSw); go_simp; try with_reducible rfl
            try simp only [Act.put, List.getElem_toArray, List.getElem_cons_zero, List.getElem_cons_succ, List.setIfInBounds_toArray, List.set_cons_zero, List.set_cons_succ]
            refine wpAnyH_take (i := 10) (oi := _) (v := ?_) rfl (by kernel_rfl) (by kernel_rfl) (by kernel_rfl) (fun _ _ _ h => h) (Or.inl ⟨by rfl, ?_⟩) (by assumption) ?_
            rotate_left
            · intro w hSw; (try dsimp only at hSw); go_simp; try with_reducible rfl
            try simp only [Act.put, List.getElem_toArray, List.getElem_cons_zero, List.getElem_cons_succ, List.setIfInBounds_toArray, List.set_cons_zero, List.set_cons_succ]
            refine wpAnyH_take (i := 11) (oi := _) (v := ?_) rfl (by kernel_rfl) (by kernel_rfl) (by kernel_rfl) (fun _ _ _ h => h) (Or.inl ⟨by rfl, ?_⟩) (by assumption) ?_
            rotate_left
            · intro w hSw; (try dsimp only at hSw); go_simp; try with_reducible rfl
            try simp only [Act.put, List.getElem_toArray, List.getElem_cons_zero, List.getElem_cons_succ, List.setIfInBounds_toArray, List.set_cons_zero, List.set_cons_succ]
            refine wpAnyH_ready (rs := [13]) (by kernel_rfl) (by simp) ?_
            refine AllReadyH.cons (o := _) rfl (fun K hK => ?_) AllReadyH.nil
            have kc0 := (cell?_of_heap (o := 0) hA.box)
            have kc1 := (cell?_of_heap (o := 1) hA.box)
            have kc2 := (cell?_of_heap (o := 2) hA.box)
            simp at kc0 kc1 kc2
            have kf0 := frozen?_of_heap (o := 0) hA.box
            have kf1 := frozen?_of_heap (o := 1) hA.box
            have kf2 := frozen?_of_heap (o := 2) hA.box
            go_simp
            refine hK.out _ _ ?_ (fun hHeld2 => ?_)
            · exact ⟨(((hA.set 0 _).set 1 _).set 2 _).bs.sub _ (by simp), (((hA.set 0 _).set 1 _).set 2 _).bs.oldbox HBox.out hlt0, (((hA.set 0 _).set 1 _).set 2 _).bs.old hc1⟩
            have hA2 : BA wr ([] : List Nat) _ (#[.int .i64 y1 , .int .i64 y2 , .int .i64 y3]) 111 _ := (((hA.set 0 (.int .i64 y1)).set 1 (.int .i64 y2)).set 2 (.int .i64 y3))
            clear kc0 kf0 kc1 kf1 kc2 kf2 hA hP
            have hA := hA2
            clear hA2 hHeld
            have hHeld := hHeld2
            clear hHeld2
            clear hK K
            try simp only [Act.put, List.getElem_toArray, List.getElem_cons_zero, List.getElem_cons_succ, List.setIfInBounds_toArray, List.set_cons_zero, List.set_cons_succ]
            refine wpAnyH_take (i := 14) (oi := _) (v := ?_) rfl (by kernel_rfl) (by kernel_rfl) (by kernel_rfl) (fun _ _ _ h => h) (Or.inl ⟨by rfl, ?_⟩) (by assumption) ?_
            rotate_left
            · intro w hSw; (try dsimp only at hSw); go_simp; try with_reducible rfl
            try simp only [Act.put, List.getElem_toArray, List.getElem_cons_zero, List.getElem_cons_succ, List.setIfInBounds_toArray, List.set_cons_zero, List.set_cons_succ]
            refine wpAnyH_done (by kernel_rfl) ?_ _
            refine NoPanic.normal ?_
            refine world_gen ?_
            intro wz hwz
            rw [← hwz] at hHeld hA
            clear hwz
            have rz := hHeld.1.row HRow.out
            have bz0 := hHeld.2.1 0
            have bz1 := hHeld.2.1 1
            simp at bz0 bz1
            have hne := hA.bs.ls
            have hbz := HB.out.below hA.bs.bel
            obtain ⟨⟨q0, q1, q2⟩, f0, f1, f2, z1, z2, bel⟩ := hA.cells3
            clear hHeld hA hne
            go_wp2
            refine bodyPost_ret (v := .tuple #[.slice none 0 0, .bool false]) (by simp [results, Tryz.results132, go_sem, *]) rfl ⟨_, rfl, World.ownsRow_nil _ _ _ _, by simp [Value.ownBlock], hbz.bel⟩
        · have hP := hHeld
          have hA := hHeld.1.allocd (#[.int .i64 0, .int .i64 0, .int .i64 0]) 111
          try simp only [World.size_drew] at hA
          try simp only [World.size_alloc] at hA
          go_simp
          refine hK.out _ _ ?_ (fun hHeld2 => ?_)
          · exact ⟨hA.bs.sub _ (by simp), hA.bs.oldbox HBox.out hlt0, hA.bs.old hc1⟩
          clear hK K hHeld
          have hHeld := hHeld2
          clear hHeld2
          try simp only [Act.put, List.getElem_toArray, List.getElem_cons_zero, List.getElem_cons_succ, List.setIfInBounds_toArray, List.set_cons_zero, List.set_cons_succ]
          refine wpAnyH_ready (rs := [5]) (by kernel_rfl) (by simp) ?_
          refine AllReadyH.cons (o := _) rfl (fun K hK => ?_) AllReadyH.nil
          go_simp
          refine (calls_b hA.bs (HI9.out _)).mono ?_
          rintro e wr4 ⟨rfl, hV, hVl⟩
          have hAn := hA.step hV hVl
          dsimp only
          refine hK.out _ _ ?_ (fun hHeld2 => ?_)
          · exact ⟨hV.sub _ (by simp), hV.oldbox HBox.out hlt0, hV.old hc1⟩
          clear hK K hV hVl hHeld hA hP
          have hA := hAn
          have hP := trivial
          clear hAn
          have hHeld := hHeld2
          clear hHeld2
          try simp only [Act.put, List.getElem_toArray, List.getElem_cons_zero, List.getElem_cons_succ, List.setIfInBounds_toArray, List.set_cons_zero, List.set_cons_succ]
          refine wpAnyH_take (i := 6) (oi := _) (v := ?_) rfl (by kernel_rfl) (by kernel_rfl) (by kernel_rfl) (fun _ _ _ h => h) (Or.inl ⟨by rfl, ?_⟩) (by assumption) ?_
          rotate_left
          · intro w hSw; (try dsimp only at hSw); go_simp; try with_reducible rfl
          try simp only [Act.put, List.getElem_toArray, List.getElem_cons_zero, List.getElem_cons_succ, List.setIfInBounds_toArray, List.set_cons_zero, List.set_cons_succ]
          refine wpAnyH_take (i := 7) (oi := _) (v := ?_) rfl (by kernel_rfl) (by kernel_rfl) (by kernel_rfl) (fun _ _ _ h => h) (Or.inl ⟨by rfl, ?_⟩) (by assumption) ?_
          rotate_left
          · intro w hSw; (try dsimp only at hSw); go_simp; try with_reducible rfl
          try simp only [Act.put, List.getElem_toArray, List.getElem_cons_zero, List.getElem_cons_succ, List.setIfInBounds_toArray, List.set_cons_zero, List.set_cons_succ]
          refine wpAnyH_ready (rs := [8]) (by kernel_rfl) (by simp) ?_
          refine AllReadyH.cons (o := _) rfl (fun K hK => ?_) AllReadyH.nil
          go_simp
          refine (calls_b hA.bs (HG9.out _)).mono ?_
          rintro e wr5 ⟨rfl, hV, hVl⟩
          have hAn := hA.step hV hVl
          dsimp only
          refine hK.out _ _ ?_ (fun hHeld2 => ?_)
          · exact ⟨hV.sub _ (by simp), hV.oldbox HBox.out hlt0, hV.old hc1⟩
          clear hK K hV hVl hHeld hA hP
          have hA := hAn
          have hP := trivial
          clear hAn
          have hHeld := hHeld2
          clear hHeld2
          try simp only [Act.put, List.getElem_toArray, List.getElem_cons_zero, List.getElem_cons_succ, List.setIfInBounds_toArray, List.set_cons_zero, List.set_cons_succ]
          refine wpAnyH_take (i := 9) (oi := _) (v := ?_) rfl (by kernel_rfl) (by kernel_rfl) (by kernel_rfl) (fun _ _ _ h => h) (Or.inl ⟨by rfl, ?_⟩) (by assumption) ?_
          rotate_left
          · intro w hSw; (try dsimp only at hSw); go_simp; try with_reducible rfl
          try simp only [Act.put, List.getElem_toArray, List.getElem_cons_zero, List.getElem_cons_succ, List.setIfInBounds_toArray, List.set_cons_zero, List.set_cons_succ]
          refine wpAnyH_take (i := 10) (oi := _) (v := ?_) rfl (by kernel_rfl) (by kernel_rfl) (by kernel_rfl) (fun _ _ _ h => h) (Or.inl ⟨by rfl, ?_⟩) (by assumption) ?_
          rotate_left
          · intro w hSw; (try dsimp only at hSw); go_simp; try with_reducible rfl
          try simp only [Act.put, List.getElem_toArray, List.getElem_cons_zero, List.getElem_cons_succ, List.setIfInBounds_toArray, List.set_cons_zero, List.set_cons_succ]
          refine wpAnyH_take (i := 11) (oi := _) (v := ?_) rfl (by kernel_rfl) (by kernel_rfl) (by kernel_rfl) (fun _ _ _ h => h) (Or.inl ⟨by rfl, ?_⟩) (by assumption) ?_
          rotate_left
          · intro w hSw; (try dsimp only at hSw); go_simp; try with_reducible rfl
          try simp only [Act.put, List.getElem_toArray, List.getElem_cons_zero, List.getElem_cons_succ, List.setIfInBounds_toArray, List.set_cons_zero, List.set_cons_succ]
          refine wpAnyH_ready (rs := [13]) (by kernel_rfl) (by simp) ?_
          refine AllReadyH.cons (o := _) rfl (fun K hK => ?_) AllReadyH.nil
          have kc0 := (cell?_of_heap (o := 0) hA.box)
          have kc1 := (cell?_of_heap (o := 1) hA.box)
          have kc2 := (cell?_of_heap (o := 2) hA.box)
          simp at kc0 kc1 kc2
          have kf0 := frozen?_of_heap (o := 0) hA.box
          have kf1 := frozen?_of_heap (o := 1) hA.box
          have kf2 := frozen?_of_heap (o := 2) hA.box
          go_simp
          refine hK.out _ _ ?_ (fun hHeld2 => ?_)
          · exact ⟨(((hA.set 0 _).set 1 _).set 2 _).bs.sub _ (by simp), (((hA.set 0 _).set 1 _).set 2 _).bs.oldbox HBox.out hlt0, (((hA.set 0 _).set 1 _).set 2 _).bs.old hc1⟩
          have hA2 : BA wr ([] : List Nat) _ (#[.int .i64 y1 , .int .i64 y2 , .int .i64 y3]) 111 _ := (((hA.set 0 (.int .i64 y1)).set 1 (.int .i64 y2)).set 2 (.int .i64 y3))
          clear kc0 kf0 kc1 kf1 kc2 kf2 hA hP
          have hA := hA2
          clear hA2 hHeld
          have hHeld := hHeld2
          clear hHeld2
          clear hK K
          try simp only [Act.put, List.getElem_toArray, List.getElem_cons_zero, List.getElem_cons_succ, List.setIfInBounds_toArray, List.set_cons_zero, List.set_cons_succ]
          refine wpAnyH_take (i := 14) (oi := _) (v := ?_) rfl (by kernel_rfl) (by kernel_rfl) (by kernel_rfl) (fun _ _ _ h => h) (Or.inl ⟨by rfl, ?_⟩) (by assumption) ?_
          rotate_left
          · intro w hSw; (try dsimp only at hSw); go_simp; try with_reducible rfl
          try simp only [Act.put, List.getElem_toArray, List.getElem_cons_zero, List.getElem_cons_succ, List.setIfInBounds_toArray, List.set_cons_zero, List.set_cons_succ]
          refine wpAnyH_done (by kernel_rfl) ?_ _
          refine NoPanic.normal ?_
          refine world_gen ?_
          intro wz hwz
          rw [← hwz] at hHeld hA
          clear hwz
          have rz := hHeld.1.row HRow.out
          have bz0 := hHeld.2.1 0
          have bz1 := hHeld.2.1 1
          simp at bz0 bz1
          have hne := hA.bs.ls
          have hbz := HB.out.below hA.bs.bel
          obtain ⟨⟨q0, q1, q2⟩, f0, f1, f2, z1, z2, bel⟩ := hA.cells3
          clear hHeld hA hne
          go_wp2
          refine bodyPost_ret (v := .tuple #[.slice none 0 0, .bool false]) (by simp [results, Tryz.results132, go_sem, *]) rfl ⟨_, rfl, World.ownsRow_nil _ _ _ _, by simp [Value.ownBlock], hbz.bel⟩
      · by_cases hk0 : y1 = 0
        · have hs3 : ([], false) = (rl, rb) := by simpa [hk0] using hs2
          obtain ⟨rfl, rfl⟩ := Prod.mk.inj hs3
          have hk0b : (y1 == 0) = true := by simp [hk0]
          clear hs2 hs3 k1 k2 k3 k4 k5 k6 k7 k8 hk0
          go_wp2_with fail
          refine wp_region_noPanic ?_
          refine wp_region_held_drew (S := fun w' => BS wr ([] : List Nat) w' ∧ (∀ o : Nat, w'.cell? ⟨w.heap.size, o, none⟩ = (#[.int .i64 t, .int .i64 p, .int .i64 s, .slice (some ad) n c] : Array Value)[o]?) ∧ w'.cell? (ad.add k) = some (.int .u32 v)) (by kernel_rfl) ?_ (fun hHeld => ?_)
          · exact ⟨(BS.start wr).drew, HBox.out, hc1⟩
          refine wpAnyH_take (i := 0) (oi := _) (v := ?_) rfl (by kernel_rfl) (by kernel_rfl) (by kernel_rfl) (fun _ _ _ h => h) (Or.inl ⟨by rfl, ?_⟩) (by assumption) ?_
          rotate_left
          · intro w hSw; (try dsimp only at hSw); go_simp; try with_reducible rfl
          try simp only [Act.put, List.getElem_toArray, List.getElem_cons_zero, List.setIfInBounds_toArray, List.set_cons_zero, List.set_cons_succ]
          refine wpAnyH_take (i := 1) (oi := _) (v := ?_) rfl (by kernel_rfl) (by kernel_rfl) (by kernel_rfl) (fun _ _ _ h => h) (Or.inl ⟨by rfl, ?_⟩) (by assumption) ?_
          rotate_left
          · intro w hSw; (try dsimp only at hSw); go_simp; try with_reducible rfl
          try simp only [Act.put, List.getElem_toArray, List.getElem_cons_zero, List.getElem_cons_succ, List.setIfInBounds_toArray, List.set_cons_zero, List.set_cons_succ]
          refine wpAnyH_take (i := 2) (oi := _) (v := ?_) rfl (by kernel_rfl) (by kernel_rfl) (by kernel_rfl) (fun _ _ _ h => h) (Or.inl ⟨by rfl, ?_⟩) (by assumption) ?_
          rotate_left
          · intro w hSw; (try dsimp only at hSw); go_simp; try with_reducible rfl
          try simp only [Act.put, List.getElem_toArray, List.getElem_cons_zero, List.getElem_cons_succ, List.setIfInBounds_toArray, List.set_cons_zero, List.set_cons_succ]
          refine wpAnyH_take (i := 3) (oi := _) (v := ?_) rfl (by kernel_rfl) (by kernel_rfl) (by kernel_rfl) (fun _ _ _ h => h) (Or.inl ⟨by rfl, ?_⟩) (by assumption) ?_
          rotate_left
          · intro w hSw; (try dsimp only at hSw); go_simp; try with_reducible rfl
          try simp only [Act.put, List.getElem_toArray, List.getElem_cons_zero, List.getElem_cons_succ, List.setIfInBounds_toArray, List.set_cons_zero, List.set_cons_succ]
          refine wpAnyH_take (i := 4) (oi := _) (v := ?_) rfl (by kernel_rfl) (by kernel_rfl) (by kernel_rfl) (fun _ _ _ h => h) (Or.inl ⟨by rfl, ?_⟩) (by assumption) ?_
          rotate_left
          · intro w hSw; (try dsimp only at hSw); go_simp; try with_reducible rfl
          try simp only [Act.put, List.getElem_toArray, List.getElem_cons_zero, List.getElem_cons_succ, List.setIfInBounds_toArray, List.set_cons_zero, List.set_cons_succ]
          refine wpAnyH_ready (rs := [5, 12]) (by kernel_rfl) (by simp) ?_
          refine AllReadyH.cons (o := _) rfl (fun K hK => ?_) (AllReadyH.cons (o := _) rfl (fun K hK => ?_) AllReadyH.nil)
          · go_simp
            refine (calls_b hHeld.1 (HI9.out _)).mono ?_
            rintro e wr1 ⟨rfl, hV, hVl⟩
            dsimp only
            refine hK.out _ _ ?_ (fun hHeld2 => ?_)
            · exact ⟨hV, hV.oldbox HBox.out hlt0, hV.old hc1⟩
            clear hK K hV hVl hHeld
            have hHeld := hHeld2
            clear hHeld2
            try simp only [Act.put, List.getElem_toArray, List.getElem_cons_zero, List.getElem_cons_succ, List.setIfInBounds_toArray, List.set_cons_zero, List.set_cons_succ]
            refine wpAnyH_take (i := 6) (oi := _) (v := ?_) rfl (by kernel_rfl) (by kernel_rfl) (by kernel_rfl) (fun _ _ _ h => h) (Or.inl ⟨by rfl, ?_⟩) (by assumption) ?_
            rotate_left
            · intro w hSw; (try dsimp only at hSw); go_simp; try with_reducible rfl
            try simp only [Act.put, List.getElem_toArray, List.getElem_cons_zero, List.getElem_cons_succ, List.setIfInBounds_toArray, List.set_cons_zero, List.set_cons_succ]
            refine wpAnyH_take (i := 7) (oi := _) (v := ?_) rfl (by kernel_rfl) (by kernel_rfl) (by kernel_rfl) (fun _ _ _ h => h) (Or.inl ⟨by rfl, ?_⟩) (by assumption) ?_
            rotate_left
            · intro w hSw; (try dsimp only at hSw); go_simp; try with_reducible rfl
            try simp only [Act.put, List.getElem_toArray, List.getElem_cons_zero, List.getElem_cons_succ, List.setIfInBounds_toArray, List.set_cons_zero, List.set_cons_succ]
            refine wpAnyH_ready (rs := [8, 12]) (by kernel_rfl) (by simp) ?_
            refine AllReadyH.cons (o := _) rfl (fun K hK => ?_) (AllReadyH.cons (o := _) rfl (fun K hK => ?_) AllReadyH.nil)
            · go_simp
              refine (calls_b hHeld.1 (HG9.out _)).mono ?_
              rintro e wr2 ⟨rfl, hV, hVl⟩
              dsimp only
              refine hK.out _ _ ?_ (fun hHeld2 => ?_)
              · exact ⟨hV, hV.oldbox HBox.out hlt0, hV.old hc1⟩
              clear hK K hV hVl hHeld
              have hHeld := hHeld2
              clear hHeld2
              try simp only [Act.put, List.getElem_toArray, List.getElem_cons_zero, List.getElem_cons_succ, List.setIfInBounds_toArray, List.set_cons_zero, List.set_cons_succ]
              refine wpAnyH_take (i := 9) (oi := _) (v := ?_) rfl (by kernel_rfl) (by kernel_rfl) (by kernel_rfl) (fun _ _ _ h => h) (Or.inl ⟨by rfl, ?_⟩) (by assumption) ?_
              rotate_left
              · intro w hSw; (try dsimp only at hSw); go_simp; try with_reducible rfl
              try simp only [Act.put, List.getElem_toArray, List.getElem_cons_zero, List.getElem_cons_succ, List.setIfInBounds_toArray, List.set_cons_zero, List.set_cons_succ]
              refine wpAnyH_take (i := 10) (oi := _) (v := ?_) rfl (by kernel_rfl) (by kernel_rfl) (by kernel_rfl) (fun _ _ _ h => h) (Or.inl ⟨by rfl, ?_⟩) (by assumption) ?_
              rotate_left
              · intro w hSw; (try dsimp only at hSw); go_simp; try with_reducible rfl
              try simp only [Act.put, List.getElem_toArray, List.getElem_cons_zero, List.getElem_cons_succ, List.setIfInBounds_toArray, List.set_cons_zero, List.set_cons_succ]
              refine wpAnyH_take (i := 11) (oi := _) (v := ?_) rfl (by kernel_rfl) (by kernel_rfl) (by kernel_rfl) (fun _ _ _ h => h) (Or.inl ⟨by rfl, ?_⟩) (by assumption) ?_
              rotate_left
              · intro w hSw; (try dsimp only at hSw); go_simp; try with_reducible rfl
              try simp only [Act.put, List.getElem_toArray, List.getElem_cons_zero, List.getElem_cons_succ, List.setIfInBounds_toArray, List.set_cons_zero, List.set_cons_succ]
              refine wpAnyH_ready (rs := [12]) (by kernel_rfl) (by simp) ?_
              refine AllReadyH.cons (o := _) rfl (fun K hK => ?_) AllReadyH.nil
              have hP := hHeld
              have hA := hHeld.1.allocd (#[.int .i64 0, .int .i64 0, .int .i64 0]) 111
              try simp only [World.size_drew] at hA
              try simp only [World.size_alloc] at hA
              go_simp
              refine hK.out _ _ ?_ (fun hHeld2 => ?_)
              · exact ⟨hA.bs.sub _ (by simp), hA.bs.oldbox HBox.out hlt0, hA.bs.old hc1⟩
              clear hK K hHeld
              have hHeld := hHeld2
              clear hHeld2
              try simp only [Act.put, List.getElem_toArray, List.getElem_cons_zero, List.getElem_cons_succ, List.setIfInBounds_toArray, List.set_cons_zero, List.set_cons_succ]
              refine wpAnyH_ready (rs := [13]) (by kernel_rfl) (by simp) ?_
              refine AllReadyH.cons (o := _) rfl (fun K hK => ?_) AllReadyH.nil
              go_simp
              have hA2 := (hP.1).allocd (#[.int .i64 y1 , .int .i64 y2 , .int .i64 y3]) 111
              refine hK.out _ _ ?_ (fun hHeld2 => ?_)
              try simp only [World.size_drew] at hA2
              try simp only [World.size_alloc] at hA2
              · exact ⟨hA2.bs.sub _ (by simp), hA2.bs.oldbox HBox.out hlt0, hA2.bs.old hc1⟩
              clear hA hP
              have hA := hA2
              clear hA2 hHeld
              have hHeld := hHeld2
              clear hHeld2
              clear hK K
              try simp only [Act.put, List.getElem_toArray, List.getElem_cons_zero, List.getElem_cons_succ, List.setIfInBounds_toArray, List.set_cons_zero, List.set_cons_succ]
              refine wpAnyH_take (i := 14) (oi := _) (v := ?_) rfl (by kernel_rfl) (by kernel_rfl) (by kernel_rfl) (fun _ _ _ h => h) (Or.inl ⟨by rfl, ?_⟩) (by assumption) ?_
              rotate_left
              · intro w hSw; (try dsimp only at hSw); go_simp; try with_reducible rfl
              try simp only [Act.put, List.getElem_toArray, List.getElem_cons_zero, List.getElem_cons_succ, List.setIfInBounds_toArray, List.set_cons_zero, List.set_cons_succ]
              refine wpAnyH_done (by kernel_rfl) ?_ _
              refine NoPanic.normal ?_
              refine world_gen ?_
              intro wz hwz
              rw [← hwz] at hHeld hA
              clear hwz
              have rz := hHeld.1.row HRow.out
              have bz0 := hHeld.2.1 0
              have bz1 := hHeld.2.1 1
              simp at bz0 bz1
              have hne := hA.bs.ls
              have hbz := HB.out.below hA.bs.bel
              obtain ⟨⟨q0, q1, q2⟩, f0, f1, f2, z1, z2, bel⟩ := hA.cells3
              clear hHeld hA hne
              go_wp2
              refine bodyPost_ret (v := .tuple #[.slice none 0 0, .bool false]) (by simp [results, Tryz.results132, go_sem, *]) rfl ⟨_, rfl, World.ownsRow_nil _ _ _ _, by simp [Value.ownBlock], hbz.bel⟩
            · have hP := hHeld
              have hA := hHeld.1.allocd (#[.int .i64 0, .int .i64 0, .int .i64 0]) 111
              try simp only [World.size_drew] at hA
              try simp only [World.size_alloc] at hA
              go_simp
              refine hK.out _ _ ?_ (fun hHeld2 => ?_)
              · exact ⟨hA.bs.sub _ (by simp), hA.bs.oldbox HBox.out hlt0, hA.bs.old hc1⟩
              clear hK K hHeld
              have hHeld := hHeld2
              clear hHeld2
              try simp only [Act.put, List.getElem_toArray, List.getElem_cons_zero, List.getElem_cons_succ, List.setIfInBounds_toArray, List.set_cons_zero, List.set_cons_succ]
              refine wpAnyH_ready (rs := [8]) (by kernel_rfl) (by simp) ?_
              refine AllReadyH.cons (o := _) rfl (fun K hK => ?_) AllReadyH.nil
              go_simp
              refine (calls_b hA.bs (HG9.out _)).mono ?_
              rintro e wr3 ⟨rfl, hV, hVl⟩
              have hAn := hA.step hV hVl
              dsimp only
              refine hK.out _ _ ?_ (fun hHeld2 => ?_)
              · exact ⟨hV.sub _ (by simp), hV.oldbox HBox.out hlt0, hV.old hc1⟩
              clear hK K hV hVl hHeld hA hP
              have hA := hAn
              have hP := trivial
              clear hAn
              have hHeld := hHeld2
              clear hHeld2
              try simp only [Act.put, List.getElem_toArray, List.getElem_cons_zero, List.getElem_cons_succ, List.setIfInBounds_toArray, List.set_cons_zero, List.set_cons_succ]
              refine wpAnyH_take (i := 9) (oi := _) (v := ?_) rfl (by kernel_rfl) (by kernel_rfl) (by kernel_rfl) (fun _ _ _ h => h) (Or.inl ⟨by rfl, ?_⟩) (by assumption) ?_
              rotate_left
              · intro w hSw; (try dsimp only at hSw); go_simp; try with_reducible rfl
              try simp only [Act.put, List.getElem_toArray, List.getElem_cons_zero, List.getElem_cons_succ, List.setIfInBounds_toArray, List.set_cons_zero, List.set_cons_succ]
              refine wpAnyH_take (i := 10) (oi := _) (v := ?_) rfl (by kernel_rfl) (by kernel_rfl) (by kernel_rfl) (fun _ _ _ h => h) (Or.inl ⟨by rfl, ?_⟩) (by assumption) ?_
              rotate_left
              · intro w hSw; (try dsimp only at hSw); go_simp; try with_reducible rfl
              try simp only [Act.put, List.getElem_toArray, List.getElem_cons_zero, List.getElem_cons_succ, List.setIfInBounds_toArray, List.set_cons_zero, List.set_cons_succ]
              refine wpAnyH_take (i := 11) (oi := _) (v := ?_) rfl (by kernel_rfl) (by kernel_rfl) (by kernel_rfl) (fun _ _ _ h => h) (Or.inl ⟨by rfl, ?_⟩) (by assumption) ?_
              rotate_left
              · intro w hSw; (try dsimp only at hSw); go_simp; try with_reducible rfl
              try simp only [Act.put, List.getElem_toArray, List.getElem_cons_zero, List.getElem_cons_succ, List.setIfInBounds_toArray, List.set_cons_zero, List.set_cons_succ]
              refine wpAnyH_ready (rs := [13]) (by kernel_rfl) (by simp) ?_
              refine AllReadyH.cons (o := _) rfl (fun K hK => ?_) AllReadyH.nil
              have kc0 := (cell?_of_heap (o := 0) hA.box)
              have kc1 := (cell?_of_heap (o := 1) hA.box)
              have kc2 := (cell?_of_heap (o := 2) hA.box)
              simp at kc0 kc1 kc2
              have kf0 := frozen?_of_heap (o := 0) hA.box
              have kf1 := frozen?_of_heap (o := 1) hA.box
              have kf2 := frozen?_of_heap (o := 2) hA.box
              go_simp
              refine hK.out _ _ ?_ (fun hHeld2 => ?_)
              · exact ⟨(((hA.set 0 _).set 1 _).set 2 _).bs.sub _ (by simp), (((hA.set 0 _).set 1 _).set 2 _).bs.oldbox HBox.out hlt0, (((hA.set 0 _).set 1 _).set 2 _).bs.old hc1⟩
              have hA2 : BA wr ([] : List Nat) _ (#[.int .i64 y1 , .int .i64 y2 , .int .i64 y3]) 111 _ := (((hA.set 0 (.int .i64 y1)).set 1 (.int .i64 y2)).set 2 (.int .i64 y3))
              clear kc0 kf0 kc1 kf1 kc2 kf2 hA hP
              have hA := hA2
              clear hA2 hHeld
              have hHeld := hHeld2
              clear hHeld2
              clear hK K
              try simp only [Act.put, List.getElem_toArray, List.getElem_cons_zero, List.getElem_cons_succ, List.setIfInBounds_toArray, List.set_cons_zero, List.set_cons_succ]
              refine wpAnyH_take (i := 14) (oi := _) (v := ?_) rfl (by kernel_rfl) (by kernel_rfl) (by kernel_rfl) (fun _ _ _ h => h) (Or.inl ⟨by rfl, ?_⟩) (by assumption) ?_
              rotate_left
              · intro w hSw; (try dsimp only at hSw); go_simp; try with_reducible rfl
              try simp only [Act.put, List.getElem_toArray, List.getElem_cons_zero, List.getElem_cons_succ, List.setIfInBounds_toArray, List.set_cons_zero, List.set_cons_succ]
              refine wpAnyH_done (by kernel_rfl) ?_ _
              refine NoPanic.normal ?_
              refine world_gen ?_
              intro wz hwz
              rw [← hwz] at hHeld hA
              clear hwz
              have rz := hHeld.1.row HRow.out
              have bz0 := hHeld.2.1 0
              have bz1 := hHeld.2.1 1
              simp at bz0 bz1
              have hne := hA.bs.ls
              have hbz := HB.out.below hA.bs.bel
              obtain ⟨⟨q0, q1, q2⟩, f0, f1, f2, z1, z2, bel⟩ := hA.cells3
              clear hHeld hA hne
              go_wp2
              refine bodyPost_ret (v := .tuple #[.slice none 0 0, .bool false]) (by simp [results, Tryz.results132, go_sem, *]) rfl ⟨_, rfl, World.ownsRow_nil _ _ _ _, by simp [Value.ownBlock], hbz.bel⟩
          · have hP := hHeld
            have hA := hHeld.1.allocd (#[.int .i64 0, .int .i64 0, .int .i64 0]) 111
            try simp only [World.size_drew] at hA
            try simp only [World.size_alloc] at hA
            go_simp
            refine hK.out _ _ ?_ (fun hHeld2 => ?_)
            · exact ⟨hA.bs.sub _ (by simp), hA.bs.oldbox HBox.out hlt0, hA.bs.old hc1⟩
            clear hK K hHeld
            have hHeld := hHeld2
            clear hHeld2
            try simp only [Act.put, List.getElem_toArray, List.getElem_cons_zero, List.getElem_cons_succ, List.setIfInBounds_toArray, List.set_cons_zero, List.set_cons_succ]
            refine wpAnyH_ready (rs := [5]) (by kernel_rfl) (by simp) ?_
            refine AllReadyH.cons (o := _) rfl (fun K hK => ?_) AllReadyH.nil
            go_simp
            refine (calls_b hA.bs (HI9.out _)).mono ?_
            rintro e wr4 ⟨rfl, hV, hVl⟩
            have hAn := hA.step hV hVl
            dsimp only
            refine hK.out _ _ ?_ (fun hHeld2 => ?_)
            · exact ⟨hV.sub _ (by simp), hV.oldbox HBox.out hlt0, hV.old hc1⟩
            clear hK K hV hVl hHeld hA hP
            have hA := hAn
            have hP := trivial
            clear hAn
            have hHeld := hHeld2
            clear hHeld2
            try simp only [Act.put, List.getElem_toArray, List.getElem_cons_zero, List.getElem_cons_succ, List.setIfInBounds_toArray, List.set_cons_zero, List.set_cons_succ]
            refine wpAnyH_take (i := 6) (oi := _) (v := ?_) rfl (by kernel_rfl) (by kernel_rfl) (by kernel_rfl) (fun _ _ _ h => h) (Or.inl ⟨by rfl, ?_⟩) (by assumption) ?_
            rotate_left
            · intro w hSw; (try dsimp only at hSw); go_simp; try with_reducible rfl
            try simp only [Act.put, List.getElem_toArray, List.getElem_cons_zero, List.getElem_cons_succ, List.setIfInBounds_toArray, List.set_cons_zero, List.set_cons_succ]
            refine wpAnyH_take (i := 7) (oi := _) (v := ?_) rfl (by kernel_rfl) (by kernel_rfl) (by kernel_rfl) (fun _ _ _ h => h) (Or.inl ⟨by rfl, ?_⟩) (by assumption) ?_
            rotate_left
            · intro w hSw; (try dsimp only at hSw); go_simp; try with_reducible rfl
            try simp only [Act.put, List.getElem_toArray, List.getElem_cons_zero, List.getElem_cons_succ, List.setIfInBounds_toArray, List.set_cons_zero, List.set_cons_succ]
            refine wpAnyH_ready (rs := [8]) (by kernel_rfl) (by simp) ?_
            refine AllReadyH.cons (o := _) rfl (fun K hK => ?_) AllReadyH.nil
            go_simp
            refine (calls_b hA.bs (HG9.out _)).mono ?_
            rintro e wr5 ⟨rfl, hV, hVl⟩
            have hAn := hA.step hV hVl
            dsimp only
            refine hK.out _ _ ?_ (fun hHeld2 => ?_)
            · exact ⟨hV.sub _ (by simp), hV.oldbox HBox.out hlt0, hV.old hc1⟩
            clear hK K hV hVl hHeld hA hP
            have hA := hAn
            have hP := trivial
            clear hAn
            have hHeld := hHeld2
            clear hHeld2
            try simp only [Act.put, List.getElem_toArray, List.getElem_cons_zero, List.getElem_cons_succ, List.setIfInBounds_toArray, List.set_cons_zero, List.set_cons_succ]
            refine wpAnyH_take (i := 9) (oi := _) (v := ?_) rfl (by kernel_rfl) (by kernel_rfl) (by kernel_rfl) (fun _ _ _ h => h) (Or.inl ⟨by rfl, ?_⟩) (by assumption) ?_
            rotate_left
            · intro w hSw; (try dsimp only at hSw); go_simp; try with_reducible rfl
            try simp only [Act.put, List.getElem_toArray, List.getElem_cons_zero, List.getElem_cons_succ, List.setIfInBounds_toArray, List.set_cons_zero, List.set_cons_succ]
            refine wpAnyH_take (i := 10) (oi := _) (v := ?_) rfl (by kernel_rfl) (by kernel_rfl) (by kernel_rfl) (fun _ _ _ h => h) (Or.inl ⟨by rfl, ?_⟩) (by assumption) ?_
            rotate_left
            · intro w hSw; (try dsimp only at hSw); go_simp; try with_reducible rfl
            try simp only [Act.put, List.getElem_toArray, List.getElem_cons_zero, List.getElem_cons_succ, List.setIfInBounds_toArray, List.set_cons_zero, List.set_cons_succ]
            refine wpAnyH_take (i := 11) (oi := _) (v := ?_) rfl (by kernel_rfl) (by kernel_rfl) (by kernel_rfl) (fun _ _ _ h => h) (Or.inl ⟨by rfl, ?_⟩) (by assumption) ?_
            rotate_left
            · intro w hSw; (try dsimp only at hSw); go_simp; try with_reducible rfl
            try simp only [Act.put, List.getElem_toArray, List.getElem_cons_zero, List.getElem_cons_succ, List.setIfInBounds_toArray, List.set_cons_zero, List.set_cons_succ]
            refine wpAnyH_ready (rs := [13]) (by kernel_rfl) (by simp) ?_
            refine AllReadyH.cons (o := _) rfl (fun K hK => ?_) AllReadyH.nil
            have kc0 := (cell?_of_heap (o := 0) hA.box)
            have kc1 := (cell?_of_heap (o := 1) hA.box)
            have kc2 := (cell?_of_heap (o := 2) hA.box)
            simp at kc0 kc1 kc2
            have kf0 := frozen?_of_heap (o := 0) hA.box
            have kf1 := frozen?_of_heap (o := 1) hA.box
            have kf2 := frozen?_of_heap (o := 2) hA.box
            go_simp
            refine hK.out _ _ ?_ (fun hHeld2 => ?_)
            · exact ⟨(((hA.set 0 _).set 1 _).set 2 _).bs.sub _ (by simp), (((hA.set 0 _).set 1 _).set 2 _).bs.oldbox HBox.out hlt0, (((hA.set 0 _).set 1 _).set 2 _).bs.old hc1⟩
            have hA2 : BA wr ([] : List Nat) _ (#[.int .i64 y1 , .int .i64 y2 , .int .i64 y3]) 111 _ := (((hA.set 0 (.int .i64 y1)).set 1 (.int .i64 y2)).set 2 (.int .i64 y3))
            clear kc0 kf0 kc1 kf1 kc2 kf2 hA hP
            have hA := hA2
            clear hA2 hHeld
            have hHeld := hHeld2
            clear hHeld2
            clear hK K
            try simp only [Act.put, List.getElem_toArray, List.getElem_cons_zero, List.getElem_cons_succ, List.setIfInBounds_toArray, List.set_cons_zero, List.set_cons_succ]
            refine wpAnyH_take (i := 14) (oi := _) (v := ?_) rfl (by kernel_rfl) (by kernel_rfl) (by kernel_rfl) (fun _ _ _ h => h) (Or.inl ⟨by rfl, ?_⟩) (by assumption) ?_
            rotate_left
            · intro w hSw; (try dsimp only at hSw); go_simp; try with_reducible rfl
            try simp only [Act.put, List.getElem_toArray, List.getElem_cons_zero, List.getElem_cons_succ, List.setIfInBounds_toArray, List.set_cons_zero, List.set_cons_succ]
            refine wpAnyH_done (by kernel_rfl) ?_ _
            refine NoPanic.normal ?_
            refine world_gen ?_
            intro wz hwz
            rw [← hwz] at hHeld hA
            clear hwz
            have rz := hHeld.1.row HRow.out
            have bz0 := hHeld.2.1 0
            have bz1 := hHeld.2.1 1
            simp at bz0 bz1
            have hne := hA.bs.ls
            have hbz := HB.out.below hA.bs.bel
            obtain ⟨⟨q0, q1, q2⟩, f0, f1, f2, z1, z2, bel⟩ := hA.cells3
            clear hHeld hA hne
            go_wp2
            refine bodyPost_ret (v := .tuple #[.slice none 0 0, .bool false]) (by simp [results, Tryz.results132, go_sem, *]) rfl ⟨_, rfl, World.ownsRow_nil _ _ _ _, by simp [Value.ownBlock], hbz.bel⟩
        · have hs3 : startsL g p (p.toNat + 1 - (out ++ [a]).length) (a + y2) (out ++ [a]) = (rl, rb) := by simpa [hk0] using hs2
          have hk0b : (y1 == 0) = false := by simp [hk0]
          have hl1 := (k7 hk0).2
          have HN := Lib.hid hs3
          have HFF := Lib.hid hle
          clear hs2 hs3 hle k1 k2 k5 k6 k7 k8 hk0
          go_wp2_with fail
          refine wp_region_noPanic ?_
          refine wp_region_held_drew (S := fun w' => BS wr ([] : List Nat) w' ∧ (∀ o : Nat, w'.cell? ⟨w.heap.size, o, none⟩ = (#[.int .i64 t, .int .i64 p, .int .i64 s, .slice (some ad) n c] : Array Value)[o]?) ∧ w'.cell? (ad.add k) = some (.int .u32 v)) (by kernel_rfl) ?_ (fun hHeld => ?_)
          · exact ⟨(BS.start wr).drew, HBox.out, hc1⟩
          refine wpAnyH_take (i := 0) (oi := _) (v := ?_) rfl (by kernel_rfl) (by kernel_rfl) (by kernel_rfl) (fun _ _ _ h => h) (Or.inl ⟨by rfl, ?_⟩) (by assumption) ?_
          rotate_left
          · intro w hSw; (try dsimp only at hSw); go_simp; try with_reducible rfl
          try simp only [Act.put, List.getElem_toArray, List.getElem_cons_zero, List.setIfInBounds_toArray, List.set_cons_zero, List.set_cons_succ]
          refine wpAnyH_take (i := 1) (oi := _) (v := ?_) rfl (by kernel_rfl) (by kernel_rfl) (by kernel_rfl) (fun _ _ _ h => h) (Or.inl ⟨by rfl, ?_⟩) (by assumption) ?_
          rotate_left
          · intro w hSw; (try dsimp only at hSw); go_simp; try with_reducible rfl
          try simp only [Act.put, List.getElem_toArray, List.getElem_cons_zero, List.getElem_cons_succ, List.setIfInBounds_toArray, List.set_cons_zero, List.set_cons_succ]
          refine wpAnyH_take (i := 2) (oi := _) (v := ?_) rfl (by kernel_rfl) (by kernel_rfl) (by kernel_rfl) (fun _ _ _ h => h) (Or.inl ⟨by rfl, ?_⟩) (by assumption) ?_
          rotate_left
          · intro w hSw; (try dsimp only at hSw); go_simp; try with_reducible rfl
          try simp only [Act.put, List.getElem_toArray, List.getElem_cons_zero, List.getElem_cons_succ, List.setIfInBounds_toArray, List.set_cons_zero, List.set_cons_succ]
          refine wpAnyH_take (i := 3) (oi := _) (v := ?_) rfl (by kernel_rfl) (by kernel_rfl) (by kernel_rfl) (fun _ _ _ h => h) (Or.inl ⟨by rfl, ?_⟩) (by assumption) ?_
          rotate_left
          · intro w hSw; (try dsimp only at hSw); go_simp; try with_reducible rfl
          try simp only [Act.put, List.getElem_toArray, List.getElem_cons_zero, List.getElem_cons_succ, List.setIfInBounds_toArray, List.set_cons_zero, List.set_cons_succ]
          refine wpAnyH_take (i := 4) (oi := _) (v := ?_) rfl (by kernel_rfl) (by kernel_rfl) (by kernel_rfl) (fun _ _ _ h => h) (Or.inl ⟨by rfl, ?_⟩) (by assumption) ?_
          rotate_left
          · intro w hSw; (try dsimp only at hSw); go_simp; try with_reducible rfl
          try simp only [Act.put, List.getElem_toArray, List.getElem_cons_zero, List.getElem_cons_succ, List.setIfInBounds_toArray, List.set_cons_zero, List.set_cons_succ]
          refine wpAnyH_ready (rs := [5, 12]) (by kernel_rfl) (by simp) ?_
          refine AllReadyH.cons (o := _) rfl (fun K hK => ?_) (AllReadyH.cons (o := _) rfl (fun K hK => ?_) AllReadyH.nil)
          · go_simp
            refine (calls_b hHeld.1 (HI9.out _)).mono ?_
            rintro e wr1 ⟨rfl, hV, hVl⟩
            dsimp only
            refine hK.out _ _ ?_ (fun hHeld2 => ?_)
            · exact ⟨hV, hV.oldbox HBox.out hlt0, hV.old hc1⟩
            clear hK K hV hVl hHeld
            have hHeld := hHeld2
            clear hHeld2
            try simp only [Act.put, List.getElem_toArray, List.getElem_cons_zero, List.getElem_cons_succ, List.setIfInBounds_toArray, List.set_cons_zero, List.set_cons_succ]
            refine wpAnyH_take (i := 6) (oi := _) (v := ?_) rfl (by kernel_rfl) (by kernel_rfl) (by kernel_rfl) (fun _ _ _ h => h) (Or.inl ⟨by rfl, ?_⟩) (by assumption) ?_
            rotate_left
            · intro w hSw; (try dsimp only at hSw); go_simp; try with_reducible rfl
            try simp only [Act.put, List.getElem_toArray, List.getElem_cons_zero, List.getElem_cons_succ, List.setIfInBounds_toArray, List.set_cons_zero, List.set_cons_succ]
            refine wpAnyH_take (i := 7) (oi := _) (v := ?_) rfl (by kernel_rfl) (by kernel_rfl) (by kernel_rfl) (fun _ _ _ h => h) (Or.inl ⟨by rfl, ?_⟩) (by assumption) ?_
            rotate_left
            · intro w hSw; (try dsimp only at hSw); go_simp; try with_reducible rfl
            try simp only [Act.put, List.getElem_toArray, List.getElem_cons_zero, List.getElem_cons_succ, List.setIfInBounds_toArray, List.set_cons_zero, List.set_cons_succ]
            refine wpAnyH_ready (rs := [8, 12]) (by kernel_rfl) (by simp) ?_
            refine AllReadyH.cons (o := _) rfl (fun K hK => ?_) (AllReadyH.cons (o := _) rfl (fun K hK => ?_) AllReadyH.nil)
            · go_simp
              refine (calls_b hHeld.1 (HG9.out _)).mono ?_
              rintro e wr2 ⟨rfl, hV, hVl⟩
              dsimp only
              refine hK.out _ _ ?_ (fun hHeld2 => ?_)
              · exact ⟨hV, hV.oldbox HBox.out hlt0, hV.old hc1⟩
              clear hK K hV hVl hHeld
              have hHeld := hHeld2
              clear hHeld2
              try simp only [Act.put, List.getElem_toArray, List.getElem_cons_zero, List.getElem_cons_succ, List.setIfInBounds_toArray, List.set_cons_zero, List.set_cons_succ]
              refine wpAnyH_take (i := 9) (oi := _) (v := ?_) rfl (by kernel_rfl) (by kernel_rfl) (by kernel_rfl) (fun _ _ _ h => h) (Or.inl ⟨by rfl, ?_⟩) (by assumption) ?_
              rotate_left
              · intro w hSw; (try dsimp only at hSw); go_simp; try with_reducible rfl
              try simp only [Act.put, List.getElem_toArray, List.getElem_cons_zero, List.getElem_cons_succ, List.setIfInBounds_toArray, List.set_cons_zero, List.set_cons_succ]
              refine wpAnyH_take (i := 10) (oi := _) (v := ?_) rfl (by kernel_rfl) (by kernel_rfl) (by kernel_rfl) (fun _ _ _ h => h) (Or.inl ⟨by rfl, ?_⟩) (by assumption) ?_
              rotate_left
              · intro w hSw; (try dsimp only at hSw); go_simp; try with_reducible rfl
              try simp only [Act.put, List.getElem_toArray, List.getElem_cons_zero, List.getElem_cons_succ, List.setIfInBounds_toArray, List.set_cons_zero, List.set_cons_succ]
              refine wpAnyH_take (i := 11) (oi := _) (v := ?_) rfl (by kernel_rfl) (by kernel_rfl) (by kernel_rfl) (fun _ _ _ h => h) (Or.inl ⟨by rfl, ?_⟩) (by assumption) ?_
              rotate_left
              · intro w hSw; (try dsimp only at hSw); go_simp; try with_reducible rfl
              try simp only [Act.put, List.getElem_toArray, List.getElem_cons_zero, List.getElem_cons_succ, List.setIfInBounds_toArray, List.set_cons_zero, List.set_cons_succ]
              refine wpAnyH_ready (rs := [12]) (by kernel_rfl) (by simp) ?_
              refine AllReadyH.cons (o := _) rfl (fun K hK => ?_) AllReadyH.nil
              have hP := hHeld
              have hA := hHeld.1.allocd (#[.int .i64 0, .int .i64 0, .int .i64 0]) 111
              try simp only [World.size_drew] at hA
              try simp only [World.size_alloc] at hA
              go_simp
              refine hK.out _ _ ?_ (fun hHeld2 => ?_)
              · exact ⟨hA.bs.sub _ (by simp), hA.bs.oldbox HBox.out hlt0, hA.bs.old hc1⟩
              clear hK K hHeld
              have hHeld := hHeld2
              clear hHeld2
              try simp only [Act.put, List.getElem_toArray, List.getElem_cons_zero, List.getElem_cons_succ, List.setIfInBounds_toArray, List.set_cons_zero, List.set_cons_succ]
              refine wpAnyH_ready (rs := [13]) (by kernel_rfl) (by simp) ?_
              refine AllReadyH.cons (o := _) rfl (fun K hK => ?_) AllReadyH.nil
              go_simp
              have hA2 := (hP.1).allocd (#[.int .i64 y1 , .int .i64 y2 , .int .i64 y3]) 111
              refine hK.out _ _ ?_ (fun hHeld2 => ?_)
              try simp only [World.size_drew] at hA2
              try simp only [World.size_alloc] at hA2
              · exact ⟨hA2.bs.sub _ (by simp), hA2.bs.oldbox HBox.out hlt0, hA2.bs.old hc1⟩
              clear hA hP
              have hA := hA2
              clear hA2 hHeld
              have hHeld := hHeld2
              clear hHeld2
              clear hK K
              try simp only [Act.put, List.getElem_toArray, List.getElem_cons_zero, List.getElem_cons_succ, List.setIfInBounds_toArray, List.set_cons_zero, List.set_cons_succ]
              refine wpAnyH_take (i := 14) (oi := _) (v := ?_) rfl (by kernel_rfl) (by kernel_rfl) (by kernel_rfl) (fun _ _ _ h => h) (Or.inl ⟨by rfl, ?_⟩) (by assumption) ?_
              rotate_left
              · intro w hSw; (try dsimp only at hSw); go_simp; try with_reducible rfl
              try simp only [Act.put, List.getElem_toArray, List.getElem_cons_zero, List.getElem_cons_succ, List.setIfInBounds_toArray, List.set_cons_zero, List.set_cons_succ]
              refine wpAnyH_done (by kernel_rfl) ?_ _
              refine NoPanic.normal ?_
              refine world_gen ?_
              intro wz hwz
              rw [← hwz] at hHeld hA
              clear hwz
              have rz := hHeld.1.row HRow.out
              have bz0 := hHeld.2.1 0
              have bz1 := hHeld.2.1 1
              simp at bz0 bz1
              have hne := hA.bs.ls
              have hbz := HB.out.below hA.bs.bel
              obtain ⟨⟨q0, q1, q2⟩, f0, f1, f2, z1, z2, bel⟩ := hA.cells3
              have hBA := Lib.hid hA
              have hzb := Lib.hid hHeld.2.1
              clear hHeld hA hne
              go_wp2_with (at_builtin; go_must (refine wpL_append rfl _ _ rfl 3 i0 (.int .i64 0) 1 8 Tryz.underlying52 HI.out.1 HI.out.2.1 HI.out.2.2.1 HI.out.2.2.2 rfl (by decide) (.slice pa out.length pc) out.length (ints out) rfl (rz.alloc _) ⟨wz.heap.size, 0, none⟩ 1 1 [.int .i64 a] rfl rfl (cell_one_new _ _ _) ?c1 ?c2 ?c3 ?_); go_must (case c1 => (simp [Value.oneCell'])); go_must (case c2 => (have := HFF.out; unfold maxLen; omega)); go_must (case c3 => (have := HFF.out; omega)); go_must (intro v' w5 hown5 hg5 hnew5 hnil5); clear hnil5; go_must (obtain ⟨g', cap', rfl⟩ := Joins.ownsRow_form hown5 (by omega)); go_must (have qz := hBA.out.grown hg5 (fun k hk => ownsRow_lt HRow.out hk)); go_must (have qz1 := qz 1); go_must (simp at qz1); clear qz)
              go_roundw
              case rel =>
                refine ⟨out ++ [a], a + y2, rfl, by omega, by omega, by simpa [ints] using hown5, hbz.append hg5 hnew5 hown5, ?_, ?_, HN.out, ?_⟩
                · exact loc_grown hg5 (by have := bel.size; simp; omega) (fun e => by have := HF.out _ e; omega) (loc_old _ (by have := bel.size; omega) hzb.out)
                · have := HFF.out; simp; omega
                · exact fun k hk => (hnew5 k hk).elim (HF.out k) (fun h => by have := bel.size; simp at h; omega)
              case measure => simp [lenS]; have := HFF.out; omega
            · have hP := hHeld
              have hA := hHeld.1.allocd (#[.int .i64 0, .int .i64 0, .int .i64 0]) 111
              try simp only [World.size_drew] at hA
              try simp only [World.size_alloc] at hA
              go_simp
              refine hK.out _ _ ?_ (fun hHeld2 => ?_)
              · exact ⟨hA.bs.sub _ (by simp), hA.bs.oldbox HBox.out hlt0, hA.bs.old hc1⟩
              clear hK K hHeld
              have hHeld := hHeld2
              clear hHeld2
              try simp only [Act.put, List.getElem_toArray, List.getElem_cons_zero, List.getElem_cons_succ, List.setIfInBounds_toArray, List.set_cons_zero, List.set_cons_succ]
              refine wpAnyH_ready (rs := [8]) (by kernel_rfl) (by simp) ?_
              refine AllReadyH.cons (o := _) rfl (fun K hK => ?_) AllReadyH.nil
              go_simp
              refine (calls_b hA.bs (HG9.out _)).mono ?_
              rintro e wr3 ⟨rfl, hV, hVl⟩
              have hAn := hA.step hV hVl
              dsimp only
              refine hK.out _ _ ?_ (fun hHeld2 => ?_)
              · exact ⟨hV.sub _ (by simp), hV.oldbox HBox.out hlt0, hV.old hc1⟩
              clear hK K hV hVl hHeld hA hP
              have hA := hAn
              have hP := trivial
              clear hAn
              have hHeld := hHeld2
              clear hHeld2
              try simp only [Act.put, List.getElem_toArray, List.getElem_cons_zero, List.getElem_cons_succ, List.setIfInBounds_toArray, List.set_cons_zero, List.set_cons_succ]
              refine wpAnyH_take (i := 9) (oi := _) (v := ?_) rfl (by kernel_rfl) (by kernel_rfl) (by kernel_rfl) (fun _ _ _ h => h) (Or.inl ⟨by rfl, ?_⟩) (by assumption) ?_
              rotate_left
              · intro w hSw; (try dsimp only at hSw); go_simp; try with_reducible rfl
              try simp only [Act.put, List.getElem_toArray, List.getElem_cons_zero, List.getElem_cons_succ, List.setIfInBounds_toArray, List.set_cons_zero, List.set_cons_succ]
              refine wpAnyH_take (i := 10) (oi := _) (v := ?_) rfl (by kernel_rfl) (by kernel_rfl) (by kernel_rfl) (fun _ _ _ h => h) (Or.inl ⟨by rfl, ?_⟩) (by assumption) ?_
              rotate_left
              · intro w hSw; (try dsimp only at hSw); go_simp; try with_reducible rfl
              try simp only [Act.put, List.getElem_toArray, List.getElem_cons_zero, List.getElem_cons_succ, List.setIfInBounds_toArray, List.set_cons_zero, List.set_cons_succ]
              refine wpAnyH_take (i := 11) (oi := _) (v := ?_) rfl (by kernel_rfl) (by kernel_rfl) (by kernel_rfl) (fun _ _ _ h => h) (Or.inl ⟨by rfl, ?_⟩) (by assumption) ?_
              rotate_left
              · intro w hSw; (try dsimp only at hSw); go_simp; try with_reducible rfl
              try simp only [Act.put, List.getElem_toArray, List.getElem_cons_zero, List.getElem_cons_succ, List.setIfInBounds_toArray, List.set_cons_zero, List.set_cons_succ]
              refine wpAnyH_ready (rs := [13]) (by kernel_rfl) (by simp) ?_
              refine AllReadyH.cons (o := _) rfl (fun K hK => ?_) AllReadyH.nil
              have kc0 := (cell?_of_heap (o := 0) hA.box)
              have kc1 := (cell?_of_heap (o := 1) hA.box)
              have kc2 := (cell?_of_heap (o := 2) hA.box)
              simp at kc0 kc1 kc2
              have kf0 := frozen?_of_heap (o := 0) hA.box
              have kf1 := frozen?_of_heap (o := 1) hA.box
              have kf2 := frozen?_of_heap (o := 2) hA.box
              go_simp
              refine hK.out _ _ ?_ (fun hHeld2 => ?_)
              · exact ⟨(((hA.set 0 _).set 1 _).set 2 _).bs.sub _ (by simp), (((hA.set 0 _).set 1 _).set 2 _).bs.oldbox HBox.out hlt0, (((hA.set 0 _).set 1 _).set 2 _).bs.old hc1⟩
              have hA2 : BA wr ([] : List Nat) _ (#[.int .i64 y1 , .int .i64 y2 , .int .i64 y3]) 111 _ := (((hA.set 0 (.int .i64 y1)).set 1 (.int .i64 y2)).set 2 (.int .i64 y3))
              clear kc0 kf0 kc1 kf1 kc2 kf2 hA hP
              have hA := hA2
              clear hA2 hHeld
              have hHeld := hHeld2
              clear hHeld2
              clear hK K
              try simp only [Act.put, List.getElem_toArray, List.getElem_cons_zero, List.getElem_cons_succ, List.setIfInBounds_toArray, List.set_cons_zero, List.set_cons_succ]
              refine wpAnyH_take (i := 14) (oi := _) (v := ?_) rfl (by kernel_rfl) (by kernel_rfl) (by kernel_rfl) (fun _ _ _ h => h) (Or.inl ⟨by rfl, ?_⟩) (by assumption) ?_
              rotate_left
              · intro w hSw; (try dsimp only at hSw); go_simp; try with_reducible rfl
              try simp only [Act.put, List.getElem_toArray, List.getElem_cons_zero, List.getElem_cons_succ, List.setIfInBounds_toArray, List.set_cons_zero, List.set_cons_succ]
              refine wpAnyH_done (by kernel_rfl) ?_ _
              refine NoPanic.normal ?_
              refine world_gen ?_
              intro wz hwz
              rw [← hwz] at hHeld hA
              clear hwz
              have rz := hHeld.1.row HRow.out
              have bz0 := hHeld.2.1 0
              have bz1 := hHeld.2.1 1
              simp at bz0 bz1
              have hne := hA.bs.ls
              have hbz := HB.out.below hA.bs.bel
              obtain ⟨⟨q0, q1, q2⟩, f0, f1, f2, z1, z2, bel⟩ := hA.cells3
              have hBA := Lib.hid hA
              have hzb := Lib.hid hHeld.2.1
              clear hHeld hA hne
              go_wp2_with (at_builtin; go_must (refine wpL_append rfl _ _ rfl 3 i0 (.int .i64 0) 1 8 Tryz.underlying52 HI.out.1 HI.out.2.1 HI.out.2.2.1 HI.out.2.2.2 rfl (by decide) (.slice pa out.length pc) out.length (ints out) rfl (rz.alloc _) ⟨wz.heap.size, 0, none⟩ 1 1 [.int .i64 a] rfl rfl (cell_one_new _ _ _) ?c1 ?c2 ?c3 ?_); go_must (case c1 => (simp [Value.oneCell'])); go_must (case c2 => (have := HFF.out; unfold maxLen; omega)); go_must (case c3 => (have := HFF.out; omega)); go_must (intro v' w5 hown5 hg5 hnew5 hnil5); clear hnil5; go_must (obtain ⟨g', cap', rfl⟩ := Joins.ownsRow_form hown5 (by omega)); go_must (have qz := hBA.out.grown hg5 (fun k hk => ownsRow_lt HRow.out hk)); go_must (have qz1 := qz 1); go_must (simp at qz1); clear qz)
              go_roundw
              case rel =>
                refine ⟨out ++ [a], a + y2, rfl, by omega, by omega, by simpa [ints] using hown5, hbz.append hg5 hnew5 hown5, ?_, ?_, HN.out, ?_⟩
                · exact loc_grown hg5 (by have := bel.size; simp; omega) (fun e => by have := HF.out _ e; omega) (loc_old _ (by have := bel.size; omega) hzb.out)
                · have := HFF.out; simp; omega
                · exact fun k hk => (hnew5 k hk).elim (HF.out k) (fun h => by have := bel.size; simp at h; omega)
              case measure => simp [lenS]; have := HFF.out; omega
          · have hP := hHeld
            have hA := hHeld.1.allocd (#[.int .i64 0, .int .i64 0, .int .i64 0]) 111
            try simp only [World.size_drew] at hA
            try simp only [World.size_alloc] at hA
            go_simp
            refine hK.out _ _ ?_ (fun hHeld2 => ?_)
            · exact ⟨hA.bs.sub _ (by simp), hA.bs.oldbox HBox.out hlt0, hA.bs.old hc1⟩
            clear hK K hHeld
            have hHeld := hHeld2
            clear hHeld2
            try simp only [Act.put, List.getElem_toArray, List.getElem_cons_zero, List.getElem_cons_succ, List.setIfInBounds_toArray, List.set_cons_zero, List.set_cons_succ]
            refine wpAnyH_ready (rs := [5]) (by kernel_rfl) (by simp) ?_
            refine AllReadyH.cons (o := _) rfl (fun K hK => ?_) AllReadyH.nil
            go_simp
            refine (calls_b hA.bs (HI9.out _)).mono ?_
            rintro e wr4 ⟨rfl, hV, hVl⟩
            have hAn := hA.step hV hVl
            dsimp only
            refine hK.out _ _ ?_ (fun hHeld2 => ?_)
            · exact ⟨hV.sub _ (by simp), hV.oldbox HBox.out hlt0, hV.old hc1⟩
            clear hK K hV hVl hHeld hA hP
            have hA := hAn
            have hP := trivial
            clear hAn
            have hHeld := hHeld2
            clear hHeld2
            try simp only [Act.put, List.getElem_toArray, List.getElem_cons_zero, List.getElem_cons_succ, List.setIfInBounds_toArray, List.set_cons_zero, List.set_cons_succ]
            refine wpAnyH_take (i := 6) (oi := _) (v := ?_) rfl (by kernel_rfl) (by kernel_rfl) (by kernel_rfl) (fun _ _ _ h => h) (Or.inl ⟨by rfl, ?_⟩) (by assumption) ?_
            rotate_left
            · intro w hSw; (try dsimp only at hSw); go_simp; try with_reducible rfl
            try simp only [Act.put, List.getElem_toArray, List.getElem_cons_zero, List.getElem_cons_succ, List.setIfInBounds_toArray, List.set_cons_zero, List.set_cons_succ]
            refine wpAnyH_take (i := 7) (oi := _) (v := ?_) rfl (by kernel_rfl) (by kernel_rfl) (by kernel_rfl) (fun _ _ _ h => h) (Or.inl ⟨by rfl, ?_⟩) (by assumption) ?_
            rotate_left
            · intro w hSw; (try dsimp only at hSw); go_simp; try with_reducible rfl
            try simp only [Act.put, List.getElem_toArray, List.getElem_cons_zero, List.getElem_cons_succ, List.setIfInBounds_toArray, List.set_cons_zero, List.set_cons_succ]
            refine wpAnyH_ready (rs := [8]) (by kernel_rfl) (by simp) ?_
            refine AllReadyH.cons (o := _) rfl (fun K hK => ?_) AllReadyH.nil
            go_simp
            refine (calls_b hA.bs (HG9.out _)).mono ?_
            rintro e wr5 ⟨rfl, hV, hVl⟩
            have hAn := hA.step hV hVl
            dsimp only
            refine hK.out _ _ ?_ (fun hHeld2 => ?_)
            · exact ⟨hV.sub _ (by simp), hV.oldbox HBox.out hlt0, hV.old hc1⟩
            clear hK K hV hVl hHeld hA hP
            have hA := hAn
            have hP := trivial
            clear hAn
            have hHeld := hHeld2
            clear hHeld2
            try simp only [Act.put, List.getElem_toArray, List.getElem_cons_zero, List.getElem_cons_succ, List.setIfInBounds_toArray, List.set_cons_zero, List.set_cons_succ]
            refine wpAnyH_take (i := 9) (oi := _) (v := ?_) rfl (by kernel_rfl) (by kernel_rfl) (by kernel_rfl) (fun _ _ _ h => h) (Or.inl ⟨by rfl, ?_⟩) (by assumption) ?_
            rotate_left
            · intro w hSw; (try dsimp only at hSw); go_simp; try with_reducible rfl
            try simp only [Act.put, List.getElem_toArray, List.getElem_cons_zero, List.getElem_cons_succ, List.setIfInBounds_toArray, List.set_cons_zero, List.set_cons_succ]
            refine wpAnyH_take (i := 10) (oi := _) (v := ?_) rfl (by kernel_rfl) (by kernel_rfl) (by kernel_rfl) (fun _ _ _ h => h) (Or.inl ⟨by rfl, ?_⟩) (by assumption) ?_
            rotate_left
            · intro w hSw; (try dsimp only at hSw); go_simp; try with_reducible rfl
            try simp only [Act.put, List.getElem_toArray, List.getElem_cons_zero, List.getElem_cons_succ, List.setIfInBounds_toArray, List.set_cons_zero, List.set_cons_succ]
            refine wpAnyH_take (i := 11) (oi := _) (v := ?_) rfl (by kernel_rfl) (by kernel_rfl) (by kernel_rfl) (fun _ _ _ h => h) (Or.inl ⟨by rfl, ?_⟩) (by assumption) ?_
            rotate_left
            · intro w hSw; (try dsimp only at hSw); go_simp; try with_reducible rfl
            try simp only [Act.put, List.getElem_toArray, List.getElem_cons_zero, List.getElem_cons_succ, List.setIfInBounds_toArray, List.set_cons_zero, List.set_cons_succ]
            refine wpAnyH_ready (rs := [13]) (by kernel_rfl) (by simp) ?_
            refine AllReadyH.cons (o := _) rfl (fun K hK => ?_) AllReadyH.nil
            have kc0 := (cell?_of_heap (o := 0) hA.box)
            have kc1 := (cell?_of_heap (o := 1) hA.box)
            have kc2 := (cell?_of_heap (o := 2) hA.box)
            simp at kc0 kc1 kc2
            have kf0 := frozen?_of_heap (o := 0) hA.box
            have kf1 := frozen?_of_heap (o := 1) hA.box
            have kf2 := frozen?_of_heap (o := 2) hA.box
            go_simp
            refine hK.out _ _ ?_ (fun hHeld2 => ?_)
            · exact ⟨(((hA.set 0 _).set 1 _).set 2 _).bs.sub _ (by simp), (((hA.set 0 _).set 1 _).set 2 _).bs.oldbox HBox.out hlt0, (((hA.set 0 _).set 1 _).set 2 _).bs.old hc1⟩
            have hA2 : BA wr ([] : List Nat) _ (#[.int .i64 y1 , .int .i64 y2 , .int .i64 y3]) 111 _ := (((hA.set 0 (.int .i64 y1)).set 1 (.int .i64 y2)).set 2 (.int .i64 y3))
            clear kc0 kf0 kc1 kf1 kc2 kf2 hA hP
            have hA := hA2
            clear hA2 hHeld
            have hHeld := hHeld2
            clear hHeld2
            clear hK K
            try simp only [Act.put, List.getElem_toArray, List.getElem_cons_zero, List.getElem_cons_succ, List.setIfInBounds_toArray, List.set_cons_zero, List.set_cons_succ]
            refine wpAnyH_take (i := 14) (oi := _) (v := ?_) rfl (by kernel_rfl) (by kernel_rfl) (by kernel_rfl) (fun _ _ _ h => h) (Or.inl ⟨by rfl, ?_⟩) (by assumption) ?_
            rotate_left
            · intro w hSw; (try dsimp only at hSw); go_simp; try with_reducible rfl
            try simp only [Act.put, List.getElem_toArray, List.getElem_cons_zero, List.getElem_cons_succ, List.setIfInBounds_toArray, List.set_cons_zero, List.set_cons_succ]
            refine wpAnyH_done (by kernel_rfl) ?_ _
            refine NoPanic.normal ?_
            refine world_gen ?_
            intro wz hwz
            rw [← hwz] at hHeld hA
            clear hwz
            have rz := hHeld.1.row HRow.out
            have bz0 := hHeld.2.1 0
            have bz1 := hHeld.2.1 1
            simp at bz0 bz1
            have hne := hA.bs.ls
            have hbz := HB.out.below hA.bs.bel
            obtain ⟨⟨q0, q1, q2⟩, f0, f1, f2, z1, z2, bel⟩ := hA.cells3
            have hBA := Lib.hid hA
            have hzb := Lib.hid hHeld.2.1
            clear hHeld hA hne
            go_wp2_with (at_builtin; go_must (refine wpL_append rfl _ _ rfl 3 i0 (.int .i64 0) 1 8 Tryz.underlying52 HI.out.1 HI.out.2.1 HI.out.2.2.1 HI.out.2.2.2 rfl (by decide) (.slice pa out.length pc) out.length (ints out) rfl (rz.alloc _) ⟨wz.heap.size, 0, none⟩ 1 1 [.int .i64 a] rfl rfl (cell_one_new _ _ _) ?c1 ?c2 ?c3 ?_); go_must (case c1 => (simp [Value.oneCell'])); go_must (case c2 => (have := HFF.out; unfold maxLen; omega)); go_must (case c3 => (have := HFF.out; omega)); go_must (intro v' w5 hown5 hg5 hnew5 hnil5); clear hnil5; go_must (obtain ⟨g', cap', rfl⟩ := Joins.ownsRow_form hown5 (by omega)); go_must (have qz := hBA.out.grown hg5 (fun k hk => ownsRow_lt HRow.out hk)); go_must (have qz1 := qz 1); go_must (simp at qz1); clear qz)
            go_roundw
            case rel =>
              refine ⟨out ++ [a], a + y2, rfl, by omega, by omega, by simpa [ints] using hown5, hbz.append hg5 hnew5 hown5, ?_, ?_, HN.out, ?_⟩
              · exact loc_grown hg5 (by have := bel.size; simp; omega) (fun e => by have := HF.out _ e; omega) (loc_old _ (by have := bel.size; omega) hzb.out)
              · have := HFF.out; simp; omega
              · exact fun k hk => (hnew5 k hk).elim (HF.out k) (fun h => by have := bel.size; simp at h; omega)
            case measure => simp [lenS]; have := HFF.out; omega
    · have hs2 : (out, a == p) = (rl, rb) := by
        have e0 := HS.out
        have e1 : p.toNat + 1 - out.length = (p.toNat - out.length) + 1 := by omega
        rw [e1] at e0
        simpa [startsL, hlt] using e0
      obtain ⟨rfl, rfl⟩ := Prod.mk.inj hs2
      clear HXX HS hs2
      go_wp2
      go_region
      all_goals
        go_wp2
        refine bodyPost_ret (v := .tuple #[.slice pa out.length pc, .bool (a == p)]) (by simp [results, Tryz.results132, go_sem, *]) rfl ⟨_, rfl, ?_⟩
        exact ⟨ownsRow_block HRow.out (fun _ _ => rfl), fun k hk => Nat.le_of_lt (HF.out k hk), HB.out.bel.drew⟩
end
end Go.Proofs.YtcicmljnjdhkjaaGreat
