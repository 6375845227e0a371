/- parts of the proof, merged by a program. -/
import Derived.Test.YtpmoajhpgekhcaaGreatMsa1
set_option linter.unusedSimpArgs false
set_option linter.unusedVariables false
/- the document's audit: the bits of pages, the starts of spans. -/
set_option linter.unusedSimpArgs false
set_option linter.unusedVariables false
namespace Go.Proofs.YtpmoajhpgekhcaaGreat
open Go.RowKit
section
variable {t p s : Int} {ad : Addr} {n : Nat} {vs : List Int}

theorem xslots_any (q : Int) (c : Nat) (w : World) (h : XV w t p s ad n vs) (h0 : 0 ≤ q) (h1 : q < p) :
    Calls Tryz.prog 63 #[.agg #[.int .i64 t, .int .i64 p, .int .i64 s, .slice (some ad) n c], .int .i64 q] w fun e w' => e = .returned (.int .u32 (gv vs t q 4)) ∧ Below w.heap.size w w' := by
  obtain ⟨hx1, hx2⟩ := h.cx h0 h1 (part := 4) (by omega) (by omega)
  have hc0 := h.cells _ hx1
  have hI := fun w => rslots_any t p s q w
  rw [hx2] at hI
  have hd : vs.getD (cix t q 4) 0 = gv vs t q 4 := rfl
  rw [hd] at hc0
  generalize gv vs t q 4 = v at *
  generalize cix t q 4 = k at *
  have H1 := Lib.hid hI
  clear h hd hI hx2
  have hS0 := ((BS.start w).alloc (.cells #[.int .i64 t, .int .i64 p, .int .i64 s, .slice (some ad) n c] 88))
  go_enter Tryz.func63, Tryz.ntmps63
  go_wp2_with fail
  refine wp_region_noPanic ?_
  refine wp_region_held_drew (S := fun w' => BS w [w.heap.size] w' ∧ (∀ o : Nat, w'.cell? ⟨w.heap.size, o, none⟩ = (#[.int .i64 t, .int .i64 p, .int .i64 s, .slice (some ad) n c] : Array Value)[o]?) ∧ w'.cell? (ad.add k) = some (.int .u32 v)) (by kernel_rfl) ?_ (fun hHeld => ?_)
  · exact ⟨hS0.drew, (loc_alloc w _ _), hS0.drew.old hc0⟩
  refine wT 0 ?_
  refine wT 1 ?_
  refine wT 2 ?_
  refine wT 3 ?_
  refine wT 4 ?_
  refine wR 5 fun K hK => ?_
  go_simp
  refine (calls_b hHeld.1 (H1.out _)).mono ?_
  rintro e wr1 ⟨rfl, hV, hVl⟩
  dsimp only
  refine hK.out _ _ ?_ (fun hHeld2 => ?_)
  · exact ⟨hV, loc_step hVl (by simp) hHeld.2.1, hV.old hc0⟩
  clear hK K hV hVl hHeld
  have hHeld := hHeld2
  clear hHeld2
  try simp only [Act.put, zA, zB, zC, zD, zE, zF]
  refine wT 6 ?_
  refine wT 7 ?_
  refine wT 8 ?_
  refine wpAnyH_done (by kernel_rfl) (NoPanic.normal ?_) _
  refine world_gen ?_
  intro wz hwz
  rw [← hwz] at hHeld
  clear hwz
  have bel := hHeld.1.bel
  clear hHeld hS0 hc0 H1
  go_wp2
  go_ret
  exact ⟨rfl, bel⟩

theorem xtaken_any (q : Int) (c : Nat) (w : World) (h : XV w t p s ad n vs) (h0 : 0 ≤ q) (h1 : q < p) :
    Calls Tryz.prog 64 #[.agg #[.int .i64 t, .int .i64 p, .int .i64 s, .slice (some ad) n c], .int .i64 q] w fun e w' => e = .returned (.int .u32 (gv vs t q 5)) ∧ Below w.heap.size w w' := by
  obtain ⟨hx1, hx2⟩ := h.cx h0 h1 (part := 5) (by omega) (by omega)
  have hc0 := h.cells _ hx1
  have hI := fun w => rtaken_any t p s q w
  rw [hx2] at hI
  have hd : vs.getD (cix t q 5) 0 = gv vs t q 5 := rfl
  rw [hd] at hc0
  generalize gv vs t q 5 = v at *
  generalize cix t q 5 = k at *
  have H1 := Lib.hid hI
  clear h hd hI hx2
  have hS0 := ((BS.start w).alloc (.cells #[.int .i64 t, .int .i64 p, .int .i64 s, .slice (some ad) n c] 88))
  go_enter Tryz.func64, Tryz.ntmps64
  go_wp2_with fail
  refine wp_region_noPanic ?_
  refine wp_region_held_drew (S := fun w' => BS w [w.heap.size] w' ∧ (∀ o : Nat, w'.cell? ⟨w.heap.size, o, none⟩ = (#[.int .i64 t, .int .i64 p, .int .i64 s, .slice (some ad) n c] : Array Value)[o]?) ∧ w'.cell? (ad.add k) = some (.int .u32 v)) (by kernel_rfl) ?_ (fun hHeld => ?_)
  · exact ⟨hS0.drew, (loc_alloc w _ _), hS0.drew.old hc0⟩
  refine wT 0 ?_
  refine wT 1 ?_
  refine wT 2 ?_
  refine wT 3 ?_
  refine wT 4 ?_
  refine wR 5 fun K hK => ?_
  go_simp
  refine (calls_b hHeld.1 (H1.out _)).mono ?_
  rintro e wr1 ⟨rfl, hV, hVl⟩
  dsimp only
  refine hK.out _ _ ?_ (fun hHeld2 => ?_)
  · exact ⟨hV, loc_step hVl (by simp) hHeld.2.1, hV.old hc0⟩
  clear hK K hV hVl hHeld
  have hHeld := hHeld2
  clear hHeld2
  try simp only [Act.put, zA, zB, zC, zD, zE, zF]
  refine wT 6 ?_
  refine wT 7 ?_
  refine wT 8 ?_
  refine wpAnyH_done (by kernel_rfl) (NoPanic.normal ?_) _
  refine world_gen ?_
  intro wz hwz
  rw [← hwz] at hHeld
  clear hwz
  have bel := hHeld.1.bel
  clear hHeld hS0 hc0 H1
  go_wp2
  go_ret
  exact ⟨rfl, bel⟩

/-- a new row of numbers comes back. -/
def RowP (w : World) (l : List Int) (v : Value) (w' : World) : Prop :=
  w'.ownsRow 0 3 1 v l.length (ints l) ∧ (∀ k, v.ownBlock = some k → w.heap.size ≤ k) ∧ Below w.heap.size w w'

def startsL (g : Int → Int) (p : Int) : Nat → Int → List Int → List Int × Bool
  | 0, a, out => (out, a == p)
  | f + 1, a, out => if a < p then (if okI (g a) = false ∨ iK (g a) = 0 then ([], false) else startsL g p f (a + iL (g a)) (out ++ [a])) else (out, a == p)
def startsF (g : Int → Int) (p : Int) : List Int × Bool := startsL g p (p.toNat + 1) 0 []

structure StRel (w : World) (g : Int → Int) (t p s : Int) (sl : Value) (res : List Int × Bool) (v4 v5 : Value) (wr : World) (out : List Int) (a : Int) : Prop where
  ha : v5 = .int .i64 a
  a0 : 0 ≤ a
  a1 : a ≤ p + 1024
  row : wr.ownsRow 0 3 1 v4 out.length (ints out)
  bs : BS w (w.heap.size :: v4.ownBlock.toList) wr
  box : ∀ o : Nat, wr.cell? ⟨w.heap.size, o, none⟩ = (#[.int .i64 t, .int .i64 p, .int .i64 s, sl] : Array Value)[o]?
  le : (out.length : Int) ≤ a ∧ (out.length : Int) ≤ p
  res : startsL g p (p.toNat + 1 - out.length) a out = res
  far : ∀ k, v4.ownBlock = some k → w.heap.size < k
def StRelE (w : World) (g : Int → Int) (t p s : Int) (sl : Value) (res : List Int × Bool) (v4 v5 : Value) (wr : World) : Prop := ∃ out a, StRel w g t p s sl res v4 v5 wr out a

set_option maxHeartbeats 2000000 in
set_option maxRecDepth 100000 in
theorem starts_any (c : Nat) (w : World) (h : XV w t p s ad n vs) :
    Calls Tryz.prog 58 #[.agg #[.int .i64 t, .int .i64 p, .int .i64 s, .slice (some ad) n c]] w fun e w' => ∃ v, e = .returned (.tuple #[v, .bool (startsF (fun q => gv vs t q 0) p).2]) ∧ RowP w (startsF (fun q => gv vs t q 0) p).1 v w' := by
  have r0 := row_empty (w.alloc (.cells #[.int .i64 t, .int .i64 p, .int .i64 s, .slice (some ad) n c] 88)) 3 1
  have hS0 := ((BS.start w).alloc (.cells #[.int .i64 t, .int .i64 p, .int .i64 s, .slice (some ad) n c] 88)).alloc (.cells #[] 3)
  have d0 := loc_old (.cells #[] 3) (by simp) (loc_alloc w #[.int .i64 t, .int .i64 p, .int .i64 s, .slice (some ad) n c] 88)
  simp only [World.size_alloc] at hS0 r0
  have bd : 4 ≤ p ∧ p ≤ 1024 := by have := h.bd; omega
  have hres0 : startsL (fun q => gv vs t q 0) p (p.toNat + 1) 0 [] = startsF (fun q => gv vs t q 0) p := rfl
  have HX : ∀ q, 0 ≤ q → q < p → ∃ k : Nat, k < n ∧ (∀ w, Calls Tryz.prog 59 #[.agg #[.int .i64 t, .int .i64 p, .int .i64 s], .int .i64 q] w fun e w' => e = .returned (.int .i64 k) ∧ Below w.heap.size w w') ∧ w.cell? (ad.add k) = some (.int .u32 (gv vs t q 0)) ∧ 0 ≤ gv vs t q 0 ∧ gv vs t q 0 < 4294967296 := by
    intro q h0 h1
    obtain ⟨hx1, hx2⟩ := h.cx h0 h1 (part := 0) (by omega) (by omega)
    refine ⟨cix t q 0, hx1, fun w => ?_, h.cells _ hx1, h.gu q 0⟩
    have := rinfo_any t p s q w
    rwa [hx2] at this
  clear h
  obtain ⟨g, hg⟩ : ∃ g : Int → Int, g = fun q => gv vs t q 0 := ⟨_, rfl⟩
  have HG : ∀ q, gv vs t q 0 = g q := fun q => by rw [hg]
  rw [← hg] at hres0 ⊢
  simp only [HG] at HX
  have HXX := Lib.hid HX
  clear HX HG hg
  generalize hRs : startsF g p = rs at *
  obtain ⟨rl, rb⟩ := rs
  obtain ⟨i0, hi0, hi1, hi2, hi3⟩ := info_parts infoInt
  have HI := Lib.hid (And.intro hi0 (And.intro hi1 (And.intro hi2 hi3)))
  clear hi0 hi1 hi2 hi3 hRs
  have HR0 := Lib.hid hres0
  clear hres0
  go_enter Tryz.func58, Tryz.ntmps58
  go_wp2_with fail
  go_loopw [4, 5, 6, 7] (fun v4 v5 _ _ wr => StRelE w g t p s (.slice (some ad) n c) (rl, rb) v4 v5 wr) (fun v4 _ _ _ _ => p.toNat - lenS v4)
  case atStart => exact ⟨[], 0, rfl, by omega, by omega, r0, hS0.sub _ (by simp [Value.ownBlock]), d0, by simp; omega, by simpa using HR0.out, by simp [Value.ownBlock]⟩
  case round =>
    obtain ⟨out, a, hr⟩ := hrel
    obtain ⟨rfl, a0, a1, hrow, hbs, hbox, hle, hrs, hfar⟩ := hr
    have hlen : ∃ a m c, u4 = .slice a m c ∧ m = out.length := by
      rcases hrow.2 with ⟨h5, h6⟩ | ⟨g', cap', cur, h5, -⟩
      · exact ⟨_, _, _, h5, h6.symm⟩
      · exact ⟨_, _, _, h5, rfl⟩
    obtain ⟨pa, pm, pc, rfl, rfl⟩ := hlen
    have hlt0 := (hbs.ls w.heap.size (by simp)).1
    have HB := Lib.hid hbs
    have HF := Lib.hid hfar
    have HS := Lib.hid hrs
    have HRow := Lib.hid hrow
    have HBox := Lib.hid hbox
    have b0 := hbox 0
    have b1 := hbox 1
    have b2 := hbox 2
    have b3 := hbox 3
    simp at b0 b1 b2 b3
    clear hS0 r0 d0 HR0 hbs hfar hrs hrow hbox
    by_cases hlt : a < p
    · obtain ⟨k, hkn, hI, hc0, hg0, hg1⟩ := HXX.out a a0 hlt
      clear HXX
      have hc1 := HB.out.old hc0
      have bd9 := inf_bd (g a)
      have HG9 := Lib.hid (fun w => rget9_any (g a) w hg0 hg1)
      have HI9 := Lib.hid hI
      have hs2 : (if okI (g a) = false ∨ iK (g a) = 0 then ([], false) else startsL g p (p.toNat + 1 - (out ++ [a]).length) (a + iL (g a)) (out ++ [a])) = (rl, rb) := by
        have e0 := HS.out
        have e1 : p.toNat + 1 - out.length = (p.toNat - out.length) + 1 := by omega
        rw [e1] at e0
        have e2 : p.toNat + 1 - (out ++ [a]).length = p.toNat - out.length := by rw [List.length_append, List.length_singleton]; omega
        rw [e2]
        simpa [startsL, hlt] using e0
      clear HS hc0 hI b2 b3
      generalize okI (g a) = ok at *
      generalize iK (g a) = y1 at *
      generalize iL (g a) = y2 at *
      generalize iC (g a) = y3 at *
      generalize g a = v at *
      obtain ⟨k1, k2, k3, k4, k5, k6, k7, k8⟩ := bd9
      cases ok
      · have hs3 : ([], false) = (rl, rb) := by simpa using hs2
        obtain ⟨rfl, rfl⟩ := Prod.mk.inj hs3
        clear hs2 hs3 k1 k2 k3 k4 k5 k6 k7 k8
        go_wp2_with fail
        refine wp_region_noPanic ?_
        refine wp_region_held_drew (S := fun w' => BS wr ([] : List Nat) w' ∧ (∀ o : Nat, w'.cell? ⟨w.heap.size, o, none⟩ = (#[.int .i64 t, .int .i64 p, .int .i64 s, .slice (some ad) n c] : Array Value)[o]?) ∧ w'.cell? (ad.add k) = some (.int .u32 v)) (by kernel_rfl) ?_ (fun hHeld => ?_)
        · exact ⟨(BS.start wr).drew, HBox.out, hc1⟩
        refine wT 0 ?_
        refine wT 1 ?_
        refine wT 2 ?_
        refine wT 3 ?_
        refine wT 4 ?_
        refine wpAnyH_ready (rs := [5, 12]) (by kernel_rfl) (by simp) ?_
        refine AllReadyH.cons (o := _) rfl (fun K hK => ?_) (AllReadyH.cons (o := _) rfl (fun K hK => ?_) AllReadyH.nil)
        · go_simp
          refine (calls_b hHeld.1 (HI9.out _)).mono ?_
          rintro e wr1 ⟨rfl, hV, hVl⟩
          dsimp only
          refine hK.out _ _ ?_ (fun hHeld2 => ?_)
          · exact ⟨hV, hV.oldbox HBox.out hlt0, hV.old hc1⟩
          clear hK K hV hVl hHeld
          have hHeld := hHeld2
          clear hHeld2
          try simp only [Act.put, zA, zB, zC, zD, zE, zF]
          refine wT 6 ?_
          refine wT 7 ?_
          refine wpAnyH_ready (rs := [8, 12]) (by kernel_rfl) (by simp) ?_
          refine AllReadyH.cons (o := _) rfl (fun K hK => ?_) (AllReadyH.cons (o := _) rfl (fun K hK => ?_) AllReadyH.nil)
          · go_simp
            refine (calls_b hHeld.1 (HG9.out _)).mono ?_
            rintro e wr2 ⟨rfl, hV, hVl⟩
            dsimp only
            refine hK.out _ _ ?_ (fun hHeld2 => ?_)
            · exact ⟨hV, hV.oldbox HBox.out hlt0, hV.old hc1⟩
            clear hK K hV hVl hHeld
            have hHeld := hHeld2
            clear hHeld2
            try simp only [Act.put, zA, zB, zC, zD, zE, zF]
            refine wT 9 ?_
            refine wT 10 ?_
            refine wT 11 ?_
            refine wR 12 fun K hK => ?_
            have hP := hHeld
            have hA := hHeld.1.allocd (#[.int .i64 0, .int .i64 0, .int .i64 0]) 61
            try simp only [World.size_drew] at hA
            try simp only [World.size_alloc] at hA
            go_simp
            refine hK.out _ _ ?_ (fun hHeld2 => ?_)
            · exact ⟨hA.bs.sub _ (by simp), hA.bs.oldbox HBox.out hlt0, hA.bs.old hc1⟩
            clear hK K hHeld
            have hHeld := hHeld2
            clear hHeld2
            try simp only [Act.put, zA, zB, zC, zD, zE, zF]
            refine wR 13 fun K hK => ?_
            go_simp
            have hA2 := (hP.1).allocd (#[.int .i64 y1 , .int .i64 y2 , .int .i64 y3]) 61
            refine hK.out _ _ ?_ (fun hHeld2 => ?_)
            try simp only [World.size_drew] at hA2
            try simp only [World.size_alloc] at hA2
            · exact ⟨hA2.bs.sub _ (by simp), hA2.bs.oldbox HBox.out hlt0, hA2.bs.old hc1⟩
            clear hA hP
            have hA := hA2
            clear hA2 hHeld
            have hHeld := hHeld2
            clear hHeld2
            clear hK K
            try simp only [Act.put, zA, zB, zC, zD, zE, zF]
            refine wT 14 ?_
            refine wpAnyH_done (by kernel_rfl) (NoPanic.normal ?_) _
            refine world_gen ?_
            intro wz hwz
            rw [← hwz] at hHeld hA
            clear hwz
            have rz := hHeld.1.row HRow.out
            have bz0 := hHeld.2.1 0
            have bz1 := hHeld.2.1 1
            simp at bz0 bz1
            have hne := hA.bs.ls
            have hbz := HB.out.below hA.bs.bel
            obtain ⟨⟨q0, q1, q2⟩, f0, f1, f2, z1, z2, bel⟩ := hA.cells3
            clear hHeld hA hne
            go_wp2
            refine bodyPost_ret (v := .tuple #[.slice none 0 0, .bool false]) (by simp [results, Tryz.results58, go_sem, *]) rfl ⟨_, rfl, World.ownsRow_nil _ _ _ _, by simp [Value.ownBlock], hbz.bel⟩
          · have hP := hHeld
            have hA := hHeld.1.allocd (#[.int .i64 0, .int .i64 0, .int .i64 0]) 61
            try simp only [World.size_drew] at hA
            try simp only [World.size_alloc] at hA
            go_simp
            refine hK.out _ _ ?_ (fun hHeld2 => ?_)
            · exact ⟨hA.bs.sub _ (by simp), hA.bs.oldbox HBox.out hlt0, hA.bs.old hc1⟩
            clear hK K hHeld
            have hHeld := hHeld2
            clear hHeld2
            try simp only [Act.put, zA, zB, zC, zD, zE, zF]
            refine wR 8 fun K hK => ?_
            go_simp
            refine (calls_b hA.bs (HG9.out _)).mono ?_
            rintro e wr3 ⟨rfl, hV, hVl⟩
            have hAn := hA.step hV hVl
            dsimp only
            refine hK.out _ _ ?_ (fun hHeld2 => ?_)
            · exact ⟨hV.sub _ (by simp), hV.oldbox HBox.out hlt0, hV.old hc1⟩
            clear hK K hV hVl hHeld hA hP
            have hA := hAn
            have hP := trivial
            clear hAn
            have hHeld := hHeld2
            clear hHeld2
            try simp only [Act.put, zA, zB, zC, zD, zE, zF]
            refine wT 9 ?_
            refine wT 10 ?_
            refine wT 11 ?_
            refine wR 13 fun K hK => ?_
            have kc0 := (cell?_of_heap (o := 0) hA.box)
            have kc1 := (cell?_of_heap (o := 1) hA.box)
            have kc2 := (cell?_of_heap (o := 2) hA.box)
            simp at kc0 kc1 kc2
            have kf0 := frozen?_of_heap (o := 0) hA.box
            have kf1 := frozen?_of_heap (o := 1) hA.box
            have kf2 := frozen?_of_heap (o := 2) hA.box
            go_simp
            refine hK.out _ _ ?_ (fun hHeld2 => ?_)
            · exact ⟨(((hA.set 0 _).set 1 _).set 2 _).bs.sub _ (by simp), (((hA.set 0 _).set 1 _).set 2 _).bs.oldbox HBox.out hlt0, (((hA.set 0 _).set 1 _).set 2 _).bs.old hc1⟩
            have hA2 : BA wr ([] : List Nat) _ (#[.int .i64 y1 , .int .i64 y2 , .int .i64 y3]) 61 _ := (((hA.set 0 (.int .i64 y1)).set 1 (.int .i64 y2)).set 2 (.int .i64 y3))
            clear kc0 kf0 kc1 kf1 kc2 kf2 hA hP
            have hA := hA2
            clear hA2 hHeld
            have hHeld := hHeld2
            clear hHeld2
            clear hK K
            try simp only [Act.put, zA, zB, zC, zD, zE, zF]
            refine wT 14 ?_
            refine wpAnyH_done (by kernel_rfl) (NoPanic.normal ?_) _
            refine world_gen ?_
            intro wz hwz
            rw [← hwz] at hHeld hA
            clear hwz
            have rz := hHeld.1.row HRow.out
            have bz0 := hHeld.2.1 0
            have bz1 := hHeld.2.1 1
            simp at bz0 bz1
            have hne := hA.bs.ls
            have hbz := HB.out.below hA.bs.bel
            obtain ⟨⟨q0, q1, q2⟩, f0, f1, f2, z1, z2, bel⟩ := hA.cells3
            clear hHeld hA hne
            go_wp2
            refine bodyPost_ret (v := .tuple #[.slice none 0 0, .bool false]) (by simp [results, Tryz.results58, go_sem, *]) rfl ⟨_, rfl, World.ownsRow_nil _ _ _ _, by simp [Value.ownBlock], hbz.bel⟩
        · have hP := hHeld
          have hA := hHeld.1.allocd (#[.int .i64 0, .int .i64 0, .int .i64 0]) 61
          try simp only [World.size_drew] at hA
          try simp only [World.size_alloc] at hA
          go_simp
          refine hK.out _ _ ?_ (fun hHeld2 => ?_)
          · exact ⟨hA.bs.sub _ (by simp), hA.bs.oldbox HBox.out hlt0, hA.bs.old hc1⟩
          clear hK K hHeld
          have hHeld := hHeld2
          clear hHeld2
          try simp only [Act.put, zA, zB, zC, zD, zE, zF]
          refine wR 5 fun K hK => ?_
          go_simp
          refine (calls_b hA.bs (HI9.out _)).mono ?_
          rintro e wr4 ⟨rfl, hV, hVl⟩
          have hAn := hA.step hV hVl
          dsimp only
          refine hK.out _ _ ?_ (fun hHeld2 => ?_)
          · exact ⟨hV.sub _ (by simp), hV.oldbox HBox.out hlt0, hV.old hc1⟩
          clear hK K hV hVl hHeld hA hP
          have hA := hAn
          have hP := trivial
          clear hAn
          have hHeld := hHeld2
          clear hHeld2
          try simp only [Act.put, zA, zB, zC, zD, zE, zF]
          refine wT 6 ?_
          refine wT 7 ?_
          refine wR 8 fun K hK => ?_
          go_simp
          refine (calls_b hA.bs (HG9.out _)).mono ?_
          rintro e wr5 ⟨rfl, hV, hVl⟩
          have hAn := hA.step hV hVl
          dsimp only
          refine hK.out _ _ ?_ (fun hHeld2 => ?_)
          · exact ⟨hV.sub _ (by simp), hV.oldbox HBox.out hlt0, hV.old hc1⟩
          clear hK K hV hVl hHeld hA hP
          have hA := hAn
          have hP := trivial
          clear hAn
          have hHeld := hHeld2
          clear hHeld2
          try simp only [Act.put, zA, zB, zC, zD, zE, zF]
          refine wT 9 ?_
          refine wT 10 ?_
          refine wT 11 ?_
          refine wR 13 fun K hK => ?_
          have kc0 := (cell?_of_heap (o := 0) hA.box)
          have kc1 := (cell?_of_heap (o := 1) hA.box)
          have kc2 := (cell?_of_heap (o := 2) hA.box)
          simp at kc0 kc1 kc2
          have kf0 := frozen?_of_heap (o := 0) hA.box
          have kf1 := frozen?_of_heap (o := 1) hA.box
          have kf2 := frozen?_of_heap (o := 2) hA.box
          go_simp
          refine hK.out _ _ ?_ (fun hHeld2 => ?_)
          · exact ⟨(((hA.set 0 _).set 1 _).set 2 _).bs.sub _ (by simp), (((hA.set 0 _).set 1 _).set 2 _).bs.oldbox HBox.out hlt0, (((hA.set 0 _).set 1 _).set 2 _).bs.old hc1⟩
          have hA2 : BA wr ([] : List Nat) _ (#[.int .i64 y1 , .int .i64 y2 , .int .i64 y3]) 61 _ := (((hA.set 0 (.int .i64 y1)).set 1 (.int .i64 y2)).set 2 (.int .i64 y3))
          clear kc0 kf0 kc1 kf1 kc2 kf2 hA hP
          have hA := hA2
          clear hA2 hHeld
          have hHeld := hHeld2
          clear hHeld2
          clear hK K
          try simp only [Act.put, zA, zB, zC, zD, zE, zF]
          refine wT 14 ?_
          refine wpAnyH_done (by kernel_rfl) (NoPanic.normal ?_) _
          refine world_gen ?_
          intro wz hwz
          rw [← hwz] at hHeld hA
          clear hwz
          have rz := hHeld.1.row HRow.out
          have bz0 := hHeld.2.1 0
          have bz1 := hHeld.2.1 1
          simp at bz0 bz1
          have hne := hA.bs.ls
          have hbz := HB.out.below hA.bs.bel
          obtain ⟨⟨q0, q1, q2⟩, f0, f1, f2, z1, z2, bel⟩ := hA.cells3
          clear hHeld hA hne
          go_wp2
          refine bodyPost_ret (v := .tuple #[.slice none 0 0, .bool false]) (by simp [results, Tryz.results58, go_sem, *]) rfl ⟨_, rfl, World.ownsRow_nil _ _ _ _, by simp [Value.ownBlock], hbz.bel⟩
      · by_cases hk0 : y1 = 0
        · have hs3 : ([], false) = (rl, rb) := by simpa [hk0] using hs2
          obtain ⟨rfl, rfl⟩ := Prod.mk.inj hs3
          have hk0b : (y1 == 0) = true := by simp [hk0]
          clear hs2 hs3 k1 k2 k3 k4 k5 k6 k7 k8 hk0
          go_wp2_with fail
          refine wp_region_noPanic ?_
          refine wp_region_held_drew (S := fun w' => BS wr ([] : List Nat) w' ∧ (∀ o : Nat, w'.cell? ⟨w.heap.size, o, none⟩ = (#[.int .i64 t, .int .i64 p, .int .i64 s, .slice (some ad) n c] : Array Value)[o]?) ∧ w'.cell? (ad.add k) = some (.int .u32 v)) (by kernel_rfl) ?_ (fun hHeld => ?_)
          · exact ⟨(BS.start wr).drew, HBox.out, hc1⟩
          refine wT 0 ?_
          refine wT 1 ?_
          refine wT 2 ?_
          refine wT 3 ?_
          refine wT 4 ?_
          refine wpAnyH_ready (rs := [5, 12]) (by kernel_rfl) (by simp) ?_
          refine AllReadyH.cons (o := _) rfl (fun K hK => ?_) (AllReadyH.cons (o := _) rfl (fun K hK => ?_) AllReadyH.nil)
          · go_simp
            refine (calls_b hHeld.1 (HI9.out _)).mono ?_
            rintro e wr1 ⟨rfl, hV, hVl⟩
            dsimp only
            refine hK.out _ _ ?_ (fun hHeld2 => ?_)
            · exact ⟨hV, hV.oldbox HBox.out hlt0, hV.old hc1⟩
            clear hK K hV hVl hHeld
            have hHeld := hHeld2
            clear hHeld2
            try simp only [Act.put, zA, zB, zC, zD, zE, zF]
            refine wT 6 ?_
            refine wT 7 ?_
            refine wpAnyH_ready (rs := [8, 12]) (by kernel_rfl) (by simp) ?_
            refine AllReadyH.cons (o := _) rfl (fun K hK => ?_) (AllReadyH.cons (o := _) rfl (fun K hK => ?_) AllReadyH.nil)
            · go_simp
              refine (calls_b hHeld.1 (HG9.out _)).mono ?_
              rintro e wr2 ⟨rfl, hV, hVl⟩
              dsimp only
              refine hK.out _ _ ?_ (fun hHeld2 => ?_)
              · exact ⟨hV, hV.oldbox HBox.out hlt0, hV.old hc1⟩
              clear hK K hV hVl hHeld
              have hHeld := hHeld2
              clear hHeld2
              try simp only [Act.put, zA, zB, zC, zD, zE, zF]
              refine wT 9 ?_
              refine wT 10 ?_
              refine wT 11 ?_
              refine wR 12 fun K hK => ?_
              have hP := hHeld
              have hA := hHeld.1.allocd (#[.int .i64 0, .int .i64 0, .int .i64 0]) 61
              try simp only [World.size_drew] at hA
              try simp only [World.size_alloc] at hA
              go_simp
              refine hK.out _ _ ?_ (fun hHeld2 => ?_)
              · exact ⟨hA.bs.sub _ (by simp), hA.bs.oldbox HBox.out hlt0, hA.bs.old hc1⟩
              clear hK K hHeld
              have hHeld := hHeld2
              clear hHeld2
              try simp only [Act.put, zA, zB, zC, zD, zE, zF]
              refine wR 13 fun K hK => ?_
              go_simp
              have hA2 := (hP.1).allocd (#[.int .i64 y1 , .int .i64 y2 , .int .i64 y3]) 61
              refine hK.out _ _ ?_ (fun hHeld2 => ?_)
              try simp only [World.size_drew] at hA2
              try simp only [World.size_alloc] at hA2
              · exact ⟨hA2.bs.sub _ (by simp), hA2.bs.oldbox HBox.out hlt0, hA2.bs.old hc1⟩
              clear hA hP
              have hA := hA2
              clear hA2 hHeld
              have hHeld := hHeld2
              clear hHeld2
              clear hK K
              try simp only [Act.put, zA, zB, zC, zD, zE, zF]
              refine wT 14 ?_
              refine wpAnyH_done (by kernel_rfl) (NoPanic.normal ?_) _
              refine world_gen ?_
              intro wz hwz
              rw [← hwz] at hHeld hA
              clear hwz
              have rz := hHeld.1.row HRow.out
              have bz0 := hHeld.2.1 0
              have bz1 := hHeld.2.1 1
              simp at bz0 bz1
              have hne := hA.bs.ls
              have hbz := HB.out.below hA.bs.bel
              obtain ⟨⟨q0, q1, q2⟩, f0, f1, f2, z1, z2, bel⟩ := hA.cells3
              clear hHeld hA hne
              go_wp2
              refine bodyPost_ret (v := .tuple #[.slice none 0 0, .bool false]) (by simp [results, Tryz.results58, go_sem, *]) rfl ⟨_, rfl, World.ownsRow_nil _ _ _ _, by simp [Value.ownBlock], hbz.bel⟩
            · have hP := hHeld
              have hA := hHeld.1.allocd (#[.int .i64 0, .int .i64 0, .int .i64 0]) 61
              try simp only [World.size_drew] at hA
              try simp only [World.size_alloc] at hA
              go_simp
              refine hK.out _ _ ?_ (fun hHeld2 => ?_)
              · exact ⟨hA.bs.sub _ (by simp), hA.bs.oldbox HBox.out hlt0, hA.bs.old hc1⟩
              clear hK K hHeld
              have hHeld := hHeld2
              clear hHeld2
              try simp only [Act.put, zA, zB, zC, zD, zE, zF]
              refine wR 8 fun K hK => ?_
              go_simp
              refine (calls_b hA.bs (HG9.out _)).mono ?_
              rintro e wr3 ⟨rfl, hV, hVl⟩
              have hAn := hA.step hV hVl
              dsimp only
              refine hK.out _ _ ?_ (fun hHeld2 => ?_)
              · exact ⟨hV.sub _ (by simp), hV.oldbox HBox.out hlt0, hV.old hc1⟩
              clear hK K hV hVl hHeld hA hP
              have hA := hAn
              have hP := trivial
              clear hAn
              have hHeld := hHeld2
              clear hHeld2
              try simp only [Act.put, zA, zB, zC, zD, zE, zF]
              refine wT 9 ?_
              refine wT 10 ?_
              refine wT 11 ?_
              refine wR 13 fun K hK => ?_
              have kc0 := (cell?_of_heap (o := 0) hA.box)
              have kc1 := (cell?_of_heap (o := 1) hA.box)
              have kc2 := (cell?_of_heap (o := 2) hA.box)
              simp at kc0 kc1 kc2
              have kf0 := frozen?_of_heap (o := 0) hA.box
              have kf1 := frozen?_of_heap (o := 1) hA.box
              have kf2 := frozen?_of_heap (o := 2) hA.box
              go_simp
              refine hK.out _ _ ?_ (fun hHeld2 => ?_)
              · exact ⟨(((hA.set 0 _).set 1 _).set 2 _).bs.sub _ (by simp), (((hA.set 0 _).set 1 _).set 2 _).bs.oldbox HBox.out hlt0, (((hA.set 0 _).set 1 _).set 2 _).bs.old hc1⟩
              have hA2 : BA wr ([] : List Nat) _ (#[.int .i64 y1 , .int .i64 y2 , .int .i64 y3]) 61 _ := (((hA.set 0 (.int .i64 y1)).set 1 (.int .i64 y2)).set 2 (.int .i64 y3))
              clear kc0 kf0 kc1 kf1 kc2 kf2 hA hP
              have hA := hA2
              clear hA2 hHeld
              have hHeld := hHeld2
              clear hHeld2
              clear hK K
              try simp only [Act.put, zA, zB, zC, zD, zE, zF]
              refine wT 14 ?_
              refine wpAnyH_done (by kernel_rfl) (NoPanic.normal ?_) _
              refine world_gen ?_
              intro wz hwz
              rw [← hwz] at hHeld hA
              clear hwz
              have rz := hHeld.1.row HRow.out
              have bz0 := hHeld.2.1 0
              have bz1 := hHeld.2.1 1
              simp at bz0 bz1
              have hne := hA.bs.ls
              have hbz := HB.out.below hA.bs.bel
              obtain ⟨⟨q0, q1, q2⟩, f0, f1, f2, z1, z2, bel⟩ := hA.cells3
              clear hHeld hA hne
              go_wp2
              refine bodyPost_ret (v := .tuple #[.slice none 0 0, .bool false]) (by simp [results, Tryz.results58, go_sem, *]) rfl ⟨_, rfl, World.ownsRow_nil _ _ _ _, by simp [Value.ownBlock], hbz.bel⟩
          · have hP := hHeld
            have hA := hHeld.1.allocd (#[.int .i64 0, .int .i64 0, .int .i64 0]) 61
            try simp only [World.size_drew] at hA
            try simp only [World.size_alloc] at hA
            go_simp
            refine hK.out _ _ ?_ (fun hHeld2 => ?_)
            · exact ⟨hA.bs.sub _ (by simp), hA.bs.oldbox HBox.out hlt0, hA.bs.old hc1⟩
            clear hK K hHeld
            have hHeld := hHeld2
            clear hHeld2
            try simp only [Act.put, zA, zB, zC, zD, zE, zF]
            refine wR 5 fun K hK => ?_
            go_simp
            refine (calls_b hA.bs (HI9.out _)).mono ?_
            rintro e wr4 ⟨rfl, hV, hVl⟩
            have hAn := hA.step hV hVl
            dsimp only
            refine hK.out _ _ ?_ (fun hHeld2 => ?_)
            · exact ⟨hV.sub _ (by simp), hV.oldbox HBox.out hlt0, hV.old hc1⟩
            clear hK K hV hVl hHeld hA hP
            have hA := hAn
            have hP := trivial
            clear hAn
            have hHeld := hHeld2
            clear hHeld2
            try simp only [Act.put, zA, zB, zC, zD, zE, zF]
            refine wT 6 ?_
            refine wT 7 ?_
            refine wR 8 fun K hK => ?_
            go_simp
            refine (calls_b hA.bs (HG9.out _)).mono ?_
            rintro e wr5 ⟨rfl, hV, hVl⟩
            have hAn := hA.step hV hVl
            dsimp only
            refine hK.out _ _ ?_ (fun hHeld2 => ?_)
            · exact ⟨hV.sub _ (by simp), hV.oldbox HBox.out hlt0, hV.old hc1⟩
            clear hK K hV hVl hHeld hA hP
            have hA := hAn
            have hP := trivial
            clear hAn
            have hHeld := hHeld2
            clear hHeld2
            try simp only [Act.put, zA, zB, zC, zD, zE, zF]
            refine wT 9 ?_
            refine wT 10 ?_
            refine wT 11 ?_
            refine wR 13 fun K hK => ?_
            have kc0 := (cell?_of_heap (o := 0) hA.box)
            have kc1 := (cell?_of_heap (o := 1) hA.box)
            have kc2 := (cell?_of_heap (o := 2) hA.box)
            simp at kc0 kc1 kc2
            have kf0 := frozen?_of_heap (o := 0) hA.box
            have kf1 := frozen?_of_heap (o := 1) hA.box
            have kf2 := frozen?_of_heap (o := 2) hA.box
            go_simp
            refine hK.out _ _ ?_ (fun hHeld2 => ?_)
            · exact ⟨(((hA.set 0 _).set 1 _).set 2 _).bs.sub _ (by simp), (((hA.set 0 _).set 1 _).set 2 _).bs.oldbox HBox.out hlt0, (((hA.set 0 _).set 1 _).set 2 _).bs.old hc1⟩
            have hA2 : BA wr ([] : List Nat) _ (#[.int .i64 y1 , .int .i64 y2 , .int .i64 y3]) 61 _ := (((hA.set 0 (.int .i64 y1)).set 1 (.int .i64 y2)).set 2 (.int .i64 y3))
            clear kc0 kf0 kc1 kf1 kc2 kf2 hA hP
            have hA := hA2
            clear hA2 hHeld
            have hHeld := hHeld2
            clear hHeld2
            clear hK K
            try simp only [Act.put, zA, zB, zC, zD, zE, zF]
            refine wT 14 ?_
            refine wpAnyH_done (by kernel_rfl) (NoPanic.normal ?_) _
            refine world_gen ?_
            intro wz hwz
            rw [← hwz] at hHeld hA
            clear hwz
            have rz := hHeld.1.row HRow.out
            have bz0 := hHeld.2.1 0
            have bz1 := hHeld.2.1 1
            simp at bz0 bz1
            have hne := hA.bs.ls
            have hbz := HB.out.below hA.bs.bel
            obtain ⟨⟨q0, q1, q2⟩, f0, f1, f2, z1, z2, bel⟩ := hA.cells3
            clear hHeld hA hne
            go_wp2
            refine bodyPost_ret (v := .tuple #[.slice none 0 0, .bool false]) (by simp [results, Tryz.results58, go_sem, *]) rfl ⟨_, rfl, World.ownsRow_nil _ _ _ _, by simp [Value.ownBlock], hbz.bel⟩
        · have hs3 : startsL g p (p.toNat + 1 - (out ++ [a]).length) (a + y2) (out ++ [a]) = (rl, rb) := by simpa [hk0] using hs2
          have hk0b : (y1 == 0) = false := by simp [hk0]
          have hl1 := (k7 hk0).2
          have HN := Lib.hid hs3
          have HFF := Lib.hid hle
          clear hs2 hs3 hle k1 k2 k5 k6 k7 k8 hk0
          go_wp2_with fail
          refine wp_region_noPanic ?_
          refine wp_region_held_drew (S := fun w' => BS wr ([] : List Nat) w' ∧ (∀ o : Nat, w'.cell? ⟨w.heap.size, o, none⟩ = (#[.int .i64 t, .int .i64 p, .int .i64 s, .slice (some ad) n c] : Array Value)[o]?) ∧ w'.cell? (ad.add k) = some (.int .u32 v)) (by kernel_rfl) ?_ (fun hHeld => ?_)
          · exact ⟨(BS.start wr).drew, HBox.out, hc1⟩
          refine wT 0 ?_
          refine wT 1 ?_
          refine wT 2 ?_
          refine wT 3 ?_
          refine wT 4 ?_
          refine wpAnyH_ready (rs := [5, 12]) (by kernel_rfl) (by simp) ?_
          refine AllReadyH.cons (o := _) rfl (fun K hK => ?_) (AllReadyH.cons (o := _) rfl (fun K hK => ?_) AllReadyH.nil)
          · go_simp
            refine (calls_b hHeld.1 (HI9.out _)).mono ?_
            rintro e wr1 ⟨rfl, hV, hVl⟩
            dsimp only
            refine hK.out _ _ ?_ (fun hHeld2 => ?_)
            · exact ⟨hV, hV.oldbox HBox.out hlt0, hV.old hc1⟩
            clear hK K hV hVl hHeld
            have hHeld := hHeld2
            clear hHeld2
            try simp only [Act.put, zA, zB, zC, zD, zE, zF]
            refine wT 6 ?_
            refine wT 7 ?_
            refine wpAnyH_ready (rs := [8, 12]) (by kernel_rfl) (by simp) ?_
            refine AllReadyH.cons (o := _) rfl (fun K hK => ?_) (AllReadyH.cons (o := _) rfl (fun K hK => ?_) AllReadyH.nil)
            · go_simp
              refine (calls_b hHeld.1 (HG9.out _)).mono ?_
              rintro e wr2 ⟨rfl, hV, hVl⟩
              dsimp only
              refine hK.out _ _ ?_ (fun hHeld2 => ?_)
              · exact ⟨hV, hV.oldbox HBox.out hlt0, hV.old hc1⟩
              clear hK K hV hVl hHeld
              have hHeld := hHeld2
              clear hHeld2
              try simp only [Act.put, zA, zB, zC, zD, zE, zF]
              refine wT 9 ?_
              refine wT 10 ?_
              refine wT 11 ?_
              refine wR 12 fun K hK => ?_
              have hP := hHeld
              have hA := hHeld.1.allocd (#[.int .i64 0, .int .i64 0, .int .i64 0]) 61
              try simp only [World.size_drew] at hA
              try simp only [World.size_alloc] at hA
              go_simp
              refine hK.out _ _ ?_ (fun hHeld2 => ?_)
              · exact ⟨hA.bs.sub _ (by simp), hA.bs.oldbox HBox.out hlt0, hA.bs.old hc1⟩
              clear hK K hHeld
              have hHeld := hHeld2
              clear hHeld2
              try simp only [Act.put, zA, zB, zC, zD, zE, zF]
              refine wR 13 fun K hK => ?_
              go_simp
              have hA2 := (hP.1).allocd (#[.int .i64 y1 , .int .i64 y2 , .int .i64 y3]) 61
              refine hK.out _ _ ?_ (fun hHeld2 => ?_)
              try simp only [World.size_drew] at hA2
              try simp only [World.size_alloc] at hA2
              · exact ⟨hA2.bs.sub _ (by simp), hA2.bs.oldbox HBox.out hlt0, hA2.bs.old hc1⟩
              clear hA hP
              have hA := hA2
              clear hA2 hHeld
              have hHeld := hHeld2
              clear hHeld2
              clear hK K
              try simp only [Act.put, zA, zB, zC, zD, zE, zF]
              refine wT 14 ?_
              refine wpAnyH_done (by kernel_rfl) (NoPanic.normal ?_) _
              refine world_gen ?_
              intro wz hwz
              rw [← hwz] at hHeld hA
              clear hwz
              have rz := hHeld.1.row HRow.out
              have bz0 := hHeld.2.1 0
              have bz1 := hHeld.2.1 1
              simp at bz0 bz1
              have hne := hA.bs.ls
              have hbz := HB.out.below hA.bs.bel
              obtain ⟨⟨q0, q1, q2⟩, f0, f1, f2, z1, z2, bel⟩ := hA.cells3
              have hBA := Lib.hid hA
              have hzb := Lib.hid hHeld.2.1
              clear hHeld hA hne
              go_wp2_with (at_builtin; go_must (refine wpL_append rfl _ _ rfl 3 i0 (.int .i64 0) 1 8 Tryz.underlying25 HI.out.1 HI.out.2.1 HI.out.2.2.1 HI.out.2.2.2 rfl (by decide) (.slice pa out.length pc) out.length (ints out) rfl (rz.alloc _) ⟨wz.heap.size, 0, none⟩ 1 1 [.int .i64 a] rfl rfl (cell_one_new _ _ _) ?c1 ?c2 ?c3 ?_); go_must (case c1 => (simp [Value.oneCell'])); go_must (case c2 => (have := HFF.out; unfold maxLen; omega)); go_must (case c3 => (have := HFF.out; omega)); go_must (intro v' w5 hown5 hg5 hnew5 hnil5); clear hnil5; go_must (obtain ⟨g', cap', rfl⟩ := Joins.ownsRow_form hown5 (by omega)); go_must (have qz := hBA.out.grown hg5 (fun k hk => ownsRow_lt HRow.out hk)); go_must (have qz1 := qz 1); go_must (simp at qz1); clear qz)
              go_roundw
              case rel =>
                refine ⟨out ++ [a], a + y2, rfl, by omega, by omega, by simpa [ints] using hown5, hbz.append hg5 hnew5 hown5, ?_, ?_, HN.out, ?_⟩
                · exact loc_grown hg5 (by have := bel.size; simp; omega) (fun e => by have := HF.out _ e; omega) (loc_old _ (by have := bel.size; omega) hzb.out)
                · have := HFF.out; simp; omega
                · exact fun k hk => (hnew5 k hk).elim (HF.out k) (fun h => by have := bel.size; simp at h; omega)
              case measure => simp [lenS]; have := HFF.out; omega
            · have hP := hHeld
              have hA := hHeld.1.allocd (#[.int .i64 0, .int .i64 0, .int .i64 0]) 61
              try simp only [World.size_drew] at hA
              try simp only [World.size_alloc] at hA
              go_simp
              refine hK.out _ _ ?_ (fun hHeld2 => ?_)
              · exact ⟨hA.bs.sub _ (by simp), hA.bs.oldbox HBox.out hlt0, hA.bs.old hc1⟩
              clear hK K hHeld
              have hHeld := hHeld2
              clear hHeld2
              try simp only [Act.put, zA, zB, zC, zD, zE, zF]
              refine wR 8 fun K hK => ?_
              go_simp
              refine (calls_b hA.bs (HG9.out _)).mono ?_
              rintro e wr3 ⟨rfl, hV, hVl⟩
              have hAn := hA.step hV hVl
              dsimp only
              refine hK.out _ _ ?_ (fun hHeld2 => ?_)
              · exact ⟨hV.sub _ (by simp), hV.oldbox HBox.out hlt0, hV.old hc1⟩
              clear hK K hV hVl hHeld hA hP
              have hA := hAn
              have hP := trivial
              clear hAn
              have hHeld := hHeld2
              clear hHeld2
              try simp only [Act.put, zA, zB, zC, zD, zE, zF]
              refine wT 9 ?_
              refine wT 10 ?_
              refine wT 11 ?_
              refine wR 13 fun K hK => ?_
              have kc0 := (cell?_of_heap (o := 0) hA.box)
              have kc1 := (cell?_of_heap (o := 1) hA.box)
              have kc2 := (cell?_of_heap (o := 2) hA.box)
              simp at kc0 kc1 kc2
              have kf0 := frozen?_of_heap (o := 0) hA.box
              have kf1 := frozen?_of_heap (o := 1) hA.box
              have kf2 := frozen?_of_heap (o := 2) hA.box
              go_simp
              refine hK.out _ _ ?_ (fun hHeld2 => ?_)
              · exact ⟨(((hA.set 0 _).set 1 _).set 2 _).bs.sub _ (by simp), (((hA.set 0 _).set 1 _).set 2 _).bs.oldbox HBox.out hlt0, (((hA.set 0 _).set 1 _).set 2 _).bs.old hc1⟩
              have hA2 : BA wr ([] : List Nat) _ (#[.int .i64 y1 , .int .i64 y2 , .int .i64 y3]) 61 _ := (((hA.set 0 (.int .i64 y1)).set 1 (.int .i64 y2)).set 2 (.int .i64 y3))
              clear kc0 kf0 kc1 kf1 kc2 kf2 hA hP
              have hA := hA2
              clear hA2 hHeld
              have hHeld := hHeld2
              clear hHeld2
              clear hK K
              try simp only [Act.put, zA, zB, zC, zD, zE, zF]
              refine wT 14 ?_
              refine wpAnyH_done (by kernel_rfl) (NoPanic.normal ?_) _
              refine world_gen ?_
              intro wz hwz
              rw [← hwz] at hHeld hA
              clear hwz
              have rz := hHeld.1.row HRow.out
              have bz0 := hHeld.2.1 0
              have bz1 := hHeld.2.1 1
              simp at bz0 bz1
              have hne := hA.bs.ls
              have hbz := HB.out.below hA.bs.bel
              obtain ⟨⟨q0, q1, q2⟩, f0, f1, f2, z1, z2, bel⟩ := hA.cells3
              have hBA := Lib.hid hA
              have hzb := Lib.hid hHeld.2.1
              clear hHeld hA hne
              go_wp2_with (at_builtin; go_must (refine wpL_append rfl _ _ rfl 3 i0 (.int .i64 0) 1 8 Tryz.underlying25 HI.out.1 HI.out.2.1 HI.out.2.2.1 HI.out.2.2.2 rfl (by decide) (.slice pa out.length pc) out.length (ints out) rfl (rz.alloc _) ⟨wz.heap.size, 0, none⟩ 1 1 [.int .i64 a] rfl rfl (cell_one_new _ _ _) ?c1 ?c2 ?c3 ?_); go_must (case c1 => (simp [Value.oneCell'])); go_must (case c2 => (have := HFF.out; unfold maxLen; omega)); go_must (case c3 => (have := HFF.out; omega)); go_must (intro v' w5 hown5 hg5 hnew5 hnil5); clear hnil5; go_must (obtain ⟨g', cap', rfl⟩ := Joins.ownsRow_form hown5 (by omega)); go_must (have qz := hBA.out.grown hg5 (fun k hk => ownsRow_lt HRow.out hk)); go_must (have qz1 := qz 1); go_must (simp at qz1); clear qz)
              go_roundw
              case rel =>
                refine ⟨out ++ [a], a + y2, rfl, by omega, by omega, by simpa [ints] using hown5, hbz.append hg5 hnew5 hown5, ?_, ?_, HN.out, ?_⟩
                · exact loc_grown hg5 (by have := bel.size; simp; omega) (fun e => by have := HF.out _ e; omega) (loc_old _ (by have := bel.size; omega) hzb.out)
                · have := HFF.out; simp; omega
                · exact fun k hk => (hnew5 k hk).elim (HF.out k) (fun h => by have := bel.size; simp at h; omega)
              case measure => simp [lenS]; have := HFF.out; omega
          · have hP := hHeld
            have hA := hHeld.1.allocd (#[.int .i64 0, .int .i64 0, .int .i64 0]) 61
            try simp only [World.size_drew] at hA
            try simp only [World.size_alloc] at hA
            go_simp
            refine hK.out _ _ ?_ (fun hHeld2 => ?_)
            · exact ⟨hA.bs.sub _ (by simp), hA.bs.oldbox HBox.out hlt0, hA.bs.old hc1⟩
            clear hK K hHeld
            have hHeld := hHeld2
            clear hHeld2
            try simp only [Act.put, zA, zB, zC, zD, zE, zF]
            refine wR 5 fun K hK => ?_
            go_simp
            refine (calls_b hA.bs (HI9.out _)).mono ?_
            rintro e wr4 ⟨rfl, hV, hVl⟩
            have hAn := hA.step hV hVl
            dsimp only
            refine hK.out _ _ ?_ (fun hHeld2 => ?_)
            · exact ⟨hV.sub _ (by simp), hV.oldbox HBox.out hlt0, hV.old hc1⟩
            clear hK K hV hVl hHeld hA hP
            have hA := hAn
            have hP := trivial
            clear hAn
            have hHeld := hHeld2
            clear hHeld2
            try simp only [Act.put, zA, zB, zC, zD, zE, zF]
            refine wT 6 ?_
            refine wT 7 ?_
            refine wR 8 fun K hK => ?_
            go_simp
            refine (calls_b hA.bs (HG9.out _)).mono ?_
            rintro e wr5 ⟨rfl, hV, hVl⟩
            have hAn := hA.step hV hVl
            dsimp only
            refine hK.out _ _ ?_ (fun hHeld2 => ?_)
            · exact ⟨hV.sub _ (by simp), hV.oldbox HBox.out hlt0, hV.old hc1⟩
            clear hK K hV hVl hHeld hA hP
            have hA := hAn
            have hP := trivial
            clear hAn
            have hHeld := hHeld2
            clear hHeld2
            try simp only [Act.put, zA, zB, zC, zD, zE, zF]
            refine wT 9 ?_
            refine wT 10 ?_
            refine wT 11 ?_
            refine wR 13 fun K hK => ?_
            have kc0 := (cell?_of_heap (o := 0) hA.box)
            have kc1 := (cell?_of_heap (o := 1) hA.box)
            have kc2 := (cell?_of_heap (o := 2) hA.box)
            simp at kc0 kc1 kc2
            have kf0 := frozen?_of_heap (o := 0) hA.box
            have kf1 := frozen?_of_heap (o := 1) hA.box
            have kf2 := frozen?_of_heap (o := 2) hA.box
            go_simp
            refine hK.out _ _ ?_ (fun hHeld2 => ?_)
            · exact ⟨(((hA.set 0 _).set 1 _).set 2 _).bs.sub _ (by simp), (((hA.set 0 _).set 1 _).set 2 _).bs.oldbox HBox.out hlt0, (((hA.set 0 _).set 1 _).set 2 _).bs.old hc1⟩
            have hA2 : BA wr ([] : List Nat) _ (#[.int .i64 y1 , .int .i64 y2 , .int .i64 y3]) 61 _ := (((hA.set 0 (.int .i64 y1)).set 1 (.int .i64 y2)).set 2 (.int .i64 y3))
            clear kc0 kf0 kc1 kf1 kc2 kf2 hA hP
            have hA := hA2
            clear hA2 hHeld
            have hHeld := hHeld2
            clear hHeld2
            clear hK K
            try simp only [Act.put, zA, zB, zC, zD, zE, zF]
            refine wT 14 ?_
            refine wpAnyH_done (by kernel_rfl) (NoPanic.normal ?_) _
            refine world_gen ?_
            intro wz hwz
            rw [← hwz] at hHeld hA
            clear hwz
            have rz := hHeld.1.row HRow.out
            have bz0 := hHeld.2.1 0
            have bz1 := hHeld.2.1 1
            simp at bz0 bz1
            have hne := hA.bs.ls
            have hbz := HB.out.below hA.bs.bel
            obtain ⟨⟨q0, q1, q2⟩, f0, f1, f2, z1, z2, bel⟩ := hA.cells3
            have hBA := Lib.hid hA
            have hzb := Lib.hid hHeld.2.1
            clear hHeld hA hne
            go_wp2_with (at_builtin; go_must (refine wpL_append rfl _ _ rfl 3 i0 (.int .i64 0) 1 8 Tryz.underlying25 HI.out.1 HI.out.2.1 HI.out.2.2.1 HI.out.2.2.2 rfl (by decide) (.slice pa out.length pc) out.length (ints out) rfl (rz.alloc _) ⟨wz.heap.size, 0, none⟩ 1 1 [.int .i64 a] rfl rfl (cell_one_new _ _ _) ?c1 ?c2 ?c3 ?_); go_must (case c1 => (simp [Value.oneCell'])); go_must (case c2 => (have := HFF.out; unfold maxLen; omega)); go_must (case c3 => (have := HFF.out; omega)); go_must (intro v' w5 hown5 hg5 hnew5 hnil5); clear hnil5; go_must (obtain ⟨g', cap', rfl⟩ := Joins.ownsRow_form hown5 (by omega)); go_must (have qz := hBA.out.grown hg5 (fun k hk => ownsRow_lt HRow.out hk)); go_must (have qz1 := qz 1); go_must (simp at qz1); clear qz)
            go_roundw
            case rel =>
              refine ⟨out ++ [a], a + y2, rfl, by omega, by omega, by simpa [ints] using hown5, hbz.append hg5 hnew5 hown5, ?_, ?_, HN.out, ?_⟩
              · exact loc_grown hg5 (by have := bel.size; simp; omega) (fun e => by have := HF.out _ e; omega) (loc_old _ (by have := bel.size; omega) hzb.out)
              · have := HFF.out; simp; omega
              · exact fun k hk => (hnew5 k hk).elim (HF.out k) (fun h => by have := bel.size; simp at h; omega)
            case measure => simp [lenS]; have := HFF.out; omega
    · have hs2 : (out, a == p) = (rl, rb) := by
        have e0 := HS.out
        have e1 : p.toNat + 1 - out.length = (p.toNat - out.length) + 1 := by omega
        rw [e1] at e0
        simpa [startsL, hlt] using e0
      obtain ⟨rfl, rfl⟩ := Prod.mk.inj hs2
      clear HXX HS hs2
      go_wp2
      go_region
      all_goals
        go_wp2
        refine bodyPost_ret (v := .tuple #[.slice pa out.length pc, .bool (a == p)]) (by simp [results, Tryz.results58, go_sem, *]) rfl ⟨_, rfl, ?_⟩
        exact ⟨ownsRow_block HRow.out (fun _ _ => rfl), fun k hk => Nat.le_of_lt (HF.out k hk), HB.out.bel.drew⟩
end
end Go.Proofs.YtpmoajhpgekhcaaGreat
/- the document's audit: in, binned, racked; the state of a walk that only reads. -/
set_option linter.unusedSimpArgs false
set_option linter.unusedVariables false
namespace Go.Proofs.YtpmoajhpgekhcaaGreat
open Go.RowKit

theorem calls_row {P : Program} {f : FuncId} {args : Array Value} {F : Value → Value} {w0 w : World} {Ls : List Nat} {l : List Int} (h : BS w0 Ls w)
    (hc : Calls P f args w fun e w' => ∃ v, e = .returned (F v) ∧ RowP w l v w') :
    Calls P f args w fun e w' => ∃ v, e = .returned (F v) ∧ (BS w0 Ls w' ∧ ∀ L ∈ Ls, w'.heap[L]? = w.heap[L]?) ∧ RowP w l v w' :=
  hc.mono fun _ _ ⟨v, he, hr⟩ => ⟨v, he, ⟨h.below hr.2.2, fun L hL => hr.2.2.block L (h.ls L hL).1⟩, hr⟩

/-- X in its box, since w. -/
structure XB (w : World) (t p s : Int) (ad : Addr) (n c : Nat) (vs : List Int) (W : World) : Prop where
  bel : Below w.heap.size w W
  box : ∀ o : Nat, W.cell? ⟨w.heap.size, o, none⟩ = (#[.int .i64 t, .int .i64 p, .int .i64 s, .slice (some ad) n c] : Array Value)[o]?
  lt : w.heap.size < W.heap.size
  xv : XV W t p s ad n vs
section
variable {t p s : Int} {ad : Addr} {n c : Nat} {vs : List Int} {w W W' : World}
theorem XV.boxed (h : XV w t p s ad n vs) (c : Nat) : XB w t p s ad n c vs (w.alloc (.cells #[.int .i64 t, .int .i64 p, .int .i64 s, .slice (some ad) n c] 88)) :=
  ⟨(Below.refl _ _).alloc (Nat.le_refl _) _, loc_alloc w _ _, by simp, h.keep ((Below.refl _ _).alloc (Nat.le_refl _) _)⟩
theorem XB.keep (h : XB w t p s ad n c vs W) (hb : Below W.heap.size W W') : XB w t p s ad n c vs W' :=
  ⟨h.bel.trans (hb.mono h.bel.size), fun o => (hb.cell (p := ⟨w.heap.size, o, none⟩) h.lt).trans (h.box o), Nat.lt_of_lt_of_le h.lt hb.size, h.xv.keep hb⟩
theorem XB.alloc (h : XB w t p s ad n c vs W) (o : Obj) : XB w t p s ad n c vs (W.alloc o) := h.keep ((Below.refl _ _).alloc (Nat.le_refl _) _)
theorem XB.drew (h : XB w t p s ad n c vs W) : XB w t p s ad n c vs W.drew := h.keep ((Below.refl _ _).drew)
theorem XB.cells (h : XB w t p s ad n c vs W) : W.cell? ⟨w.heap.size, 0, none⟩ = some (.int .i64 t) ∧ W.cell? ⟨w.heap.size, 1, none⟩ = some (.int .i64 p) ∧ W.cell? ⟨w.heap.size, 2, none⟩ = some (.int .i64 s) ∧ W.cell? ⟨w.heap.size, 3, none⟩ = some (.slice (some ad) n c) :=
  ⟨h.box 0, h.box 1, h.box 2, h.box 3⟩

/-- what a box of three offers behind a call. -/
theorem box3 {x y z : Value} {T : TypeId} (hb : Below (W.alloc (.cells #[x, y, z] T)).heap.size (W.alloc (.cells #[x, y, z] T)) W') : W'.cell? ⟨W.heap.size, 0, none⟩ = some x ∧ W'.cell? ⟨W.heap.size, 1, none⟩ = some y ∧ W'.cell? ⟨W.heap.size, 2, none⟩ = some z := by
  have hc := fun o => (hb.cell (p := ⟨W.heap.size, o, none⟩) (by simp)).trans (loc_alloc W #[x, y, z] T o)
  exact ⟨hc 0, hc 1, hc 2⟩

def CntRel (l : List Int) (x : Int) (w : World) (a i : Value) (wr : World) : Prop := ∃ k : Nat, k ≤ l.length ∧ i = .int .i64 k ∧ a = .int .i64 ((l.take k).count x) ∧ w = wr
theorem xin_any (l : List Int) (x : Int) (v : Value) (w : World) (h : w.ownsRow 0 3 1 v l.length (ints l)) (hn : l.length ≤ 4294967296) :
    Calls Tryz.prog 68 #[v, .int .i64 x] w fun e w' => e = .returned (.int .i64 (l.count x)) ∧ Below w.heap.size w w' := by
  have hc : ∀ k, k < l.length → ∃ a m c, v = .slice (some ⟨a, 0, none⟩) m c ∧ w.cell? ⟨a, k, none⟩ = some (.int .i64 (l.getD k 0)) := by
    intro k hk
    obtain ⟨g, cap, rfl⟩ := Joins.ownsRow_form h (by omega)
    refine ⟨g, _, cap, rfl, ?_⟩
    rw [h.cellAt k (by omega)]
    simp [ints, hk]
  obtain ⟨a, c, rfl⟩ := row_shape h
  clear h
  go_enter Tryz.func68, Tryz.ntmps68
  go_wp2
  go_loopw [5, 6] (fun a i wr => CntRel l x w a i wr) (fun _ i _ => l.length - (intOf i).toNat)
  case atStart => exact ⟨0, by omega, rfl, by simp, rfl⟩
  case round =>
    obtain ⟨k, hk, rfl, rfl, rfl⟩ := hrel
    by_cases hlt : k < l.length
    · obtain ⟨g, m, c', hv, c0⟩ := hc k hlt
      simp only [Value.slice.injEq] at hv
      obtain ⟨rfl, rfl, rfl⟩ := hv
      clear hc
      have hx : l[k]? = some (l.getD k 0) := by simp [hlt]
      have hle := List.count_le_length (a := x) (l := l.take k)
      have hle2 : (l.take k).length ≤ l.length := by simp; omega
      have hs : (l.take (k + 1)).count x = (l.take k).count x + if l.getD k 0 == x then 1 else 0 := by
        rw [List.take_add_one, hx]
        simp [List.count_append, List.count_cons]
      have HS := Lib.hid hs
      clear hx hs
      generalize l.getD k 0 = y at *
      generalize (l.take k).count x = z at *
      have hz : (z : Int) ≤ 4294967296 := by omega
      clear hle hle2
      by_cases hy : y = x
      · have hb : (y == x) = true := by simp [hy]
        have HY := Lib.hid hb
        have hb2 : (y == x) = true := hb
        clear hy hb
        go_wp2
        go_roundw
        case rel => exact ⟨k + 1, by omega, by go_num, by rw [HS.out, HY.out]; simp, rfl⟩
        case measure => simp [intOf]; omega
      · have hb : (y == x) = false := by simp [hy]
        have HY := Lib.hid hb
        have hb2 : (y == x) = false := hb
        clear hy hb
        go_wp2
        go_roundw
        case rel => exact ⟨k + 1, by omega, by go_num, by rw [HS.out, HY.out]; simp, rfl⟩
        case measure => simp [intOf]; omega
    · obtain rfl : k = l.length := by omega
      clear hc
      go_wp2
      go_ret
      exact ⟨by simp, Below.refl _ _⟩

def binnedB (v k : Int) : Bool := iK v == 1 && logF (iL v) == k
def rackedB (v u k : Int) : Bool := iK v == 3 && iC v == k && !fullB u k

theorem binned_any (q : Int) (k : Nat) (c : Nat) (w : World) (h : XV w t p s ad n vs) (h0 : 0 ≤ q) (h1 : q < p) :
    Calls Tryz.prog 67 #[.agg #[.int .i64 t, .int .i64 p, .int .i64 s, .slice (some ad) n c], .int .i64 q, .int .i64 k] w fun e w' => e = .returned (.bool (binnedB (gv vs t q 0) k)) ∧ Below w.heap.size w w' := by
  have bd := inf_bd (gv vs t q 0)
  have hl := fun w => rlog_any (iL (gv vs t q 0)) w (by omega) (by omega)
  have HL := Lib.hid hl
  have X0 := h.boxed c
  have HI := Lib.hid (fun (w : World) (h : XV w t p s ad n vs) => xinfo_any q c w h h0 h1)
  generalize hr : binnedB (gv vs t q 0) k = r
  have hr2 : (iK (gv vs t q 0) == 1 && logF (iL (gv vs t q 0)) == k) = r := hr
  have HR := Lib.hid hr2
  clear hr hr2 hl h bd
  generalize iK (gv vs t q 0) = y1 at *
  generalize logF (iL (gv vs t q 0)) = y4 at *
  generalize iL (gv vs t q 0) = y2 at *
  generalize iC (gv vs t q 0) = y3 at *
  by_cases hk1 : y1 = 1
  · have hb : (y1 == 1) = true := by simp [hk1]
    have HR2 := HR.out
    rw [hb] at HR2
    have HR3 := Lib.hid HR2
    clear hk1 HR HR2
    go_enter Tryz.func67, Tryz.ntmps67
    go_wp2_with fail
    refine (HI.out _ X0.xv).mono ?_
    rintro e w1 ⟨rfl, hb1⟩
    have X1 := X0.keep hb1
    obtain ⟨X10, X11, X12, X13⟩ := X1.cells
    have X1z := X1.lt
    go_wp2_with fail
    refine (HL.out _).mono ?_
    rintro e w2 ⟨rfl, hb2⟩
    go_wp2
    go_ret
    refine ⟨ret_bool (by rw [← HR3.out]; simp), ?_⟩
    exact X1.bel.trans ((((Below.refl _ _).alloc (Nat.le_refl _) _).trans (hb2.mono (by simp))).mono X1.bel.size)
  · have hb : (y1 == 1) = false := by simp [hk1]
    have HR2 := HR.out
    rw [hb] at HR2
    have HR3 := Lib.hid HR2
    clear hk1 HR HR2
    go_enter Tryz.func67, Tryz.ntmps67
    go_wp2_with fail
    refine (HI.out _ X0.xv).mono ?_
    rintro e w1 ⟨rfl, hb1⟩
    have X1 := X0.keep hb1
    obtain ⟨X10, X11, X12, X13⟩ := X1.cells
    have X1z := X1.lt
    go_wp2
    go_ret
    refine ⟨ret_bool (by rw [← HR3.out]; simp), ?_⟩
    exact X1.bel.alloc X1.bel.size _

theorem racked_any (q : Int) (k : Nat) (c : Nat) (w : World) (h : XV w t p s ad n vs) (h0 : 0 ≤ q) (h1 : q < p) :
    Calls Tryz.prog 70 #[.agg #[.int .i64 t, .int .i64 p, .int .i64 s, .slice (some ad) n c], .int .i64 q, .int .i64 k] w fun e w' => e = .returned (.bool (rackedB (gv vs t q 0) (gv vs t q 5) k)) ∧ Below w.heap.size w w' := by
  have hg := h.gu q 5
  have HL := Lib.hid (fun w => rfull_any (gv vs t q 5) k w hg.1)
  have X0 := h.boxed c
  have HI := Lib.hid (fun (w : World) (h : XV w t p s ad n vs) => xinfo_any q c w h h0 h1)
  have HT := Lib.hid (fun (w : World) (h : XV w t p s ad n vs) => xtaken_any q c w h h0 h1)
  generalize hr : rackedB (gv vs t q 0) (gv vs t q 5) k = r
  have hr2 : (iK (gv vs t q 0) == 3 && iC (gv vs t q 0) == k && !fullB (gv vs t q 5) k) = r := hr
  have HR := Lib.hid hr2
  clear hr hr2 h hg
  generalize iK (gv vs t q 0) = y1 at *
  generalize fullB (gv vs t q 5) k = y4 at *
  generalize iL (gv vs t q 0) = y2 at *
  generalize iC (gv vs t q 0) = y3 at *
  generalize gv vs t q 5 = y5 at *
  by_cases hk1 : y1 = 3
  · have hb : (y1 == 3) = true := by simp [hk1]
    by_cases hk2 : y3 = k
    · have hbb : (y3 == k) = true := by simp [hk2]
      have HR2 := HR.out
      rw [hb, hbb] at HR2
      have HR3 := Lib.hid HR2
      clear hk1 HR HR2 hk2
      go_enter Tryz.func70, Tryz.ntmps70
      go_wp2_with fail
      refine (HI.out _ X0.xv).mono ?_
      rintro e w1 ⟨rfl, hb1⟩
      have X1 := X0.keep hb1
      obtain ⟨X10, X11, X12, X13⟩ := X1.cells
      have X1z := X1.lt
      have X1a := X1.alloc (.cells #[.int .i64 y1, .int .i64 y2, .int .i64 y3] 61)
      go_wp2_with fail
      refine (HT.out _ X1a.xv).mono ?_
      rintro e w2 ⟨rfl, hb2⟩
      have X2 := X1a.keep hb2
      obtain ⟨X20, X21, X22, X23⟩ := X2.cells
      have X2z := X2.lt
      obtain ⟨z0, z1, z2⟩ := box3 hb2
      go_wp2_with fail
      refine (HL.out _).mono ?_
      rintro e w3 ⟨rfl, hb3⟩
      go_wp2
      go_ret
      refine ⟨ret_bool (by rw [← HR3.out]; simp), ?_⟩
      exact X2.bel.trans (hb3.mono X2.bel.size)
    · have hbb : (y3 == k) = false := by simp [hk2]
      have HR2 := HR.out
      rw [hb, hbb] at HR2
      have HR3 := Lib.hid HR2
      clear hk1 HR HR2 hk2
      go_enter Tryz.func70, Tryz.ntmps70
      go_wp2_with fail
      refine (HI.out _ X0.xv).mono ?_
      rintro e w1 ⟨rfl, hb1⟩
      have X1 := X0.keep hb1
      obtain ⟨X10, X11, X12, X13⟩ := X1.cells
      have X1z := X1.lt
      go_wp2
      go_ret
      refine ⟨ret_bool (by rw [← HR3.out]; simp), ?_⟩
      exact X1.bel.alloc X1.bel.size _
  · have hb : (y1 == 3) = false := by simp [hk1]
    have HR2 := HR.out
    rw [hb] at HR2
    have HR3 := Lib.hid HR2
    clear hk1 HR HR2
    go_enter Tryz.func70, Tryz.ntmps70
    go_wp2_with fail
    refine (HI.out _ X0.xv).mono ?_
    rintro e w1 ⟨rfl, hb1⟩
    have X1 := X0.keep hb1
    obtain ⟨X10, X11, X12, X13⟩ := X1.cells
    have X1z := X1.lt
    go_wp2
    go_ret
    refine ⟨ret_bool (by rw [← HR3.out]; simp), ?_⟩
    exact X1.bel.alloc X1.bel.size _
end
end Go.Proofs.YtpmoajhpgekhcaaGreat
/- the document's audit: the lists of a heap. -/
set_option linter.unusedSimpArgs false
set_option linter.unusedVariables false
namespace Go.Proofs.YtpmoajhpgekhcaaGreat
open Go.RowKit
section
variable {t p s : Int} {ad : Addr} {n c : Nat} {vs : List Int}

def listL (vs : List Int) (t p : Int) : Nat → Int → Int → List Int → List Int × Bool
  | 0, _, _, out => (out, false)
  | f + 1, q, ah, out => if q = 0 then (out, true) else if p < q ∨ p ≤ out.length then (out, false) else if gv vs t (q - 1) 3 ≠ ah then (out, false) else listL vs t p f (gv vs t (q - 1) 2) q (out ++ [q - 1])
def listF (vs : List Int) (t p : Int) (head : Nat) : List Int × Bool := listL vs t p (p.toNat + 1) (vs.getD head 0) 0 []

structure LsRel (w : World) (vs : List Int) (t p s : Int) (sl : Value) (res : List Int × Bool) (v6 v7 v8 : Value) (wr : World) (out : List Int) (q ah : Int) : Prop where
  hq : v7 = .int .u32 q
  ha : v8 = .int .u32 ah
  q0 : 0 ≤ q ∧ q < 4294967296
  row : wr.ownsRow 0 3 1 v6 out.length (ints out)
  bs : BS w (w.heap.size :: v6.ownBlock.toList) wr
  box : ∀ o : Nat, wr.cell? ⟨w.heap.size, o, none⟩ = (#[.int .i64 t, .int .i64 p, .int .i64 s, sl] : Array Value)[o]?
  le : (out.length : Int) ≤ p
  res : listL vs t p (p.toNat + 1 - out.length) q ah out = res
  far : ∀ k, v6.ownBlock = some k → w.heap.size < k
def LsRelE (w : World) (vs : List Int) (t p s : Int) (sl : Value) (res : List Int × Bool) (v6 v7 v8 : Value) (wr : World) : Prop := ∃ out q ah, LsRel w vs t p s sl res v6 v7 v8 wr out q ah

set_option maxHeartbeats 2000000 in
set_option maxRecDepth 100000 in
theorem list_any (head : Nat) (c : Nat) (w : World) (h : XV w t p s ad n vs) (hh : head < n) :
    Calls Tryz.prog 65 #[.agg #[.int .i64 t, .int .i64 p, .int .i64 s, .slice (some ad) n c], .int .i64 head] w fun e w' => ∃ v, e = .returned (.tuple #[v, .bool (listF vs t p head).2]) ∧ RowP w (listF vs t p head).1 v w' := by
  have r0 := row_empty (w.alloc (.cells #[.int .i64 t, .int .i64 p, .int .i64 s, .slice (some ad) n c] 88)) 3 1
  have hS0 := ((BS.start w).alloc (.cells #[.int .i64 t, .int .i64 p, .int .i64 s, .slice (some ad) n c] 88)).alloc (.cells #[] 3)
  have d0 := loc_old (.cells #[] 3) (by simp) (loc_alloc w #[.int .i64 t, .int .i64 p, .int .i64 s, .slice (some ad) n c] 88)
  simp only [World.size_alloc] at hS0 r0
  have bd : 4 ≤ p ∧ p ≤ 1024 := by have := h.bd; omega
  have hres0 : listL vs t p (p.toNat + 1) (vs.getD head 0) 0 [] = listF vs t p head := rfl
  have HX : ∀ q, 0 ≤ q → q < p → ∃ k k2 : Nat, k < n ∧ k2 < n ∧ (∀ w, Calls Tryz.prog 73 #[.agg #[.int .i64 t, .int .i64 p, .int .i64 s], .int .i64 q] w fun e w' => e = .returned (.int .i64 k) ∧ Below w.heap.size w w') ∧ w.cell? (ad.add k) = some (.int .u32 (gv vs t q 3)) ∧ (∀ w, Calls Tryz.prog 72 #[.agg #[.int .i64 t, .int .i64 p, .int .i64 s], .int .i64 q] w fun e w' => e = .returned (.int .i64 k2) ∧ Below w.heap.size w w') ∧ w.cell? (ad.add k2) = some (.int .u32 (gv vs t q 2)) ∧ 0 ≤ gv vs t q 2 ∧ gv vs t q 2 < 4294967296 := by
    intro q h0 h1
    obtain ⟨hx1, hx2⟩ := h.cx h0 h1 (part := 3) (by omega) (by omega)
    obtain ⟨hy1, hy2⟩ := h.cx h0 h1 (part := 2) (by omega) (by omega)
    refine ⟨cix t q 3, cix t q 2, hx1, hy1, fun w => ?_, h.cells _ hx1, fun w => ?_, h.cells _ hy1, h.gu q 2⟩
    · have := rprev_any t p s q w
      rwa [hx2] at this
    · have := rnext_any t p s q w
      rwa [hy2] at this
  have hc00 := h.cells head hh
  have hcx := (XV.boxed h c).xv.cells head hh
  have hcy := ((XV.boxed h c).alloc (.cells #[] 3)).xv.cells head hh
  have hu := getD_u32 h.u32 head
  have HXX := Lib.hid HX
  clear HX h
  generalize hRs : listF vs t p head = rs at *
  obtain ⟨rl, rb⟩ := rs
  generalize vs.getD head 0 = q0 at *
  obtain ⟨i0, hi0, hi1, hi2, hi3⟩ := info_parts infoInt
  have HI := Lib.hid (And.intro hi0 (And.intro hi1 (And.intro hi2 hi3)))
  clear hi0 hi1 hi2 hi3 hRs
  have HR0 := Lib.hid hres0
  have HU := Lib.hid hu
  clear hres0 hu
  go_enter Tryz.func65, Tryz.ntmps65
  go_wp2_with fail
  go_loopw [6, 7, 8, 9] (fun v6 v7 v8 _ wr => LsRelE w vs t p s (.slice (some ad) n c) (rl, rb) v6 v7 v8 wr) (fun v6 _ _ _ _ => p.toNat - lenS v6)
  case atStart => exact ⟨[], q0, 0, rfl, rfl, HU.out, r0, hS0.sub _ (by simp [Value.ownBlock]), d0, by simp; omega, by simpa using HR0.out, by simp [Value.ownBlock]⟩
  case round =>
    obtain ⟨out, q, ah, hr⟩ := hrel
    obtain ⟨rfl, rfl, hq0, hrow, hbs, hbox, hle, hrs, hfar⟩ := hr
    obtain ⟨hq1, hq2⟩ := hq0
    have hlen : ∃ a m c, u6 = .slice a m c ∧ m = out.length := by
      rcases hrow.2 with ⟨h5, h6⟩ | ⟨g', cap', cur, h5, -⟩
      · exact ⟨_, _, _, h5, h6.symm⟩
      · exact ⟨_, _, _, h5, rfl⟩
    obtain ⟨pa, pm, pc, rfl, rfl⟩ := hlen
    have hlt0 := (hbs.ls w.heap.size (by simp)).1
    have HB := Lib.hid hbs
    have HF := Lib.hid hfar
    have HRow := Lib.hid hrow
    have HBox := Lib.hid hbox
    have b0 := hbox 0
    have b1 := hbox 1
    simp at b0 b1
    have hs0 : (if q = 0 then (out, true) else if p < q ∨ p ≤ out.length then (out, false) else if gv vs t (q - 1) 3 ≠ ah then (out, false) else listL vs t p (p.toNat - out.length) (gv vs t (q - 1) 2) q (out ++ [q - 1])) = (rl, rb) := by
      have e0 := hrs
      have e1 : p.toNat + 1 - out.length = (p.toNat - out.length) + 1 := by omega
      rw [e1] at e0
      exact e0
    have HS := Lib.hid hs0
    have HLe := Lib.hid hle
    clear hS0 r0 d0 HR0 hbs hfar hrs hrow hbox hcx hcy hc00 hs0
    by_cases hz : q = 0
    · have hzb : (q != 0) = false := by simp [hz]
      have e0 := HS.out
      rw [if_pos hz] at e0
      obtain ⟨rfl, rfl⟩ := Prod.mk.inj e0
      clear HXX HS e0 hz
      go_wp2
      refine bodyPost_ret (v := .tuple #[.slice pa out.length pc, .bool true]) (by simp [results, Tryz.results65, go_sem, *]) rfl ⟨_, rfl, ?_⟩
      exact ⟨HRow.out, fun k hk => Nat.le_of_lt (HF.out k hk), HB.out.bel⟩
    · have hzb : (q != 0) = true := by simp [hz]
      have hw : IntKind.i64.wrap q = q := wrap_in _ (by omega)
      have hw2 : IntKind.i64.wrap (q - 1) = q - 1 := wrap_in _ (by omega)
      by_cases hp : p < q
      · have e0 := HS.out
        rw [if_neg hz, if_pos (Or.inl hp)] at e0
        obtain ⟨rfl, rfl⟩ := Prod.mk.inj e0
        clear HXX HS e0 hz
        go_wp2
        refine bodyPost_ret (v := .tuple #[.slice pa out.length pc, .bool false]) (by simp [results, Tryz.results65, go_sem, *]) rfl ⟨_, rfl, ?_⟩
        exact ⟨HRow.out, fun k hk => Nat.le_of_lt (HF.out k hk), HB.out.bel⟩
      · by_cases hl : p ≤ out.length
        · have e0 := HS.out
          rw [if_neg hz, if_pos (Or.inr hl)] at e0
          obtain ⟨rfl, rfl⟩ := Prod.mk.inj e0
          clear HXX HS e0 hz
          go_wp2
          refine bodyPost_ret (v := .tuple #[.slice pa out.length pc, .bool false]) (by simp [results, Tryz.results65, go_sem, *]) rfl ⟨_, rfl, ?_⟩
          exact ⟨HRow.out, fun k hk => Nat.le_of_lt (HF.out k hk), HB.out.bel⟩
        · obtain ⟨k, k2, hk, hk2, hI, hc0, hI2, hd0, hg0, hg1⟩ := HXX.out (q - 1) (by omega) (by omega)
          have e0 := HS.out
          rw [if_neg hz, if_neg (by omega)] at e0
          have hc1 := HB.out.old hc0
          have H1 := Lib.hid hI
          have H2 := Lib.hid hI2
          have HD := Lib.hid hd0
          have HGU := Lib.hid (And.intro hg0 hg1)
          clear HXX HS hz hI hI2 hc0 hd0 hg0 hg1 hle
          generalize gv vs t (q - 1) 3 = u at *
          generalize gv vs t (q - 1) 2 = x at *
          by_cases hu : u = ah
          · have hub : (u != ah) = false := by simp [hu]
            rw [if_neg (by simpa using hu)] at e0
            have HN := Lib.hid e0
            clear e0 hu
            go_wp2_with fail
            refine wp_region_noPanic ?_
            refine wp_region_held_drew (S := fun w' => BS wr ([] : List Nat) w' ∧ (∀ o : Nat, w'.cell? ⟨w.heap.size, o, none⟩ = (#[.int .i64 t, .int .i64 p, .int .i64 s, .slice (some ad) n c] : Array Value)[o]?) ∧ w'.cell? (ad.add k) = some (.int .u32 u)) (by kernel_rfl) ?_ (fun hHeld => ?_)
            · exact ⟨(BS.start wr).drew, HBox.out, hc1⟩
            refine wT 0 ?_
            refine wT 1 ?_
            refine wT 2 ?_
            refine wT 3 ?_
            refine wT 4 ?_
            refine wT 8 ?_
            refine wR 5 fun K hK => ?_
            go_simp
            refine (calls_b hHeld.1 (H1.out _)).mono ?_
            rintro e wr1 ⟨rfl, hV, hVl⟩
            dsimp only
            refine hK.out _ _ ?_ (fun hHeld2 => ?_)
            · exact ⟨hV, hV.oldbox HBox.out hlt0, hV.old hc1⟩
            clear hK K hV hVl hHeld
            have hHeld := hHeld2
            clear hHeld2
            try simp only [Act.put, zA, zB, zC, zD, zE, zF]
            refine wT 6 ?_
            refine wT 7 ?_
            refine wT 9 ?_
            refine wpAnyH_done (by kernel_rfl) (NoPanic.normal ?_) _
            refine world_gen ?_
            intro wz hwz
            rw [← hwz] at hHeld
            clear hwz
            have rz := hHeld.1.row HRow.out
            have hzb2 := Lib.hid hHeld.2.1
            have hbz := HB.out.below hHeld.1.bel
            have bel := hHeld.1.bel
            clear hHeld
            go_wp2_with (at_builtin; go_must (refine wpL_append rfl _ _ rfl 3 i0 (.int .i64 0) 1 8 Tryz.underlying25 HI.out.1 HI.out.2.1 HI.out.2.2.1 HI.out.2.2.2 rfl (by decide) (.slice pa out.length pc) out.length (ints out) rfl (rz.alloc _) ⟨wz.heap.size, 0, none⟩ 1 1 [.int .i64 (q - 1)] rfl rfl (cell_one_new _ _ _) ?c1 ?c2 ?c3 ?_); go_must (case c1 => (simp [Value.oneCell'])); go_must (case c2 => (have := HLe.out; unfold maxLen; omega)); go_must (case c3 => (have := HLe.out; omega)); go_must (intro v' w5 hown5 hg5 hnew5 hnil5); clear hnil5; go_must (obtain ⟨g', cap', rfl⟩ := Joins.ownsRow_form hown5 (by omega)))
            have hb5 := hbz.append hg5 hnew5 hown5
            have hx5 : ∀ o : Nat, w5.cell? ⟨w.heap.size, o, none⟩ = (#[.int .i64 t, .int .i64 p, .int .i64 s, .slice (some ad) n c] : Array Value)[o]? := loc_grown hg5 (by have := bel.size; simp; omega) (fun e => by have := HF.out _ e; omega) (loc_old _ (by have := bel.size; omega) hzb2.out)
            have hd5 := hb5.old HD.out
            have hl5 := (hb5.ls w.heap.size (by simp)).1
            have HB5 := Lib.hid hb5
            have HX5 := Lib.hid hx5
            have far5 : ∀ k, (Value.slice (some ⟨g', 0, none⟩) (out.length + 1) cap').ownBlock = some k → w.heap.size < k := fun k hk => (hnew5 k hk).elim (HF.out k) (fun h => by have := bel.size; simp at h; omega)
            clear hb5 hx5 hg5 hnew5 rz hbz hzb2
            refine wp_region_noPanic ?_
            refine wp_region_held_drew (S := fun w' => BS w5 ([] : List Nat) w' ∧ (∀ o : Nat, w'.cell? ⟨w.heap.size, o, none⟩ = (#[.int .i64 t, .int .i64 p, .int .i64 s, .slice (some ad) n c] : Array Value)[o]?) ∧ w'.cell? (ad.add k2) = some (.int .u32 x)) (by kernel_rfl) ?_ (fun hHeld => ?_)
            · exact ⟨(BS.start w5).drew, HX5.out, hd5⟩
            refine wT 0 ?_
            refine wT 1 ?_
            refine wT 2 ?_
            refine wT 3 ?_
            refine wT 4 ?_
            refine wR 5 fun K hK => ?_
            go_simp
            refine (calls_b hHeld.1 (H2.out _)).mono ?_
            rintro e wr1 ⟨rfl, hV, hVl⟩
            dsimp only
            refine hK.out _ _ ?_ (fun hHeld2 => ?_)
            · exact ⟨hV, hV.oldbox HX5.out hl5, hV.old hd5⟩
            clear hK K hV hVl hHeld
            have hHeld := hHeld2
            clear hHeld2
            try simp only [Act.put, zA, zB, zC, zD, zE, zF]
            refine wT 6 ?_
            refine wT 7 ?_
            refine wT 8 ?_
            refine wpAnyH_done (by kernel_rfl) (NoPanic.normal ?_) _
            refine world_gen ?_
            intro wz hwz
            rw [← hwz] at hHeld
            clear hwz
            have rz := hHeld.1.row hown5
            have hzb2 := hHeld.2.1
            have hbz := HB5.out.below hHeld.1.bel
            clear hHeld
            go_wp2_with fail
            go_roundw
            case rel =>
              refine ⟨out ++ [q - 1], x, q, rfl, rfl, HGU.out, by simpa [ints] using rz, hbz, hzb2, by simp; omega, ?_, far5⟩
              have e2 : p.toNat + 1 - (out ++ [q - 1]).length = p.toNat - out.length := by rw [List.length_append, List.length_singleton]; omega
              rw [e2]
              exact HN.out
            case measure => simp [lenS]; omega
          · have hub : (u != ah) = true := by simp [hu]
            rw [if_pos hu] at e0
            obtain ⟨rfl, rfl⟩ := Prod.mk.inj e0
            clear e0 hu
            go_wp2_with fail
            refine wp_region_noPanic ?_
            refine wp_region_held_drew (S := fun w' => BS wr ([] : List Nat) w' ∧ (∀ o : Nat, w'.cell? ⟨w.heap.size, o, none⟩ = (#[.int .i64 t, .int .i64 p, .int .i64 s, .slice (some ad) n c] : Array Value)[o]?) ∧ w'.cell? (ad.add k) = some (.int .u32 u)) (by kernel_rfl) ?_ (fun hHeld => ?_)
            · exact ⟨(BS.start wr).drew, HBox.out, hc1⟩
            refine wT 0 ?_
            refine wT 1 ?_
            refine wT 2 ?_
            refine wT 3 ?_
            refine wT 4 ?_
            refine wT 8 ?_
            refine wR 5 fun K hK => ?_
            go_simp
            refine (calls_b hHeld.1 (H1.out _)).mono ?_
            rintro e wr1 ⟨rfl, hV, hVl⟩
            dsimp only
            refine hK.out _ _ ?_ (fun hHeld2 => ?_)
            · exact ⟨hV, hV.oldbox HBox.out hlt0, hV.old hc1⟩
            clear hK K hV hVl hHeld
            have hHeld := hHeld2
            clear hHeld2
            try simp only [Act.put, zA, zB, zC, zD, zE, zF]
            refine wT 6 ?_
            refine wT 7 ?_
            refine wT 9 ?_
            refine wpAnyH_done (by kernel_rfl) (NoPanic.normal ?_) _
            refine world_gen ?_
            intro wz hwz
            rw [← hwz] at hHeld
            clear hwz
            have rz := hHeld.1.row HRow.out
            have hbz := HB.out.below hHeld.1.bel
            clear hHeld
            go_wp2
            refine bodyPost_ret (v := .tuple #[.slice pa out.length pc, .bool false]) (by simp [results, Tryz.results65, go_sem, *]) rfl ⟨_, rfl, ?_⟩
            exact ⟨rz, fun k hk => Nat.le_of_lt (HF.out k hk), hbz.bel⟩
end
end Go.Proofs.YtpmoajhpgekhcaaGreat
/- the document's audit: bins and racks. -/
set_option linter.unusedSimpArgs false
set_option linter.unusedVariables false
namespace Go.Proofs.YtpmoajhpgekhcaaGreat
open Go.RowKit

def allN (f : Nat → Bool) : Nat → Bool
  | 0 => true
  | k + 1 => allN f k && f k
theorem allN_no {f : Nat → Bool} {k N : Nat} (hk : k < N) (h : f k = false) : allN f N = false := by
  induction N with
  | zero => omega
  | succ N ih =>
    by_cases e : k = N
    · subst e; simp [allN, h]
    · simp [allN, ih (by omega)]
theorem allN_iff {f : Nat → Bool} {N : Nat} : allN f N = true ↔ ∀ k, k < N → f k = true := by
  induction N with
  | zero => simp [allN]
  | succ N ih =>
    simp only [allN, Bool.and_eq_true, ih]
    constructor
    · intro h k hk
      by_cases e : k = N
      · rw [e]; exact h.2
      · exact h.1 k (by omega)
    · exact fun h => ⟨fun k hk => h k (by omega), h N (by omega)⟩
theorem RowP.row {w w' : World} {l : List Int} {v : Value} (h : RowP w l v w') : ∃ a c, v = .slice a l.length c := row_shape h.1
theorem listL_len {vs : List Int} {t p : Int} : ∀ (f : Nat) (q ah : Int) (out : List Int), (out.length : Int) ≤ p → ((listL vs t p f q ah out).1.length : Int) ≤ p := by
  intro f
  induction f with
  | zero => intro q ah out h; exact h
  | succ f ih =>
    intro q ah out h
    unfold listL
    split
    · exact h
    · split
      · exact h
      · split
        · exact h
        · exact ih _ _ _ (by simp; omega)
theorem listF_len {vs : List Int} {t p : Int} (h : 0 ≤ p) (k : Nat) : ((listF vs t p k).1.length : Int) ≤ p := listL_len _ _ _ _ (by simpa using h)
def wantI (b : Bool) : Int := if b then 1 else 0
section
variable {t p s : Int} {ad : Addr} {n c : Nat} {vs : List Int}
def AllRel (f : Nat → Bool) (N : Nat) (W0 : World) (v : Value) (wr : World) : Prop := ∃ k : Nat, k ≤ N ∧ v = .int .i64 k ∧ allN f k = true ∧ Below W0.heap.size W0 wr
def binsInB (vs : List Int) (t : Int) (l : List Int) (k : Nat) (q : Nat) : Bool := ((l.count (q : Int) : Nat) : Int) == wantI (binnedB (gv vs t (q : Int) 0) k)
def binsB (vs : List Int) (t p : Int) (k : Nat) : Bool := (listF vs t p (2 + k)).2 && allN (binsInB vs t (listF vs t p (2 + k)).1 k) p.toNat
def binsF (vs : List Int) (t p : Int) : Bool := allN (binsB vs t p) 11

set_option maxHeartbeats 1000000 in
set_option maxRecDepth 100000 in
theorem bins_any (c : Nat) (w : World) (h : XV w t p s ad n vs) :
    Calls Tryz.prog 40 #[.agg #[.int .i64 t, .int .i64 p, .int .i64 s, .slice (some ad) n c]] w fun e w' => e = .returned (.bool (binsF vs t p)) ∧ Below w.heap.size w w' := by
  have X0 := h.boxed c
  have bd : 4 ≤ p ∧ p ≤ 1024 := by have := h.bd; omega
  have hnn : (n : Int) = 30 + 4 * t + 6 * p ∧ 1 ≤ t := by have := h.bd; omega
  have HN := Lib.hid hnn
  generalize hr : binsF vs t p = r
  have hr2 : allN (binsB vs t p) 11 = r := hr
  have HR := Lib.hid hr2
  clear h hr hr2 hnn
  go_enter Tryz.func40, Tryz.ntmps40
  go_wp2_with fail
  go_loopw [3, 4, 5, 6, 7] (fun v3 _ _ _ _ wr => AllRel (binsB vs t p) 11 (w.alloc (.cells #[.int .i64 t, .int .i64 p, .int .i64 s, .slice (some ad) n c] 88)) v3 wr) (fun v3 _ _ _ _ _ => 11 - (intOf v3).toNat)
  case atStart => exact ⟨0, by omega, rfl, rfl, Below.refl _ _⟩
  case round =>
    obtain ⟨k, hk, rfl, hall, hbel⟩ := hrel
    have X1 := X0.keep hbel
    have HA := Lib.hid hall
    have HBel := Lib.hid hbel
    clear hall hbel X0
    by_cases hlt : k < 11
    · have hBin := Lib.hid (fun w => rbin_any k w hlt)
      have hLi := Lib.hid (fun (w : World) (h : XV w t p s ad n vs) => list_any (2 + k) c w h (by have := HN.out; omega))
      have hfk : binsB vs t p k = ((listF vs t p (2 + k)).2 && allN (binsInB vs t (listF vs t p (2 + k)).1 k) p.toNat) := rfl
      have HFK := Lib.hid hfk
      have hlen : (listF vs t p (2 + k)).1.length ≤ 4294967296 := by have := listF_len (vs := vs) (t := t) (p := p) (by omega) (2 + k); omega
      have HLen := Lib.hid hlen
      clear hfk hlen
      have Xr := X1.box
      have Xl := X1.lt
      generalize listF vs t p (2 + k) = lr at *
      obtain ⟨l, lb⟩ := lr
      go_wp2_with fail
      refine wp_region_noPanic ?_
      refine wp_region_held_drew (S := fun w' => BS wr ([] : List Nat) w' ∧ (∀ o : Nat, w'.cell? ⟨w.heap.size, o, none⟩ = (#[.int .i64 t, .int .i64 p, .int .i64 s, .slice (some ad) n c] : Array Value)[o]?)) (by kernel_rfl) ?_ (fun hHeld => ?_)
      · exact ⟨(BS.start wr).drew, Xr⟩
      refine wT 0 ?_
      refine wT 1 ?_
      refine wR 2 fun K hK => ?_
      go_simp
      refine (calls_b hHeld.1 (hBin.out _)).mono ?_
      rintro e wr1 ⟨rfl, hV, hVl⟩
      dsimp only
      refine hK.out _ _ ?_ (fun hHeld2 => ?_)
      · exact ⟨hV, hV.oldbox Xr Xl⟩
      clear hK K hV hVl hHeld
      have hHeld := hHeld2
      clear hHeld2
      try simp only [Act.put, zA, zB, zC, zD, zE, zF]
      refine wR 3 fun K hK => ?_
      go_simp
      refine (calls_row hHeld.1 (hLi.out _ (X1.xv.keep hHeld.1.bel))).mono ?_
      rintro e wr2 ⟨lv, rfl, ⟨hV, hVl⟩, hlv⟩
      dsimp only
      refine hK.out _ _ ?_ (fun hHeld2 => ?_)
      · exact ⟨hV, hV.oldbox Xr Xl⟩
      clear hK K hV hVl hHeld
      have hHeld := hHeld2
      clear hHeld2
      try simp only [Act.put, zA, zB, zC, zD, zE, zF]
      refine wT 4 ?_
      refine wT 5 ?_
      refine wT 6 ?_
      refine wT 7 ?_
      refine wT 8 ?_
      refine wpAnyH_done (by kernel_rfl) (NoPanic.normal ?_) _
      refine world_gen ?_
      intro wz hwz
      rw [← hwz] at hHeld hlv
      clear hwz
      have X2 := X1.keep hHeld.1.bel
      obtain ⟨x0, x1, x2, x3⟩ := X2.cells
      have xl := X2.lt
      have bel2 := hHeld.1.bel
      clear hHeld Xr Xl
      obtain ⟨la, lc, rfl⟩ := hlv.row
      have HL := Lib.hid hlv
      have HB2 := Lib.hid bel2
      clear hlv bel2
      cases lb
      · have hno : binsB vs t p k = false := by rw [HFK.out]; rfl
        have hres : r = false := by rw [← HR.out]; exact allN_no hlt hno
        subst hres
        clear hno
        go_wp2
        go_ret
        exact ⟨rfl, X2.bel⟩
      · have hfk2 : binsB vs t p k = allN (binsInB vs t l k) p.toNat := by rw [HFK.out]; rfl
        have HFK2 := Lib.hid hfk2
        clear hfk2 HFK
        go_wp2_with fail
        go_loopw [6, 7] (fun v6 _ wq => AllRel (binsInB vs t l k) p.toNat wz v6 wq) (fun v6 _ _ => p.toNat - (intOf v6).toNat)
        case atStart => exact ⟨0, by omega, rfl, rfl, Below.refl _ _⟩
        case round =>
          obtain ⟨q, hq, rfl, hallq, hbq⟩ := hrel
          have X3 := X2.keep hbq
          have HQ := Lib.hid hallq
          have HBq := Lib.hid hbq
          clear hallq hbq x0 x1 x2 x3 X2
          obtain ⟨x0, x1, x2, x3⟩ := X3.cells
          by_cases hqp : (q : Int) < p
          · have hC := Lib.hid (fun (w : World) (h : XV w t p s ad n vs) => binned_any q k c w h (by omega) hqp)
            have hin : binsInB vs t l k q = (((l.count (q : Int) : Nat) : Int) == wantI (binnedB (gv vs t (q : Int) 0) k)) := rfl
            have hIn := Lib.hid (fun (w' : World) (hb : Below wz.heap.size wz w') => xin_any l q (.slice la l.length lc) w' (ownsRow_block HL.out.1 fun k hk => hb.block k (ownsRow_lt HL.out.1 hk)) HLen.out)
            have hcb : l.count (q : Int) ≤ 4294967296 := Nat.le_trans List.count_le_length HLen.out
            generalize binnedB (gv vs t (q : Int) 0) k = cd at *
            generalize l.count (q : Int) = cn at *
            have HIN := Lib.hid hin
            clear hin
            by_cases hw : (cn : Int) = wantI cd
            · have hyes : binsInB vs t l k q = true := by rw [HIN.out]; simpa using hw
              have HY := Lib.hid hyes
              have HW := Lib.hid hw
              clear hyes hw HIN
              cases cd
              · have e1 := HW.out
                have hb1 : ((cn : Int) != 0) = false := by rw [e1]; rfl
                clear e1
                go_wp2_with fail
                refine (hC.out _ X3.xv).mono ?_
                rintro e w5 ⟨rfl, hb5⟩
                have X5 := X3.keep hb5
                obtain ⟨X50, X51, X52, X53⟩ := X5.cells
                have X5z := X5.lt
                go_wp2_with fail
                refine (hIn.out _ (HBq.out.trans (hb5.mono HBq.out.size))).mono ?_
                rintro e w6 ⟨rfl, hb6⟩
                have bel6 := (HBq.out.trans (hb5.mono HBq.out.size)).trans (hb6.mono (Nat.le_trans HBq.out.size hb5.size))
                go_wp2_with fail
                go_roundw
                case rel => exact ⟨q + 1, by omega, by go_num, by simp [allN, HQ.out, HY.out], bel6⟩
                case measure => simp [intOf]; omega
              · have e1 := HW.out
                have hb1 : ((cn : Int) != 1) = false := by rw [e1]; rfl
                clear e1
                go_wp2_with fail
                refine (hC.out _ X3.xv).mono ?_
                rintro e w5 ⟨rfl, hb5⟩
                have X5 := X3.keep hb5
                obtain ⟨X50, X51, X52, X53⟩ := X5.cells
                have X5z := X5.lt
                go_wp2_with fail
                refine (hIn.out _ (HBq.out.trans (hb5.mono HBq.out.size))).mono ?_
                rintro e w6 ⟨rfl, hb6⟩
                have bel6 := (HBq.out.trans (hb5.mono HBq.out.size)).trans (hb6.mono (Nat.le_trans HBq.out.size hb5.size))
                go_wp2_with fail
                go_roundw
                case rel => exact ⟨q + 1, by omega, by go_num, by simp [allN, HQ.out, HY.out], bel6⟩
                case measure => simp [intOf]; omega
            · have hno : binsInB vs t l k q = false := by rw [HIN.out]; simpa using hw
              have hno2 : binsB vs t p k = false := by rw [HFK2.out]; exact allN_no (by omega) hno
              have hres : r = false := by rw [← HR.out]; exact allN_no hlt hno2
              subst hres
              have HW := Lib.hid hw
              clear hno hno2 hw HIN HR
              cases cd
              · have hb1 : ((cn : Int) != 0) = true := by have := HW.out; simpa [wantI] using this
                go_wp2_with fail
                refine (hC.out _ X3.xv).mono ?_
                rintro e w5 ⟨rfl, hb5⟩
                have X5 := X3.keep hb5
                obtain ⟨X50, X51, X52, X53⟩ := X5.cells
                have X5z := X5.lt
                go_wp2_with fail
                refine (hIn.out _ (HBq.out.trans (hb5.mono HBq.out.size))).mono ?_
                rintro e w6 ⟨rfl, hb6⟩
                go_wp2_with fail
                go_ret
                exact ⟨rfl, (X5.keep hb6).bel⟩
              · have hb1 : ((cn : Int) != 1) = true := by have := HW.out; simpa [wantI] using this
                go_wp2_with fail
                refine (hC.out _ X3.xv).mono ?_
                rintro e w5 ⟨rfl, hb5⟩
                have X5 := X3.keep hb5
                obtain ⟨X50, X51, X52, X53⟩ := X5.cells
                have X5z := X5.lt
                go_wp2_with fail
                refine (hIn.out _ (HBq.out.trans (hb5.mono HBq.out.size))).mono ?_
                rintro e w6 ⟨rfl, hb6⟩
                go_wp2_with fail
                go_ret
                exact ⟨rfl, (X5.keep hb6).bel⟩
          · obtain rfl : q = p.toNat := by omega
            have bel6 := HBel.out.trans ((HB2.out.trans (HBq.out.mono HB2.out.size)).mono HBel.out.size)
            have hyes : binsB vs t p k = true := by rw [HFK2.out]; exact HQ.out
            have HY := Lib.hid hyes
            clear hyes
            go_wp2_with fail
            go_roundw
            case rel => exact ⟨k + 1, by omega, by go_num, by simp [allN, HA.out, HY.out], bel6⟩
            case measure => simp [intOf]; omega
    · obtain rfl : k = 11 := by omega
      have hres : r = true := by rw [← HR.out]; exact HA.out
      subst hres
      go_wp2
      go_ret
      exact ⟨rfl, X1.bel⟩

def racksInB (vs : List Int) (t : Int) (l : List Int) (k : Nat) (q : Nat) : Bool := ((l.count (q : Int) : Nat) : Int) == wantI (rackedB (gv vs t (q : Int) 0) (gv vs t (q : Int) 5) k)
def racksB (vs : List Int) (t p : Int) (k : Nat) : Bool := (listF vs t p (13 + k)).2 && allN (racksInB vs t (listF vs t p (13 + k)).1 k) p.toNat
def racksF (vs : List Int) (t p : Int) : Bool := allN (racksB vs t p) 9

set_option maxHeartbeats 1000000 in
set_option maxRecDepth 100000 in
theorem racks_any (c : Nat) (w : World) (h : XV w t p s ad n vs) :
    Calls Tryz.prog 41 #[.agg #[.int .i64 t, .int .i64 p, .int .i64 s, .slice (some ad) n c]] w fun e w' => e = .returned (.bool (racksF vs t p)) ∧ Below w.heap.size w w' := by
  have X0 := h.boxed c
  have bd : 4 ≤ p ∧ p ≤ 1024 := by have := h.bd; omega
  have hnn : (n : Int) = 30 + 4 * t + 6 * p ∧ 1 ≤ t := by have := h.bd; omega
  have HN := Lib.hid hnn
  generalize hr : racksF vs t p = r
  have hr2 : allN (racksB vs t p) 9 = r := hr
  have HR := Lib.hid hr2
  clear h hr hr2 hnn
  go_enter Tryz.func41, Tryz.ntmps41
  go_wp2_with fail
  go_loopw [3, 4, 5, 6, 7] (fun v3 _ _ _ _ wr => AllRel (racksB vs t p) 9 (w.alloc (.cells #[.int .i64 t, .int .i64 p, .int .i64 s, .slice (some ad) n c] 88)) v3 wr) (fun v3 _ _ _ _ _ => 9 - (intOf v3).toNat)
  case atStart => exact ⟨0, by omega, rfl, rfl, Below.refl _ _⟩
  case round =>
    obtain ⟨k, hk, rfl, hall, hbel⟩ := hrel
    have X1 := X0.keep hbel
    have HA := Lib.hid hall
    have HBel := Lib.hid hbel
    clear hall hbel X0
    by_cases hlt : k < 9
    · have hBin := Lib.hid (fun w => rrack_any k w hlt)
      have hLi := Lib.hid (fun (w : World) (h : XV w t p s ad n vs) => list_any (13 + k) c w h (by have := HN.out; omega))
      have hfk : racksB vs t p k = ((listF vs t p (13 + k)).2 && allN (racksInB vs t (listF vs t p (13 + k)).1 k) p.toNat) := rfl
      have HFK := Lib.hid hfk
      have hlen : (listF vs t p (13 + k)).1.length ≤ 4294967296 := by have := listF_len (vs := vs) (t := t) (p := p) (by omega) (13 + k); omega
      have HLen := Lib.hid hlen
      clear hfk hlen
      have Xr := X1.box
      have Xl := X1.lt
      generalize listF vs t p (13 + k) = lr at *
      obtain ⟨l, lb⟩ := lr
      go_wp2_with fail
      refine wp_region_noPanic ?_
      refine wp_region_held_drew (S := fun w' => BS wr ([] : List Nat) w' ∧ (∀ o : Nat, w'.cell? ⟨w.heap.size, o, none⟩ = (#[.int .i64 t, .int .i64 p, .int .i64 s, .slice (some ad) n c] : Array Value)[o]?)) (by kernel_rfl) ?_ (fun hHeld => ?_)
      · exact ⟨(BS.start wr).drew, Xr⟩
      refine wT 0 ?_
      refine wT 1 ?_
      refine wR 2 fun K hK => ?_
      go_simp
      refine (calls_b hHeld.1 (hBin.out _)).mono ?_
      rintro e wr1 ⟨rfl, hV, hVl⟩
      dsimp only
      refine hK.out _ _ ?_ (fun hHeld2 => ?_)
      · exact ⟨hV, hV.oldbox Xr Xl⟩
      clear hK K hV hVl hHeld
      have hHeld := hHeld2
      clear hHeld2
      try simp only [Act.put, zA, zB, zC, zD, zE, zF]
      refine wR 3 fun K hK => ?_
      go_simp
      refine (calls_row hHeld.1 (hLi.out _ (X1.xv.keep hHeld.1.bel))).mono ?_
      rintro e wr2 ⟨lv, rfl, ⟨hV, hVl⟩, hlv⟩
      dsimp only
      refine hK.out _ _ ?_ (fun hHeld2 => ?_)
      · exact ⟨hV, hV.oldbox Xr Xl⟩
      clear hK K hV hVl hHeld
      have hHeld := hHeld2
      clear hHeld2
      try simp only [Act.put, zA, zB, zC, zD, zE, zF]
      refine wT 4 ?_
      refine wT 5 ?_
      refine wT 6 ?_
      refine wT 7 ?_
      refine wT 8 ?_
      refine wpAnyH_done (by kernel_rfl) (NoPanic.normal ?_) _
      refine world_gen ?_
      intro wz hwz
      rw [← hwz] at hHeld hlv
      clear hwz
      have X2 := X1.keep hHeld.1.bel
      obtain ⟨x0, x1, x2, x3⟩ := X2.cells
      have xl := X2.lt
      have bel2 := hHeld.1.bel
      clear hHeld Xr Xl
      obtain ⟨la, lc, rfl⟩ := hlv.row
      have HL := Lib.hid hlv
      have HB2 := Lib.hid bel2
      clear hlv bel2
      cases lb
      · have hno : racksB vs t p k = false := by rw [HFK.out]; rfl
        have hres : r = false := by rw [← HR.out]; exact allN_no hlt hno
        subst hres
        clear hno
        go_wp2
        go_ret
        exact ⟨rfl, X2.bel⟩
      · have hfk2 : racksB vs t p k = allN (racksInB vs t l k) p.toNat := by rw [HFK.out]; rfl
        have HFK2 := Lib.hid hfk2
        clear hfk2 HFK
        go_wp2_with fail
        go_loopw [6, 7] (fun v6 _ wq => AllRel (racksInB vs t l k) p.toNat wz v6 wq) (fun v6 _ _ => p.toNat - (intOf v6).toNat)
        case atStart => exact ⟨0, by omega, rfl, rfl, Below.refl _ _⟩
        case round =>
          obtain ⟨q, hq, rfl, hallq, hbq⟩ := hrel
          have X3 := X2.keep hbq
          have HQ := Lib.hid hallq
          have HBq := Lib.hid hbq
          clear hallq hbq x0 x1 x2 x3 X2
          obtain ⟨x0, x1, x2, x3⟩ := X3.cells
          by_cases hqp : (q : Int) < p
          · have hC := Lib.hid (fun (w : World) (h : XV w t p s ad n vs) => racked_any q k c w h (by omega) hqp)
            have hin : racksInB vs t l k q = (((l.count (q : Int) : Nat) : Int) == wantI (rackedB (gv vs t (q : Int) 0) (gv vs t (q : Int) 5) k)) := rfl
            have hIn := Lib.hid (fun (w' : World) (hb : Below wz.heap.size wz w') => xin_any l q (.slice la l.length lc) w' (ownsRow_block HL.out.1 fun k hk => hb.block k (ownsRow_lt HL.out.1 hk)) HLen.out)
            have hcb : l.count (q : Int) ≤ 4294967296 := Nat.le_trans List.count_le_length HLen.out
            generalize rackedB (gv vs t (q : Int) 0) (gv vs t (q : Int) 5) k = cd at *
            generalize l.count (q : Int) = cn at *
            have HIN := Lib.hid hin
            clear hin
            by_cases hw : (cn : Int) = wantI cd
            · have hyes : racksInB vs t l k q = true := by rw [HIN.out]; simpa using hw
              have HY := Lib.hid hyes
              have HW := Lib.hid hw
              clear hyes hw HIN
              cases cd
              · have e1 := HW.out
                have hb1 : ((cn : Int) != 0) = false := by rw [e1]; rfl
                clear e1
                go_wp2_with fail
                refine (hC.out _ X3.xv).mono ?_
                rintro e w5 ⟨rfl, hb5⟩
                have X5 := X3.keep hb5
                obtain ⟨X50, X51, X52, X53⟩ := X5.cells
                have X5z := X5.lt
                go_wp2_with fail
                refine (hIn.out _ (HBq.out.trans (hb5.mono HBq.out.size))).mono ?_
                rintro e w6 ⟨rfl, hb6⟩
                have bel6 := (HBq.out.trans (hb5.mono HBq.out.size)).trans (hb6.mono (Nat.le_trans HBq.out.size hb5.size))
                go_wp2_with fail
                go_roundw
                case rel => exact ⟨q + 1, by omega, by go_num, by simp [allN, HQ.out, HY.out], bel6⟩
                case measure => simp [intOf]; omega
              · have e1 := HW.out
                have hb1 : ((cn : Int) != 1) = false := by rw [e1]; rfl
                clear e1
                go_wp2_with fail
                refine (hC.out _ X3.xv).mono ?_
                rintro e w5 ⟨rfl, hb5⟩
                have X5 := X3.keep hb5
                obtain ⟨X50, X51, X52, X53⟩ := X5.cells
                have X5z := X5.lt
                go_wp2_with fail
                refine (hIn.out _ (HBq.out.trans (hb5.mono HBq.out.size))).mono ?_
                rintro e w6 ⟨rfl, hb6⟩
                have bel6 := (HBq.out.trans (hb5.mono HBq.out.size)).trans (hb6.mono (Nat.le_trans HBq.out.size hb5.size))
                go_wp2_with fail
                go_roundw
                case rel => exact ⟨q + 1, by omega, by go_num, by simp [allN, HQ.out, HY.out], bel6⟩
                case measure => simp [intOf]; omega
            · have hno : racksInB vs t l k q = false := by rw [HIN.out]; simpa using hw
              have hno2 : racksB vs t p k = false := by rw [HFK2.out]; exact allN_no (by omega) hno
              have hres : r = false := by rw [← HR.out]; exact allN_no hlt hno2
              subst hres
              have HW := Lib.hid hw
              clear hno hno2 hw HIN HR
              cases cd
              · have hb1 : ((cn : Int) != 0) = true := by have := HW.out; simpa [wantI] using this
                go_wp2_with fail
                refine (hC.out _ X3.xv).mono ?_
                rintro e w5 ⟨rfl, hb5⟩
                have X5 := X3.keep hb5
                obtain ⟨X50, X51, X52, X53⟩ := X5.cells
                have X5z := X5.lt
                go_wp2_with fail
                refine (hIn.out _ (HBq.out.trans (hb5.mono HBq.out.size))).mono ?_
                rintro e w6 ⟨rfl, hb6⟩
                go_wp2_with fail
                go_ret
                exact ⟨rfl, (X5.keep hb6).bel⟩
              · have hb1 : ((cn : Int) != 1) = true := by have := HW.out; simpa [wantI] using this
                go_wp2_with fail
                refine (hC.out _ X3.xv).mono ?_
                rintro e w5 ⟨rfl, hb5⟩
                have X5 := X3.keep hb5
                obtain ⟨X50, X51, X52, X53⟩ := X5.cells
                have X5z := X5.lt
                go_wp2_with fail
                refine (hIn.out _ (HBq.out.trans (hb5.mono HBq.out.size))).mono ?_
                rintro e w6 ⟨rfl, hb6⟩
                go_wp2_with fail
                go_ret
                exact ⟨rfl, (X5.keep hb6).bel⟩
          · obtain rfl : q = p.toNat := by omega
            have bel6 := HBel.out.trans ((HB2.out.trans (HBq.out.mono HB2.out.size)).mono HBel.out.size)
            have hyes : racksB vs t p k = true := by rw [HFK2.out]; exact HQ.out
            have HY := Lib.hid hyes
            clear hyes
            go_wp2_with fail
            go_roundw
            case rel => exact ⟨k + 1, by omega, by go_num, by simp [allN, HA.out, HY.out], bel6⟩
            case measure => simp [intOf]; omega
    · obtain rfl : k = 9 := by omega
      have hres : r = true := by rw [← HR.out]; exact HA.out
      subst hres
      go_wp2
      go_ret
      exact ⟨rfl, X1.bel⟩
end
end Go.Proofs.YtpmoajhpgekhcaaGreat
/- the document's audit: tiles, apart, feet. -/
set_option linter.unusedSimpArgs false
set_option linter.unusedVariables false
namespace Go.Proofs.YtpmoajhpgekhcaaGreat
open Go.RowKit

def tilesN (vs : List Int) (t : Int) (l : List Int) : Nat → Option Nat
  | 0 => some 0
  | q + 1 => match tilesN vs t l q with
    | none => none
    | some n => if l[n]? = some (q : Int) then some (n + 1) else if gv vs t (q : Int) 0 = 0 then some n else none
def tilesF (vs : List Int) (t p : Int) : Bool := (startsF (fun q => gv vs t q 0) p).2 && (tilesN vs t (startsF (fun q => gv vs t q 0) p).1 p.toNat).isSome
theorem tilesN_no {vs : List Int} {t : Int} {l : List Int} {k N : Nat} (hk : k ≤ N) (h : tilesN vs t l k = none) : tilesN vs t l N = none := by
  induction N with
  | zero => obtain rfl : k = 0 := by omega
            exact h
  | succ N ih =>
    by_cases e : k = N + 1
    · subst e; exact h
    · unfold tilesN; rw [ih (by omega)]

theorem startsL_mem {g : Int → Int} {p : Int} : ∀ (f : Nat) (a : Int) (out : List Int), 0 ≤ a → (∀ x ∈ out, 0 ≤ x ∧ x < p) → (∀ x ∈ (startsL g p f a out).1, 0 ≤ x ∧ x < p) ∧ (out ≠ [] → (startsL g p f a out).2 = true → (startsL g p f a out).1 ≠ []) ∧ ((out.length : Int) ≤ a → (out.length : Int) ≤ p → ((startsL g p f a out).1.length : Int) ≤ p) := by
  intro f
  induction f with
  | zero => intro a out _ h; exact ⟨h, fun h _ => h, fun _ h => h⟩
  | succ f ih =>
    intro a out ha h
    unfold startsL
    by_cases h1 : a < p
    · rw [if_pos h1]
      by_cases h2 : okI (g a) = false ∨ iK (g a) = 0
      · rw [if_pos h2]
        exact ⟨by simp, by simp, by simp; omega⟩
      · rw [if_neg h2]
        have b := inf_bd (g a)
        have h3 : 1 ≤ iL (g a) := (b.2.2.2.2.2.2.1 (fun e => h2 (Or.inr e))).2
        obtain ⟨i1, i2, i3⟩ := ih (a + iL (g a)) (out ++ [a]) (by omega) (by
          intro x hx
          simp at hx
          rcases hx with hx | rfl
          · exact h x hx
          · exact ⟨ha, h1⟩)
        exact ⟨i1, fun _ => i2 (by simp), fun h4 h5 => i3 (by simp; omega) (by simp; omega)⟩
    · rw [if_neg h1]
      exact ⟨h, fun h _ => h, fun _ h => h⟩
theorem startsF_mem {g : Int → Int} {p : Int} (hp : 0 < p) : (∀ x ∈ (startsF g p).1, 0 ≤ x ∧ x < p) ∧ ((startsF g p).2 = true → (startsF g p).1 ≠ []) ∧ ((startsF g p).1.length : Int) ≤ p := by
  obtain ⟨h1, h2, h3⟩ := startsL_mem (g := g) (p := p) (p.toNat + 1) 0 [] (by omega) (by simp)
  refine ⟨h1, fun h => ?_, h3 (by simp) (by simp; omega)⟩
  unfold startsF at h ⊢
  unfold startsL at h ⊢
  rw [if_pos hp] at h ⊢
  by_cases h4 : okI (g 0) = false ∨ iK (g 0) = 0
  · rw [if_pos h4] at h; simp at h
  · rw [if_neg h4] at h ⊢
    have b := inf_bd (g 0)
    exact (startsL_mem _ _ _ (by omega) (by simp; omega)).2.1 (by simp) h

theorem RowP.cell {w w' : World} {l : List Int} {a : Option Addr} {m c : Nat} (h : RowP w l (.slice a m c) w') {k : Nat} (hk : k < l.length) :
    ∃ g, a = some ⟨g, 0, none⟩ ∧ w'.cell? ⟨g, k, none⟩ = some (.int .i64 (l.getD k 0)) := by
  obtain ⟨g, cap, e⟩ := Joins.ownsRow_form h.1 (by omega)
  simp only [Value.slice.injEq] at e
  obtain ⟨rfl, rfl, rfl⟩ := e
  refine ⟨g, rfl, ?_⟩
  rw [h.1.cellAt k (by omega)]
  simp [ints, hk]

theorem fieldInfo0 (x y z : Value) (w : World) : (Instr.field 61 (.agg #[x, y, z]) 0).run Tryz.prog w = .ok x w := by
  simp [Instr.field, asAgg, go_sem]
theorem fieldInfo1 (x y z : Value) (w : World) : (Instr.field 61 (.agg #[x, y, z]) 1).run Tryz.prog w = .ok y w := by
  simp [Instr.field, asAgg, go_sem]

section
variable {t p s : Int} {ad : Addr} {n c : Nat} {vs : List Int}

def TileRel (vs : List Int) (t p : Int) (l : List Int) (W0 : World) (v5 v6 : Value) (wr : World) : Prop := ∃ q m : Nat, (q : Int) ≤ p ∧ v6 = .int .i64 q ∧ v5 = .int .i64 m ∧ m ≤ q ∧ tilesN vs t l q = some m ∧ Below W0.heap.size W0 wr

set_option maxHeartbeats 1000000 in
set_option maxRecDepth 100000 in
theorem tiles_any (c : Nat) (w : World) (h : XV w t p s ad n vs) :
    Calls Tryz.prog 36 #[.agg #[.int .i64 t, .int .i64 p, .int .i64 s, .slice (some ad) n c]] w fun e w' => e = .returned (.bool (tilesF vs t p)) ∧ Below w.heap.size w w' := by
  have X0 := h.boxed c
  have bd : 4 ≤ p ∧ p ≤ 1024 := by have := h.bd; omega
  have HS := Lib.hid (fun (w : World) (h : XV w t p s ad n vs) => starts_any c w h)
  have HX : ∀ q, 0 ≤ q → q < p → ∃ k : Nat, k < n ∧ (∀ w, Calls Tryz.prog 59 #[.agg #[.int .i64 t, .int .i64 p, .int .i64 s], .int .i64 q] w fun e w' => e = .returned (.int .i64 k) ∧ Below w.heap.size w w') ∧ w.cell? (ad.add k) = some (.int .u32 (gv vs t q 0)) := by
    intro q h0 h1
    obtain ⟨hx1, hx2⟩ := h.cx h0 h1 (part := 0) (by omega) (by omega)
    refine ⟨cix t q 0, hx1, fun w => ?_, h.cells _ hx1⟩
    have := rinfo_any t p s q w
    rwa [hx2] at this
  have HXX := Lib.hid HX
  have hlen := (startsF_mem (g := fun q => gv vs t q 0) (p := p) (by omega)).2.2
  have HLen := Lib.hid hlen
  generalize hr : tilesF vs t p = r
  have hr2 : ((startsF (fun q => gv vs t q 0) p).2 && (tilesN vs t (startsF (fun q => gv vs t q 0) p).1 p.toNat).isSome) = r := hr
  have HR := Lib.hid hr2
  clear h hr hr2 HX hlen
  generalize startsF (fun q => gv vs t q 0) p = st at *
  obtain ⟨l, lb⟩ := st
  go_enter Tryz.func36, Tryz.ntmps36
  go_wp2_with fail
  refine (HS.out _ X0.xv).mono ?_
  rintro e w1 ⟨lv, rfl, hlv⟩
  have X1 := X0.keep hlv.2.2
  obtain ⟨la, lc, rfl⟩ := hlv.row
  have HL := Lib.hid hlv
  clear hlv X0
  cases lb
  · have hres : r = false := by rw [← HR.out]; rfl
    subst hres
    go_wp2
    go_ret
    exact ⟨rfl, X1.bel⟩
  · have hr3 : (tilesN vs t l p.toNat).isSome = r := by rw [← HR.out]; rfl
    have HR3 := Lib.hid hr3
    obtain ⟨x0, x1, x2, x3⟩ := X1.cells
    clear HR hr3
    go_wp2_with fail
    go_loopw [5, 6] (fun v5 v6 wr => TileRel vs t p l w1 v5 v6 wr) (fun _ v6 _ => p.toNat - (intOf v6).toNat)
    case atStart => exact ⟨0, 0, by omega, rfl, rfl, by omega, rfl, Below.refl _ _⟩
    case round =>
      obtain ⟨q, m, hq, rfl, rfl, hmq, htn, hbq⟩ := hrel
      have X3 := X1.keep hbq
      have HT := Lib.hid htn
      have HB := Lib.hid hbq
      clear htn hbq x0 x1 x2 x3
      obtain ⟨x0, x1, x2, x3⟩ := X3.cells
      have HLen2 := HLen.out
      by_cases hqp : (q : Int) < p
      · have hstep : tilesN vs t l (q + 1) = if l[m]? = some (q : Int) then some (m + 1) else if gv vs t (q : Int) 0 = 0 then some m else none := by
          show (match tilesN vs t l q with
            | none => none
            | some n => if l[n]? = some (q : Int) then some (n + 1) else if gv vs t (q : Int) 0 = 0 then some n else none) = _
          rw [HT.out]
        by_cases hl : m < l.length
        · obtain ⟨g, rfl, hc0⟩ := HL.out.cell hl
          have hc1 := (HB.out.cell (World.block_lt_of_cell? _ _ hc0)).trans hc0
          have hget : l[m]? = some (l.getD m 0) := by simp [hl]
          rw [hget] at hstep
          generalize l.getD m 0 = y at *
          by_cases hy : y = (q : Int)
          · have hb : (y == (q : Int)) = true := by simp [hy]
            rw [if_pos (by rw [hy])] at hstep
            have HS2 := Lib.hid hstep
            clear hstep hget hy hc0
            go_wp2_with fail
            go_roundw
            case rel => exact ⟨q + 1, m + 1, by omega, by go_num, by go_num, by omega, HS2.out, HB.out⟩
            case measure => simp [intOf]; omega
          · have hb : (y == (q : Int)) = false := by simp [hy]
            rw [if_neg (by simpa using hy)] at hstep
            obtain ⟨k, hkn, hI, hd0⟩ := HXX.out q (by omega) hqp
            have hd1 := X3.xv.cells
            have hd2 := (BS.mk X3.bel (by simp) : BS w [] wr).old hd0
            have HI := Lib.hid hI
            have HBox := Lib.hid X3.box
            have hxl := X3.lt
            clear hget hy hc0 hI hd0 hd1
            generalize gv vs t (q : Int) 0 = u at *
            by_cases hu : u = 0
            · have hub : (u != 0) = false := by simp [hu]
              rw [if_pos hu] at hstep
              have HS2 := Lib.hid hstep
              clear hstep hu
              go_wp2_with fail
              refine wp_region_noPanic ?_
              refine wp_region_held_drew (S := fun w' => BS wr ([] : List Nat) w' ∧ (∀ o : Nat, w'.cell? ⟨w.heap.size, o, none⟩ = (#[.int .i64 t, .int .i64 p, .int .i64 s, .slice (some ad) n c] : Array Value)[o]?) ∧ w'.cell? (ad.add k) = some (.int .u32 u)) (by kernel_rfl) ?_ (fun hHeld => ?_)
              · exact ⟨(BS.start wr).drew, HBox.out, hd2⟩
              refine wT 0 ?_
              refine wT 1 ?_
              refine wT 2 ?_
              refine wT 3 ?_
              refine wT 4 ?_
              refine wR 5 fun K hK => ?_
              go_simp
              refine (calls_b hHeld.1 (HI.out _)).mono ?_
              rintro e wr1 ⟨rfl, hV, hVl⟩
              dsimp only
              refine hK.out _ _ ?_ (fun hHeld2 => ?_)
              · exact ⟨hV, hV.oldbox HBox.out hxl, hV.old hd2⟩
              clear hK K hV hVl hHeld
              have hHeld := hHeld2
              clear hHeld2
              try simp only [Act.put, zA, zB, zC, zD, zE, zF]
              refine wT 6 ?_
              refine wT 7 ?_
              refine wT 8 ?_
              refine wpAnyH_done (by kernel_rfl) (NoPanic.normal ?_) _
              refine world_gen ?_
              intro wz hwz
              rw [← hwz] at hHeld
              clear hwz
              have hbz := HB.out.trans (hHeld.1.bel.mono HB.out.size)
              clear hHeld
              go_wp2_with fail
              go_roundw
              case rel => exact ⟨q + 1, m, by omega, by go_num, rfl, by omega, HS2.out, hbz⟩
              case measure => simp [intOf]; omega
            · have hub : (u != 0) = true := by simp [hu]
              rw [if_neg hu] at hstep
              have hres : r = false := by rw [← HR3.out, tilesN_no (k := q + 1) (by omega) hstep]; rfl
              subst hres
              clear hstep hu
              go_wp2_with fail
              refine wp_region_noPanic ?_
              refine wp_region_held_drew (S := fun w' => BS wr ([] : List Nat) w' ∧ (∀ o : Nat, w'.cell? ⟨w.heap.size, o, none⟩ = (#[.int .i64 t, .int .i64 p, .int .i64 s, .slice (some ad) n c] : Array Value)[o]?) ∧ w'.cell? (ad.add k) = some (.int .u32 u)) (by kernel_rfl) ?_ (fun hHeld => ?_)
              · exact ⟨(BS.start wr).drew, HBox.out, hd2⟩
              refine wT 0 ?_
              refine wT 1 ?_
              refine wT 2 ?_
              refine wT 3 ?_
              refine wT 4 ?_
              refine wR 5 fun K hK => ?_
              go_simp
              refine (calls_b hHeld.1 (HI.out _)).mono ?_
              rintro e wr1 ⟨rfl, hV, hVl⟩
              dsimp only
              refine hK.out _ _ ?_ (fun hHeld2 => ?_)
              · exact ⟨hV, hV.oldbox HBox.out hxl, hV.old hd2⟩
              clear hK K hV hVl hHeld
              have hHeld := hHeld2
              clear hHeld2
              try simp only [Act.put, zA, zB, zC, zD, zE, zF]
              refine wT 6 ?_
              refine wT 7 ?_
              refine wT 8 ?_
              refine wpAnyH_done (by kernel_rfl) (NoPanic.normal ?_) _
              refine world_gen ?_
              intro wz hwz
              rw [← hwz] at hHeld
              clear hwz
              have hbz := X3.keep hHeld.1.bel
              clear hHeld
              go_wp2
              go_ret
              exact ⟨rfl, hbz.bel⟩
        · have hgn : l[m]? = none := List.getElem?_eq_none (by omega)
          rw [hgn, if_neg (by simp)] at hstep
          obtain ⟨k, hkn, hI, hd0⟩ := HXX.out q (by omega) hqp
          have hd2 := (BS.mk X3.bel (by simp) : BS w [] wr).old hd0
          have HI := Lib.hid hI
          have HBox := Lib.hid X3.box
          have hxl := X3.lt
          clear hI hd0
          generalize gv vs t (q : Int) 0 = u at *
          by_cases hu : u = 0
          · have hub : (u != 0) = false := by simp [hu]
            rw [if_pos hu] at hstep
            have HS2 := Lib.hid hstep
            clear hstep hu
            go_wp2_with fail
            refine wp_region_noPanic ?_
            refine wp_region_held_drew (S := fun w' => BS wr ([] : List Nat) w' ∧ (∀ o : Nat, w'.cell? ⟨w.heap.size, o, none⟩ = (#[.int .i64 t, .int .i64 p, .int .i64 s, .slice (some ad) n c] : Array Value)[o]?) ∧ w'.cell? (ad.add k) = some (.int .u32 u)) (by kernel_rfl) ?_ (fun hHeld => ?_)
            · exact ⟨(BS.start wr).drew, HBox.out, hd2⟩
            refine wT 0 ?_
            refine wT 1 ?_
            refine wT 2 ?_
            refine wT 3 ?_
            refine wT 4 ?_
            refine wR 5 fun K hK => ?_
            go_simp
            refine (calls_b hHeld.1 (HI.out _)).mono ?_
            rintro e wr1 ⟨rfl, hV, hVl⟩
            dsimp only
            refine hK.out _ _ ?_ (fun hHeld2 => ?_)
            · exact ⟨hV, hV.oldbox HBox.out hxl, hV.old hd2⟩
            clear hK K hV hVl hHeld
            have hHeld := hHeld2
            clear hHeld2
            try simp only [Act.put, zA, zB, zC, zD, zE, zF]
            refine wT 6 ?_
            refine wT 7 ?_
            refine wT 8 ?_
            refine wpAnyH_done (by kernel_rfl) (NoPanic.normal ?_) _
            refine world_gen ?_
            intro wz hwz
            rw [← hwz] at hHeld
            clear hwz
            have hbz := HB.out.trans (hHeld.1.bel.mono HB.out.size)
            clear hHeld
            go_wp2_with fail
            go_roundw
            case rel => exact ⟨q + 1, m, by omega, by go_num, rfl, by omega, HS2.out, hbz⟩
            case measure => simp [intOf]; omega
          · have hub : (u != 0) = true := by simp [hu]
            rw [if_neg hu] at hstep
            have hres : r = false := by rw [← HR3.out, tilesN_no (k := q + 1) (by omega) hstep]; rfl
            subst hres
            clear hstep hu
            go_wp2_with fail
            refine wp_region_noPanic ?_
            refine wp_region_held_drew (S := fun w' => BS wr ([] : List Nat) w' ∧ (∀ o : Nat, w'.cell? ⟨w.heap.size, o, none⟩ = (#[.int .i64 t, .int .i64 p, .int .i64 s, .slice (some ad) n c] : Array Value)[o]?) ∧ w'.cell? (ad.add k) = some (.int .u32 u)) (by kernel_rfl) ?_ (fun hHeld => ?_)
            · exact ⟨(BS.start wr).drew, HBox.out, hd2⟩
            refine wT 0 ?_
            refine wT 1 ?_
            refine wT 2 ?_
            refine wT 3 ?_
            refine wT 4 ?_
            refine wR 5 fun K hK => ?_
            go_simp
            refine (calls_b hHeld.1 (HI.out _)).mono ?_
            rintro e wr1 ⟨rfl, hV, hVl⟩
            dsimp only
            refine hK.out _ _ ?_ (fun hHeld2 => ?_)
            · exact ⟨hV, hV.oldbox HBox.out hxl, hV.old hd2⟩
            clear hK K hV hVl hHeld
            have hHeld := hHeld2
            clear hHeld2
            try simp only [Act.put, zA, zB, zC, zD, zE, zF]
            refine wT 6 ?_
            refine wT 7 ?_
            refine wT 8 ?_
            refine wpAnyH_done (by kernel_rfl) (NoPanic.normal ?_) _
            refine world_gen ?_
            intro wz hwz
            rw [← hwz] at hHeld
            clear hwz
            have hbz := X3.keep hHeld.1.bel
            clear hHeld
            go_wp2
            go_ret
            exact ⟨rfl, hbz.bel⟩
      · obtain rfl : q = p.toNat := by omega
        have hres : r = true := by rw [← HR3.out, HT.out]; rfl
        subst hres
        go_wp2
        go_ret
        exact ⟨rfl, X3.bel⟩

end
end Go.Proofs.YtpmoajhpgekhcaaGreat
