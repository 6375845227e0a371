/- parts of the proof, merged by a program. -/
import Derived.Test.YtcbikgafdclhaaaGreatMoc1
import Derived.Test.YtcbikgafdclhaaaGreatMoc2
set_option linter.unusedSimpArgs false
set_option linter.unusedVariables false
/- the document's audit: the bits of pages, the starts of spans. -/
set_option linter.unusedSimpArgs false
set_option linter.unusedVariables false
namespace Go.Proofs.YtcbikgafdclhaaaGreat
open Go.RowKit
section
variable {t p s : Int} {ad : Addr} {n : Nat} {vs : List Int}

theorem xslots_any (q : Int) (c : Nat) (w : World) (h : XV w t p s ad n vs) (h0 : 0 ≤ q) (h1 : q < p) :
 Calls Tryz.prog 209 #[.agg #[.int .i64 t, .int .i64 p, .int .i64 s, .slice (some ad) n c], .int .i64 q] w fun e w' => e = .returned (.int .u32 (gv vs t q 4)) ∧ Below w.heap.size w w' := by
 obtain ⟨hx1, hx2⟩ := h.cx h0 h1 (part := 4) (by omega) (by omega)
 have hc0 := h.cells _ hx1
 have hI := fun w => rslots_any t p s q w
 rw [hx2] at hI
 have hd : vs.getD (cix t q 4) 0 = gv vs t q 4 := rfl
 rw [hd] at hc0
 generalize gv vs t q 4 = v at *
 generalize cix t q 4 = k at *
 have H1 := Lib.hid hI
 clear h hd hI hx2
 have hS0 := ((BS.start w).alloc (.cells #[.int .i64 t, .int .i64 p, .int .i64 s, .slice (some ad) n c] 169))
 go_enter Tryz.func209, Tryz.ntmps209
 go_wp2_with fail
 refine wp_region_noPanic ?_
 refine wp_region_held_drew (S := fun w' => BS w [w.heap.size] w' ∧ (∀ o : Nat, w'.cell? ⟨w.heap.size, o, none⟩ = (#[.int .i64 t, .int .i64 p, .int .i64 s, .slice (some ad) n c] : Array Value)[o]?) ∧ w'.cell? (ad.add k) = some (.int .u32 v)) (by kernel_rfl) ?_ (fun hHeld => ?_)
 ·exact ⟨hS0.drew, (loc_alloc w _ _), hS0.drew.old hc0⟩
 refine wT 0 ?_
 refine wT 1 ?_
 refine wT 2 ?_
 refine wT 3 ?_
 refine wT 4 ?_
 refine wR 5 fun K hK => ?_
 go_simp
 refine (calls_b hHeld.1 (H1.out _)).mono ?_
 rintro e wr1 ⟨rfl, hV, hVl⟩
 dsimp only
 refine hK.out _ _ ?_ (fun hHeld2 => ?_)
 ·exact ⟨hV, loc_step hVl (by simp) hHeld.2.1, hV.old hc0⟩
 clear hK K hV hVl hHeld
 have hHeld := hHeld2
 clear hHeld2
 try simp only [Act.put, zA, zB, zC, zD, zE, zF]
 refine wT 6 ?_
 refine wT 7 ?_
 refine wT 8 ?_
 refine wpAnyH_done (by kernel_rfl) (NoPanic.normal ?_) _
 refine world_gen ?_
 intro wz hwz
 rw [← hwz] at hHeld
 clear hwz
 have bel := hHeld.1.bel
 clear hHeld hS0 hc0 H1
 go_wp2
 go_ret
 exact ⟨rfl, bel⟩

theorem xtaken_any (q : Int) (c : Nat) (w : World) (h : XV w t p s ad n vs) (h0 : 0 ≤ q) (h1 : q < p) :
 Calls Tryz.prog 210 #[.agg #[.int .i64 t, .int .i64 p, .int .i64 s, .slice (some ad) n c], .int .i64 q] w fun e w' => e = .returned (.int .u32 (gv vs t q 5)) ∧ Below w.heap.size w w' := by
 obtain ⟨hx1, hx2⟩ := h.cx h0 h1 (part := 5) (by omega) (by omega)
 have hc0 := h.cells _ hx1
 have hI := fun w => rtaken_any t p s q w
 rw [hx2] at hI
 have hd : vs.getD (cix t q 5) 0 = gv vs t q 5 := rfl
 rw [hd] at hc0
 generalize gv vs t q 5 = v at *
 generalize cix t q 5 = k at *
 have H1 := Lib.hid hI
 clear h hd hI hx2
 have hS0 := ((BS.start w).alloc (.cells #[.int .i64 t, .int .i64 p, .int .i64 s, .slice (some ad) n c] 169))
 go_enter Tryz.func210, Tryz.ntmps210
 go_wp2_with fail
 refine wp_region_noPanic ?_
 refine wp_region_held_drew (S := fun w' => BS w [w.heap.size] w' ∧ (∀ o : Nat, w'.cell? ⟨w.heap.size, o, none⟩ = (#[.int .i64 t, .int .i64 p, .int .i64 s, .slice (some ad) n c] : Array Value)[o]?) ∧ w'.cell? (ad.add k) = some (.int .u32 v)) (by kernel_rfl) ?_ (fun hHeld => ?_)
 ·exact ⟨hS0.drew, (loc_alloc w _ _), hS0.drew.old hc0⟩
 refine wT 0 ?_
 refine wT 1 ?_
 refine wT 2 ?_
 refine wT 3 ?_
 refine wT 4 ?_
 refine wR 5 fun K hK => ?_
 go_simp
 refine (calls_b hHeld.1 (H1.out _)).mono ?_
 rintro e wr1 ⟨rfl, hV, hVl⟩
 dsimp only
 refine hK.out _ _ ?_ (fun hHeld2 => ?_)
 ·exact ⟨hV, loc_step hVl (by simp) hHeld.2.1, hV.old hc0⟩
 clear hK K hV hVl hHeld
 have hHeld := hHeld2
 clear hHeld2
 try simp only [Act.put, zA, zB, zC, zD, zE, zF]
 refine wT 6 ?_
 refine wT 7 ?_
 refine wT 8 ?_
 refine wpAnyH_done (by kernel_rfl) (NoPanic.normal ?_) _
 refine world_gen ?_
 intro wz hwz
 rw [← hwz] at hHeld
 clear hwz
 have bel := hHeld.1.bel
 clear hHeld hS0 hc0 H1
 go_wp2
 go_ret
 exact ⟨rfl, bel⟩

/-- a new row of numbers comes back. -/
def RowP (w : World) (l : List Int) (v : Value) (w' : World) : Prop :=
 w'.ownsRow 0 3 1 v l.length (ints l) ∧ (∀ k, v.ownBlock = some k → w.heap.size ≤ k) ∧ Below w.heap.size w w'

def startsL (g : Int → Int) (p : Int) : Nat → Int → List Int → List Int × Bool
 | 0, a, out => (out, a == p)
 | f + 1, a, out => if a < p then (if okI (g a) = false ∨ iK (g a) = 0 then ([], false) else startsL g p f (a + iL (g a)) (out ++ [a])) else (out, a == p)
def startsF (g : Int → Int) (p : Int) : List Int × Bool := startsL g p (p.toNat + 1) 0 []

structure StRel (w : World) (g : Int → Int) (t p s : Int) (sl : Value) (res : List Int × Bool) (v4 v5 : Value) (wr : World) (out : List Int) (a : Int) : Prop where
 ha : v5 = .int .i64 a
 a0 : 0 ≤ a
 a1 : a ≤ p + 1024
 row : wr.ownsRow 0 3 1 v4 out.length (ints out)
 bs : BS w (w.heap.size :: v4.ownBlock.toList) wr
 box : ∀ o : Nat, wr.cell? ⟨w.heap.size, o, none⟩ = (#[.int .i64 t, .int .i64 p, .int .i64 s, sl] : Array Value)[o]?
 le : (out.length : Int) ≤ a ∧ (out.length : Int) ≤ p
 res : startsL g p (p.toNat + 1 - out.length) a out = res
 far : ∀ k, v4.ownBlock = some k → w.heap.size < k
def StRelE (w : World) (g : Int → Int) (t p s : Int) (sl : Value) (res : List Int × Bool) (v4 v5 : Value) (wr : World) : Prop := ∃ out a, StRel w g t p s sl res v4 v5 wr out a

set_option maxHeartbeats 2000000 in
set_option maxRecDepth 100000 in
theorem starts_any (c : Nat) (w : World) (h : XV w t p s ad n vs) :
 Calls Tryz.prog 207 #[.agg #[.int .i64 t, .int .i64 p, .int .i64 s, .slice (some ad) n c]] w fun e w' => ∃ v, e = .returned (.tuple #[v, .bool (startsF (fun q => gv vs t q 0) p).2]) ∧ RowP w (startsF (fun q => gv vs t q 0) p).1 v w' := by
 have r0 := row_empty (w.alloc (.cells #[.int .i64 t, .int .i64 p, .int .i64 s, .slice (some ad) n c] 169)) 3 1
 have hS0 := ((BS.start w).alloc (.cells #[.int .i64 t, .int .i64 p, .int .i64 s, .slice (some ad) n c] 169)).alloc (.cells #[] 3)
 have d0 := loc_old (.cells #[] 3) (by simp) (loc_alloc w #[.int .i64 t, .int .i64 p, .int .i64 s, .slice (some ad) n c] 169)
 simp only [World.size_alloc] at hS0 r0
 have bd : 4 ≤ p ∧ p ≤ 1024 := by have := h.bd; omega
 have hres0 : startsL (fun q => gv vs t q 0) p (p.toNat + 1) 0 [] = startsF (fun q => gv vs t q 0) p := rfl
 have HX : ∀ q, 0 ≤ q → q < p → ∃ k : Nat, k < n ∧ (∀ w, Calls Tryz.prog 73 #[.agg #[.int .i64 t, .int .i64 p, .int .i64 s], .int .i64 q] w fun e w' => e = .returned (.int .i64 k) ∧ Below w.heap.size w w') ∧ w.cell? (ad.add k) = some (.int .u32 (gv vs t q 0)) ∧ 0 ≤ gv vs t q 0 ∧ gv vs t q 0 < 4294967296 := by
  intro q h0 h1
  obtain ⟨hx1, hx2⟩ := h.cx h0 h1 (part := 0) (by omega) (by omega)
  refine ⟨cix t q 0, hx1, fun w => ?_, h.cells _ hx1, h.gu q 0⟩
  have := rinfo_any t p s q w
  rwa [hx2] at this
 clear h
 obtain ⟨g, hg⟩ : ∃ g : Int → Int, g = fun q => gv vs t q 0 := ⟨_, rfl⟩
 have HG : ∀ q, gv vs t q 0 = g q := fun q => by rw [hg]
 rw [← hg] at hres0 ⊢
 simp only [HG] at HX
 have HXX := Lib.hid HX
 clear HX HG hg
 generalize hRs : startsF g p = rs at *
 obtain ⟨rl, rb⟩ := rs
 obtain ⟨i0, hi0, hi1, hi2, hi3⟩ := info_parts infoInt
 have HI := Lib.hid (And.intro hi0 (And.intro hi1 (And.intro hi2 hi3)))
 clear hi0 hi1 hi2 hi3 hRs
 have HR0 := Lib.hid hres0
 clear hres0
 go_enter Tryz.func207, Tryz.ntmps207
 go_wp2_with fail
 go_loopw [4, 5, 6, 7] (fun v4 v5 _ _ wr => StRelE w g t p s (.slice (some ad) n c) (rl, rb) v4 v5 wr) (fun v4 _ _ _ _ => p.toNat - lenS v4)
 case atStart => exact ⟨[], 0, rfl, by omega, by omega, r0, hS0.sub _ (by simp [Value.ownBlock]), d0, by simp; omega, by simpa using HR0.out, by simp [Value.ownBlock]⟩
 case round =>
  obtain ⟨out, a, hr⟩ := hrel
  obtain ⟨rfl, a0, a1, hrow, hbs, hbox, hle, hrs, hfar⟩ := hr
  have hlen : ∃ a m c, u4 = .slice a m c ∧ m = out.length := by
   rcases hrow.2 with ⟨h5, h6⟩ | ⟨g', cap', cur, h5, -⟩
   ·exact ⟨_, _, _, h5, h6.symm⟩
   ·exact ⟨_, _, _, h5, rfl⟩
  obtain ⟨pa, pm, pc, rfl, rfl⟩ := hlen
  have hlt0 := (hbs.ls w.heap.size (by simp)).1
  have HB := Lib.hid hbs
  have HF := Lib.hid hfar
  have HS := Lib.hid hrs
  have HRow := Lib.hid hrow
  have HBox := Lib.hid hbox
  have b0 := hbox 0
  have b1 := hbox 1
  have b2 := hbox 2
  have b3 := hbox 3
  simp at b0 b1 b2 b3
  clear hS0 r0 d0 HR0 hbs hfar hrs hrow hbox
  by_cases hlt : a < p
  ·obtain ⟨k, hkn, hI, hc0, hg0, hg1⟩ := HXX.out a a0 hlt
   clear HXX
   have hc1 := HB.out.old hc0
   have bd9 := inf_bd (g a)
   have HG9 := Lib.hid (fun w => rget9_any (g a) w hg0 hg1)
   have HI9 := Lib.hid hI
   have hs2 : (if okI (g a) = false ∨ iK (g a) = 0 then ([], false) else startsL g p (p.toNat + 1 - (out ++ [a]).length) (a + iL (g a)) (out ++ [a])) = (rl, rb) := by
    have e0 := HS.out
    have e1 : p.toNat + 1 - out.length = (p.toNat - out.length) + 1 := by omega
    rw [e1] at e0
    have e2 : p.toNat + 1 - (out ++ [a]).length = p.toNat - out.length := by rw [List.length_append, List.length_singleton]; omega
    rw [e2]
    simpa [startsL, hlt] using e0
   clear HS hc0 hI b2 b3
   generalize okI (g a) = ok at *
   generalize iK (g a) = y1 at *
   generalize iL (g a) = y2 at *
   generalize iC (g a) = y3 at *
   generalize g a = v at *
   obtain ⟨k1, k2, k3, k4, k5, k6, k7, k8⟩ := bd9
   cases ok
   ·have hs3 : ([], false) = (rl, rb) := by simpa using hs2
    obtain ⟨rfl, rfl⟩ := Prod.mk.inj hs3
    clear hs2 hs3 k1 k2 k3 k4 k5 k6 k7 k8
    go_wp2_with fail
    refine wp_region_noPanic ?_
    refine wp_region_held_drew (S := fun w' => BS wr ([] : List Nat) w' ∧ (∀ o : Nat, w'.cell? ⟨w.heap.size, o, none⟩ = (#[.int .i64 t, .int .i64 p, .int .i64 s, .slice (some ad) n c] : Array Value)[o]?) ∧ w'.cell? (ad.add k) = some (.int .u32 v)) (by kernel_rfl) ?_ (fun hHeld => ?_)
    ·exact ⟨(BS.start wr).drew, HBox.out, hc1⟩
    refine wT 0 ?_
    refine wT 1 ?_
    refine wT 2 ?_
    refine wT 3 ?_
    refine wT 4 ?_
    refine wpAnyH_ready (rs := [5, 12]) (by kernel_rfl) (by simp) ?_
    refine AllReadyH.cons (o := _) rfl (fun K hK => ?_) (AllReadyH.cons (o := _) rfl (fun K hK => ?_) AllReadyH.nil)
    ·go_simp
     refine (calls_b hHeld.1 (HI9.out _)).mono ?_
     rintro e wr1 ⟨rfl, hV, hVl⟩
     dsimp only
     refine hK.out _ _ ?_ (fun hHeld2 => ?_)
     ·exact ⟨hV, hV.oldbox HBox.out hlt0, hV.old hc1⟩
     clear hK K hV hVl hHeld
     have hHeld := hHeld2
     clear hHeld2
     try simp only [Act.put, zA, zB, zC, zD, zE, zF]
     refine wT 6 ?_
     refine wT 7 ?_
     refine wpAnyH_ready (rs := [8, 12]) (by kernel_rfl) (by simp) ?_
     refine AllReadyH.cons (o := _) rfl (fun K hK => ?_) (AllReadyH.cons (o := _) rfl (fun K hK => ?_) AllReadyH.nil)
     ·go_simp
      refine (calls_b hHeld.1 (HG9.out _)).mono ?_
      rintro e wr2 ⟨rfl, hV, hVl⟩
      dsimp only
      refine hK.out _ _ ?_ (fun hHeld2 => ?_)
      ·exact ⟨hV, hV.oldbox HBox.out hlt0, hV.old hc1⟩
      clear hK K hV hVl hHeld
      have hHeld := hHeld2
      clear hHeld2
      try simp only [Act.put, zA, zB, zC, zD, zE, zF]
      refine wT 9 ?_
      refine wT 10 ?_
      refine wT 11 ?_
      refine wR 12 fun K hK => ?_
      have hP := hHeld
      have hA := hHeld.1.allocd (#[.int .i64 0, .int .i64 0, .int .i64 0]) 174
      try simp only [World.size_drew] at hA
      try simp only [World.size_alloc] at hA
      go_simp
      refine hK.out _ _ ?_ (fun hHeld2 => ?_)
      ·exact ⟨hA.bs.sub _ (by simp), hA.bs.oldbox HBox.out hlt0, hA.bs.old hc1⟩
      clear hK K hHeld
      have hHeld := hHeld2
      clear hHeld2
      try simp only [Act.put, zA, zB, zC, zD, zE, zF]
      refine wR 13 fun K hK => ?_
      go_simp
      have hA2 := (hP.1).allocd (#[.int .i64 y1 , .int .i64 y2 , .int .i64 y3]) 174
      refine hK.out _ _ ?_ (fun hHeld2 => ?_)
      try simp only [World.size_drew] at hA2
      try simp only [World.size_alloc] at hA2
      ·exact ⟨hA2.bs.sub _ (by simp), hA2.bs.oldbox HBox.out hlt0, hA2.bs.old hc1⟩
      clear hA hP
      have hA := hA2
      clear hA2 hHeld
      have hHeld := hHeld2
      clear hHeld2
      clear hK K
      try simp only [Act.put, zA, zB, zC, zD, zE, zF]
      refine wT 14 ?_
      refine wpAnyH_done (by kernel_rfl) (NoPanic.normal ?_) _
      refine world_gen ?_
      intro wz hwz
      rw [← hwz] at hHeld hA
      clear hwz
      have rz := hHeld.1.row HRow.out
      have bz0 := hHeld.2.1 0
      have bz1 := hHeld.2.1 1
      simp at bz0 bz1
      have hne := hA.bs.ls
      have hbz := HB.out.below hA.bs.bel
      obtain ⟨⟨q0, q1, q2⟩, f0, f1, f2, z1, z2, bel⟩ := hA.cells3
      clear hHeld hA hne
      go_wp2
      refine bodyPost_ret (v := .tuple #[.slice none 0 0, .bool false]) (by simp [results, Tryz.results207, go_sem, *]) rfl ⟨_, rfl, World.ownsRow_nil _ _ _ _, by simp [Value.ownBlock], hbz.bel⟩
     ·have hP := hHeld
      have hA := hHeld.1.allocd (#[.int .i64 0, .int .i64 0, .int .i64 0]) 174
      try simp only [World.size_drew] at hA
      try simp only [World.size_alloc] at hA
      go_simp
      refine hK.out _ _ ?_ (fun hHeld2 => ?_)
      ·exact ⟨hA.bs.sub _ (by simp), hA.bs.oldbox HBox.out hlt0, hA.bs.old hc1⟩
      clear hK K hHeld
      have hHeld := hHeld2
      clear hHeld2
      try simp only [Act.put, zA, zB, zC, zD, zE, zF]
      refine wR 8 fun K hK => ?_
      go_simp
      refine (calls_b hA.bs (HG9.out _)).mono ?_
      rintro e wr3 ⟨rfl, hV, hVl⟩
      have hAn := hA.step hV hVl
      dsimp only
      refine hK.out _ _ ?_ (fun hHeld2 => ?_)
      ·exact ⟨hV.sub _ (by simp), hV.oldbox HBox.out hlt0, hV.old hc1⟩
      clear hK K hV hVl hHeld hA hP
      have hA := hAn
      have hP := trivial
      clear hAn
      have hHeld := hHeld2
      clear hHeld2
      try simp only [Act.put, zA, zB, zC, zD, zE, zF]
      refine wT 9 ?_
      refine wT 10 ?_
      refine wT 11 ?_
      refine wR 13 fun K hK => ?_
      have kc0 := (cell?_of_heap (o := 0) hA.box)
      have kc1 := (cell?_of_heap (o := 1) hA.box)
      have kc2 := (cell?_of_heap (o := 2) hA.box)
      simp at kc0 kc1 kc2
      have kf0 := frozen?_of_heap (o := 0) hA.box
      have kf1 := frozen?_of_heap (o := 1) hA.box
      have kf2 := frozen?_of_heap (o := 2) hA.box
      go_simp
      refine hK.out _ _ ?_ (fun hHeld2 => ?_)
      ·exact ⟨(((hA.set 0 _).set 1 _).set 2 _).bs.sub _ (by simp), (((hA.set 0 _).set 1 _).set 2 _).bs.oldbox HBox.out hlt0, (((hA.set 0 _).set 1 _).set 2 _).bs.old hc1⟩
      have hA2 : BA wr ([] : List Nat) _ (#[.int .i64 y1 , .int .i64 y2 , .int .i64 y3]) 174 _ := (((hA.set 0 (.int .i64 y1)).set 1 (.int .i64 y2)).set 2 (.int .i64 y3))
      clear kc0 kf0 kc1 kf1 kc2 kf2 hA hP
      have hA := hA2
      clear hA2 hHeld
      have hHeld := hHeld2
      clear hHeld2
      clear hK K
      try simp only [Act.put, zA, zB, zC, zD, zE, zF]
      refine wT 14 ?_
      refine wpAnyH_done (by kernel_rfl) (NoPanic.normal ?_) _
      refine world_gen ?_
      intro wz hwz
      rw [← hwz] at hHeld hA
      clear hwz
      have rz := hHeld.1.row HRow.out
      have bz0 := hHeld.2.1 0
      have bz1 := hHeld.2.1 1
      simp at bz0 bz1
      have hne := hA.bs.ls
      have hbz := HB.out.below hA.bs.bel
      obtain ⟨⟨q0, q1, q2⟩, f0, f1, f2, z1, z2, bel⟩ := hA.cells3
      clear hHeld hA hne
      go_wp2
      refine bodyPost_ret (v := .tuple #[.slice none 0 0, .bool false]) (by simp [results, Tryz.results207, go_sem, *]) rfl ⟨_, rfl, World.ownsRow_nil _ _ _ _, by simp [Value.ownBlock], hbz.bel⟩
    ·have hP := hHeld
     have hA := hHeld.1.allocd (#[.int .i64 0, .int .i64 0, .int .i64 0]) 174
     try simp only [World.size_drew] at hA
     try simp only [World.size_alloc] at hA
     go_simp
     refine hK.out _ _ ?_ (fun hHeld2 => ?_)
     ·exact ⟨hA.bs.sub _ (by simp), hA.bs.oldbox HBox.out hlt0, hA.bs.old hc1⟩
     clear hK K hHeld
     have hHeld := hHeld2
     clear hHeld2
     try simp only [Act.put, zA, zB, zC, zD, zE, zF]
     refine wR 5 fun K hK => ?_
     go_simp
     refine (calls_b hA.bs (HI9.out _)).mono ?_
     rintro e wr4 ⟨rfl, hV, hVl⟩
     have hAn := hA.step hV hVl
     dsimp only
     refine hK.out _ _ ?_ (fun hHeld2 => ?_)
     ·exact ⟨hV.sub _ (by simp), hV.oldbox HBox.out hlt0, hV.old hc1⟩
     clear hK K hV hVl hHeld hA hP
     have hA := hAn
     have hP := trivial
     clear hAn
     have hHeld := hHeld2
     clear hHeld2
     try simp only [Act.put, zA, zB, zC, zD, zE, zF]
     refine wT 6 ?_
     refine wT 7 ?_
     refine wR 8 fun K hK => ?_
     go_simp
     refine (calls_b hA.bs (HG9.out _)).mono ?_
     rintro e wr5 ⟨rfl, hV, hVl⟩
     have hAn := hA.step hV hVl
     dsimp only
     refine hK.out _ _ ?_ (fun hHeld2 => ?_)
     ·exact ⟨hV.sub _ (by simp), hV.oldbox HBox.out hlt0, hV.old hc1⟩
     clear hK K hV hVl hHeld hA hP
     have hA := hAn
     have hP := trivial
     clear hAn
     have hHeld := hHeld2
     clear hHeld2
     try simp only [Act.put, zA, zB, zC, zD, zE, zF]
     refine wT 9 ?_
     refine wT 10 ?_
     refine wT 11 ?_
     refine wR 13 fun K hK => ?_
     have kc0 := (cell?_of_heap (o := 0) hA.box)
     have kc1 := (cell?_of_heap (o := 1) hA.box)
     have kc2 := (cell?_of_heap (o := 2) hA.box)
     simp at kc0 kc1 kc2
     have kf0 := frozen?_of_heap (o := 0) hA.box
     have kf1 := frozen?_of_heap (o := 1) hA.box
     have kf2 := frozen?_of_heap (o := 2) hA.box
     go_simp
     refine hK.out _ _ ?_ (fun hHeld2 => ?_)
     ·exact ⟨(((hA.set 0 _).set 1 _).set 2 _).bs.sub _ (by simp), (((hA.set 0 _).set 1 _).set 2 _).bs.oldbox HBox.out hlt0, (((hA.set 0 _).set 1 _).set 2 _).bs.old hc1⟩
     have hA2 : BA wr ([] : List Nat) _ (#[.int .i64 y1 , .int .i64 y2 , .int .i64 y3]) 174 _ := (((hA.set 0 (.int .i64 y1)).set 1 (.int .i64 y2)).set 2 (.int .i64 y3))
     clear kc0 kf0 kc1 kf1 kc2 kf2 hA hP
     have hA := hA2
     clear hA2 hHeld
     have hHeld := hHeld2
     clear hHeld2
     clear hK K
     try simp only [Act.put, zA, zB, zC, zD, zE, zF]
     refine wT 14 ?_
     refine wpAnyH_done (by kernel_rfl) (NoPanic.normal ?_) _
     refine world_gen ?_
     intro wz hwz
     rw [← hwz] at hHeld hA
     clear hwz
     have rz := hHeld.1.row HRow.out
     have bz0 := hHeld.2.1 0
     have bz1 := hHeld.2.1 1
     simp at bz0 bz1
     have hne := hA.bs.ls
     have hbz := HB.out.below hA.bs.bel
     obtain ⟨⟨q0, q1, q2⟩, f0, f1, f2, z1, z2, bel⟩ := hA.cells3
     clear hHeld hA hne
     go_wp2
     refine bodyPost_ret (v := .tuple #[.slice none 0 0, .bool false]) (by simp [results, Tryz.results207, go_sem, *]) rfl ⟨_, rfl, World.ownsRow_nil _ _ _ _, by simp [Value.ownBlock], hbz.bel⟩
   ·by_cases hk0 : y1 = 0
    ·have hs3 : ([], false) = (rl, rb) := by simpa [hk0] using hs2
     obtain ⟨rfl, rfl⟩ := Prod.mk.inj hs3
     have hk0b : (y1 == 0) = true := by simp [hk0]
     clear hs2 hs3 k1 k2 k3 k4 k5 k6 k7 k8 hk0
     go_wp2_with fail
     refine wp_region_noPanic ?_
     refine wp_region_held_drew (S := fun w' => BS wr ([] : List Nat) w' ∧ (∀ o : Nat, w'.cell? ⟨w.heap.size, o, none⟩ = (#[.int .i64 t, .int .i64 p, .int .i64 s, .slice (some ad) n c] : Array Value)[o]?) ∧ w'.cell? (ad.add k) = some (.int .u32 v)) (by kernel_rfl) ?_ (fun hHeld => ?_)
     ·exact ⟨(BS.start wr).drew, HBox.out, hc1⟩
     refine wT 0 ?_
     refine wT 1 ?_
     refine wT 2 ?_
     refine wT 3 ?_
     refine wT 4 ?_
     refine wpAnyH_ready (rs := [5, 12]) (by kernel_rfl) (by simp) ?_
     refine AllReadyH.cons (o := _) rfl (fun K hK => ?_) (AllReadyH.cons (o := _) rfl (fun K hK => ?_) AllReadyH.nil)
     ·go_simp
      refine (calls_b hHeld.1 (HI9.out _)).mono ?_
      rintro e wr1 ⟨rfl, hV, hVl⟩
      dsimp only
      refine hK.out _ _ ?_ (fun hHeld2 => ?_)
      ·exact ⟨hV, hV.oldbox HBox.out hlt0, hV.old hc1⟩
      clear hK K hV hVl hHeld
      have hHeld := hHeld2
      clear hHeld2
      try simp only [Act.put, zA, zB, zC, zD, zE, zF]
      refine wT 6 ?_
      refine wT 7 ?_
      refine wpAnyH_ready (rs := [8, 12]) (by kernel_rfl) (by simp) ?_
      refine AllReadyH.cons (o := _) rfl (fun K hK => ?_) (AllReadyH.cons (o := _) rfl (fun K hK => ?_) AllReadyH.nil)
      ·go_simp
       refine (calls_b hHeld.1 (HG9.out _)).mono ?_
       rintro e wr2 ⟨rfl, hV, hVl⟩
       dsimp only
       refine hK.out _ _ ?_ (fun hHeld2 => ?_)
       ·exact ⟨hV, hV.oldbox HBox.out hlt0, hV.old hc1⟩
       clear hK K hV hVl hHeld
       have hHeld := hHeld2
       clear hHeld2
       try simp only [Act.put, zA, zB, zC, zD, zE, zF]
       refine wT 9 ?_
       refine wT 10 ?_
       refine wT 11 ?_
       refine wR 12 fun K hK => ?_
       have hP := hHeld
       have hA := hHeld.1.allocd (#[.int .i64 0, .int .i64 0, .int .i64 0]) 174
       try simp only [World.size_drew] at hA
       try simp only [World.size_alloc] at hA
       go_simp
       refine hK.out _ _ ?_ (fun hHeld2 => ?_)
       ·exact ⟨hA.bs.sub _ (by simp), hA.bs.oldbox HBox.out hlt0, hA.bs.old hc1⟩
       clear hK K hHeld
       have hHeld := hHeld2
       clear hHeld2
       try simp only [Act.put, zA, zB, zC, zD, zE, zF]
       refine wR 13 fun K hK => ?_
       go_simp
       have hA2 := (hP.1).allocd (#[.int .i64 y1 , .int .i64 y2 , .int .i64 y3]) 174
       refine hK.out _ _ ?_ (fun hHeld2 => ?_)
       try simp only [World.size_drew] at hA2
       try simp only [World.size_alloc] at hA2
       ·exact ⟨hA2.bs.sub _ (by simp), hA2.bs.oldbox HBox.out hlt0, hA2.bs.old hc1⟩
       clear hA hP
       have hA := hA2
       clear hA2 hHeld
       have hHeld := hHeld2
       clear hHeld2
       clear hK K
       try simp only [Act.put, zA, zB, zC, zD, zE, zF]
       refine wT 14 ?_
       refine wpAnyH_done (by kernel_rfl) (NoPanic.normal ?_) _
       refine world_gen ?_
       intro wz hwz
       rw [← hwz] at hHeld hA
       clear hwz
       have rz := hHeld.1.row HRow.out
       have bz0 := hHeld.2.1 0
       have bz1 := hHeld.2.1 1
       simp at bz0 bz1
       have hne := hA.bs.ls
       have hbz := HB.out.below hA.bs.bel
       obtain ⟨⟨q0, q1, q2⟩, f0, f1, f2, z1, z2, bel⟩ := hA.cells3
       clear hHeld hA hne
       go_wp2
       refine bodyPost_ret (v := .tuple #[.slice none 0 0, .bool false]) (by simp [results, Tryz.results207, go_sem, *]) rfl ⟨_, rfl, World.ownsRow_nil _ _ _ _, by simp [Value.ownBlock], hbz.bel⟩
      ·have hP := hHeld
       have hA := hHeld.1.allocd (#[.int .i64 0, .int .i64 0, .int .i64 0]) 174
       try simp only [World.size_drew] at hA
       try simp only [World.size_alloc] at hA
       go_simp
       refine hK.out _ _ ?_ (fun hHeld2 => ?_)
       ·exact ⟨hA.bs.sub _ (by simp), hA.bs.oldbox HBox.out hlt0, hA.bs.old hc1⟩
       clear hK K hHeld
       have hHeld := hHeld2
       clear hHeld2
       try simp only [Act.put, zA, zB, zC, zD, zE, zF]
       refine wR 8 fun K hK => ?_
       go_simp
       refine (calls_b hA.bs (HG9.out _)).mono ?_
       rintro e wr3 ⟨rfl, hV, hVl⟩
       have hAn := hA.step hV hVl
       dsimp only
       refine hK.out _ _ ?_ (fun hHeld2 => ?_)
       ·exact ⟨hV.sub _ (by simp), hV.oldbox HBox.out hlt0, hV.old hc1⟩
       clear hK K hV hVl hHeld hA hP
       have hA := hAn
       have hP := trivial
       clear hAn
       have hHeld := hHeld2
       clear hHeld2
       try simp only [Act.put, zA, zB, zC, zD, zE, zF]
       refine wT 9 ?_
       refine wT 10 ?_
       refine wT 11 ?_
       refine wR 13 fun K hK => ?_
       have kc0 := (cell?_of_heap (o := 0) hA.box)
       have kc1 := (cell?_of_heap (o := 1) hA.box)
       have kc2 := (cell?_of_heap (o := 2) hA.box)
       simp at kc0 kc1 kc2
       have kf0 := frozen?_of_heap (o := 0) hA.box
       have kf1 := frozen?_of_heap (o := 1) hA.box
       have kf2 := frozen?_of_heap (o := 2) hA.box
       go_simp
       refine hK.out _ _ ?_ (fun hHeld2 => ?_)
       ·exact ⟨(((hA.set 0 _).set 1 _).set 2 _).bs.sub _ (by simp), (((hA.set 0 _).set 1 _).set 2 _).bs.oldbox HBox.out hlt0, (((hA.set 0 _).set 1 _).set 2 _).bs.old hc1⟩
       have hA2 : BA wr ([] : List Nat) _ (#[.int .i64 y1 , .int .i64 y2 , .int .i64 y3]) 174 _ := (((hA.set 0 (.int .i64 y1)).set 1 (.int .i64 y2)).set 2 (.int .i64 y3))
       clear kc0 kf0 kc1 kf1 kc2 kf2 hA hP
       have hA := hA2
       clear hA2 hHeld
       have hHeld := hHeld2
       clear hHeld2
       clear hK K
       try simp only [Act.put, zA, zB, zC, zD, zE, zF]
       refine wT 14 ?_
       refine wpAnyH_done (by kernel_rfl) (NoPanic.normal ?_) _
       refine world_gen ?_
       intro wz hwz
       rw [← hwz] at hHeld hA
       clear hwz
       have rz := hHeld.1.row HRow.out
       have bz0 := hHeld.2.1 0
       have bz1 := hHeld.2.1 1
       simp at bz0 bz1
       have hne := hA.bs.ls
       have hbz := HB.out.below hA.bs.bel
       obtain ⟨⟨q0, q1, q2⟩, f0, f1, f2, z1, z2, bel⟩ := hA.cells3
       clear hHeld hA hne
       go_wp2
       refine bodyPost_ret (v := .tuple #[.slice none 0 0, .bool false]) (by simp [results, Tryz.results207, go_sem, *]) rfl ⟨_, rfl, World.ownsRow_nil _ _ _ _, by simp [Value.ownBlock], hbz.bel⟩
     ·have hP := hHeld
      have hA := hHeld.1.allocd (#[.int .i64 0, .int .i64 0, .int .i64 0]) 174
      try simp only [World.size_drew] at hA
      try simp only [World.size_alloc] at hA
      go_simp
      refine hK.out _ _ ?_ (fun hHeld2 => ?_)
      ·exact ⟨hA.bs.sub _ (by simp), hA.bs.oldbox HBox.out hlt0, hA.bs.old hc1⟩
      clear hK K hHeld
      have hHeld := hHeld2
      clear hHeld2
      try simp only [Act.put, zA, zB, zC, zD, zE, zF]
      refine wR 5 fun K hK => ?_
      go_simp
      refine (calls_b hA.bs (HI9.out _)).mono ?_
      rintro e wr4 ⟨rfl, hV, hVl⟩
      have hAn := hA.step hV hVl
      dsimp only
      refine hK.out _ _ ?_ (fun hHeld2 => ?_)
      ·exact ⟨hV.sub _ (by simp), hV.oldbox HBox.out hlt0, hV.old hc1⟩
      clear hK K hV hVl hHeld hA hP
      have hA := hAn
      have hP := trivial
      clear hAn
      have hHeld := hHeld2
      clear hHeld2
      try simp only [Act.put, zA, zB, zC, zD, zE, zF]
      refine wT 6 ?_
      refine wT 7 ?_
      refine wR 8 fun K hK => ?_
      go_simp
      refine (calls_b hA.bs (HG9.out _)).mono ?_
      rintro e wr5 ⟨rfl, hV, hVl⟩
      have hAn := hA.step hV hVl
      dsimp only
      refine hK.out _ _ ?_ (fun hHeld2 => ?_)
      ·exact ⟨hV.sub _ (by simp), hV.oldbox HBox.out hlt0, hV.old hc1⟩
      clear hK K hV hVl hHeld hA hP
      have hA := hAn
      have hP := trivial
      clear hAn
      have hHeld := hHeld2
      clear hHeld2
      try simp only [Act.put, zA, zB, zC, zD, zE, zF]
      refine wT 9 ?_
      refine wT 10 ?_
      refine wT 11 ?_
      refine wR 13 fun K hK => ?_
      have kc0 := (cell?_of_heap (o := 0) hA.box)
      have kc1 := (cell?_of_heap (o := 1) hA.box)
      have kc2 := (cell?_of_heap (o := 2) hA.box)
      simp at kc0 kc1 kc2
      have kf0 := frozen?_of_heap (o := 0) hA.box
      have kf1 := frozen?_of_heap (o := 1) hA.box
      have kf2 := frozen?_of_heap (o := 2) hA.box
      go_simp
      refine hK.out _ _ ?_ (fun hHeld2 => ?_)
      ·exact ⟨(((hA.set 0 _).set 1 _).set 2 _).bs.sub _ (by simp), (((hA.set 0 _).set 1 _).set 2 _).bs.oldbox HBox.out hlt0, (((hA.set 0 _).set 1 _).set 2 _).bs.old hc1⟩
      have hA2 : BA wr ([] : List Nat) _ (#[.int .i64 y1 , .int .i64 y2 , .int .i64 y3]) 174 _ := (((hA.set 0 (.int .i64 y1)).set 1 (.int .i64 y2)).set 2 (.int .i64 y3))
      clear kc0 kf0 kc1 kf1 kc2 kf2 hA hP
      have hA := hA2
      clear hA2 hHeld
      have hHeld := hHeld2
      clear hHeld2
      clear hK K
      try simp only [Act.put, zA, zB, zC, zD, zE, zF]
      refine wT 14 ?_
      refine wpAnyH_done (by kernel_rfl) (NoPanic.normal ?_) _
      refine world_gen ?_
      intro wz hwz
      rw [← hwz] at hHeld hA
      clear hwz
      have rz := hHeld.1.row HRow.out
      have bz0 := hHeld.2.1 0
      have bz1 := hHeld.2.1 1
      simp at bz0 bz1
      have hne := hA.bs.ls
      have hbz := HB.out.below hA.bs.bel
      obtain ⟨⟨q0, q1, q2⟩, f0, f1, f2, z1, z2, bel⟩ := hA.cells3
      clear hHeld hA hne
      go_wp2
      refine bodyPost_ret (v := .tuple #[.slice none 0 0, .bool false]) (by simp [results, Tryz.results207, go_sem, *]) rfl ⟨_, rfl, World.ownsRow_nil _ _ _ _, by simp [Value.ownBlock], hbz.bel⟩
    ·have hs3 : startsL g p (p.toNat + 1 - (out ++ [a]).length) (a + y2) (out ++ [a]) = (rl, rb) := by simpa [hk0] using hs2
     have hk0b : (y1 == 0) = false := by simp [hk0]
     have hl1 := (k7 hk0).2
     have HN := Lib.hid hs3
     have HFF := Lib.hid hle
     clear hs2 hs3 hle k1 k2 k5 k6 k7 k8 hk0
     go_wp2_with fail
     refine wp_region_noPanic ?_
     refine wp_region_held_drew (S := fun w' => BS wr ([] : List Nat) w' ∧ (∀ o : Nat, w'.cell? ⟨w.heap.size, o, none⟩ = (#[.int .i64 t, .int .i64 p, .int .i64 s, .slice (some ad) n c] : Array Value)[o]?) ∧ w'.cell? (ad.add k) = some (.int .u32 v)) (by kernel_rfl) ?_ (fun hHeld => ?_)
     ·exact ⟨(BS.start wr).drew, HBox.out, hc1⟩
     refine wT 0 ?_
     refine wT 1 ?_
     refine wT 2 ?_
     refine wT 3 ?_
     refine wT 4 ?_
     refine wpAnyH_ready (rs := [5, 12]) (by kernel_rfl) (by simp) ?_
     refine AllReadyH.cons (o := _) rfl (fun K hK => ?_) (AllReadyH.cons (o := _) rfl (fun K hK => ?_) AllReadyH.nil)
     ·go_simp
      refine (calls_b hHeld.1 (HI9.out _)).mono ?_
      rintro e wr1 ⟨rfl, hV, hVl⟩
      dsimp only
      refine hK.out _ _ ?_ (fun hHeld2 => ?_)
      ·exact ⟨hV, hV.oldbox HBox.out hlt0, hV.old hc1⟩
      clear hK K hV hVl hHeld
      have hHeld := hHeld2
      clear hHeld2
      try simp only [Act.put, zA, zB, zC, zD, zE, zF]
      refine wT 6 ?_
      refine wT 7 ?_
      refine wpAnyH_ready (rs := [8, 12]) (by kernel_rfl) (by simp) ?_
      refine AllReadyH.cons (o := _) rfl (fun K hK => ?_) (AllReadyH.cons (o := _) rfl (fun K hK => ?_) AllReadyH.nil)
      ·go_simp
       refine (calls_b hHeld.1 (HG9.out _)).mono ?_
       rintro e wr2 ⟨rfl, hV, hVl⟩
       dsimp only
       refine hK.out _ _ ?_ (fun hHeld2 => ?_)
       ·exact ⟨hV, hV.oldbox HBox.out hlt0, hV.old hc1⟩
       clear hK K hV hVl hHeld
       have hHeld := hHeld2
       clear hHeld2
       try simp only [Act.put, zA, zB, zC, zD, zE, zF]
       refine wT 9 ?_
       refine wT 10 ?_
       refine wT 11 ?_
       refine wR 12 fun K hK => ?_
       have hP := hHeld
       have hA := hHeld.1.allocd (#[.int .i64 0, .int .i64 0, .int .i64 0]) 174
       try simp only [World.size_drew] at hA
       try simp only [World.size_alloc] at hA
       go_simp
       refine hK.out _ _ ?_ (fun hHeld2 => ?_)
       ·exact ⟨hA.bs.sub _ (by simp), hA.bs.oldbox HBox.out hlt0, hA.bs.old hc1⟩
       clear hK K hHeld
       have hHeld := hHeld2
       clear hHeld2
       try simp only [Act.put, zA, zB, zC, zD, zE, zF]
       refine wR 13 fun K hK => ?_
       go_simp
       have hA2 := (hP.1).allocd (#[.int .i64 y1 , .int .i64 y2 , .int .i64 y3]) 174
       refine hK.out _ _ ?_ (fun hHeld2 => ?_)
       try simp only [World.size_drew] at hA2
       try simp only [World.size_alloc] at hA2
       ·exact ⟨hA2.bs.sub _ (by simp), hA2.bs.oldbox HBox.out hlt0, hA2.bs.old hc1⟩
       clear hA hP
       have hA := hA2
       clear hA2 hHeld
       have hHeld := hHeld2
       clear hHeld2
       clear hK K
       try simp only [Act.put, zA, zB, zC, zD, zE, zF]
       refine wT 14 ?_
       refine wpAnyH_done (by kernel_rfl) (NoPanic.normal ?_) _
       refine world_gen ?_
       intro wz hwz
       rw [← hwz] at hHeld hA
       clear hwz
       have rz := hHeld.1.row HRow.out
       have bz0 := hHeld.2.1 0
       have bz1 := hHeld.2.1 1
       simp at bz0 bz1
       have hne := hA.bs.ls
       have hbz := HB.out.below hA.bs.bel
       obtain ⟨⟨q0, q1, q2⟩, f0, f1, f2, z1, z2, bel⟩ := hA.cells3
       have hBA := Lib.hid hA
       have hzb := Lib.hid hHeld.2.1
       clear hHeld hA hne
       go_wp2_with (at_builtin; go_must (refine wpL_append rfl _ _ rfl 3 i0 (.int .i64 0) 1 8 Tryz.underlying228 HI.out.1 HI.out.2.1 HI.out.2.2.1 HI.out.2.2.2 rfl (by decide) (.slice pa out.length pc) out.length (ints out) rfl (rz.alloc _) ⟨wz.heap.size, 0, none⟩ 1 1 [.int .i64 a] rfl rfl (cell_one_new _ _ _) ?c1 ?c2 ?c3 ?_); go_must (case c1 => (simp [Value.oneCell'])); go_must (case c2 => (have := HFF.out; unfold maxLen; omega)); go_must (case c3 => (have := HFF.out; omega)); go_must (intro v' w5 hown5 hg5 hnew5 hnil5); clear hnil5; go_must (obtain ⟨g', cap', rfl⟩ := Joins.ownsRow_form hown5 (by omega)); go_must (have qz := hBA.out.grown hg5 (fun k hk => ownsRow_lt HRow.out hk)); go_must (have qz1 := qz 1); go_must (simp at qz1); clear qz)
       go_roundw
       case rel =>
        refine ⟨out ++ [a], a + y2, rfl, by omega, by omega, by simpa [ints] using hown5, hbz.append hg5 hnew5 hown5, ?_, ?_, HN.out, ?_⟩
        ·exact loc_grown hg5 (by have := bel.size; simp; omega) (fun e => by have := HF.out _ e; omega) (loc_old _ (by have := bel.size; omega) hzb.out)
        ·have := HFF.out; simp; omega
        ·exact fun k hk => (hnew5 k hk).elim (HF.out k) (fun h => by have := bel.size; simp at h; omega)
       case measure => simp [lenS]; have := HFF.out; omega
      ·have hP := hHeld
       have hA := hHeld.1.allocd (#[.int .i64 0, .int .i64 0, .int .i64 0]) 174
       try simp only [World.size_drew] at hA
       try simp only [World.size_alloc] at hA
       go_simp
       refine hK.out _ _ ?_ (fun hHeld2 => ?_)
       ·exact ⟨hA.bs.sub _ (by simp), hA.bs.oldbox HBox.out hlt0, hA.bs.old hc1⟩
       clear hK K hHeld
       have hHeld := hHeld2
       clear hHeld2
       try simp only [Act.put, zA, zB, zC, zD, zE, zF]
       refine wR 8 fun K hK => ?_
       go_simp
       refine (calls_b hA.bs (HG9.out _)).mono ?_
       rintro e wr3 ⟨rfl, hV, hVl⟩
       have hAn := hA.step hV hVl
       dsimp only
       refine hK.out _ _ ?_ (fun hHeld2 => ?_)
       ·exact ⟨hV.sub _ (by simp), hV.oldbox HBox.out hlt0, hV.old hc1⟩
       clear hK K hV hVl hHeld hA hP
       have hA := hAn
       have hP := trivial
       clear hAn
       have hHeld := hHeld2
       clear hHeld2
       try simp only [Act.put, zA, zB, zC, zD, zE, zF]
       refine wT 9 ?_
       refine wT 10 ?_
       refine wT 11 ?_
       refine wR 13 fun K hK => ?_
       have kc0 := (cell?_of_heap (o := 0) hA.box)
       have kc1 := (cell?_of_heap (o := 1) hA.box)
       have kc2 := (cell?_of_heap (o := 2) hA.box)
       simp at kc0 kc1 kc2
       have kf0 := frozen?_of_heap (o := 0) hA.box
       have kf1 := frozen?_of_heap (o := 1) hA.box
       have kf2 := frozen?_of_heap (o := 2) hA.box
       go_simp
       refine hK.out _ _ ?_ (fun hHeld2 => ?_)
       ·exact ⟨(((hA.set 0 _).set 1 _).set 2 _).bs.sub _ (by simp), (((hA.set 0 _).set 1 _).set 2 _).bs.oldbox HBox.out hlt0, (((hA.set 0 _).set 1 _).set 2 _).bs.old hc1⟩
       have hA2 : BA wr ([] : List Nat) _ (#[.int .i64 y1 , .int .i64 y2 , .int .i64 y3]) 174 _ := (((hA.set 0 (.int .i64 y1)).set 1 (.int .i64 y2)).set 2 (.int .i64 y3))
       clear kc0 kf0 kc1 kf1 kc2 kf2 hA hP
       have hA := hA2
       clear hA2 hHeld
       have hHeld := hHeld2
       clear hHeld2
       clear hK K
       try simp only [Act.put, zA, zB, zC, zD, zE, zF]
       refine wT 14 ?_
       refine wpAnyH_done (by kernel_rfl) (NoPanic.normal ?_) _
       refine world_gen ?_
       intro wz hwz
       rw [← hwz] at hHeld hA
       clear hwz
       have rz := hHeld.1.row HRow.out
       have bz0 := hHeld.2.1 0
       have bz1 := hHeld.2.1 1
       simp at bz0 bz1
       have hne := hA.bs.ls
       have hbz := HB.out.below hA.bs.bel
       obtain ⟨⟨q0, q1, q2⟩, f0, f1, f2, z1, z2, bel⟩ := hA.cells3
       have hBA := Lib.hid hA
       have hzb := Lib.hid hHeld.2.1
       clear hHeld hA hne
       go_wp2_with (at_builtin; go_must (refine wpL_append rfl _ _ rfl 3 i0 (.int .i64 0) 1 8 Tryz.underlying228 HI.out.1 HI.out.2.1 HI.out.2.2.1 HI.out.2.2.2 rfl (by decide) (.slice pa out.length pc) out.length (ints out) rfl (rz.alloc _) ⟨wz.heap.size, 0, none⟩ 1 1 [.int .i64 a] rfl rfl (cell_one_new _ _ _) ?c1 ?c2 ?c3 ?_); go_must (case c1 => (simp [Value.oneCell'])); go_must (case c2 => (have := HFF.out; unfold maxLen; omega)); go_must (case c3 => (have := HFF.out; omega)); go_must (intro v' w5 hown5 hg5 hnew5 hnil5); clear hnil5; go_must (obtain ⟨g', cap', rfl⟩ := Joins.ownsRow_form hown5 (by omega)); go_must (have qz := hBA.out.grown hg5 (fun k hk => ownsRow_lt HRow.out hk)); go_must (have qz1 := qz 1); go_must (simp at qz1); clear qz)
       go_roundw
       case rel =>
        refine ⟨out ++ [a], a + y2, rfl, by omega, by omega, by simpa [ints] using hown5, hbz.append hg5 hnew5 hown5, ?_, ?_, HN.out, ?_⟩
        ·exact loc_grown hg5 (by have := bel.size; simp; omega) (fun e => by have := HF.out _ e; omega) (loc_old _ (by have := bel.size; omega) hzb.out)
        ·have := HFF.out; simp; omega
        ·exact fun k hk => (hnew5 k hk).elim (HF.out k) (fun h => by have := bel.size; simp at h; omega)
       case measure => simp [lenS]; have := HFF.out; omega
     ·have hP := hHeld
      have hA := hHeld.1.allocd (#[.int .i64 0, .int .i64 0, .int .i64 0]) 174
      try simp only [World.size_drew] at hA
      try simp only [World.size_alloc] at hA
      go_simp
      refine hK.out _ _ ?_ (fun hHeld2 => ?_)
      ·exact ⟨hA.bs.sub _ (by simp), hA.bs.oldbox HBox.out hlt0, hA.bs.old hc1⟩
      clear hK K hHeld
      have hHeld := hHeld2
      clear hHeld2
      try simp only [Act.put, zA, zB, zC, zD, zE, zF]
      refine wR 5 fun K hK => ?_
      go_simp
      refine (calls_b hA.bs (HI9.out _)).mono ?_
      rintro e wr4 ⟨rfl, hV, hVl⟩
      have hAn := hA.step hV hVl
      dsimp only
      refine hK.out _ _ ?_ (fun hHeld2 => ?_)
      ·exact ⟨hV.sub _ (by simp), hV.oldbox HBox.out hlt0, hV.old hc1⟩
      clear hK K hV hVl hHeld hA hP
      have hA := hAn
      have hP := trivial
      clear hAn
      have hHeld := hHeld2
      clear hHeld2
      try simp only [Act.put, zA, zB, zC, zD, zE, zF]
      refine wT 6 ?_
      refine wT 7 ?_
      refine wR 8 fun K hK => ?_
      go_simp
      refine (calls_b hA.bs (HG9.out _)).mono ?_
      rintro e wr5 ⟨rfl, hV, hVl⟩
      have hAn := hA.step hV hVl
      dsimp only
      refine hK.out _ _ ?_ (fun hHeld2 => ?_)
      ·exact ⟨hV.sub _ (by simp), hV.oldbox HBox.out hlt0, hV.old hc1⟩
      clear hK K hV hVl hHeld hA hP
      have hA := hAn
      have hP := trivial
      clear hAn
      have hHeld := hHeld2
      clear hHeld2
      try simp only [Act.put, zA, zB, zC, zD, zE, zF]
      refine wT 9 ?_
      refine wT 10 ?_
      refine wT 11 ?_
      refine wR 13 fun K hK => ?_
      have kc0 := (cell?_of_heap (o := 0) hA.box)
      have kc1 := (cell?_of_heap (o := 1) hA.box)
      have kc2 := (cell?_of_heap (o := 2) hA.box)
      simp at kc0 kc1 kc2
      have kf0 := frozen?_of_heap (o := 0) hA.box
      have kf1 := frozen?_of_heap (o := 1) hA.box
      have kf2 := frozen?_of_heap (o := 2) hA.box
      go_simp
      refine hK.out _ _ ?_ (fun hHeld2 => ?_)
      ·exact ⟨(((hA.set 0 _).set 1 _).set 2 _).bs.sub _ (by simp), (((hA.set 0 _).set 1 _).set 2 _).bs.oldbox HBox.out hlt0, (((hA.set 0 _).set 1 _).set 2 _).bs.old hc1⟩
      have hA2 : BA wr ([] : List Nat) _ (#[.int .i64 y1 , .int .i64 y2 , .int .i64 y3]) 174 _ := (((hA.set 0 (.int .i64 y1)).set 1 (.int .i64 y2)).set 2 (.int .i64 y3))
      clear kc0 kf0 kc1 kf1 kc2 kf2 hA hP
      have hA := hA2
      clear hA2 hHeld
      have hHeld := hHeld2
      clear hHeld2
      clear hK K
      try simp only [Act.put, zA, zB, zC, zD, zE, zF]
      refine wT 14 ?_
      refine wpAnyH_done (by kernel_rfl) (NoPanic.normal ?_) _
      refine world_gen ?_
      intro wz hwz
      rw [← hwz] at hHeld hA
      clear hwz
      have rz := hHeld.1.row HRow.out
      have bz0 := hHeld.2.1 0
      have bz1 := hHeld.2.1 1
      simp at bz0 bz1
      have hne := hA.bs.ls
      have hbz := HB.out.below hA.bs.bel
      obtain ⟨⟨q0, q1, q2⟩, f0, f1, f2, z1, z2, bel⟩ := hA.cells3
      have hBA := Lib.hid hA
      have hzb := Lib.hid hHeld.2.1
      clear hHeld hA hne
      go_wp2_with (at_builtin; go_must (refine wpL_append rfl _ _ rfl 3 i0 (.int .i64 0) 1 8 Tryz.underlying228 HI.out.1 HI.out.2.1 HI.out.2.2.1 HI.out.2.2.2 rfl (by decide) (.slice pa out.length pc) out.length (ints out) rfl (rz.alloc _) ⟨wz.heap.size, 0, none⟩ 1 1 [.int .i64 a] rfl rfl (cell_one_new _ _ _) ?c1 ?c2 ?c3 ?_); go_must (case c1 => (simp [Value.oneCell'])); go_must (case c2 => (have := HFF.out; unfold maxLen; omega)); go_must (case c3 => (have := HFF.out; omega)); go_must (intro v' w5 hown5 hg5 hnew5 hnil5); clear hnil5; go_must (obtain ⟨g', cap', rfl⟩ := Joins.ownsRow_form hown5 (by omega)); go_must (have qz := hBA.out.grown hg5 (fun k hk => ownsRow_lt HRow.out hk)); go_must (have qz1 := qz 1); go_must (simp at qz1); clear qz)
      go_roundw
      case rel =>
       refine ⟨out ++ [a], a + y2, rfl, by omega, by omega, by simpa [ints] using hown5, hbz.append hg5 hnew5 hown5, ?_, ?_, HN.out, ?_⟩
       ·exact loc_grown hg5 (by have := bel.size; simp; omega) (fun e => by have := HF.out _ e; omega) (loc_old _ (by have := bel.size; omega) hzb.out)
       ·have := HFF.out; simp; omega
       ·exact fun k hk => (hnew5 k hk).elim (HF.out k) (fun h => by have := bel.size; simp at h; omega)
      case measure => simp [lenS]; have := HFF.out; omega
  ·have hs2 : (out, a == p) = (rl, rb) := by
    have e0 := HS.out
    have e1 : p.toNat + 1 - out.length = (p.toNat - out.length) + 1 := by omega
    rw [e1] at e0
    simpa [startsL, hlt] using e0
   obtain ⟨rfl, rfl⟩ := Prod.mk.inj hs2
   clear HXX HS hs2
   go_wp2
   go_region
   all_goals
    go_wp2
    refine bodyPost_ret (v := .tuple #[.slice pa out.length pc, .bool (a == p)]) (by simp [results, Tryz.results207, go_sem, *]) rfl ⟨_, rfl, ?_⟩
    exact ⟨ownsRow_block HRow.out (fun _ _ => rfl), fun k hk => Nat.le_of_lt (HF.out k hk), HB.out.bel.drew⟩
end
end Go.Proofs.YtcbikgafdclhaaaGreat
/- the document's audit: in, binned, racked; the state of a walk that only reads. -/
set_option linter.unusedSimpArgs false
set_option linter.unusedVariables false
namespace Go.Proofs.YtcbikgafdclhaaaGreat
open Go.RowKit

theorem calls_row {P : Program} {f : FuncId} {args : Array Value} {F : Value → Value} {w0 w : World} {Ls : List Nat} {l : List Int} (h : BS w0 Ls w)
 (hc : Calls P f args w fun e w' => ∃ v, e = .returned (F v) ∧ RowP w l v w') :
 Calls P f args w fun e w' => ∃ v, e = .returned (F v) ∧ (BS w0 Ls w' ∧ ∀ L ∈ Ls, w'.heap[L]? = w.heap[L]?) ∧ RowP w l v w' :=
 hc.mono fun _ _ ⟨v, he, hr⟩ => ⟨v, he, ⟨h.below hr.2.2, fun L hL => hr.2.2.block L (h.ls L hL).1⟩, hr⟩

/-- X in its box, since w. -/
structure XB (w : World) (t p s : Int) (ad : Addr) (n c : Nat) (vs : List Int) (W : World) : Prop where
 bel : Below w.heap.size w W
 box : ∀ o : Nat, W.cell? ⟨w.heap.size, o, none⟩ = (#[.int .i64 t, .int .i64 p, .int .i64 s, .slice (some ad) n c] : Array Value)[o]?
 lt : w.heap.size < W.heap.size
 xv : XV W t p s ad n vs
section
variable {t p s : Int} {ad : Addr} {n c : Nat} {vs : List Int} {w W W' : World}
theorem XV.boxed (h : XV w t p s ad n vs) (c : Nat) : XB w t p s ad n c vs (w.alloc (.cells #[.int .i64 t, .int .i64 p, .int .i64 s, .slice (some ad) n c] 169)) :=
 ⟨(Below.refl _ _).alloc (Nat.le_refl _) _, loc_alloc w _ _, by simp, h.keep ((Below.refl _ _).alloc (Nat.le_refl _) _)⟩
theorem XB.keep (h : XB w t p s ad n c vs W) (hb : Below W.heap.size W W') : XB w t p s ad n c vs W' :=
 ⟨h.bel.trans (hb.mono h.bel.size), fun o => (hb.cell (p := ⟨w.heap.size, o, none⟩) h.lt).trans (h.box o), Nat.lt_of_lt_of_le h.lt hb.size, h.xv.keep hb⟩
theorem XB.alloc (h : XB w t p s ad n c vs W) (o : Obj) : XB w t p s ad n c vs (W.alloc o) := h.keep ((Below.refl _ _).alloc (Nat.le_refl _) _)
theorem XB.drew (h : XB w t p s ad n c vs W) : XB w t p s ad n c vs W.drew := h.keep ((Below.refl _ _).drew)
theorem XB.cells (h : XB w t p s ad n c vs W) : W.cell? ⟨w.heap.size, 0, none⟩ = some (.int .i64 t) ∧ W.cell? ⟨w.heap.size, 1, none⟩ = some (.int .i64 p) ∧ W.cell? ⟨w.heap.size, 2, none⟩ = some (.int .i64 s) ∧ W.cell? ⟨w.heap.size, 3, none⟩ = some (.slice (some ad) n c) :=
 ⟨h.box 0, h.box 1, h.box 2, h.box 3⟩

/-- what a box of three offers behind a call. -/
theorem box3 {x y z : Value} {T : TypeId} (hb : Below (W.alloc (.cells #[x, y, z] T)).heap.size (W.alloc (.cells #[x, y, z] T)) W') : W'.cell? ⟨W.heap.size, 0, none⟩ = some x ∧ W'.cell? ⟨W.heap.size, 1, none⟩ = some y ∧ W'.cell? ⟨W.heap.size, 2, none⟩ = some z := by
 have hc := fun o => (hb.cell (p := ⟨W.heap.size, o, none⟩) (by simp)).trans (loc_alloc W #[x, y, z] T o)
 exact ⟨hc 0, hc 1, hc 2⟩

def CntRel (l : List Int) (x : Int) (w : World) (a i : Value) (wr : World) : Prop := ∃ k : Nat, k ≤ l.length ∧ i = .int .i64 k ∧ a = .int .i64 ((l.take k).count x) ∧ w = wr
theorem xin_any (l : List Int) (x : Int) (v : Value) (w : World) (h : w.ownsRow 0 3 1 v l.length (ints l)) (hn : l.length ≤ 4294967296) :
 Calls Tryz.prog 214 #[v, .int .i64 x] w fun e w' => e = .returned (.int .i64 (l.count x)) ∧ Below w.heap.size w w' := by
 have hc : ∀ k, k < l.length → ∃ a m c, v = .slice (some ⟨a, 0, none⟩) m c ∧ w.cell? ⟨a, k, none⟩ = some (.int .i64 (l.getD k 0)) := by
  intro k hk
  obtain ⟨g, cap, rfl⟩ := Joins.ownsRow_form h (by omega)
  refine ⟨g, _, cap, rfl, ?_⟩
  rw [h.cellAt k (by omega)]
  simp [ints, hk]
 obtain ⟨a, c, rfl⟩ := row_shape h
 clear h
 go_enter Tryz.func214, Tryz.ntmps214
 go_wp2
 go_loopw [5, 6] (fun a i wr => CntRel l x w a i wr) (fun _ i _ => l.length - (intOf i).toNat)
 case atStart => exact ⟨0, by omega, rfl, by simp, rfl⟩
 case round =>
  obtain ⟨k, hk, rfl, rfl, rfl⟩ := hrel
  by_cases hlt : k < l.length
  ·obtain ⟨g, m, c', hv, c0⟩ := hc k hlt
   simp only [Value.slice.injEq] at hv
   obtain ⟨rfl, rfl, rfl⟩ := hv
   clear hc
   have hx : l[k]? = some (l.getD k 0) := by simp [hlt]
   have hle := List.count_le_length (a := x) (l := l.take k)
   have hle2 : (l.take k).length ≤ l.length := by simp; omega
   have hs : (l.take (k + 1)).count x = (l.take k).count x + if l.getD k 0 == x then 1 else 0 := by
    rw [List.take_add_one, hx]
    simp [List.count_append, List.count_cons]
   have HS := Lib.hid hs
   clear hx hs
   generalize l.getD k 0 = y at *
   generalize (l.take k).count x = z at *
   have hz : (z : Int) ≤ 4294967296 := by omega
   clear hle hle2
   by_cases hy : y = x
   ·have hb : (y == x) = true := by simp [hy]
    have HY := Lib.hid hb
    have hb2 : (y == x) = true := hb
    clear hy hb
    go_wp2
    go_roundw
    case rel => exact ⟨k + 1, by omega, by go_num, by rw [HS.out, HY.out]; simp, rfl⟩
    case measure => simp [intOf]; omega
   ·have hb : (y == x) = false := by simp [hy]
    have HY := Lib.hid hb
    have hb2 : (y == x) = false := hb
    clear hy hb
    go_wp2
    go_roundw
    case rel => exact ⟨k + 1, by omega, by go_num, by rw [HS.out, HY.out]; simp, rfl⟩
    case measure => simp [intOf]; omega
  ·obtain rfl : k = l.length := by omega
   clear hc
   go_wp2
   go_ret
   exact ⟨by simp, Below.refl _ _⟩

def binnedB (v k : Int) : Bool := iK v == 1 && logF (iL v) == k
def rackedB (v u k : Int) : Bool := iK v == 3 && iC v == k && !fullB u k

theorem binned_any (q : Int) (k : Nat) (c : Nat) (w : World) (h : XV w t p s ad n vs) (h0 : 0 ≤ q) (h1 : q < p) :
 Calls Tryz.prog 213 #[.agg #[.int .i64 t, .int .i64 p, .int .i64 s, .slice (some ad) n c], .int .i64 q, .int .i64 k] w fun e w' => e = .returned (.bool (binnedB (gv vs t q 0) k)) ∧ Below w.heap.size w w' := by
 have bd := inf_bd (gv vs t q 0)
 have hl := fun w => rlog_any (iL (gv vs t q 0)) w (by omega) (by omega)
 have HL := Lib.hid hl
 have X0 := h.boxed c
 have HI := Lib.hid (fun (w : World) (h : XV w t p s ad n vs) => xinfo_any q c w h h0 h1)
 generalize hr : binnedB (gv vs t q 0) k = r
 have hr2 : (iK (gv vs t q 0) == 1 && logF (iL (gv vs t q 0)) == k) = r := hr
 have HR := Lib.hid hr2
 clear hr hr2 hl h bd
 generalize iK (gv vs t q 0) = y1 at *
 generalize logF (iL (gv vs t q 0)) = y4 at *
 generalize iL (gv vs t q 0) = y2 at *
 generalize iC (gv vs t q 0) = y3 at *
 by_cases hk1 : y1 = 1
 ·have hb : (y1 == 1) = true := by simp [hk1]
  have HR2 := HR.out
  rw [hb] at HR2
  have HR3 := Lib.hid HR2
  clear hk1 HR HR2
  go_enter Tryz.func213, Tryz.ntmps213
  go_wp2_with fail
  refine (HI.out _ X0.xv).mono ?_
  rintro e w1 ⟨rfl, hb1⟩
  have X1 := X0.keep hb1
  obtain ⟨X10, X11, X12, X13⟩ := X1.cells
  have X1z := X1.lt
  go_wp2_with fail
  refine (HL.out _).mono ?_
  rintro e w2 ⟨rfl, hb2⟩
  go_wp2
  go_ret
  refine ⟨ret_bool (by rw [← HR3.out]; simp), ?_⟩
  exact X1.bel.trans ((((Below.refl _ _).alloc (Nat.le_refl _) _).trans (hb2.mono (by simp))).mono X1.bel.size)
 ·have hb : (y1 == 1) = false := by simp [hk1]
  have HR2 := HR.out
  rw [hb] at HR2
  have HR3 := Lib.hid HR2
  clear hk1 HR HR2
  go_enter Tryz.func213, Tryz.ntmps213
  go_wp2_with fail
  refine (HI.out _ X0.xv).mono ?_
  rintro e w1 ⟨rfl, hb1⟩
  have X1 := X0.keep hb1
  obtain ⟨X10, X11, X12, X13⟩ := X1.cells
  have X1z := X1.lt
  go_wp2
  go_ret
  refine ⟨ret_bool (by rw [← HR3.out]; simp), ?_⟩
  exact X1.bel.alloc X1.bel.size _

theorem racked_any (q : Int) (k : Nat) (c : Nat) (w : World) (h : XV w t p s ad n vs) (h0 : 0 ≤ q) (h1 : q < p) :
 Calls Tryz.prog 216 #[.agg #[.int .i64 t, .int .i64 p, .int .i64 s, .slice (some ad) n c], .int .i64 q, .int .i64 k] w fun e w' => e = .returned (.bool (rackedB (gv vs t q 0) (gv vs t q 5) k)) ∧ Below w.heap.size w w' := by
 have hg := h.gu q 5
 have HL := Lib.hid (fun w => rfull_any (gv vs t q 5) k w hg.1)
 have X0 := h.boxed c
 have HI := Lib.hid (fun (w : World) (h : XV w t p s ad n vs) => xinfo_any q c w h h0 h1)
 have HT := Lib.hid (fun (w : World) (h : XV w t p s ad n vs) => xtaken_any q c w h h0 h1)
 generalize hr : rackedB (gv vs t q 0) (gv vs t q 5) k = r
 have hr2 : (iK (gv vs t q 0) == 3 && iC (gv vs t q 0) == k && !fullB (gv vs t q 5) k) = r := hr
 have HR := Lib.hid hr2
 clear hr hr2 h hg
 generalize iK (gv vs t q 0) = y1 at *
 generalize fullB (gv vs t q 5) k = y4 at *
 generalize iL (gv vs t q 0) = y2 at *
 generalize iC (gv vs t q 0) = y3 at *
 generalize gv vs t q 5 = y5 at *
 by_cases hk1 : y1 = 3
 ·have hb : (y1 == 3) = true := by simp [hk1]
  by_cases hk2 : y3 = k
  ·have hbb : (y3 == k) = true := by simp [hk2]
   have HR2 := HR.out
   rw [hb, hbb] at HR2
   have HR3 := Lib.hid HR2
   clear hk1 HR HR2 hk2
   go_enter Tryz.func216, Tryz.ntmps216
   go_wp2_with fail
   refine (HI.out _ X0.xv).mono ?_
   rintro e w1 ⟨rfl, hb1⟩
   have X1 := X0.keep hb1
   obtain ⟨X10, X11, X12, X13⟩ := X1.cells
   have X1z := X1.lt
   have X1a := X1.alloc (.cells #[.int .i64 y1, .int .i64 y2, .int .i64 y3] 174)
   go_wp2_with fail
   refine (HT.out _ X1a.xv).mono ?_
   rintro e w2 ⟨rfl, hb2⟩
   have X2 := X1a.keep hb2
   obtain ⟨X20, X21, X22, X23⟩ := X2.cells
   have X2z := X2.lt
   obtain ⟨z0, z1, z2⟩ := box3 hb2
   go_wp2_with fail
   refine (HL.out _).mono ?_
   rintro e w3 ⟨rfl, hb3⟩
   go_wp2
   go_ret
   refine ⟨ret_bool (by rw [← HR3.out]; simp), ?_⟩
   exact X2.bel.trans (hb3.mono X2.bel.size)
  ·have hbb : (y3 == k) = false := by simp [hk2]
   have HR2 := HR.out
   rw [hb, hbb] at HR2
   have HR3 := Lib.hid HR2
   clear hk1 HR HR2 hk2
   go_enter Tryz.func216, Tryz.ntmps216
   go_wp2_with fail
   refine (HI.out _ X0.xv).mono ?_
   rintro e w1 ⟨rfl, hb1⟩
   have X1 := X0.keep hb1
   obtain ⟨X10, X11, X12, X13⟩ := X1.cells
   have X1z := X1.lt
   go_wp2
   go_ret
   refine ⟨ret_bool (by rw [← HR3.out]; simp), ?_⟩
   exact X1.bel.alloc X1.bel.size _
 ·have hb : (y1 == 3) = false := by simp [hk1]
  have HR2 := HR.out
  rw [hb] at HR2
  have HR3 := Lib.hid HR2
  clear hk1 HR HR2
  go_enter Tryz.func216, Tryz.ntmps216
  go_wp2_with fail
  refine (HI.out _ X0.xv).mono ?_
  rintro e w1 ⟨rfl, hb1⟩
  have X1 := X0.keep hb1
  obtain ⟨X10, X11, X12, X13⟩ := X1.cells
  have X1z := X1.lt
  go_wp2
  go_ret
  refine ⟨ret_bool (by rw [← HR3.out]; simp), ?_⟩
  exact X1.bel.alloc X1.bel.size _
end
end Go.Proofs.YtcbikgafdclhaaaGreat
/- the document's audit: the lists of a heap. -/
set_option linter.unusedSimpArgs false
set_option linter.unusedVariables false
namespace Go.Proofs.YtcbikgafdclhaaaGreat
open Go.RowKit
section
variable {t p s : Int} {ad : Addr} {n c : Nat} {vs : List Int}

def listL (vs : List Int) (t p : Int) : Nat → Int → Int → List Int → List Int × Bool
 | 0, _, _, out => (out, false)
 | f + 1, q, ah, out => if q = 0 then (out, true) else if p < q ∨ p ≤ out.length then (out, false) else if gv vs t (q - 1) 3 ≠ ah then (out, false) else listL vs t p f (gv vs t (q - 1) 2) q (out ++ [q - 1])
def listF (vs : List Int) (t p : Int) (head : Nat) : List Int × Bool := listL vs t p (p.toNat + 1) (vs.getD head 0) 0 []

structure LsRel (w : World) (vs : List Int) (t p s : Int) (sl : Value) (res : List Int × Bool) (v6 v7 v8 : Value) (wr : World) (out : List Int) (q ah : Int) : Prop where
 hq : v7 = .int .u32 q
 ha : v8 = .int .u32 ah
 q0 : 0 ≤ q ∧ q < 4294967296
 row : wr.ownsRow 0 3 1 v6 out.length (ints out)
 bs : BS w (w.heap.size :: v6.ownBlock.toList) wr
 box : ∀ o : Nat, wr.cell? ⟨w.heap.size, o, none⟩ = (#[.int .i64 t, .int .i64 p, .int .i64 s, sl] : Array Value)[o]?
 le : (out.length : Int) ≤ p
 res : listL vs t p (p.toNat + 1 - out.length) q ah out = res
 far : ∀ k, v6.ownBlock = some k → w.heap.size < k
def LsRelE (w : World) (vs : List Int) (t p s : Int) (sl : Value) (res : List Int × Bool) (v6 v7 v8 : Value) (wr : World) : Prop := ∃ out q ah, LsRel w vs t p s sl res v6 v7 v8 wr out q ah

set_option maxHeartbeats 2000000 in
set_option maxRecDepth 100000 in
theorem list_any (head : Nat) (c : Nat) (w : World) (h : XV w t p s ad n vs) (hh : head < n) :
 Calls Tryz.prog 212 #[.agg #[.int .i64 t, .int .i64 p, .int .i64 s, .slice (some ad) n c], .int .i64 head] w fun e w' => ∃ v, e = .returned (.tuple #[v, .bool (listF vs t p head).2]) ∧ RowP w (listF vs t p head).1 v w' := by
 have r0 := row_empty (w.alloc (.cells #[.int .i64 t, .int .i64 p, .int .i64 s, .slice (some ad) n c] 169)) 3 1
 have hS0 := ((BS.start w).alloc (.cells #[.int .i64 t, .int .i64 p, .int .i64 s, .slice (some ad) n c] 169)).alloc (.cells #[] 3)
 have d0 := loc_old (.cells #[] 3) (by simp) (loc_alloc w #[.int .i64 t, .int .i64 p, .int .i64 s, .slice (some ad) n c] 169)
 simp only [World.size_alloc] at hS0 r0
 have bd : 4 ≤ p ∧ p ≤ 1024 := by have := h.bd; omega
 have hres0 : listL vs t p (p.toNat + 1) (vs.getD head 0) 0 [] = listF vs t p head := rfl
 have HX : ∀ q, 0 ≤ q → q < p → ∃ k k2 : Nat, k < n ∧ k2 < n ∧ (∀ w, Calls Tryz.prog 219 #[.agg #[.int .i64 t, .int .i64 p, .int .i64 s], .int .i64 q] w fun e w' => e = .returned (.int .i64 k) ∧ Below w.heap.size w w') ∧ w.cell? (ad.add k) = some (.int .u32 (gv vs t q 3)) ∧ (∀ w, Calls Tryz.prog 218 #[.agg #[.int .i64 t, .int .i64 p, .int .i64 s], .int .i64 q] w fun e w' => e = .returned (.int .i64 k2) ∧ Below w.heap.size w w') ∧ w.cell? (ad.add k2) = some (.int .u32 (gv vs t q 2)) ∧ 0 ≤ gv vs t q 2 ∧ gv vs t q 2 < 4294967296 := by
  intro q h0 h1
  obtain ⟨hx1, hx2⟩ := h.cx h0 h1 (part := 3) (by omega) (by omega)
  obtain ⟨hy1, hy2⟩ := h.cx h0 h1 (part := 2) (by omega) (by omega)
  refine ⟨cix t q 3, cix t q 2, hx1, hy1, fun w => ?_, h.cells _ hx1, fun w => ?_, h.cells _ hy1, h.gu q 2⟩
  ·have := rprev_any t p s q w
   rwa [hx2] at this
  ·have := rnext_any t p s q w
   rwa [hy2] at this
 have hc00 := h.cells head hh
 have hcx := (XV.boxed h c).xv.cells head hh
 have hcy := ((XV.boxed h c).alloc (.cells #[] 3)).xv.cells head hh
 have hu := getD_u32 h.u32 head
 have HXX := Lib.hid HX
 clear HX h
 generalize hRs : listF vs t p head = rs at *
 obtain ⟨rl, rb⟩ := rs
 generalize vs.getD head 0 = q0 at *
 obtain ⟨i0, hi0, hi1, hi2, hi3⟩ := info_parts infoInt
 have HI := Lib.hid (And.intro hi0 (And.intro hi1 (And.intro hi2 hi3)))
 clear hi0 hi1 hi2 hi3 hRs
 have HR0 := Lib.hid hres0
 have HU := Lib.hid hu
 clear hres0 hu
 go_enter Tryz.func212, Tryz.ntmps212
 go_wp2_with fail
 go_loopw [6, 7, 8, 9] (fun v6 v7 v8 _ wr => LsRelE w vs t p s (.slice (some ad) n c) (rl, rb) v6 v7 v8 wr) (fun v6 _ _ _ _ => p.toNat - lenS v6)
 case atStart => exact ⟨[], q0, 0, rfl, rfl, HU.out, r0, hS0.sub _ (by simp [Value.ownBlock]), d0, by simp; omega, by simpa using HR0.out, by simp [Value.ownBlock]⟩
 case round =>
  obtain ⟨out, q, ah, hr⟩ := hrel
  obtain ⟨rfl, rfl, hq0, hrow, hbs, hbox, hle, hrs, hfar⟩ := hr
  obtain ⟨hq1, hq2⟩ := hq0
  have hlen : ∃ a m c, u6 = .slice a m c ∧ m = out.length := by
   rcases hrow.2 with ⟨h5, h6⟩ | ⟨g', cap', cur, h5, -⟩
   ·exact ⟨_, _, _, h5, h6.symm⟩
   ·exact ⟨_, _, _, h5, rfl⟩
  obtain ⟨pa, pm, pc, rfl, rfl⟩ := hlen
  have hlt0 := (hbs.ls w.heap.size (by simp)).1
  have HB := Lib.hid hbs
  have HF := Lib.hid hfar
  have HRow := Lib.hid hrow
  have HBox := Lib.hid hbox
  have b0 := hbox 0
  have b1 := hbox 1
  simp at b0 b1
  have hs0 : (if q = 0 then (out, true) else if p < q ∨ p ≤ out.length then (out, false) else if gv vs t (q - 1) 3 ≠ ah then (out, false) else listL vs t p (p.toNat - out.length) (gv vs t (q - 1) 2) q (out ++ [q - 1])) = (rl, rb) := by
   have e0 := hrs
   have e1 : p.toNat + 1 - out.length = (p.toNat - out.length) + 1 := by omega
   rw [e1] at e0
   exact e0
  have HS := Lib.hid hs0
  have HLe := Lib.hid hle
  clear hS0 r0 d0 HR0 hbs hfar hrs hrow hbox hcx hcy hc00 hs0
  by_cases hz : q = 0
  ·have hzb : (q != 0) = false := by simp [hz]
   have e0 := HS.out
   rw [if_pos hz] at e0
   obtain ⟨rfl, rfl⟩ := Prod.mk.inj e0
   clear HXX HS e0 hz
   go_wp2
   refine bodyPost_ret (v := .tuple #[.slice pa out.length pc, .bool true]) (by simp [results, Tryz.results212, go_sem, *]) rfl ⟨_, rfl, ?_⟩
   exact ⟨HRow.out, fun k hk => Nat.le_of_lt (HF.out k hk), HB.out.bel⟩
  ·have hzb : (q != 0) = true := by simp [hz]
   have hw : IntKind.i64.wrap q = q := wrap_in _ (by omega)
   have hw2 : IntKind.i64.wrap (q - 1) = q - 1 := wrap_in _ (by omega)
   by_cases hp : p < q
   ·have e0 := HS.out
    rw [if_neg hz, if_pos (Or.inl hp)] at e0
    obtain ⟨rfl, rfl⟩ := Prod.mk.inj e0
    clear HXX HS e0 hz
    go_wp2
    refine bodyPost_ret (v := .tuple #[.slice pa out.length pc, .bool false]) (by simp [results, Tryz.results212, go_sem, *]) rfl ⟨_, rfl, ?_⟩
    exact ⟨HRow.out, fun k hk => Nat.le_of_lt (HF.out k hk), HB.out.bel⟩
   ·by_cases hl : p ≤ out.length
    ·have e0 := HS.out
     rw [if_neg hz, if_pos (Or.inr hl)] at e0
     obtain ⟨rfl, rfl⟩ := Prod.mk.inj e0
     clear HXX HS e0 hz
     go_wp2
     refine bodyPost_ret (v := .tuple #[.slice pa out.length pc, .bool false]) (by simp [results, Tryz.results212, go_sem, *]) rfl ⟨_, rfl, ?_⟩
     exact ⟨HRow.out, fun k hk => Nat.le_of_lt (HF.out k hk), HB.out.bel⟩
    ·obtain ⟨k, k2, hk, hk2, hI, hc0, hI2, hd0, hg0, hg1⟩ := HXX.out (q - 1) (by omega) (by omega)
     have e0 := HS.out
     rw [if_neg hz, if_neg (by omega)] at e0
     have hc1 := HB.out.old hc0
     have H1 := Lib.hid hI
     have H2 := Lib.hid hI2
     have HD := Lib.hid hd0
     have HGU := Lib.hid (And.intro hg0 hg1)
     clear HXX HS hz hI hI2 hc0 hd0 hg0 hg1 hle
     generalize gv vs t (q - 1) 3 = u at *
     generalize gv vs t (q - 1) 2 = x at *
     by_cases hu : u = ah
     ·have hub : (u != ah) = false := by simp [hu]
      rw [if_neg (by simpa using hu)] at e0
      have HN := Lib.hid e0
      clear e0 hu
      go_wp2_with fail
      refine wp_region_noPanic ?_
      refine wp_region_held_drew (S := fun w' => BS wr ([] : List Nat) w' ∧ (∀ o : Nat, w'.cell? ⟨w.heap.size, o, none⟩ = (#[.int .i64 t, .int .i64 p, .int .i64 s, .slice (some ad) n c] : Array Value)[o]?) ∧ w'.cell? (ad.add k) = some (.int .u32 u)) (by kernel_rfl) ?_ (fun hHeld => ?_)
      ·exact ⟨(BS.start wr).drew, HBox.out, hc1⟩
      refine wT 0 ?_
      refine wT 1 ?_
      refine wT 2 ?_
      refine wT 3 ?_
      refine wT 4 ?_
      refine wT 8 ?_
      refine wR 5 fun K hK => ?_
      go_simp
      refine (calls_b hHeld.1 (H1.out _)).mono ?_
      rintro e wr1 ⟨rfl, hV, hVl⟩
      dsimp only
      refine hK.out _ _ ?_ (fun hHeld2 => ?_)
      ·exact ⟨hV, hV.oldbox HBox.out hlt0, hV.old hc1⟩
      clear hK K hV hVl hHeld
      have hHeld := hHeld2
      clear hHeld2
      try simp only [Act.put, zA, zB, zC, zD, zE, zF]
      refine wT 6 ?_
      refine wT 7 ?_
      refine wT 9 ?_
      refine wpAnyH_done (by kernel_rfl) (NoPanic.normal ?_) _
      refine world_gen ?_
      intro wz hwz
      rw [← hwz] at hHeld
      clear hwz
      have rz := hHeld.1.row HRow.out
      have hzb2 := Lib.hid hHeld.2.1
      have hbz := HB.out.below hHeld.1.bel
      have bel := hHeld.1.bel
      clear hHeld
      go_wp2_with (at_builtin; go_must (refine wpL_append rfl _ _ rfl 3 i0 (.int .i64 0) 1 8 Tryz.underlying228 HI.out.1 HI.out.2.1 HI.out.2.2.1 HI.out.2.2.2 rfl (by decide) (.slice pa out.length pc) out.length (ints out) rfl (rz.alloc _) ⟨wz.heap.size, 0, none⟩ 1 1 [.int .i64 (q - 1)] rfl rfl (cell_one_new _ _ _) ?c1 ?c2 ?c3 ?_); go_must (case c1 => (simp [Value.oneCell'])); go_must (case c2 => (have := HLe.out; unfold maxLen; omega)); go_must (case c3 => (have := HLe.out; omega)); go_must (intro v' w5 hown5 hg5 hnew5 hnil5); clear hnil5; go_must (obtain ⟨g', cap', rfl⟩ := Joins.ownsRow_form hown5 (by omega)))
      have hb5 := hbz.append hg5 hnew5 hown5
      have hx5 : ∀ o : Nat, w5.cell? ⟨w.heap.size, o, none⟩ = (#[.int .i64 t, .int .i64 p, .int .i64 s, .slice (some ad) n c] : Array Value)[o]? := loc_grown hg5 (by have := bel.size; simp; omega) (fun e => by have := HF.out _ e; omega) (loc_old _ (by have := bel.size; omega) hzb2.out)
      have hd5 := hb5.old HD.out
      have hl5 := (hb5.ls w.heap.size (by simp)).1
      have HB5 := Lib.hid hb5
      have HX5 := Lib.hid hx5
      have far5 : ∀ k, (Value.slice (some ⟨g', 0, none⟩) (out.length + 1) cap').ownBlock = some k → w.heap.size < k := fun k hk => (hnew5 k hk).elim (HF.out k) (fun h => by have := bel.size; simp at h; omega)
      clear hb5 hx5 hg5 hnew5 rz hbz hzb2
      refine wp_region_noPanic ?_
      refine wp_region_held_drew (S := fun w' => BS w5 ([] : List Nat) w' ∧ (∀ o : Nat, w'.cell? ⟨w.heap.size, o, none⟩ = (#[.int .i64 t, .int .i64 p, .int .i64 s, .slice (some ad) n c] : Array Value)[o]?) ∧ w'.cell? (ad.add k2) = some (.int .u32 x)) (by kernel_rfl) ?_ (fun hHeld => ?_)
      ·exact ⟨(BS.start w5).drew, HX5.out, hd5⟩
      refine wT 0 ?_
      refine wT 1 ?_
      refine wT 2 ?_
      refine wT 3 ?_
      refine wT 4 ?_
      refine wR 5 fun K hK => ?_
      go_simp
      refine (calls_b hHeld.1 (H2.out _)).mono ?_
      rintro e wr1 ⟨rfl, hV, hVl⟩
      dsimp only
      refine hK.out _ _ ?_ (fun hHeld2 => ?_)
      ·exact ⟨hV, hV.oldbox HX5.out hl5, hV.old hd5⟩
      clear hK K hV hVl hHeld
      have hHeld := hHeld2
      clear hHeld2
      try simp only [Act.put, zA, zB, zC, zD, zE, zF]
      refine wT 6 ?_
      refine wT 7 ?_
      refine wT 8 ?_
      refine wpAnyH_done (by kernel_rfl) (NoPanic.normal ?_) _
      refine world_gen ?_
      intro wz hwz
      rw [← hwz] at hHeld
      clear hwz
      have rz := hHeld.1.row hown5
      have hzb2 := hHeld.2.1
      have hbz := HB5.out.below hHeld.1.bel
      clear hHeld
      go_wp2_with fail
      go_roundw
      case rel =>
       refine ⟨out ++ [q - 1], x, q, rfl, rfl, HGU.out, by simpa [ints] using rz, hbz, hzb2, by simp; omega, ?_, far5⟩
       have e2 : p.toNat + 1 - (out ++ [q - 1]).length = p.toNat - out.length := by rw [List.length_append, List.length_singleton]; omega
       rw [e2]
       exact HN.out
      case measure => simp [lenS]; omega
     ·have hub : (u != ah) = true := by simp [hu]
      rw [if_pos hu] at e0
      obtain ⟨rfl, rfl⟩ := Prod.mk.inj e0
      clear e0 hu
      go_wp2_with fail
      refine wp_region_noPanic ?_
      refine wp_region_held_drew (S := fun w' => BS wr ([] : List Nat) w' ∧ (∀ o : Nat, w'.cell? ⟨w.heap.size, o, none⟩ = (#[.int .i64 t, .int .i64 p, .int .i64 s, .slice (some ad) n c] : Array Value)[o]?) ∧ w'.cell? (ad.add k) = some (.int .u32 u)) (by kernel_rfl) ?_ (fun hHeld => ?_)
      ·exact ⟨(BS.start wr).drew, HBox.out, hc1⟩
      refine wT 0 ?_
      refine wT 1 ?_
      refine wT 2 ?_
      refine wT 3 ?_
      refine wT 4 ?_
      refine wT 8 ?_
      refine wR 5 fun K hK => ?_
      go_simp
      refine (calls_b hHeld.1 (H1.out _)).mono ?_
      rintro e wr1 ⟨rfl, hV, hVl⟩
      dsimp only
      refine hK.out _ _ ?_ (fun hHeld2 => ?_)
      ·exact ⟨hV, hV.oldbox HBox.out hlt0, hV.old hc1⟩
      clear hK K hV hVl hHeld
      have hHeld := hHeld2
      clear hHeld2
      try simp only [Act.put, zA, zB, zC, zD, zE, zF]
      refine wT 6 ?_
      refine wT 7 ?_
      refine wT 9 ?_
      refine wpAnyH_done (by kernel_rfl) (NoPanic.normal ?_) _
      refine world_gen ?_
      intro wz hwz
      rw [← hwz] at hHeld
      clear hwz
      have rz := hHeld.1.row HRow.out
      have hbz := HB.out.below hHeld.1.bel
      clear hHeld
      go_wp2
      refine bodyPost_ret (v := .tuple #[.slice pa out.length pc, .bool false]) (by simp [results, Tryz.results212, go_sem, *]) rfl ⟨_, rfl, ?_⟩
      exact ⟨rz, fun k hk => Nat.le_of_lt (HF.out k hk), hbz.bel⟩
end
end Go.Proofs.YtcbikgafdclhaaaGreat
/- the document's audit: bins and racks. -/
set_option linter.unusedSimpArgs false
set_option linter.unusedVariables false
namespace Go.Proofs.YtcbikgafdclhaaaGreat
open Go.RowKit

def allN (f : Nat → Bool) : Nat → Bool
 | 0 => true
 | k + 1 => allN f k && f k
theorem allN_no {f : Nat → Bool} {k N : Nat} (hk : k < N) (h : f k = false) : allN f N = false := by
 induction N with
 | zero => omega
 | succ N ih =>
  by_cases e : k = N
  ·subst e; simp [allN, h]
  ·simp [allN, ih (by omega)]
theorem allN_iff {f : Nat → Bool} {N : Nat} : allN f N = true ↔ ∀ k, k < N → f k = true := by
 induction N with
 | zero => simp [allN]
 | succ N ih =>
  simp only [allN, Bool.and_eq_true, ih]
  constructor
  ·intro h k hk
   by_cases e : k = N
   ·rw [e]; exact h.2
   ·exact h.1 k (by omega)
  ·exact fun h => ⟨fun k hk => h k (by omega), h N (by omega)⟩
theorem RowP.row {w w' : World} {l : List Int} {v : Value} (h : RowP w l v w') : ∃ a c, v = .slice a l.length c := row_shape h.1
theorem listL_len {vs : List Int} {t p : Int} : ∀ (f : Nat) (q ah : Int) (out : List Int), (out.length : Int) ≤ p → ((listL vs t p f q ah out).1.length : Int) ≤ p := by
 intro f
 induction f with
 | zero => intro q ah out h; exact h
 | succ f ih =>
  intro q ah out h
  unfold listL
  split
  ·exact h
  ·split
   ·exact h
   ·split
    ·exact h
    ·exact ih _ _ _ (by simp; omega)
theorem listF_len {vs : List Int} {t p : Int} (h : 0 ≤ p) (k : Nat) : ((listF vs t p k).1.length : Int) ≤ p := listL_len _ _ _ _ (by simpa using h)
def wantI (b : Bool) : Int := if b then 1 else 0
section
variable {t p s : Int} {ad : Addr} {n c : Nat} {vs : List Int}
def AllRel (f : Nat → Bool) (N : Nat) (W0 : World) (v : Value) (wr : World) : Prop := ∃ k : Nat, k ≤ N ∧ v = .int .i64 k ∧ allN f k = true ∧ Below W0.heap.size W0 wr
def binsInB (vs : List Int) (t : Int) (l : List Int) (k : Nat) (q : Nat) : Bool := ((l.count (q : Int) : Nat) : Int) == wantI (binnedB (gv vs t (q : Int) 0) k)
def binsB (vs : List Int) (t p : Int) (k : Nat) : Bool := (listF vs t p (2 + k)).2 && allN (binsInB vs t (listF vs t p (2 + k)).1 k) p.toNat
def binsF (vs : List Int) (t p : Int) : Bool := allN (binsB vs t p) 11

set_option maxHeartbeats 1000000 in
set_option maxRecDepth 100000 in
theorem bins_any (c : Nat) (w : World) (h : XV w t p s ad n vs) :
 Calls Tryz.prog 170 #[.agg #[.int .i64 t, .int .i64 p, .int .i64 s, .slice (some ad) n c]] w fun e w' => e = .returned (.bool (binsF vs t p)) ∧ Below w.heap.size w w' := by
 have X0 := h.boxed c
 have bd : 4 ≤ p ∧ p ≤ 1024 := by have := h.bd; omega
 have hnn : (n : Int) = 30 + 4 * t + 6 * p ∧ 1 ≤ t := by have := h.bd; omega
 have HN := Lib.hid hnn
 generalize hr : binsF vs t p = r
 have hr2 : allN (binsB vs t p) 11 = r := hr
 have HR := Lib.hid hr2
 clear h hr hr2 hnn
 go_enter Tryz.func170, Tryz.ntmps170
 go_wp2_with fail
 go_loopw [3, 4, 5, 6, 7] (fun v3 _ _ _ _ wr => AllRel (binsB vs t p) 11 (w.alloc (.cells #[.int .i64 t, .int .i64 p, .int .i64 s, .slice (some ad) n c] 169)) v3 wr) (fun v3 _ _ _ _ _ => 11 - (intOf v3).toNat)
 case atStart => exact ⟨0, by omega, rfl, rfl, Below.refl _ _⟩
 case round =>
  obtain ⟨k, hk, rfl, hall, hbel⟩ := hrel
  have X1 := X0.keep hbel
  have HA := Lib.hid hall
  have HBel := Lib.hid hbel
  clear hall hbel X0
  by_cases hlt : k < 11
  ·have hBin := Lib.hid (fun w => rbin_any k w hlt)
   have hLi := Lib.hid (fun (w : World) (h : XV w t p s ad n vs) => list_any (2 + k) c w h (by have := HN.out; omega))
   have hfk : binsB vs t p k = ((listF vs t p (2 + k)).2 && allN (binsInB vs t (listF vs t p (2 + k)).1 k) p.toNat) := rfl
   have HFK := Lib.hid hfk
   have hlen : (listF vs t p (2 + k)).1.length ≤ 4294967296 := by have := listF_len (vs := vs) (t := t) (p := p) (by omega) (2 + k); omega
   have HLen := Lib.hid hlen
   clear hfk hlen
   have Xr := X1.box
   have Xl := X1.lt
   generalize listF vs t p (2 + k) = lr at *
   obtain ⟨l, lb⟩ := lr
   go_wp2_with fail
   refine wp_region_noPanic ?_
   refine wp_region_held_drew (S := fun w' => BS wr ([] : List Nat) w' ∧ (∀ o : Nat, w'.cell? ⟨w.heap.size, o, none⟩ = (#[.int .i64 t, .int .i64 p, .int .i64 s, .slice (some ad) n c] : Array Value)[o]?)) (by kernel_rfl) ?_ (fun hHeld => ?_)
   ·exact ⟨(BS.start wr).drew, Xr⟩
   refine wT 0 ?_
   refine wT 1 ?_
   refine wR 2 fun K hK => ?_
   go_simp
   refine (calls_b hHeld.1 (hBin.out _)).mono ?_
   rintro e wr1 ⟨rfl, hV, hVl⟩
   dsimp only
   refine hK.out _ _ ?_ (fun hHeld2 => ?_)
   ·exact ⟨hV, hV.oldbox Xr Xl⟩
   clear hK K hV hVl hHeld
   have hHeld := hHeld2
   clear hHeld2
   try simp only [Act.put, zA, zB, zC, zD, zE, zF]
   refine wR 3 fun K hK => ?_
   go_simp
   refine (calls_row hHeld.1 (hLi.out _ (X1.xv.keep hHeld.1.bel))).mono ?_
   rintro e wr2 ⟨lv, rfl, ⟨hV, hVl⟩, hlv⟩
   dsimp only
   refine hK.out _ _ ?_ (fun hHeld2 => ?_)
   ·exact ⟨hV, hV.oldbox Xr Xl⟩
   clear hK K hV hVl hHeld
   have hHeld := hHeld2
   clear hHeld2
   try simp only [Act.put, zA, zB, zC, zD, zE, zF]
   refine wT 4 ?_
   refine wT 5 ?_
   refine wT 6 ?_
   refine wT 7 ?_
   refine wT 8 ?_
   refine wpAnyH_done (by kernel_rfl) (NoPanic.normal ?_) _
   refine world_gen ?_
   intro wz hwz
   rw [← hwz] at hHeld hlv
   clear hwz
   have X2 := X1.keep hHeld.1.bel
   obtain ⟨x0, x1, x2, x3⟩ := X2.cells
   have xl := X2.lt
   have bel2 := hHeld.1.bel
   clear hHeld Xr Xl
   obtain ⟨la, lc, rfl⟩ := hlv.row
   have HL := Lib.hid hlv
   have HB2 := Lib.hid bel2
   clear hlv bel2
   cases lb
   ·have hno : binsB vs t p k = false := by rw [HFK.out]; rfl
    have hres : r = false := by rw [← HR.out]; exact allN_no hlt hno
    subst hres
    clear hno
    go_wp2
    go_ret
    exact ⟨rfl, X2.bel⟩
   ·have hfk2 : binsB vs t p k = allN (binsInB vs t l k) p.toNat := by rw [HFK.out]; rfl
    have HFK2 := Lib.hid hfk2
    clear hfk2 HFK
    go_wp2_with fail
    go_loopw [6, 7] (fun v6 _ wq => AllRel (binsInB vs t l k) p.toNat wz v6 wq) (fun v6 _ _ => p.toNat - (intOf v6).toNat)
    case atStart => exact ⟨0, by omega, rfl, rfl, Below.refl _ _⟩
    case round =>
     obtain ⟨q, hq, rfl, hallq, hbq⟩ := hrel
     have X3 := X2.keep hbq
     have HQ := Lib.hid hallq
     have HBq := Lib.hid hbq
     clear hallq hbq x0 x1 x2 x3 X2
     obtain ⟨x0, x1, x2, x3⟩ := X3.cells
     by_cases hqp : (q : Int) < p
     ·have hC := Lib.hid (fun (w : World) (h : XV w t p s ad n vs) => binned_any q k c w h (by omega) hqp)
      have hin : binsInB vs t l k q = (((l.count (q : Int) : Nat) : Int) == wantI (binnedB (gv vs t (q : Int) 0) k)) := rfl
      have hIn := Lib.hid (fun (w' : World) (hb : Below wz.heap.size wz w') => xin_any l q (.slice la l.length lc) w' (ownsRow_block HL.out.1 fun k hk => hb.block k (ownsRow_lt HL.out.1 hk)) HLen.out)
      have hcb : l.count (q : Int) ≤ 4294967296 := Nat.le_trans List.count_le_length HLen.out
      generalize binnedB (gv vs t (q : Int) 0) k = cd at *
      generalize l.count (q : Int) = cn at *
      have HIN := Lib.hid hin
      clear hin
      by_cases hw : (cn : Int) = wantI cd
      ·have hyes : binsInB vs t l k q = true := by rw [HIN.out]; simpa using hw
       have HY := Lib.hid hyes
       have HW := Lib.hid hw
       clear hyes hw HIN
       cases cd
       ·have e1 := HW.out
        have hb1 : ((cn : Int) != 0) = false := by rw [e1]; rfl
        clear e1
        go_wp2_with fail
        refine (hC.out _ X3.xv).mono ?_
        rintro e w5 ⟨rfl, hb5⟩
        have X5 := X3.keep hb5
        obtain ⟨X50, X51, X52, X53⟩ := X5.cells
        have X5z := X5.lt
        go_wp2_with fail
        refine (hIn.out _ (HBq.out.trans (hb5.mono HBq.out.size))).mono ?_
        rintro e w6 ⟨rfl, hb6⟩
        have bel6 := (HBq.out.trans (hb5.mono HBq.out.size)).trans (hb6.mono (Nat.le_trans HBq.out.size hb5.size))
        go_wp2_with fail
        go_roundw
        case rel => exact ⟨q + 1, by omega, by go_num, by simp [allN, HQ.out, HY.out], bel6⟩
        case measure => simp [intOf]; omega
       ·have e1 := HW.out
        have hb1 : ((cn : Int) != 1) = false := by rw [e1]; rfl
        clear e1
        go_wp2_with fail
        refine (hC.out _ X3.xv).mono ?_
        rintro e w5 ⟨rfl, hb5⟩
        have X5 := X3.keep hb5
        obtain ⟨X50, X51, X52, X53⟩ := X5.cells
        have X5z := X5.lt
        go_wp2_with fail
        refine (hIn.out _ (HBq.out.trans (hb5.mono HBq.out.size))).mono ?_
        rintro e w6 ⟨rfl, hb6⟩
        have bel6 := (HBq.out.trans (hb5.mono HBq.out.size)).trans (hb6.mono (Nat.le_trans HBq.out.size hb5.size))
        go_wp2_with fail
        go_roundw
        case rel => exact ⟨q + 1, by omega, by go_num, by simp [allN, HQ.out, HY.out], bel6⟩
        case measure => simp [intOf]; omega
      ·have hno : binsInB vs t l k q = false := by rw [HIN.out]; simpa using hw
       have hno2 : binsB vs t p k = false := by rw [HFK2.out]; exact allN_no (by omega) hno
       have hres : r = false := by rw [← HR.out]; exact allN_no hlt hno2
       subst hres
       have HW := Lib.hid hw
       clear hno hno2 hw HIN HR
       cases cd
       ·have hb1 : ((cn : Int) != 0) = true := by have := HW.out; simpa [wantI] using this
        go_wp2_with fail
        refine (hC.out _ X3.xv).mono ?_
        rintro e w5 ⟨rfl, hb5⟩
        have X5 := X3.keep hb5
        obtain ⟨X50, X51, X52, X53⟩ := X5.cells
        have X5z := X5.lt
        go_wp2_with fail
        refine (hIn.out _ (HBq.out.trans (hb5.mono HBq.out.size))).mono ?_
        rintro e w6 ⟨rfl, hb6⟩
        go_wp2_with fail
        go_ret
        exact ⟨rfl, (X5.keep hb6).bel⟩
       ·have hb1 : ((cn : Int) != 1) = true := by have := HW.out; simpa [wantI] using this
        go_wp2_with fail
        refine (hC.out _ X3.xv).mono ?_
        rintro e w5 ⟨rfl, hb5⟩
        have X5 := X3.keep hb5
        obtain ⟨X50, X51, X52, X53⟩ := X5.cells
        have X5z := X5.lt
        go_wp2_with fail
        refine (hIn.out _ (HBq.out.trans (hb5.mono HBq.out.size))).mono ?_
        rintro e w6 ⟨rfl, hb6⟩
        go_wp2_with fail
        go_ret
        exact ⟨rfl, (X5.keep hb6).bel⟩
     ·obtain rfl : q = p.toNat := by omega
      have bel6 := HBel.out.trans ((HB2.out.trans (HBq.out.mono HB2.out.size)).mono HBel.out.size)
      have hyes : binsB vs t p k = true := by rw [HFK2.out]; exact HQ.out
      have HY := Lib.hid hyes
      clear hyes
      go_wp2_with fail
      go_roundw
      case rel => exact ⟨k + 1, by omega, by go_num, by simp [allN, HA.out, HY.out], bel6⟩
      case measure => simp [intOf]; omega
  ·obtain rfl : k = 11 := by omega
   have hres : r = true := by rw [← HR.out]; exact HA.out
   subst hres
   go_wp2
   go_ret
   exact ⟨rfl, X1.bel⟩

def racksInB (vs : List Int) (t : Int) (l : List Int) (k : Nat) (q : Nat) : Bool := ((l.count (q : Int) : Nat) : Int) == wantI (rackedB (gv vs t (q : Int) 0) (gv vs t (q : Int) 5) k)
def racksB (vs : List Int) (t p : Int) (k : Nat) : Bool := (listF vs t p (13 + k)).2 && allN (racksInB vs t (listF vs t p (13 + k)).1 k) p.toNat
def racksF (vs : List Int) (t p : Int) : Bool := allN (racksB vs t p) 9

set_option maxHeartbeats 1000000 in
set_option maxRecDepth 100000 in
theorem racks_any (c : Nat) (w : World) (h : XV w t p s ad n vs) :
 Calls Tryz.prog 171 #[.agg #[.int .i64 t, .int .i64 p, .int .i64 s, .slice (some ad) n c]] w fun e w' => e = .returned (.bool (racksF vs t p)) ∧ Below w.heap.size w w' := by
 have X0 := h.boxed c
 have bd : 4 ≤ p ∧ p ≤ 1024 := by have := h.bd; omega
 have hnn : (n : Int) = 30 + 4 * t + 6 * p ∧ 1 ≤ t := by have := h.bd; omega
 have HN := Lib.hid hnn
 generalize hr : racksF vs t p = r
 have hr2 : allN (racksB vs t p) 9 = r := hr
 have HR := Lib.hid hr2
 clear h hr hr2 hnn
 go_enter Tryz.func171, Tryz.ntmps171
 go_wp2_with fail
 go_loopw [3, 4, 5, 6, 7] (fun v3 _ _ _ _ wr => AllRel (racksB vs t p) 9 (w.alloc (.cells #[.int .i64 t, .int .i64 p, .int .i64 s, .slice (some ad) n c] 169)) v3 wr) (fun v3 _ _ _ _ _ => 9 - (intOf v3).toNat)
 case atStart => exact ⟨0, by omega, rfl, rfl, Below.refl _ _⟩
 case round =>
  obtain ⟨k, hk, rfl, hall, hbel⟩ := hrel
  have X1 := X0.keep hbel
  have HA := Lib.hid hall
  have HBel := Lib.hid hbel
  clear hall hbel X0
  by_cases hlt : k < 9
  ·have hBin := Lib.hid (fun w => rrack_any k w hlt)
   have hLi := Lib.hid (fun (w : World) (h : XV w t p s ad n vs) => list_any (13 + k) c w h (by have := HN.out; omega))
   have hfk : racksB vs t p k = ((listF vs t p (13 + k)).2 && allN (racksInB vs t (listF vs t p (13 + k)).1 k) p.toNat) := rfl
   have HFK := Lib.hid hfk
   have hlen : (listF vs t p (13 + k)).1.length ≤ 4294967296 := by have := listF_len (vs := vs) (t := t) (p := p) (by omega) (13 + k); omega
   have HLen := Lib.hid hlen
   clear hfk hlen
   have Xr := X1.box
   have Xl := X1.lt
   generalize listF vs t p (13 + k) = lr at *
   obtain ⟨l, lb⟩ := lr
   go_wp2_with fail
   refine wp_region_noPanic ?_
   refine wp_region_held_drew (S := fun w' => BS wr ([] : List Nat) w' ∧ (∀ o : Nat, w'.cell? ⟨w.heap.size, o, none⟩ = (#[.int .i64 t, .int .i64 p, .int .i64 s, .slice (some ad) n c] : Array Value)[o]?)) (by kernel_rfl) ?_ (fun hHeld => ?_)
   ·exact ⟨(BS.start wr).drew, Xr⟩
   refine wT 0 ?_
   refine wT 1 ?_
   refine wR 2 fun K hK => ?_
   go_simp
   refine (calls_b hHeld.1 (hBin.out _)).mono ?_
   rintro e wr1 ⟨rfl, hV, hVl⟩
   dsimp only
   refine hK.out _ _ ?_ (fun hHeld2 => ?_)
   ·exact ⟨hV, hV.oldbox Xr Xl⟩
   clear hK K hV hVl hHeld
   have hHeld := hHeld2
   clear hHeld2
   try simp only [Act.put, zA, zB, zC, zD, zE, zF]
   refine wR 3 fun K hK => ?_
   go_simp
   refine (calls_row hHeld.1 (hLi.out _ (X1.xv.keep hHeld.1.bel))).mono ?_
   rintro e wr2 ⟨lv, rfl, ⟨hV, hVl⟩, hlv⟩
   dsimp only
   refine hK.out _ _ ?_ (fun hHeld2 => ?_)
   ·exact ⟨hV, hV.oldbox Xr Xl⟩
   clear hK K hV hVl hHeld
   have hHeld := hHeld2
   clear hHeld2
   try simp only [Act.put, zA, zB, zC, zD, zE, zF]
   refine wT 4 ?_
   refine wT 5 ?_
   refine wT 6 ?_
   refine wT 7 ?_
   refine wT 8 ?_
   refine wpAnyH_done (by kernel_rfl) (NoPanic.normal ?_) _
   refine world_gen ?_
   intro wz hwz
   rw [← hwz] at hHeld hlv
   clear hwz
   have X2 := X1.keep hHeld.1.bel
   obtain ⟨x0, x1, x2, x3⟩ := X2.cells
   have xl := X2.lt
   have bel2 := hHeld.1.bel
   clear hHeld Xr Xl
   obtain ⟨la, lc, rfl⟩ := hlv.row
   have HL := Lib.hid hlv
   have HB2 := Lib.hid bel2
   clear hlv bel2
   cases lb
   ·have hno : racksB vs t p k = false := by rw [HFK.out]; rfl
    have hres : r = false := by rw [← HR.out]; exact allN_no hlt hno
    subst hres
    clear hno
    go_wp2
    go_ret
    exact ⟨rfl, X2.bel⟩
   ·have hfk2 : racksB vs t p k = allN (racksInB vs t l k) p.toNat := by rw [HFK.out]; rfl
    have HFK2 := Lib.hid hfk2
    clear hfk2 HFK
    go_wp2_with fail
    go_loopw [6, 7] (fun v6 _ wq => AllRel (racksInB vs t l k) p.toNat wz v6 wq) (fun v6 _ _ => p.toNat - (intOf v6).toNat)
    case atStart => exact ⟨0, by omega, rfl, rfl, Below.refl _ _⟩
    case round =>
     obtain ⟨q, hq, rfl, hallq, hbq⟩ := hrel
     have X3 := X2.keep hbq
     have HQ := Lib.hid hallq
     have HBq := Lib.hid hbq
     clear hallq hbq x0 x1 x2 x3 X2
     obtain ⟨x0, x1, x2, x3⟩ := X3.cells
     by_cases hqp : (q : Int) < p
     ·have hC := Lib.hid (fun (w : World) (h : XV w t p s ad n vs) => racked_any q k c w h (by omega) hqp)
      have hin : racksInB vs t l k q = (((l.count (q : Int) : Nat) : Int) == wantI (rackedB (gv vs t (q : Int) 0) (gv vs t (q : Int) 5) k)) := rfl
      have hIn := Lib.hid (fun (w' : World) (hb : Below wz.heap.size wz w') => xin_any l q (.slice la l.length lc) w' (ownsRow_block HL.out.1 fun k hk => hb.block k (ownsRow_lt HL.out.1 hk)) HLen.out)
      have hcb : l.count (q : Int) ≤ 4294967296 := Nat.le_trans List.count_le_length HLen.out
      generalize rackedB (gv vs t (q : Int) 0) (gv vs t (q : Int) 5) k = cd at *
      generalize l.count (q : Int) = cn at *
      have HIN := Lib.hid hin
      clear hin
      by_cases hw : (cn : Int) = wantI cd
      ·have hyes : racksInB vs t l k q = true := by rw [HIN.out]; simpa using hw
       have HY := Lib.hid hyes
       have HW := Lib.hid hw
       clear hyes hw HIN
       cases cd
       ·have e1 := HW.out
        have hb1 : ((cn : Int) != 0) = false := by rw [e1]; rfl
        clear e1
        go_wp2_with fail
        refine (hC.out _ X3.xv).mono ?_
        rintro e w5 ⟨rfl, hb5⟩
        have X5 := X3.keep hb5
        obtain ⟨X50, X51, X52, X53⟩ := X5.cells
        have X5z := X5.lt
        go_wp2_with fail
        refine (hIn.out _ (HBq.out.trans (hb5.mono HBq.out.size))).mono ?_
        rintro e w6 ⟨rfl, hb6⟩
        have bel6 := (HBq.out.trans (hb5.mono HBq.out.size)).trans (hb6.mono (Nat.le_trans HBq.out.size hb5.size))
        go_wp2_with fail
        go_roundw
        case rel => exact ⟨q + 1, by omega, by go_num, by simp [allN, HQ.out, HY.out], bel6⟩
        case measure => simp [intOf]; omega
       ·have e1 := HW.out
        have hb1 : ((cn : Int) != 1) = false := by rw [e1]; rfl
        clear e1
        go_wp2_with fail
        refine (hC.out _ X3.xv).mono ?_
        rintro e w5 ⟨rfl, hb5⟩
        have X5 := X3.keep hb5
        obtain ⟨X50, X51, X52, X53⟩ := X5.cells
        have X5z := X5.lt
        go_wp2_with fail
        refine (hIn.out _ (HBq.out.trans (hb5.mono HBq.out.size))).mono ?_
        rintro e w6 ⟨rfl, hb6⟩
        have bel6 := (HBq.out.trans (hb5.mono HBq.out.size)).trans (hb6.mono (Nat.le_trans HBq.out.size hb5.size))
        go_wp2_with fail
        go_roundw
        case rel => exact ⟨q + 1, by omega, by go_num, by simp [allN, HQ.out, HY.out], bel6⟩
        case measure => simp [intOf]; omega
      ·have hno : racksInB vs t l k q = false := by rw [HIN.out]; simpa using hw
       have hno2 : racksB vs t p k = false := by rw [HFK2.out]; exact allN_no (by omega) hno
       have hres : r = false := by rw [← HR.out]; exact allN_no hlt hno2
       subst hres
       have HW := Lib.hid hw
       clear hno hno2 hw HIN HR
       cases cd
       ·have hb1 : ((cn : Int) != 0) = true := by have := HW.out; simpa [wantI] using this
        go_wp2_with fail
        refine (hC.out _ X3.xv).mono ?_
        rintro e w5 ⟨rfl, hb5⟩
        have X5 := X3.keep hb5
        obtain ⟨X50, X51, X52, X53⟩ := X5.cells
        have X5z := X5.lt
        go_wp2_with fail
        refine (hIn.out _ (HBq.out.trans (hb5.mono HBq.out.size))).mono ?_
        rintro e w6 ⟨rfl, hb6⟩
        go_wp2_with fail
        go_ret
        exact ⟨rfl, (X5.keep hb6).bel⟩
       ·have hb1 : ((cn : Int) != 1) = true := by have := HW.out; simpa [wantI] using this
        go_wp2_with fail
        refine (hC.out _ X3.xv).mono ?_
        rintro e w5 ⟨rfl, hb5⟩
        have X5 := X3.keep hb5
        obtain ⟨X50, X51, X52, X53⟩ := X5.cells
        have X5z := X5.lt
        go_wp2_with fail
        refine (hIn.out _ (HBq.out.trans (hb5.mono HBq.out.size))).mono ?_
        rintro e w6 ⟨rfl, hb6⟩
        go_wp2_with fail
        go_ret
        exact ⟨rfl, (X5.keep hb6).bel⟩
     ·obtain rfl : q = p.toNat := by omega
      have bel6 := HBel.out.trans ((HB2.out.trans (HBq.out.mono HB2.out.size)).mono HBel.out.size)
      have hyes : racksB vs t p k = true := by rw [HFK2.out]; exact HQ.out
      have HY := Lib.hid hyes
      clear hyes
      go_wp2_with fail
      go_roundw
      case rel => exact ⟨k + 1, by omega, by go_num, by simp [allN, HA.out, HY.out], bel6⟩
      case measure => simp [intOf]; omega
  ·obtain rfl : k = 9 := by omega
   have hres : r = true := by rw [← HR.out]; exact HA.out
   subst hres
   go_wp2
   go_ret
   exact ⟨rfl, X1.bel⟩
end
end Go.Proofs.YtcbikgafdclhaaaGreat
/- the document's audit: tiles, apart, feet. -/
set_option linter.unusedSimpArgs false
set_option linter.unusedVariables false
namespace Go.Proofs.YtcbikgafdclhaaaGreat
open Go.RowKit

def tilesN (vs : List Int) (t : Int) (l : List Int) : Nat → Option Nat
 | 0 => some 0
 | q + 1 => match tilesN vs t l q with
  | none => none
  | some n => if l[n]? = some (q : Int) then some (n + 1) else if gv vs t (q : Int) 0 = 0 then some n else none
def tilesF (vs : List Int) (t p : Int) : Bool := (startsF (fun q => gv vs t q 0) p).2 && (tilesN vs t (startsF (fun q => gv vs t q 0) p).1 p.toNat).isSome
theorem tilesN_no {vs : List Int} {t : Int} {l : List Int} {k N : Nat} (hk : k ≤ N) (h : tilesN vs t l k = none) : tilesN vs t l N = none := by
 induction N with
 | zero => obtain rfl : k = 0 := by omega
           exact h
 | succ N ih =>
  by_cases e : k = N + 1
  ·subst e; exact h
  ·unfold tilesN; rw [ih (by omega)]

theorem startsL_mem {g : Int → Int} {p : Int} : ∀ (f : Nat) (a : Int) (out : List Int), 0 ≤ a → (∀ x ∈ out, 0 ≤ x ∧ x < p) → (∀ x ∈ (startsL g p f a out).1, 0 ≤ x ∧ x < p) ∧ (out ≠ [] → (startsL g p f a out).2 = true → (startsL g p f a out).1 ≠ []) ∧ ((out.length : Int) ≤ a → (out.length : Int) ≤ p → ((startsL g p f a out).1.length : Int) ≤ p) := by
 intro f
 induction f with
 | zero => intro a out _ h; exact ⟨h, fun h _ => h, fun _ h => h⟩
 | succ f ih =>
  intro a out ha h
  unfold startsL
  by_cases h1 : a < p
  ·rw [if_pos h1]
   by_cases h2 : okI (g a) = false ∨ iK (g a) = 0
   ·rw [if_pos h2]
    exact ⟨by simp, by simp, by simp; omega⟩
   ·rw [if_neg h2]
    have b := inf_bd (g a)
    have h3 : 1 ≤ iL (g a) := (b.2.2.2.2.2.2.1 (fun e => h2 (Or.inr e))).2
    obtain ⟨i1, i2, i3⟩ := ih (a + iL (g a)) (out ++ [a]) (by omega) (by
     intro x hx
     simp at hx
     rcases hx with hx | rfl
     ·exact h x hx
     ·exact ⟨ha, h1⟩)
    exact ⟨i1, fun _ => i2 (by simp), fun h4 h5 => i3 (by simp; omega) (by simp; omega)⟩
  ·rw [if_neg h1]
   exact ⟨h, fun h _ => h, fun _ h => h⟩
theorem startsF_mem {g : Int → Int} {p : Int} (hp : 0 < p) : (∀ x ∈ (startsF g p).1, 0 ≤ x ∧ x < p) ∧ ((startsF g p).2 = true → (startsF g p).1 ≠ []) ∧ ((startsF g p).1.length : Int) ≤ p := by
 obtain ⟨h1, h2, h3⟩ := startsL_mem (g := g) (p := p) (p.toNat + 1) 0 [] (by omega) (by simp)
 refine ⟨h1, fun h => ?_, h3 (by simp) (by simp; omega)⟩
 unfold startsF at h ⊢
 unfold startsL at h ⊢
 rw [if_pos hp] at h ⊢
 by_cases h4 : okI (g 0) = false ∨ iK (g 0) = 0
 ·rw [if_pos h4] at h; simp at h
 ·rw [if_neg h4] at h ⊢
  have b := inf_bd (g 0)
  exact (startsL_mem _ _ _ (by omega) (by simp; omega)).2.1 (by simp) h

theorem RowP.cell {w w' : World} {l : List Int} {a : Option Addr} {m c : Nat} (h : RowP w l (.slice a m c) w') {k : Nat} (hk : k < l.length) :
 ∃ g, a = some ⟨g, 0, none⟩ ∧ w'.cell? ⟨g, k, none⟩ = some (.int .i64 (l.getD k 0)) := by
 obtain ⟨g, cap, e⟩ := Joins.ownsRow_form h.1 (by omega)
 simp only [Value.slice.injEq] at e
 obtain ⟨rfl, rfl, rfl⟩ := e
 refine ⟨g, rfl, ?_⟩
 rw [h.1.cellAt k (by omega)]
 simp [ints, hk]

theorem fieldInfo0 (x y z : Value) (w : World) : (Instr.field 174 (.agg #[x, y, z]) 0).run Tryz.prog w = .ok x w := by
 simp [Instr.field, asAgg, go_sem]
theorem fieldInfo1 (x y z : Value) (w : World) : (Instr.field 174 (.agg #[x, y, z]) 1).run Tryz.prog w = .ok y w := by
 simp [Instr.field, asAgg, go_sem]

section
variable {t p s : Int} {ad : Addr} {n c : Nat} {vs : List Int}

def TileRel (vs : List Int) (t p : Int) (l : List Int) (W0 : World) (v5 v6 : Value) (wr : World) : Prop := ∃ q m : Nat, (q : Int) ≤ p ∧ v6 = .int .i64 q ∧ v5 = .int .i64 m ∧ m ≤ q ∧ tilesN vs t l q = some m ∧ Below W0.heap.size W0 wr

set_option maxHeartbeats 1000000 in
set_option maxRecDepth 100000 in
theorem tiles_any (c : Nat) (w : World) (h : XV w t p s ad n vs) :
 Calls Tryz.prog 166 #[.agg #[.int .i64 t, .int .i64 p, .int .i64 s, .slice (some ad) n c]] w fun e w' => e = .returned (.bool (tilesF vs t p)) ∧ Below w.heap.size w w' := by
 have X0 := h.boxed c
 have bd : 4 ≤ p ∧ p ≤ 1024 := by have := h.bd; omega
 have HS := Lib.hid (fun (w : World) (h : XV w t p s ad n vs) => starts_any c w h)
 have HX : ∀ q, 0 ≤ q → q < p → ∃ k : Nat, k < n ∧ (∀ w, Calls Tryz.prog 73 #[.agg #[.int .i64 t, .int .i64 p, .int .i64 s], .int .i64 q] w fun e w' => e = .returned (.int .i64 k) ∧ Below w.heap.size w w') ∧ w.cell? (ad.add k) = some (.int .u32 (gv vs t q 0)) := by
  intro q h0 h1
  obtain ⟨hx1, hx2⟩ := h.cx h0 h1 (part := 0) (by omega) (by omega)
  refine ⟨cix t q 0, hx1, fun w => ?_, h.cells _ hx1⟩
  have := rinfo_any t p s q w
  rwa [hx2] at this
 have HXX := Lib.hid HX
 have hlen := (startsF_mem (g := fun q => gv vs t q 0) (p := p) (by omega)).2.2
 have HLen := Lib.hid hlen
 generalize hr : tilesF vs t p = r
 have hr2 : ((startsF (fun q => gv vs t q 0) p).2 && (tilesN vs t (startsF (fun q => gv vs t q 0) p).1 p.toNat).isSome) = r := hr
 have HR := Lib.hid hr2
 clear h hr hr2 HX hlen
 generalize startsF (fun q => gv vs t q 0) p = st at *
 obtain ⟨l, lb⟩ := st
 go_enter Tryz.func166, Tryz.ntmps166
 go_wp2_with fail
 refine (HS.out _ X0.xv).mono ?_
 rintro e w1 ⟨lv, rfl, hlv⟩
 have X1 := X0.keep hlv.2.2
 obtain ⟨la, lc, rfl⟩ := hlv.row
 have HL := Lib.hid hlv
 clear hlv X0
 cases lb
 ·have hres : r = false := by rw [← HR.out]; rfl
  subst hres
  go_wp2
  go_ret
  exact ⟨rfl, X1.bel⟩
 ·have hr3 : (tilesN vs t l p.toNat).isSome = r := by rw [← HR.out]; rfl
  have HR3 := Lib.hid hr3
  obtain ⟨x0, x1, x2, x3⟩ := X1.cells
  clear HR hr3
  go_wp2_with fail
  go_loopw [5, 6] (fun v5 v6 wr => TileRel vs t p l w1 v5 v6 wr) (fun _ v6 _ => p.toNat - (intOf v6).toNat)
  case atStart => exact ⟨0, 0, by omega, rfl, rfl, by omega, rfl, Below.refl _ _⟩
  case round =>
   obtain ⟨q, m, hq, rfl, rfl, hmq, htn, hbq⟩ := hrel
   have X3 := X1.keep hbq
   have HT := Lib.hid htn
   have HB := Lib.hid hbq
   clear htn hbq x0 x1 x2 x3
   obtain ⟨x0, x1, x2, x3⟩ := X3.cells
   have HLen2 := HLen.out
   by_cases hqp : (q : Int) < p
   ·have hstep : tilesN vs t l (q + 1) = if l[m]? = some (q : Int) then some (m + 1) else if gv vs t (q : Int) 0 = 0 then some m else none := by
     show (match tilesN vs t l q with
      | none => none
      | some n => if l[n]? = some (q : Int) then some (n + 1) else if gv vs t (q : Int) 0 = 0 then some n else none) = _
     rw [HT.out]
    by_cases hl : m < l.length
    ·obtain ⟨g, rfl, hc0⟩ := HL.out.cell hl
     have hc1 := (HB.out.cell (World.block_lt_of_cell? _ _ hc0)).trans hc0
     have hget : l[m]? = some (l.getD m 0) := by simp [hl]
     rw [hget] at hstep
     generalize l.getD m 0 = y at *
     by_cases hy : y = (q : Int)
     ·have hb : (y == (q : Int)) = true := by simp [hy]
      rw [if_pos (by rw [hy])] at hstep
      have HS2 := Lib.hid hstep
      clear hstep hget hy hc0
      go_wp2_with fail
      go_roundw
      case rel => exact ⟨q + 1, m + 1, by omega, by go_num, by go_num, by omega, HS2.out, HB.out⟩
      case measure => simp [intOf]; omega
     ·have hb : (y == (q : Int)) = false := by simp [hy]
      rw [if_neg (by simpa using hy)] at hstep
      obtain ⟨k, hkn, hI, hd0⟩ := HXX.out q (by omega) hqp
      have hd1 := X3.xv.cells
      have hd2 := (BS.mk X3.bel (by simp) : BS w [] wr).old hd0
      have HI := Lib.hid hI
      have HBox := Lib.hid X3.box
      have hxl := X3.lt
      clear hget hy hc0 hI hd0 hd1
      generalize gv vs t (q : Int) 0 = u at *
      by_cases hu : u = 0
      ·have hub : (u != 0) = false := by simp [hu]
       rw [if_pos hu] at hstep
       have HS2 := Lib.hid hstep
       clear hstep hu
       go_wp2_with fail
       refine wp_region_noPanic ?_
       refine wp_region_held_drew (S := fun w' => BS wr ([] : List Nat) w' ∧ (∀ o : Nat, w'.cell? ⟨w.heap.size, o, none⟩ = (#[.int .i64 t, .int .i64 p, .int .i64 s, .slice (some ad) n c] : Array Value)[o]?) ∧ w'.cell? (ad.add k) = some (.int .u32 u)) (by kernel_rfl) ?_ (fun hHeld => ?_)
       ·exact ⟨(BS.start wr).drew, HBox.out, hd2⟩
       refine wT 0 ?_
       refine wT 1 ?_
       refine wT 2 ?_
       refine wT 3 ?_
       refine wT 4 ?_
       refine wR 5 fun K hK => ?_
       go_simp
       refine (calls_b hHeld.1 (HI.out _)).mono ?_
       rintro e wr1 ⟨rfl, hV, hVl⟩
       dsimp only
       refine hK.out _ _ ?_ (fun hHeld2 => ?_)
       ·exact ⟨hV, hV.oldbox HBox.out hxl, hV.old hd2⟩
       clear hK K hV hVl hHeld
       have hHeld := hHeld2
       clear hHeld2
       try simp only [Act.put, zA, zB, zC, zD, zE, zF]
       refine wT 6 ?_
       refine wT 7 ?_
       refine wT 8 ?_
       refine wpAnyH_done (by kernel_rfl) (NoPanic.normal ?_) _
       refine world_gen ?_
       intro wz hwz
       rw [← hwz] at hHeld
       clear hwz
       have hbz := HB.out.trans (hHeld.1.bel.mono HB.out.size)
       clear hHeld
       go_wp2_with fail
       go_roundw
       case rel => exact ⟨q + 1, m, by omega, by go_num, rfl, by omega, HS2.out, hbz⟩
       case measure => simp [intOf]; omega
      ·have hub : (u != 0) = true := by simp [hu]
       rw [if_neg hu] at hstep
       have hres : r = false := by rw [← HR3.out, tilesN_no (k := q + 1) (by omega) hstep]; rfl
       subst hres
       clear hstep hu
       go_wp2_with fail
       refine wp_region_noPanic ?_
       refine wp_region_held_drew (S := fun w' => BS wr ([] : List Nat) w' ∧ (∀ o : Nat, w'.cell? ⟨w.heap.size, o, none⟩ = (#[.int .i64 t, .int .i64 p, .int .i64 s, .slice (some ad) n c] : Array Value)[o]?) ∧ w'.cell? (ad.add k) = some (.int .u32 u)) (by kernel_rfl) ?_ (fun hHeld => ?_)
       ·exact ⟨(BS.start wr).drew, HBox.out, hd2⟩
       refine wT 0 ?_
       refine wT 1 ?_
       refine wT 2 ?_
       refine wT 3 ?_
       refine wT 4 ?_
       refine wR 5 fun K hK => ?_
       go_simp
       refine (calls_b hHeld.1 (HI.out _)).mono ?_
       rintro e wr1 ⟨rfl, hV, hVl⟩
       dsimp only
       refine hK.out _ _ ?_ (fun hHeld2 => ?_)
       ·exact ⟨hV, hV.oldbox HBox.out hxl, hV.old hd2⟩
       clear hK K hV hVl hHeld
       have hHeld := hHeld2
       clear hHeld2
       try simp only [Act.put, zA, zB, zC, zD, zE, zF]
       refine wT 6 ?_
       refine wT 7 ?_
       refine wT 8 ?_
       refine wpAnyH_done (by kernel_rfl) (NoPanic.normal ?_) _
       refine world_gen ?_
       intro wz hwz
       rw [← hwz] at hHeld
       clear hwz
       have hbz := X3.keep hHeld.1.bel
       clear hHeld
       go_wp2
       go_ret
       exact ⟨rfl, hbz.bel⟩
    ·have hgn : l[m]? = none := List.getElem?_eq_none (by omega)
     rw [hgn, if_neg (by simp)] at hstep
     obtain ⟨k, hkn, hI, hd0⟩ := HXX.out q (by omega) hqp
     have hd2 := (BS.mk X3.bel (by simp) : BS w [] wr).old hd0
     have HI := Lib.hid hI
     have HBox := Lib.hid X3.box
     have hxl := X3.lt
     clear hI hd0
     generalize gv vs t (q : Int) 0 = u at *
     by_cases hu : u = 0
     ·have hub : (u != 0) = false := by simp [hu]
      rw [if_pos hu] at hstep
      have HS2 := Lib.hid hstep
      clear hstep hu
      go_wp2_with fail
      refine wp_region_noPanic ?_
      refine wp_region_held_drew (S := fun w' => BS wr ([] : List Nat) w' ∧ (∀ o : Nat, w'.cell? ⟨w.heap.size, o, none⟩ = (#[.int .i64 t, .int .i64 p, .int .i64 s, .slice (some ad) n c] : Array Value)[o]?) ∧ w'.cell? (ad.add k) = some (.int .u32 u)) (by kernel_rfl) ?_ (fun hHeld => ?_)
      ·exact ⟨(BS.start wr).drew, HBox.out, hd2⟩
      refine wT 0 ?_
      refine wT 1 ?_
      refine wT 2 ?_
      refine wT 3 ?_
      refine wT 4 ?_
      refine wR 5 fun K hK => ?_
      go_simp
      refine (calls_b hHeld.1 (HI.out _)).mono ?_
      rintro e wr1 ⟨rfl, hV, hVl⟩
      dsimp only
      refine hK.out _ _ ?_ (fun hHeld2 => ?_)
      ·exact ⟨hV, hV.oldbox HBox.out hxl, hV.old hd2⟩
      clear hK K hV hVl hHeld
      have hHeld := hHeld2
      clear hHeld2
      try simp only [Act.put, zA, zB, zC, zD, zE, zF]
      refine wT 6 ?_
      refine wT 7 ?_
      refine wT 8 ?_
      refine wpAnyH_done (by kernel_rfl) (NoPanic.normal ?_) _
      refine world_gen ?_
      intro wz hwz
      rw [← hwz] at hHeld
      clear hwz
      have hbz := HB.out.trans (hHeld.1.bel.mono HB.out.size)
      clear hHeld
      go_wp2_with fail
      go_roundw
      case rel => exact ⟨q + 1, m, by omega, by go_num, rfl, by omega, HS2.out, hbz⟩
      case measure => simp [intOf]; omega
     ·have hub : (u != 0) = true := by simp [hu]
      rw [if_neg hu] at hstep
      have hres : r = false := by rw [← HR3.out, tilesN_no (k := q + 1) (by omega) hstep]; rfl
      subst hres
      clear hstep hu
      go_wp2_with fail
      refine wp_region_noPanic ?_
      refine wp_region_held_drew (S := fun w' => BS wr ([] : List Nat) w' ∧ (∀ o : Nat, w'.cell? ⟨w.heap.size, o, none⟩ = (#[.int .i64 t, .int .i64 p, .int .i64 s, .slice (some ad) n c] : Array Value)[o]?) ∧ w'.cell? (ad.add k) = some (.int .u32 u)) (by kernel_rfl) ?_ (fun hHeld => ?_)
      ·exact ⟨(BS.start wr).drew, HBox.out, hd2⟩
      refine wT 0 ?_
      refine wT 1 ?_
      refine wT 2 ?_
      refine wT 3 ?_
      refine wT 4 ?_
      refine wR 5 fun K hK => ?_
      go_simp
      refine (calls_b hHeld.1 (HI.out _)).mono ?_
      rintro e wr1 ⟨rfl, hV, hVl⟩
      dsimp only
      refine hK.out _ _ ?_ (fun hHeld2 => ?_)
      ·exact ⟨hV, hV.oldbox HBox.out hxl, hV.old hd2⟩
      clear hK K hV hVl hHeld
      have hHeld := hHeld2
      clear hHeld2
      try simp only [Act.put, zA, zB, zC, zD, zE, zF]
      refine wT 6 ?_
      refine wT 7 ?_
      refine wT 8 ?_
      refine wpAnyH_done (by kernel_rfl) (NoPanic.normal ?_) _
      refine world_gen ?_
      intro wz hwz
      rw [← hwz] at hHeld
      clear hwz
      have hbz := X3.keep hHeld.1.bel
      clear hHeld
      go_wp2
      go_ret
      exact ⟨rfl, hbz.bel⟩
   ·obtain rfl : q = p.toNat := by omega
    have hres : r = true := by rw [← HR3.out, HT.out]; rfl
    subst hres
    go_wp2
    go_ret
    exact ⟨rfl, X3.bel⟩

end
end Go.Proofs.YtcbikgafdclhaaaGreat
/- the document's audit: pages' bytes, slots' sizes, addresses. -/
set_option linter.unusedSimpArgs false
set_option linter.unusedVariables false
namespace Go.Proofs.YtcbikgafdclhaaaGreat
open Go.RowKit

def pageN : Nat → Int
 | 0 => 1
 | k + 1 => pageN k * 2
def pageF (s : Int) : Int := pageN s.toNat
theorem pageN_bd : ∀ k : Nat, k ≤ 20 → 1 ≤ pageN k ∧ pageN k ≤ 1048576 := by decide
theorem pageF_bd {s : Int} (h : 10 ≤ s ∧ s ≤ 20) : 1024 ≤ pageF s ∧ pageF s ≤ 1048576 := by
 have : ∀ k : Nat, k ≤ 20 → 10 ≤ k → 1024 ≤ pageN k ∧ pageN k ≤ 1048576 := by decide
 exact this _ (by omega) (by omega)

def PgRel (s : Int) (w : World) (W0 : World) (v3 v4 : Value) (wr : World) : Prop := ∃ k : Nat, (k : Int) ≤ s ∧ v4 = .int .i64 k ∧ v3 = .int .i64 (pageN k) ∧ W0 = wr ∧ w = w

theorem rpagesz_any (t p s : Int) (w : World) (hr : rightB t p s = true) :
 Calls Tryz.prog 223 #[.agg #[.int .i64 t, .int .i64 p, .int .i64 s]] w fun e w' => e = .returned (.int .i64 (pageF s)) ∧ Below w.heap.size w w' := by
 obtain ⟨b1, b2, b3, b4, b5, b6⟩ := right_bd hr
 have H := rright_any t p s
 rw [hr] at H
 have HH := Lib.hid H
 have c0 := loc_alloc w #[.int .i64 t, .int .i64 p, .int .i64 s] 44
 generalize hF : pageF s = F
 have HF := Lib.hid hF
 clear H hr hF
 go_enter Tryz.func223, Tryz.ntmps223
 go_wp2_with fail
 refine (HH.out _).mono ?_
 rintro e w1 ⟨rfl, hb⟩
 have c2 := (hb.cell (p := ⟨w.heap.size, 2, none⟩) (by simp)).trans (c0 2)
 simp at c2
 have bel : Below w.heap.size w w1 := ((Below.refl _ _).alloc (Nat.le_refl _) _).trans (hb.mono (by simp))
 clear hb c0
 go_wp2_with fail
 go_loopw [3, 4] (fun v3 v4 wr => PgRel s w w1 v3 v4 wr) (fun _ v4 _ => s.toNat - (intOf v4).toNat)
 case atStart => exact ⟨0, by omega, rfl, rfl, rfl, rfl⟩
 case round =>
  obtain ⟨k, hk, rfl, rfl, rfl, -⟩ := hrel
  have hp := pageN_bd k (by omega)
  by_cases hlt : (k : Int) < s
  ·have hs : pageN (k + 1) = pageN k * 2 := rfl
   have HS := Lib.hid hs
   clear hs
   generalize pageN k = pg at *
   go_wp2
   go_roundw
   case rel => exact ⟨k + 1, by omega, by go_num, by rw [HS.out], rfl, rfl⟩
   case measure => simp [intOf]; omega
  ·have e : k = s.toNat := by omega
   have hF2 : pageN k = F := by rw [← HF.out, e]; rfl
   have HF2 := Lib.hid hF2
   clear hp hF2 e
   generalize pageN k = pg at *
   go_wp2
   go_ret
   exact ⟨ret_int HF2.out, bel⟩

def sizeF (s k : Int) : Int := if slotsF k = 0 then 0 else pageF s / slotsF k - pageF s / slotsF k % 16
theorem slots_cases (k : Int) : slotsF k = 0 ∨ slotsF k = 32 ∨ slotsF k = 21 ∨ slotsF k = 16 ∨ slotsF k = 10 ∨ slotsF k = 8 ∨ slotsF k = 5 ∨ slotsF k = 4 ∨ slotsF k = 3 ∨ slotsF k = 2 := by
 rcases (by omega : k = 0 ∨ k = 1 ∨ k = 2 ∨ k = 3 ∨ k = 4 ∨ k = 5 ∨ k = 6 ∨ k = 7 ∨ k = 8 ∨ (k < 0 ∨ 8 < k)) with rfl | rfl | rfl | rfl | rfl | rfl | rfl | rfl | rfl | h
 case inr.inr.inr.inr.inr.inr.inr.inr.inr =>
  left
  unfold slotsF
  rw [if_neg (by omega), if_neg (by omega), if_neg (by omega), if_neg (by omega), if_neg (by omega), if_neg (by omega), if_neg (by omega), if_neg (by omega), if_neg (by omega)]
 all_goals decide
theorem size_bd {s k : Int} (h : 10 ≤ s ∧ s ≤ 20) : 0 ≤ sizeF s k ∧ sizeF s k ≤ 1048576 ∧ sizeF s k * slotsF k ≤ pageF s ∧ (slotsF k ≠ 0 → 1 ≤ sizeF s k) ∧ (∀ b : Int, 0 ≤ b → b < slotsF k → 0 ≤ b * sizeF s k ∧ b * sizeF s k + sizeF s k ≤ pageF s) := by
 have hp := pageF_bd h
 unfold sizeF
 generalize pageF s = pg at *
 have key : ∀ N z : Int, 0 ≤ z → N * z ≤ pg → ∀ b : Int, 0 ≤ b → b < N → 0 ≤ b * z ∧ b * z + z ≤ pg := by
  intro N z hz hN b hb hbN
  refine ⟨Int.mul_nonneg hb hz, ?_⟩
  have h1 : (b + 1) * z ≤ N * z := Int.mul_le_mul_of_nonneg_right (by omega) hz
  have h2 : (b + 1) * z = b * z + z := by rw [Int.add_mul, Int.one_mul]
  omega
 rcases slots_cases k with e | e | e | e | e | e | e | e | e | e <;> rw [e]
 ·rw [if_pos rfl]
  exact ⟨by omega, by omega, by omega, fun h => absurd rfl h, fun b h1 h2 => absurd h2 (by omega)⟩
 all_goals
  rw [if_neg (by omega)]
  refine ⟨by omega, by omega, by omega, fun _ => by omega, key _ _ (by omega) (by omega)⟩

theorem rsize_any (s k : Int) (w : World) (h : 10 ≤ s ∧ s ≤ 20) :
 Calls Tryz.prog 239 #[.int .i64 s, .int .i64 k] w fun e w' => e = .returned (.int .i64 (sizeF s k)) ∧ Below w.heap.size w w' := by
 have H := Lib.hid (fun w => rpagesz_any 1 4 s w (right_mk (by omega)))
 have hp := pageF_bd h
 have hd : sizeF s k = if slotsF k = 0 then 0 else pageF s / slotsF k - pageF s / slotsF k % 16 := rfl
 have HK := Lib.hid (fun w => rkslots_any k w)
 have hb := slots_bd k
 rw [hd]
 clear hd h
 generalize slotsF k = n at *
 generalize pageF s = pg at *
 by_cases hn : n = 0
 ·subst hn
  go_enter Tryz.func239, Tryz.ntmps239
  go_wp2_with fail
  refine (H.out _).mono ?_
  rintro e w1 ⟨rfl, b1⟩
  go_wp2_with fail
  refine (HK.out _).mono ?_
  rintro e w2 ⟨rfl, b2⟩
  go_wp2
  go_ret
  exact ⟨by simp, b1.trans (b2.mono b1.size)⟩
 ·rw [if_neg hn]
  have hnb : (n == 0) = false := by simp [hn]
  have hpb : (pg == 0) = false := by simp; omega
  have hq : pg.tdiv n = pg / n := Int.tdiv_eq_ediv_of_nonneg (by omega)
  have hq0 : 0 ≤ pg / n := Int.ediv_nonneg (by omega) (by omega)
  have hq1 : pg / n ≤ pg := Int.ediv_le_self _ (by omega)
  have HQ := Lib.hid hq
  go_enter Tryz.func239, Tryz.ntmps239
  go_wp2_with fail
  refine (H.out _).mono ?_
  rintro e w1 ⟨rfl, b1⟩
  go_wp2_with fail
  refine (HK.out _).mono ?_
  rintro e w2 ⟨rfl, b2⟩
  go_wp2
  go_ret
  exact ⟨rfl, b1.trans (b2.mono b1.size)⟩

/-- an address that is one. -/
def addrF (s q off : Int) : Int := (q + 1) * pageF s + off
theorem rof_any (t p s q off : Int) (w : World) (hr : rightB t p s = true) (h0 : 0 ≤ q) (h1 : q < p) (h2 : 0 ≤ off) (h3 : off < pageF s) :
 Calls Tryz.prog 222 #[.agg #[.int .i64 t, .int .i64 p, .int .i64 s], .int .i64 q, .int .i64 off] w fun e w' => e = .returned (.tuple #[.int .i64 (addrF s q off), .bool true]) ∧ Below w.heap.size w w' := by
 obtain ⟨b1, b2, b3, b4, b5, b6⟩ := right_bd hr
 have H := rright_any t p s
 rw [hr] at H
 have HH := Lib.hid H
 have HP := Lib.hid (fun w => rpagesz_any t p s w hr)
 have hp := pageF_bd (s := s) (by omega)
 have hd : addrF s q off = (q + 1) * pageF s + off := rfl
 rw [hd]
 clear H hr hd
 generalize pageF s = pg at *
 have hm0 : 0 ≤ (q + 1) * pg := Int.mul_nonneg (by omega) (by omega)
 have hm1 : (q + 1) * pg ≤ 1024 * 1048576 := Int.mul_le_mul (by omega) (by omega) (by omega) (by omega)
 have hw1 : IntKind.i64.wrap ((q + 1) * pg) = (q + 1) * pg := wrap_in _ (by omega)
 have hw2 : IntKind.i64.wrap ((q + 1) * pg + off) = (q + 1) * pg + off := wrap_in _ (by omega)
 have c0 := loc_alloc w #[.int .i64 t, .int .i64 p, .int .i64 s] 44
 go_enter Tryz.func222, Tryz.ntmps222
 go_wp2_with fail
 refine (HH.out _).mono ?_
 rintro e w1 ⟨rfl, ha⟩
 obtain ⟨hac, haf⟩ := bcell ha
 have haz0 : w.heap.size < w1.heap.size := by have := ha.size; first | omega | (simp at this; omega)
 go_wp2_with fail
 refine (HP.out _).mono ?_
 rintro e w2 ⟨rfl, hb⟩
 obtain ⟨hbc, hbf⟩ := bcell hb
 have hbz0 : w1.heap.size ≤ w2.heap.size := by have := hb.size; first | omega | (simp at this; omega)
 have hbz1 : w.heap.size < w2.heap.size := by have := hb.size; first | omega | (simp at this; omega)
 go_wp2_with fail
 refine (HP.out _).mono ?_
 rintro e w3 ⟨rfl, hc⟩
 obtain ⟨hcc, hcf⟩ := bcell hc
 go_wp2
 refine bodyPost_ret (v := .tuple #[.int .i64 ((q + 1) * pg + off), .bool true]) (by simp [results, Tryz.results222, go_sem]) rfl ⟨rfl, ?_⟩
 (repeat (first | exact Below.refl _ _ | assumption | refine Below.setCell ?_ (by first | omega | (simp; done) | (simp; omega)) _ | refine Below.alloc ?_ (by first | omega | (simp; done) | (simp; omega)) _ | refine Below.drew ?_ | refine Below.trans ?_ (Below.mono ‹Below _ _ _› (by first | omega | (simp; done) | (simp; omega)))))

theorem rat_any (t p s k q slot : Int) (w : World) (hr : rightB t p s = true) (h0 : 0 ≤ q) (h1 : q < p) (h2 : 0 ≤ slot) (h3 : slot < slotsF k) :
 Calls Tryz.prog 240 #[.agg #[.int .i64 t, .int .i64 p, .int .i64 s], .int .i64 k, .int .i64 q, .int .i64 slot] w fun e w' => e = .returned (.tuple #[.int .i64 (addrF s q (slot * sizeF s k)), .bool true]) ∧ Below w.heap.size w w' := by
 obtain ⟨b1, b2, b3, b4, b5, b6⟩ := right_bd hr
 obtain ⟨s1, s2, s3, s4, s5⟩ := size_bd (s := s) (k := k) (by omega)
 have h5 := s5 slot h2 h3
 have s6 := s4 (by omega)
 have hp := pageF_bd (s := s) (by omega)
 have HO := Lib.hid (fun w => rof_any t p s q (slot * sizeF s k) w hr h0 h1 h5.1 (by omega))
 have HK := Lib.hid (fun w => rkslots_any k w)
 have HZ := Lib.hid (fun w => rsize_any s k w (by omega))
 have hw : IntKind.i64.wrap (slot * sizeF s k) = slot * sizeF s k := wrap_in _ (by omega)
 have hS0 := ((BS.start w).alloc (.cells #[.int .i64 t, .int .i64 p, .int .i64 s] 44))
 generalize addrF s q (slot * sizeF s k) = ar at *
 generalize sizeF s k = z at *
 generalize slotsF k = sl at *
 clear s1 s2 s3 s4 s5 hr
 go_enter Tryz.func240, Tryz.ntmps240
 go_wp2_with fail
 refine (HK.out _).mono ?_
 rintro e w1 ⟨rfl, ha⟩
 obtain ⟨hac, haf⟩ := bcell ha
 have haz0 : w.heap.size < w1.heap.size := by have := ha.size; first | omega | (simp at this; omega)
 have hS1 := hS0.below ha
 have hB1 := fun o => (ha.cell (p := ⟨w.heap.size, o, none⟩) (by simp)).trans (loc_alloc w #[.int .i64 t, .int .i64 p, .int .i64 s] 44 o)
 have HB1 := Lib.hid hB1
 clear hB1
 go_wp2_with fail
 refine wp_region_noPanic ?_
 refine wp_region_held_drew (S := fun w' => BS w [w.heap.size] w' ∧ (∀ o : Nat, w'.cell? ⟨w.heap.size, o, none⟩ = (#[.int .i64 t, .int .i64 p, .int .i64 s] : Array Value)[o]?)) (by kernel_rfl) ?_ (fun hHeld => ?_)
 ·exact ⟨hS1.drew, HB1.out⟩
 refine wT 0 ?_
 refine wT 1 ?_
 refine wT 2 ?_
 refine wT 3 ?_
 refine wT 4 ?_
 refine wT 5 ?_
 refine wR 6 fun K hK => ?_
 go_simp
 refine (calls_b hHeld.1 (HZ.out _)).mono ?_
 rintro e wr1 ⟨rfl, hV, hVl⟩
 dsimp only
 refine hK.out _ _ ?_ (fun hHeld2 => ?_)
 ·exact ⟨hV, loc_step hVl (by simp) hHeld.2⟩
 clear hK K hV hVl hHeld
 have hHeld := hHeld2
 clear hHeld2
 try simp only [Act.put, zA, zB, zC, zD, zE, zF]
 refine wT 7 ?_
 refine wR 8 fun K hK => ?_
 go_simp
 refine (calls_b hHeld.1 (HO.out _)).mono ?_
 rintro e wr2 ⟨rfl, hV, hVl⟩
 dsimp only
 refine hK.out _ _ ?_ (fun hHeld2 => ?_)
 ·exact ⟨hV, loc_step hVl (by simp) hHeld.2⟩
 clear hK K hV hVl hHeld
 have hHeld := hHeld2
 clear hHeld2
 try simp only [Act.put, zA, zB, zC, zD, zE, zF]
 refine wT 9 ?_
 refine wT 10 ?_
 refine wT 11 ?_
 refine wT 12 ?_
 refine wpAnyH_done (by kernel_rfl) (NoPanic.normal ?_) _
 refine world_gen ?_
 intro wz hwz
 rw [← hwz] at hHeld
 clear hwz
 have bel := hHeld.1.bel
 clear hHeld
 go_wp2
 exact bodyPost_ret (v := .tuple #[.int .i64 ar, .bool true]) (by simp [results, Tryz.results240, go_sem]) rfl ⟨rfl, bel⟩
end Go.Proofs.YtcbikgafdclhaaaGreat
/- the document's audit: the parts of a slab. -/
set_option linter.unusedSimpArgs false
set_option linter.unusedVariables false
namespace Go.Proofs.YtcbikgafdclhaaaGreat
open Go.RowKit

theorem infoPart : (Tryz.prog.info? 162).map (fun i => (i.zero, i.size, i.bytes)) = some (some (.agg #[.int .i64 0, .int .i64 0, .int .i64 0]), 3, 24) := by kernel_rfl
def partCells (l : List (Int × Int × Int)) : List Value := l.flatMap fun x => [.int .i64 x.1, .int .i64 x.2.1, .int .i64 x.2.2]
theorem partCells_len (l : List (Int × Int × Int)) : (partCells l).length = l.length * 3 := by
 induction l with
 | nil => rfl
 | cons y ys ih => unfold partCells at ih ⊢; simp [ih]; omega
theorem partCells_app (l m : List (Int × Int × Int)) : partCells (l ++ m) = partCells l ++ partCells m := by simp [partCells]
theorem cell_three_new (w : World) (u1 u2 u3 : Value) (T : TypeId) : ∀ (j : Nat) (x : Value), [u1, u2, u3][j]? = some x → (w.alloc (.cells #[u1, u2, u3] T)).cell? ((⟨w.heap.size, 0, none⟩ : Addr).add j) = some x := by
 intro j x hj
 rcases j with _ | _ | _ | j
 ·simp at hj; subst hj; exact cell?_of_heap (o := 0) (heap_alloc_new w (.cells #[u1, u2, u3] T))
 ·simp at hj; subst hj; exact cell?_of_heap (o := 1) (heap_alloc_new w (.cells #[u1, u2, u3] T))
 ·simp at hj; subst hj; exact cell?_of_heap (o := 2) (heap_alloc_new w (.cells #[u1, u2, u3] T))
 ·simp at hj

/-- a new row of parts comes back. -/
def RowQ (w : World) (l : List (Int × Int × Int)) (v : Value) (w' : World) : Prop :=
 w'.ownsRow 0 162 3 v l.length (partCells l) ∧ (∀ k, v.ownBlock = some k → w.heap.size ≤ k) ∧ Below w.heap.size w w'

def kindF (x y : Bool) : Int := if x then 2 else if y then 4 else 3
def slabL (vs : List Int) (t s q k : Int) : Nat → List (Int × Int × Int)
 | 0 => []
 | b + 1 => slabL vs t s q k b ++ [(kindF (bitB (gv vs t q 4) b) (bitB (gv vs t q 5) b), addrF s q ((b : Int) * sizeF s k), sizeF s k)]
theorem slabL_len (vs : List Int) (t s q k : Int) (b : Nat) : (slabL vs t s q k b).length = b := by
 induction b with
 | zero => rfl
 | succ b ih => simp [slabL, ih]
def restF (s k : Int) : Int := pageF s - sizeF s k * slotsF k
def slabF (vs : List Int) (t s q k : Int) : List (Int × Int × Int) :=
 slabL vs t s q k (slotsF k).toNat ++ if 0 < restF s k then [(5, addrF s q (pageF s - restF s k), restF s k)] else []
theorem slabF_len (vs : List Int) (t s q k : Int) : (slabF vs t s q k).length ≤ 33 := by
 have := slots_bd k
 unfold slabF
 rw [List.length_append, slabL_len]
 split <;> simp <;> omega

section
variable {t p s : Int} {ad : Addr} {n c : Nat} {vs : List Int}

structure SlRel (w : World) (vs : List Int) (t p s q k : Int) (ad : Addr) (n c : Nat) (v7 v9 : Value) (wr : World) (b : Nat) : Prop where
 hb : v9 = .int .i64 b
 le : (b : Int) ≤ slotsF k
 row : wr.ownsRow 0 162 3 v7 b (partCells (slabL vs t s q k b))
 bs : BS w (w.heap.size :: v7.ownBlock.toList) wr
 xb : XB w t p s ad n c vs wr
 far : ∀ k, v7.ownBlock = some k → w.heap.size < k
def SlRelE (w : World) (vs : List Int) (t p s q k : Int) (ad : Addr) (n c : Nat) (v7 v9 : Value) (wr : World) : Prop := ∃ b, SlRel w vs t p s q k ad n c v7 v9 wr b

/-- behind an append to a row that is none of X's box. -/
theorem XB.grown {w W W' : World} {ob : Obj} {row : Option Nat} (h0 : XV w t p s ad n vs) (h : XB w t p s ad n c vs W) (hS : BS w (w.heap.size :: row.toList) W) (hg : (W.alloc ob).grownBy W' row) (hr : ∀ k, row = some k → w.heap.size < k) : XB w t p s ad n c vs W' := by
 have hb : Below w.heap.size w W' := (hS.bel.alloc hS.bel.size ob).grown hg (by simp; exact Nat.le_succ_of_le hS.bel.size) (fun k hk => (hS.ls k (by simp [hk])).2)
 refine ⟨hb, loc_grown hg (by have := h.lt; simp; omega) (fun e => by have := hr _ e; omega) (loc_old _ h.lt h.box), Nat.lt_of_lt_of_le h.lt ?_, h0.keep hb⟩
 have := hg.size; simp at this; omega

set_option maxHeartbeats 4000000 in
set_option maxRecDepth 100000 in
theorem slab_any (q k : Int) (c : Nat) (w : World) (h : XV w t p s ad n vs) (h0 : 0 ≤ q) (h1 : q < p) (hk0 : 0 ≤ k) (hk8 : k ≤ 8) :
 Calls Tryz.prog 224 #[.agg #[.int .i64 t, .int .i64 p, .int .i64 s, .slice (some ad) n c], .int .i64 q, .int .i64 k] w fun e w' => ∃ v, e = .returned v ∧ RowQ w (slabF vs t s q k) v w' := by
 have X0 := (h.boxed c).alloc (.cells #[] 162)
 have r0 := row_empty (w.alloc (.cells #[.int .i64 t, .int .i64 p, .int .i64 s, .slice (some ad) n c] 169)) 162 3
 have hS0 := ((BS.start w).alloc (.cells #[.int .i64 t, .int .i64 p, .int .i64 s, .slice (some ad) n c] 169)).alloc (.cells #[] 162)
 simp only [World.size_alloc] at hS0 r0
 have bd := h.bd
 have hr := h.right
 have hb1 := slots_bd k
 obtain ⟨z1, z2, z3, z4, z5⟩ := size_bd (s := s) (k := k) (by omega)
 have hp := pageF_bd (s := s) (by omega)
 have HZ := Lib.hid (fun w => rsize_any s k w (by omega))
 have HK := Lib.hid (fun w => rkslots_any k w)
 have HP := Lib.hid (fun w => rpagesz_any t p s w hr)
 have HAt := Lib.hid (fun (b : Int) w (h2 : 0 ≤ b) (h3 : b < slotsF k) => rat_any t p s k q b w hr h0 h1 h2 h3)
 have HOf := Lib.hid (fun (off : Int) w (h2 : 0 ≤ off) (h3 : off < pageF s) => rof_any t p s q off w hr h0 h1 h2 h3)
 have HT := Lib.hid (fun (w : World) (h : XV w t p s ad n vs) => xtaken_any q c w h h0 h1)
 have HSl := Lib.hid (fun (w : World) (h : XV w t p s ad n vs) => xslots_any q c w h h0 h1)
 have g4 := (h.gu q 4).1
 have g5 := (h.gu q 5).1
 have HB4 := Lib.hid (fun (b : Nat) w (h : b < 32) => rbit_any (gv vs t q 4) b w h g4)
 have HB5 := Lib.hid (fun (b : Nat) w (h : b < 32) => rbit_any (gv vs t q 5) b w h g5)
 have hsl : ∀ b : Nat, slabL vs t s q k (b + 1) = slabL vs t s q k b ++ [(kindF (bitB (gv vs t q 4) b) (bitB (gv vs t q 5) b), addrF s q ((b : Int) * sizeF s k), sizeF s k)] := fun _ => rfl
 have HSL := Lib.hid hsl
 have hslab : slabF vs t s q k = slabL vs t s q k (slotsF k).toNat ++ if 0 < pageF s - sizeF s k * slotsF k then [(5, addrF s q (sizeF s k * slotsF k), pageF s - sizeF s k * slotsF k)] else [] := by
  have e : pageF s - restF s k = sizeF s k * slotsF k := by unfold restF; omega
  unfold slabF
  rw [e]
  rfl
 have HSlab := Lib.hid hslab
 have H0 := Lib.hid h
 obtain ⟨i0, hi0, hi1, hi2, hi3⟩ := info_parts infoPart
 have HI := Lib.hid (And.intro hi0 (And.intro hi1 (And.intro hi2 hi3)))
 have hq1 : q ≤ 1024 := by omega
 have hn := slabF_len vs t s q k
 generalize slabF vs t s q k = res at *
 have hk1 : (slotsF k ≠ 0) := by
  rcases (by omega : k = 0 ∨ k = 1 ∨ k = 2 ∨ k = 3 ∨ k = 4 ∨ k = 5 ∨ k = 6 ∨ k = 7 ∨ k = 8) with rfl | rfl | rfl | rfl | rfl | rfl | rfl | rfl | rfl <;> decide
 have z4b := z4 hk1
 clear hi0 hi1 hi2 hi3 h hsl hslab hr z5 g4 g5 bd hk0 hk8 z4
 go_enter Tryz.func224, Tryz.ntmps224
 obtain ⟨X00, X01, X02, X03⟩ := X0.cells
 have X0z := X0.lt
 go_wp2_with fail
 refine (HZ.out _).mono ?_
 rintro e w1 ⟨rfl, hb2⟩
 have X1 := X0.keep hb2
 obtain ⟨X10, X11, X12, X13⟩ := X1.cells
 have X1z := X1.lt
 have r1 := (BS.start _).below hb2 |>.row r0
 have hS1 := hS0.below hb2
 clear hb2 r0 hS0 X0 X00 X01 X02 X03 X0z
 go_wp2_with fail
 go_loopw [7, 9, 10, 11, 12] (fun v7 v9 _ _ _ wr => SlRelE w vs t p s q k ad n c v7 v9 wr) (fun _ v9 _ _ _ _ => 33 - (intOf v9).toNat)
 case atStart => exact ⟨0, rfl, by omega, r1, hS1.sub _ (by simp [Value.ownBlock]), X1, by simp [Value.ownBlock]⟩
 case round =>
  obtain ⟨b, rfl, hle, hrow, hbs, hxb, hfar⟩ := hrel
  have hlen : ∃ a c, u7 = .slice a b c := by
   rcases hrow.2 with ⟨h5, h6⟩ | ⟨g', cap', cur, h5, -⟩
   ·exact ⟨_, _, by rw [h5, h6]⟩
   ·exact ⟨_, _, h5⟩
  obtain ⟨pa, pc, rfl⟩ := hlen
  have HB := Lib.hid hbs
  have HF := Lib.hid hfar
  have HRow := Lib.hid hrow
  clear r1 hS1 X1 X10 X11 X12 X13 X1z hbs hfar hrow
  obtain ⟨x0, x1, x2, x3⟩ := hxb.cells
  have xz := hxb.lt
  by_cases hlt : (b : Int) < slotsF k
  ·have hb32 : b < 32 := by omega
   have hsb := HSL.out b
   have HA2 := Lib.hid (fun w => HAt.out b w (by omega) hlt)
   have HC4 := Lib.hid (fun w => HB4.out b w hb32)
   have HC5 := Lib.hid (fun w => HB5.out b w hb32)
   have HSB := Lib.hid hsb
   clear hsb HAt HB4 HB5 HOf
   generalize addrF s q ((b : Int) * sizeF s k) = ar at *
   generalize bitB (gv vs t q 4) b = x at *
   generalize bitB (gv vs t q 5) b = y at *
   generalize sizeF s k = z at *
   generalize hslk : slotsF k = sl at *
   have HSLK := Lib.hid hslk
   clear hslk
   generalize pageF s = pg at *
   go_wp2_with fail
   refine (HK.out _).mono ?_
   rintro e w2 ⟨rfl, hb2⟩
   have X2 := hxb.keep hb2
   obtain ⟨X20, X21, X22, X23⟩ := X2.cells
   have X2z := X2.lt
   go_wp2_with fail
   refine (HA2.out _).mono ?_
   rintro e w3 ⟨rfl, hb3⟩
   have X3 := X2.keep hb3
   obtain ⟨X30, X31, X32, X33⟩ := X3.cells
   have X3z := X3.lt
   go_wp2_with fail
   refine (HT.out _ X3.xv).mono ?_
   rintro e w4 ⟨rfl, hb4⟩
   have X4 := X3.keep hb4
   obtain ⟨X40, X41, X42, X43⟩ := X4.cells
   have X4z := X4.lt
   go_wp2_with fail
   refine (HC5.out _).mono ?_
   rintro e w5 ⟨rfl, hb5⟩
   have X5 := X4.keep hb5
   obtain ⟨X50, X51, X52, X53⟩ := X5.cells
   have X5z := X5.lt
   cases y <;> cases x
   all_goals
    go_wp2_with fail
    refine (HSl.out _ X5.xv).mono ?_
    rintro e w6 ⟨rfl, hb6⟩
    have X6 := X5.keep hb6
    obtain ⟨X60, X61, X62, X63⟩ := X6.cells
    have X6z := X6.lt
    go_wp2_with fail
    refine (HC4.out _).mono ?_
    rintro e w7 ⟨rfl, hb7⟩
    have X7 := X6.keep hb7
    obtain ⟨X70, X71, X72, X73⟩ := X7.cells
    have X7z := X7.lt
    have S7 := ((((((BS.start wr).below hb2).below hb3).below hb4).below hb5).below hb6).below hb7
    have R7 := S7.row HRow.out
    have B7 := HB.out.below S7.bel
    clear hb2 hb3 hb4 hb5 hb6 hb7
    go_wp2_with (at_builtin; go_must (refine wpL_append rfl _ _ rfl 162 i0 (.agg #[.int .i64 0, .int .i64 0, .int .i64 0]) 3 24 Tryz.underlying159 HI.out.1 HI.out.2.1 HI.out.2.2.1 HI.out.2.2.2 rfl (by decide) (.slice pa b pc) b (partCells (slabL vs t s q k b)) rfl (R7.alloc _) ⟨w7.heap.size, 0, none⟩ 1 1 [_, .int .i64 ar, .int .i64 z] rfl rfl (cell_three_new _ _ _ _ _) ?c1 ?c2 ?c3 ?_); go_must (case c1 => (simp [Value.oneCell'])); go_must (case c2 => (unfold maxLen; omega)); go_must (case c3 => (omega)); go_must (intro v' w8 hown8 hg8 hnew8 hnil8); clear hnil8; go_must (obtain ⟨g', cap', rfl⟩ := Joins.ownsRow_form hown8 (by omega)))
    go_roundw
    case rel =>
     refine ⟨b + 1, by go_num, by have := HSLK.out; omega, ?_, B7.append hg8 hnew8 hown8, X7.grown H0.out B7 hg8 HF.out, ?_⟩
     ·rw [HSB.out, partCells_app]; exact hown8
     ·exact fun k hk => (hnew8 k hk).elim (HF.out k) (fun h => by have := X7.lt; simp at h; omega)
    case measure => simp [intOf]; omega
  ·have hbe : (slotsF k).toNat = b := by omega
   have HO2 := Lib.hid (fun w h2 h3 => HOf.out (sizeF s k * slotsF k) w h2 h3)
   clear HAt HB4 HB5 HOf HSL HZ HT HSl
   rw [hbe] at HSlab
   have hLn : (slabL vs t s q k b).length = b := slabL_len _ _ _ _ _ _
   generalize slabL vs t s q k b = L at *
   generalize addrF s q (sizeF s k * slotsF k) = ar at *
   have hm0 : 0 ≤ sizeF s k * slotsF k := Int.mul_nonneg (by omega) (by omega)
   have hb32 : b ≤ 32 := by omega
   generalize sizeF s k = z at *
   generalize slotsF k = sl at *
   generalize pageF s = pg at *
   clear hbe
   have hm1 : IntKind.i64.wrap (z * sl) = z * sl := wrap_in _ (by omega)
   have hm2 : IntKind.i64.wrap (pg - z * sl) = pg - z * sl := wrap_in _ (by omega)
   go_wp2_with fail
   refine (HK.out _).mono ?_
   rintro e w2 ⟨rfl, hb2⟩
   have X2 := hxb.keep hb2
   obtain ⟨X20, X21, X22, X23⟩ := X2.cells
   have X2z := X2.lt
   go_wp2_with fail
   refine (HP.out _).mono ?_
   rintro e w3 ⟨rfl, hb3⟩
   have X3 := X2.keep hb3
   obtain ⟨X30, X31, X32, X33⟩ := X3.cells
   have X3z := X3.lt
   go_wp2_with fail
   refine (HK.out _).mono ?_
   rintro e w4 ⟨rfl, hb4⟩
   have X4 := X3.keep hb4
   obtain ⟨X40, X41, X42, X43⟩ := X4.cells
   have X4z := X4.lt
   have S4 := (((BS.start wr).below hb2).below hb3).below hb4
   have R4 := S4.row HRow.out
   have B4 := HB.out.below S4.bel
   clear hb2 hb3 hb4
   by_cases hrest : 0 < pg - z * sl
   ·have hsl2 := HSlab.out
    rw [if_pos hrest] at hsl2
    have HRes := Lib.hid hsl2
    have HBox := Lib.hid X4.box
    have HR4 := Lib.hid R4
    clear hsl2 HSlab
    have HO3 := Lib.hid (fun w => HO2.out w (by omega) (by omega))
    have hsub : pg - (pg - z * sl) = z * sl := by omega
    go_wp2_with fail
    refine wp_region_noPanic ?_
    refine wp_region_held_drew (S := fun w' => BS w4 ([] : List Nat) w' ∧ (∀ o : Nat, w'.cell? ⟨w.heap.size, o, none⟩ = (#[.int .i64 t, .int .i64 p, .int .i64 s, .slice (some ad) n c] : Array Value)[o]?)) (by kernel_rfl) ?_ (fun hHeld => ?_)
    ·exact ⟨(BS.start w4).drew, HBox.out⟩
    refine wT 0 ?_
    refine wT 1 ?_
    refine wT 2 ?_
    refine wT 3 ?_
    refine wT 4 ?_
    refine wT 6 ?_
    refine wR 5 fun K hK => ?_
    go_simp
    refine (calls_b hHeld.1 (HP.out _)).mono ?_
    rintro e wr1 ⟨rfl, hV, hVl⟩
    dsimp only
    refine hK.out _ _ ?_ (fun hHeld2 => ?_)
    ·exact ⟨hV, hV.oldbox HBox.out X4z⟩
    clear hK K hV hVl hHeld
    have hHeld := hHeld2
    clear hHeld2
    try simp only [Act.put, zA, zB, zC, zD, zE, zF]
    refine wT 7 ?_
    refine wR 8 fun K hK => ?_
    go_simp
    refine (calls_b hHeld.1 (HO3.out _)).mono ?_
    rintro e wr2 ⟨rfl, hV, hVl⟩
    dsimp only
    refine hK.out _ _ ?_ (fun hHeld2 => ?_)
    ·exact ⟨hV, hV.oldbox HBox.out X4z⟩
    clear hK K hV hVl hHeld
    have hHeld := hHeld2
    clear hHeld2
    try simp only [Act.put, zA, zB, zC, zD, zE, zF]
    refine wT 9 ?_
    refine wT 10 ?_
    refine wT 11 ?_
    refine wT 12 ?_
    refine wT 13 ?_
    refine wpAnyH_done (by kernel_rfl) (NoPanic.normal ?_) _
    refine world_gen ?_
    intro wz hwz
    rw [← hwz] at hHeld
    clear hwz
    have R5 := hHeld.1.row HR4.out
    have B5 := B4.below hHeld.1.bel
    have hzz := B5.bel.size
    clear hHeld
    go_wp2_with (at_builtin; go_must (refine wpL_append rfl _ _ rfl 162 i0 (.agg #[.int .i64 0, .int .i64 0, .int .i64 0]) 3 24 Tryz.underlying159 HI.out.1 HI.out.2.1 HI.out.2.2.1 HI.out.2.2.2 rfl (by decide) (.slice pa b pc) b (partCells L) rfl (R5.alloc _) ⟨wz.heap.size, 0, none⟩ 1 1 [.int .i64 5, .int .i64 ar, .int .i64 (pg - z * sl)] rfl rfl (cell_three_new _ _ _ _ _) ?c1 ?c2 ?c3 ?_); go_must (case c1 => (simp [Value.oneCell'])); go_must (case c2 => (unfold maxLen; omega)); go_must (case c3 => (omega)); go_must (intro v' w8 hown8 hg8 hnew8 hnil8); clear hnil8; go_must (obtain ⟨g', cap', rfl⟩ := Joins.ownsRow_form hown8 (by omega)))
    go_ret
    have B8 := B5.append hg8 hnew8 hown8
    refine ⟨_, rfl, ?_, fun k hk => ?_, B8.bel⟩
    ·rw [HRes.out, partCells_app, List.length_append, hLn]
     exact hown8
    ·exact Nat.le_of_lt ((hnew8 k hk).elim (HF.out k) (fun h => by have := X4.lt; simp at h; omega))
   ·have hsl2 := HSlab.out
    rw [if_neg hrest] at hsl2
    have HRes := Lib.hid hsl2
    clear hsl2 HSlab
    go_wp2
    go_ret
    refine ⟨_, rfl, ?_, fun k hk => Nat.le_of_lt (HF.out k hk), B4.bel⟩
    rw [HRes.out, List.append_nil, hLn]
    exact R4
end
end Go.Proofs.YtcbikgafdclhaaaGreat
/- the program's classes, sizes, addresses, places. -/
set_option linter.unusedSimpArgs false
set_option linter.unusedVariables false
namespace Go.Proofs.YtcbikgafdclhaaaGreat
open Go.RowKit

theorem pslots9 (w : World) : Calls Tryz.prog 233 #[] w fun e w' => e = .returned (.agg #[.int .i64 32, .int .i64 21, .int .i64 16, .int .i64 10, .int .i64 8, .int .i64 5, .int .i64 4, .int .i64 3, .int .i64 2]) ∧ Below w.heap.size w w' := by
 go_enter Tryz.func233, Tryz.ntmps233
 go_wp2
 refine bodyPost_ret (v := .agg #[.int .i64 32, .int .i64 21, .int .i64 16, .int .i64 10, .int .i64 8, .int .i64 5, .int .i64 4, .int .i64 3, .int .i64 2]) (by simp [results, Tryz.results233, go_sem]) rfl ⟨rfl, ?_⟩
 (repeat (first | exact Below.refl _ _ | assumption | refine Below.setCell ?_ (by first | omega | (simp; done) | (simp; omega)) _ | refine Below.alloc ?_ (by first | omega | (simp; done) | (simp; omega)) _ | refine Below.drew ?_ | refine Below.trans ?_ (Below.mono ‹Below _ _ _› (by first | omega | (simp; done) | (simp; omega)))))
theorem pslots_any (k : Int) (w : World) : Calls Tryz.prog 192 #[.int .i64 k] w fun e w' => e = .returned (.int .i64 (slotsF k)) ∧ Below w.heap.size w w' := by
 have H := Lib.hid pslots9
 by_cases hk : 0 ≤ k ∧ k < 9
 ·skip
  go_enter Tryz.func192, Tryz.ntmps192
  go_wp2_with fail
  refine (H.out _).mono ?_
  rintro e w1 ⟨rfl, b1⟩
  rcases (by omega : k = 0 ∨ k = 1 ∨ k = 2 ∨ k = 3 ∨ k = 4 ∨ k = 5 ∨ k = 6 ∨ k = 7 ∨ k = 8) with rfl | rfl | rfl | rfl | rfl | rfl | rfl | rfl | rfl
  all_goals
   go_wp2
   go_ret
   exact ⟨rfl, b1.alloc b1.size _⟩
 ·have hs : slotsF k = 0 := by
   unfold slotsF
   rw [if_neg (by omega), if_neg (by omega), if_neg (by omega), if_neg (by omega), if_neg (by omega), if_neg (by omega), if_neg (by omega), if_neg (by omega), if_neg (by omega)]
  rw [hs]
  clear hs
  rcases (by omega : k < 0 ∨ (0 ≤ k ∧ 9 ≤ k)) with h | h
  ·skip
   go_enter Tryz.func192, Tryz.ntmps192
   go_wp2_with fail
   refine (H.out _).mono ?_
   rintro e w1 ⟨rfl, b1⟩
   go_wp2
   go_ret
   exact ⟨rfl, b1.alloc b1.size _⟩
  ·have h1 := h.1
   have h2 := h.2
   go_enter Tryz.func192, Tryz.ntmps192
   go_wp2_with fail
   refine (H.out _).mono ?_
   rintro e w1 ⟨rfl, b1⟩
   go_wp2
   go_ret
   exact ⟨rfl, b1.alloc b1.size _⟩
theorem pageN_pow (k : Nat) : pageN k = 2 ^ k := by
 induction k with
 | zero => rfl
 | succ k ih => rw [Int.pow_succ, ← ih]; rfl
theorem wrap64_in (n : Int) (h : -9223372036854775808 ≤ n ∧ n ≤ 9223372036854775807) : wrap64 n = n := by
 unfold wrap64
 omega
theorem pageF_wrap {s : Int} (h : 10 ≤ s ∧ s ≤ 20) : wrap64 (2 ^ s.toNat) = pageF s := by
 have hp := pageF_bd h
 unfold pageF at *
 rw [pageN_pow] at *
 exact wrap64_in ((2 : Int) ^ s.toNat) (by omega)
theorem andNot15 {x : Int} (h0 : 0 ≤ x) (h1 : x < 4611686018427387904) : bits BinOp.andNot IntKind.i64 x 15 = x - x % 16 := by
 obtain ⟨a, rfl⟩ := Int.eq_ofNat_of_zero_le h0
 have ha : a < 4611686018427387904 := by omega
 have e1 : BitVec.ofInt 64 (a : Int) = BitVec.ofNat 64 a := BitVec.ofInt_natCast ..
 have e2 : BitVec.ofInt 64 (15 : Int) = BitVec.ofNat 64 15 := by decide
 have e3 : BitVec.ofNat 64 a &&& ~~~ BitVec.ofNat 64 15 = BitVec.ofNat 64 (2 ^ 4 * (a / 2 ^ 4)) := by
  apply BitVec.eq_of_getLsbD_eq
  intro i hi
  have h15 : Nat.testBit 15 i = decide (i < 4) := Nat.testBit_two_pow_sub_one 4 i
  simp only [BitVec.getLsbD_and, BitVec.getLsbD_not, BitVec.getLsbD_ofNat, Nat.testBit_two_pow_mul, Nat.testBit_div_two_pow, h15, hi, decide_true, Bool.true_and]
  by_cases h : i < 4
  ·simp [h]; omega
  ·have : 4 ≤ i := by omega
   simp [h, this]
 show IntKind.i64.wrap ((BitVec.ofInt 64 (a : Int) &&& ~~~ BitVec.ofInt 64 (15 : Int)).toNat : Int) = _
 rw [e1, e2, e3, BitVec.toNat_ofNat, Nat.mod_eq_of_lt (by omega)]
 have : IntKind.i64.wrap ((2 ^ 4 * (a / 2 ^ 4) : Nat) : Int) = ((2 ^ 4 * (a / 2 ^ 4) : Nat) : Int) := wrap_in _ (by omega)
 rw [this]
 omega
theorem cpage_any (t p s : Int) (w : World) (hr : rightB t p s = true) :
 Calls Tryz.prog 202 #[.agg #[.int .i64 t, .int .i64 p, .int .i64 s]] w fun e w' => e = .returned (.int .i64 (pageF s)) ∧ Below w.heap.size w w' := by
 obtain ⟨b1, b2, b3, b4, b5, b6⟩ := right_bd hr
 have H := Lib.hid (fun w => check_right t p s w hr)
 have HP := Lib.hid (pageF_wrap (s := s) (by omega))
 go_enter Tryz.func202, Tryz.ntmps202
 go_wp2_with fail
 refine (H.out _).mono ?_
 rintro e w1 ⟨rfl, ha⟩
 obtain ⟨hac, haf⟩ := bcell ha
 have haz0 : w.heap.size < w1.heap.size := by have := ha.size; first | omega | (simp at this; omega)
 go_wp2
 go_ret
 refine ⟨ret_int HP.out, ?_⟩
 (repeat (first | exact Below.refl _ _ | assumption | refine Below.setCell ?_ (by first | omega | (simp; done) | (simp; omega)) _ | refine Below.alloc ?_ (by first | omega | (simp; done) | (simp; omega)) _ | refine Below.drew ?_ | refine Below.trans ?_ (Below.mono ‹Below _ _ _› (by first | omega | (simp; done) | (simp; omega)))))
theorem psize_any (s k : Int) (w : World) (h : 10 ≤ s ∧ s ≤ 20) :
 Calls Tryz.prog 204 #[.int .i64 s, .int .i64 k] w fun e w' => e = .returned (.int .i64 (sizeF s k)) ∧ Below w.heap.size w w' := by
 have HK := Lib.hid (fun w => pslots_any k w)
 have hb := slots_bd k
 have h1 := h.1
 have h2 := h.2
 have HP := pageF_wrap h
 have hp := pageF_bd h
 have hd : sizeF s k = if slotsF k = 0 then 0 else pageF s / slotsF k - pageF s / slotsF k % 16 := rfl
 rw [hd]
 clear hd
 generalize slotsF k = n at *
 by_cases hn : n = 0
 ·subst hn
  go_enter Tryz.func204, Tryz.ntmps204
  go_wp2_with fail
  refine (HK.out _).mono ?_
  rintro e w2 ⟨rfl, b2⟩
  go_wp2
  go_ret
  exact ⟨by simp, b2⟩
 ·have hnb : (n == 0) = false := by simp [hn]
  rw [if_neg hn]
  have hq0 : 0 ≤ pageF s / n := Int.ediv_nonneg (by omega) (by omega)
  have hq1 : pageF s / n ≤ pageF s := Int.ediv_le_self _ (by omega)
  have HA := Lib.hid (andNot15 (x := pageF s / n) hq0 (by omega))
  go_enter Tryz.func204, Tryz.ntmps204
  go_wp2_with fail
  refine (HK.out _).mono ?_
  rintro e w2 ⟨rfl, b2⟩
  go_wp2
  go_ret
  exact ⟨ret_int HA.out, b2⟩
theorem whole_bd (n : Int) (h0 : 0 ≤ n) (h1 : n ≤ 32) : IntKind.u64.wrap (IntKind.u64.wrap (2 ^ n.toNat) - 1) % 4294967296 = 2 ^ n.toNat - 1 ∧ (0 : Int) ≤ 2 ^ n.toNat - 1 ∧ (2 : Int) ^ n.toNat - 1 < 4294967296 := by
 have a : (2 : Int) ^ n.toNat ≤ 2 ^ 32 := by
  have := Nat.pow_le_pow_right (n := 2) (by omega) (show n.toNat ≤ 32 by omega)
  exact_mod_cast this
 have b : (0 : Int) < 2 ^ n.toNat := Int.pow_pos (by omega)
 have c : (2 : Int) ^ 32 = 4294967296 := by rfl
 rw [c] at a
 generalize (2 : Int) ^ n.toNat = z at *
 rw [wrapsA_u64 z (by omega) (by omega), wrapsA_u64 (z - 1) (by omega) (by omega)]
 omega
theorem pwhole_any (k : Int) (w : World) : Calls Tryz.prog 150 #[.int .i64 k] w fun e w' => e = .returned (.int .u32 (2 ^ (slotsF k).toNat - 1)) ∧ Below w.heap.size w w' := by
 have HK := Lib.hid (fun w => pslots_any k w)
 have hb := slots_bd k
 have HW := Lib.hid (whole_bd _ hb.1 hb.2).1
 generalize slotsF k = n at *
 go_enter Tryz.func150, Tryz.ntmps150
 go_wp2_with fail
 refine (HK.out _).mono ?_
 rintro e w2 ⟨rfl, b2⟩
 go_wp2
 go_ret
 exact ⟨ret_int HW.out, b2⟩
theorem pthere_any (t p s q off : Int) (w : World) (hr : rightB t p s = true) (h0 : 0 ≤ q) (h1 : q < p) (h2 : 0 ≤ off) (h3 : off < pageF s) :
 Calls Tryz.prog 235 #[.agg #[.int .i64 q, .int .i64 off], .agg #[.int .i64 t, .int .i64 p, .int .i64 s]] w fun e w' => e = .returned (.bool true) ∧ Below w.heap.size w w' := by
 have HC := Lib.hid (fun w => check_right t p s w hr)
 have HP := Lib.hid (fun w => cpage_any t p s w hr)
 generalize pageF s = pg at *
 clear hr
 have S0 := ((BS.start w).alloc (.cells #[.int .i64 q, .int .i64 off] 248)).alloc (.cells #[.int .i64 t, .int .i64 p, .int .i64 s] 44)
 have c0 := loc_old (.cells #[.int .i64 t, .int .i64 p, .int .i64 s] 44) (by simp) (loc_alloc w #[.int .i64 q, .int .i64 off] 248)
 have d0 := loc_alloc (w.alloc (.cells #[.int .i64 q, .int .i64 off] 248)) #[.int .i64 t, .int .i64 p, .int .i64 s] 44
 simp only [World.size_alloc] at S0 d0
 go_enter Tryz.func235, Tryz.ntmps235
 go_wp2_with fail
 refine wp_region_noPanic ?_
 refine wp_region_held_drew (S := fun w' => (∀ o : Nat, w'.cell? ⟨w.heap.size, o, none⟩ = (#[.int .i64 q, .int .i64 off] : Array Value)[o]?) ∧ (∀ o : Nat, w'.cell? ⟨w.heap.size + 1, o, none⟩ = (#[.int .i64 t, .int .i64 p, .int .i64 s] : Array Value)[o]?)) (by kernel_rfl) ?_ (fun hHeld => ?_)
 ·exact ⟨c0, d0⟩
 refine wT 0 ?_
 refine wR 1 fun K hK => ?_
 go_simp
 refine (calls_b S0.drew (HC.out _)).mono ?_
 rintro e w1 ⟨rfl, S1, S1l⟩
 have c1 := loc_step S1l (by simp) hHeld.1
 have d1 := loc_step S1l (by simp) hHeld.2
 clear S1l
 dsimp only
 refine hK.out _ _ ?_ (fun hHeld => ?_)
 ·exact ⟨c1, d1⟩
 clear hK K
 try simp only [Act.put, zA, zB, zC, zD, zE, zF]
 refine wT 2 ?_
 refine wT 3 ?_
 refine wT 4 ?_
 refine wT 5 ?_
 refine wT 6 ?_
 refine wT 7 ?_
 refine wT 8 ?_
 refine wT 9 ?_
 refine wT 10 ?_
 refine wT 11 ?_
 refine wT 12 ?_
 refine wT 13 ?_
 refine wT 14 ?_
 refine wT 15 ?_
 refine wT 16 ?_
 refine wT 17 ?_
 refine wT 18 ?_
 refine wT 19 ?_
 refine wT 20 ?_
 refine wT 21 ?_
 refine wT 22 ?_
 refine wT 23 ?_
 refine wR 24 fun K hK => ?_
 go_simp
 refine (calls_b S1 (HP.out _)).mono ?_
 rintro e w2 ⟨rfl, S2, S2l⟩
 have c2 := loc_step S2l (by simp) hHeld.1
 have d2 := loc_step S2l (by simp) hHeld.2
 clear S2l
 dsimp only
 refine hK.out _ _ ?_ (fun hHeld => ?_)
 ·exact ⟨c2, d2⟩
 clear hK K
 try simp only [Act.put, zA, zB, zC, zD, zE, zF]
 refine wT 25 ?_
 refine wT 26 ?_
 refine wT 27 ?_
 refine wpAnyH_done (by kernel_rfl) (NoPanic.normal ?_) _
 go_wp2
 go_ret
 exact ⟨rfl, S2.bel⟩
theorem shl_or {q off pg : Int} {n : Nat} (hpg : pg = 2 ^ n) (hn : n ≤ 20) (h0 : 0 ≤ q) (h1 : q ≤ 1024) (h2 : 0 ≤ off) (h3 : off < pg) : bits BinOp.or IntKind.i64 (wrap64 ((q + 1) * 2 ^ n)) off = (q + 1) * pg + off := by
 have a : (2 : Int) ^ n ≤ 2 ^ 20 := by
  have := Nat.pow_le_pow_right (n := 2) (by omega) hn
  exact_mod_cast this
 have c : (2 : Int) ^ 20 = 1048576 := by rfl
 rw [c] at a
 have hm0 : 0 ≤ (q + 1) * 2 ^ n := Int.mul_nonneg (by omega) (Int.pow_nonneg (by omega))
 have hm1 : (q + 1) * 2 ^ n ≤ 1025 * 1048576 := Int.mul_le_mul (by omega) a (Int.pow_nonneg (by omega)) (by omega)
 have hd : (q + 1) * 2 ^ n % 2 ^ n = 0 := Int.mul_emod_left ..
 have := bits_join .i64 62 (by decide) (fun n h₀ h₁ => wrap_in n (by omega)) n ((q + 1) * 2 ^ n) off hm0 hd (by omega) h2 (by rw [← hpg]; exact h3) (by omega)
 rw [wrap64_in _ (by omega), this, hpg]
theorem pof_any (t p s q off : Int) (w : World) (hr : rightB t p s = true) (h0 : 0 ≤ q) (h1 : q < p) (h2 : 0 ≤ off) (h3 : off < pageF s) :
 Calls Tryz.prog 203 #[.agg #[.int .i64 t, .int .i64 p, .int .i64 s], .int .i64 q, .int .i64 off] w fun e w' => e = .returned (.tuple #[.int .i64 (addrF s q off), .bool true]) ∧ Below w.heap.size w w' := by
 obtain ⟨b1, b2, b3, b4, b5, b6⟩ := right_bd hr
 have HT := Lib.hid (fun w => pthere_any t p s q off w hr h0 h1 h2 h3)
 have hpg : pageF s = 2 ^ s.toNat := by unfold pageF; exact pageN_pow _
 have hO := shl_or hpg (by omega) h0 (by omega) h2 h3
 have HO := Lib.hid hO
 have hd : addrF s q off = (q + 1) * pageF s + off := rfl
 rw [hd]
 clear hr hd hO
 go_enter Tryz.func203, Tryz.ntmps203
 go_wp2_with fail
 refine (HT.out _).mono ?_
 rintro e w1 ⟨rfl, ha⟩
 obtain ⟨hac, haf⟩ := bcell ha
 have haz0 : w.heap.size < w1.heap.size := by have := ha.size; first | omega | (simp at this; omega)
 go_wp2
 refine bodyPost_ret (v := .tuple #[.int .i64 ((q + 1) * pageF s + off), .bool true]) (by simp only [results, Tryz.results203]; simp [go_sem]; exact HO.out) rfl ⟨rfl, ?_⟩
 (repeat (first | exact Below.refl _ _ | assumption | refine Below.setCell ?_ (by first | omega | (simp; done) | (simp; omega)) _ | refine Below.alloc ?_ (by first | omega | (simp; done) | (simp; omega)) _ | refine Below.drew ?_ | refine Below.trans ?_ (Below.mono ‹Below _ _ _› (by first | omega | (simp; done) | (simp; omega)))))
theorem ppnext_any (t p s q : Int) (w : World) :
 Calls Tryz.prog 155 #[.agg #[.int .i64 t, .int .i64 p, .int .i64 s], .int .i64 q] w fun e w' => e = .returned (.int .i64 (ofF t p s q 2)) ∧ Below w.heap.size w w' := by
 go_enter Tryz.func155, Tryz.ntmps155
 go_wp2_with fail
 refine (of_any _ _ _ _ _ _ (by omega) (by omega)).mono ?_
 rintro e w1 ⟨rfl, ha⟩
 obtain ⟨hac, haf⟩ := bcell ha
 go_wp2
 go_ret
 refine ⟨rfl, ?_⟩
 (repeat (first | exact Below.refl _ _ | assumption | refine Below.setCell ?_ (by first | omega | (simp; done) | (simp; omega)) _ | refine Below.alloc ?_ (by first | omega | (simp; done) | (simp; omega)) _ | refine Below.drew ?_ | refine Below.trans ?_ (Below.mono ‹Below _ _ _› (by first | omega | (simp; done) | (simp; omega)))))
theorem ppprev_any (t p s q : Int) (w : World) :
 Calls Tryz.prog 156 #[.agg #[.int .i64 t, .int .i64 p, .int .i64 s], .int .i64 q] w fun e w' => e = .returned (.int .i64 (ofF t p s q 3)) ∧ Below w.heap.size w w' := by
 go_enter Tryz.func156, Tryz.ntmps156
 go_wp2_with fail
 refine (of_any _ _ _ _ _ _ (by omega) (by omega)).mono ?_
 rintro e w1 ⟨rfl, ha⟩
 obtain ⟨hac, haf⟩ := bcell ha
 go_wp2
 go_ret
 refine ⟨rfl, ?_⟩
 (repeat (first | exact Below.refl _ _ | assumption | refine Below.setCell ?_ (by first | omega | (simp; done) | (simp; omega)) _ | refine Below.alloc ?_ (by first | omega | (simp; done) | (simp; omega)) _ | refine Below.drew ?_ | refine Below.trans ?_ (Below.mono ‹Below _ _ _› (by first | omega | (simp; done) | (simp; omega)))))
theorem ppslots_any (t p s q : Int) (w : World) :
 Calls Tryz.prog 148 #[.agg #[.int .i64 t, .int .i64 p, .int .i64 s], .int .i64 q] w fun e w' => e = .returned (.int .i64 (ofF t p s q 4)) ∧ Below w.heap.size w w' := by
 go_enter Tryz.func148, Tryz.ntmps148
 go_wp2_with fail
 refine (of_any _ _ _ _ _ _ (by omega) (by omega)).mono ?_
 rintro e w1 ⟨rfl, ha⟩
 obtain ⟨hac, haf⟩ := bcell ha
 go_wp2
 go_ret
 refine ⟨rfl, ?_⟩
 (repeat (first | exact Below.refl _ _ | assumption | refine Below.setCell ?_ (by first | omega | (simp; done) | (simp; omega)) _ | refine Below.alloc ?_ (by first | omega | (simp; done) | (simp; omega)) _ | refine Below.drew ?_ | refine Below.trans ?_ (Below.mono ‹Below _ _ _› (by first | omega | (simp; done) | (simp; omega)))))
theorem pptaken_any (t p s q : Int) (w : World) :
 Calls Tryz.prog 149 #[.agg #[.int .i64 t, .int .i64 p, .int .i64 s], .int .i64 q] w fun e w' => e = .returned (.int .i64 (ofF t p s q 5)) ∧ Below w.heap.size w w' := by
 go_enter Tryz.func149, Tryz.ntmps149
 go_wp2_with fail
 refine (of_any _ _ _ _ _ _ (by omega) (by omega)).mono ?_
 rintro e w1 ⟨rfl, ha⟩
 obtain ⟨hac, haf⟩ := bcell ha
 go_wp2
 go_ret
 refine ⟨rfl, ?_⟩
 (repeat (first | exact Below.refl _ _ | assumption | refine Below.setCell ?_ (by first | omega | (simp; done) | (simp; omega)) _ | refine Below.alloc ?_ (by first | omega | (simp; done) | (simp; omega)) _ | refine Below.drew ?_ | refine Below.trans ?_ (Below.mono ‹Below _ _ _› (by first | omega | (simp; done) | (simp; omega)))))
theorem pprack_any (k : Nat) (w : World) (h : k < 9) :
 Calls Tryz.prog 199 #[.int .i64 k] w fun e w' => e = .returned (.int .i64 ((13 + k : Nat) : Int)) ∧ Below w.heap.size w w' := by
 have HW := Lib.hid (fun w => within_any 13 k 9 w (by omega) (by omega) (by omega))
 have hf : withinF 13 k 9 = ((13 + k : Nat) : Int) := by unfold withinF; rw [if_neg (by omega)]; omega
 rw [hf] at HW
 go_enter Tryz.func199, Tryz.ntmps199
 go_wp2_with fail
 refine (HW.out _).mono ?_
 rintro e w1 ⟨rfl, rfl⟩
 go_wp2
 go_ret
 exact ⟨rfl, Below.refl _ _⟩
theorem pproot_any (k : Nat) (w : World) (h : k < 8) :
 Calls Tryz.prog 57 #[.int .i64 k] w fun e w' => e = .returned (.int .i64 ((22 + k : Nat) : Int)) ∧ Below w.heap.size w w' := by
 have HW := Lib.hid (fun w => within_any 22 k 8 w (by omega) (by omega) (by omega))
 have hf : withinF 22 k 8 = ((22 + k : Nat) : Int) := by unfold withinF; rw [if_neg (by omega)]; omega
 rw [hf] at HW
 go_enter Tryz.func57, Tryz.ntmps57
 go_wp2_with fail
 refine (HW.out _).mono ?_
 rintro e w1 ⟨rfl, rfl⟩
 go_wp2
 go_ret
 exact ⟨rfl, Below.refl _ _⟩
end Go.Proofs.YtcbikgafdclhaaaGreat
/- the document's audit: the parts of a heap. -/
set_option linter.unusedSimpArgs false
set_option linter.unusedVariables false
namespace Go.Proofs.YtcbikgafdclhaaaGreat
open Go.RowKit
section
variable {t p s : Int} {ad : Addr} {n c : Nat} {vs : List Int}

def partQ (vs : List Int) (t s : Int) (q : Nat) : List (Int × Int × Int) :=
 if iK (gv vs t q 0) = 1 ∨ iK (gv vs t q 0) = 2 then [(iK (gv vs t q 0), addrF s q 0, iL (gv vs t q 0) * pageF s)]
 else if iK (gv vs t q 0) = 3 then slabF vs t s q (iC (gv vs t q 0)) else []
def partsL (vs : List Int) (t s : Int) : Nat → List (Int × Int × Int)
 | 0 => []
 | q + 1 => partsL vs t s q ++ partQ vs t s q
def partsF (vs : List Int) (t p s : Int) : List (Int × Int × Int) := partsL vs t s p.toNat
theorem partQ_len (vs : List Int) (t s : Int) (q : Nat) : (partQ vs t s q).length ≤ 33 := by
 unfold partQ
 split
 ·simp
 ·split
  ·exact slabF_len _ _ _ _ _
  ·simp
theorem partsL_len (vs : List Int) (t s : Int) (q : Nat) : (partsL vs t s q).length ≤ 33 * q := by
 induction q with
 | zero => simp [partsL]
 | succ q ih =>
  have := partQ_len vs t s q
  simp only [partsL, List.length_append]
  omega
theorem slabF_pos (vs : List Int) (t s q k : Int) (h0 : 0 ≤ k) (h8 : k ≤ 8) : 0 < (slabF vs t s q k).length := by
 have hk1 : 0 < slotsF k := by
  rcases (by omega : k = 0 ∨ k = 1 ∨ k = 2 ∨ k = 3 ∨ k = 4 ∨ k = 5 ∨ k = 6 ∨ k = 7 ∨ k = 8) with rfl | rfl | rfl | rfl | rfl | rfl | rfl | rfl | rfl <;> decide
 unfold slabF
 rw [List.length_append, slabL_len]
 omega

theorem BS.tail {w0 w : World} {L : Nat} {Ls : List Nat} (h : BS w0 (L :: Ls) w) : BS w0 Ls w := h.sub _ fun _ hL => List.mem_cons_of_mem _ hL
theorem mem_new {W w5 : World} {A B : Nat} {v v' : Value} {e sz m : Nat} {xs : List Value} (hnew : ∀ k, v'.ownBlock = some k → v.ownBlock = some k ∨ W.heap.size ≤ k) (hown : w5.ownsRow 0 e sz v' m xs) :
 ∀ L ∈ A :: v'.ownBlock.toList, L ∈ A :: B :: v.ownBlock.toList ∨ (W.heap.size ≤ L ∧ L < w5.heap.size) := by
 intro L hL
 simp at hL
 rcases hL with rfl | h
 ·exact Or.inl (by simp)
 ·rcases hnew L h with h1 | h1
  ·exact Or.inl (by simp [h1])
  ·exact Or.inr ⟨h1, ownsRow_lt hown h⟩
theorem mem_new3 {W w5 : World} {A B : Nat} {v v' : Value} {e sz m : Nat} {xs : List Value} (hnew : ∀ k, v'.ownBlock = some k → v.ownBlock = some k ∨ W.heap.size ≤ k) (hown : w5.ownsRow 0 e sz v' m xs) :
 ∀ L ∈ A :: v'.ownBlock.toList, L ∈ B :: A :: v.ownBlock.toList ∨ (W.heap.size ≤ L ∧ L < w5.heap.size) := by
 intro L hL
 simp at hL
 rcases hL with rfl | h
 ·exact Or.inl (by simp)
 ·rcases hnew L h with h1 | h1
  ·exact Or.inl (by simp [h1])
  ·exact Or.inr ⟨h1, ownsRow_lt hown h⟩

structure PaRel (w : World) (vs : List Int) (t p s : Int) (ad : Addr) (n c : Nat) (v3 v4 : Value) (wr : World) (q : Nat) : Prop where
 hq : v4 = .int .i64 q
 le : (q : Int) ≤ p
 row : wr.ownsRow 0 162 3 v3 (partsL vs t s q).length (partCells (partsL vs t s q))
 bs : BS w (w.heap.size :: v3.ownBlock.toList) wr
 xb : XB w t p s ad n c vs wr
 far : ∀ k, v3.ownBlock = some k → w.heap.size < k
def PaRelE (w : World) (vs : List Int) (t p s : Int) (ad : Addr) (n c : Nat) (v3 v4 : Value) (wr : World) : Prop := ∃ q, PaRel w vs t p s ad n c v3 v4 wr q

set_option maxHeartbeats 4000000 in
set_option maxRecDepth 100000 in
theorem parts_any (c : Nat) (w : World) (h : XV w t p s ad n vs) :
 Calls Tryz.prog 175 #[.agg #[.int .i64 t, .int .i64 p, .int .i64 s, .slice (some ad) n c]] w fun e w' => ∃ v, e = .returned v ∧ RowQ w (partsF vs t p s) v w' := by
 have X0 := (h.boxed c).alloc (.cells #[] 162)
 have r0 := row_empty (w.alloc (.cells #[.int .i64 t, .int .i64 p, .int .i64 s, .slice (some ad) n c] 169)) 162 3
 have hS0 := ((BS.start w).alloc (.cells #[.int .i64 t, .int .i64 p, .int .i64 s, .slice (some ad) n c] 169)).alloc (.cells #[] 162)
 simp only [World.size_alloc] at hS0 r0
 have bd : 4 ≤ p ∧ p ≤ 1024 := by have := h.bd; omega
 have hr := h.right
 have hp := pageF_bd (s := s) (by have := h.bd; omega)
 have hp0 : 0 < pageF s := by omega
 have HP := Lib.hid (fun w => rpagesz_any t p s w hr)
 have HOf := Lib.hid (fun (q : Int) w (h0 : 0 ≤ q) (h1 : q < p) => rof_any t p s q 0 w hr h0 h1 (Int.le_refl 0) hp0)
 have HIn := Lib.hid (fun (q : Int) (w : World) (h : XV w t p s ad n vs) (h0 : 0 ≤ q) (h1 : q < p) => xinfo_any q c w h h0 h1)
 have HSb := Lib.hid (fun (q k : Int) (w : World) (h : XV w t p s ad n vs) (h0 : 0 ≤ q) (h1 : q < p) (h2 : 0 ≤ k) (h3 : k ≤ 8) => slab_any q k c w h h0 h1 h2 h3)
 have H0 := Lib.hid h
 obtain ⟨i0, hi0, hi1, hi2, hi3⟩ := info_parts infoPart
 have HI := Lib.hid (And.intro hi0 (And.intro hi1 (And.intro hi2 hi3)))
 generalize hF : partsF vs t p s = F
 have HF0 := Lib.hid hF
 clear hi0 hi1 hi2 hi3 h hr hp0 hF
 go_enter Tryz.func175, Tryz.ntmps175
 go_wp2_with fail
 go_loopw [3, 4, 5, 6, 7] (fun v3 v4 _ _ _ wr => PaRelE w vs t p s ad n c v3 v4 wr) (fun _ v4 _ _ _ _ => 1024 - (intOf v4).toNat)
 case atStart => exact ⟨0, rfl, by omega, r0, hS0.sub _ (by simp [Value.ownBlock]), X0, by simp [Value.ownBlock]⟩
 case round =>
  obtain ⟨q, rfl, hle, hrow, hbs, hxb, hfar⟩ := hrel
  have hll := partsL_len vs t s q
  have hls : partsL vs t s (q + 1) = partsL vs t s q ++ partQ vs t s q := rfl
  generalize hL : partsL vs t s q = L at *
  have hlen : ∃ a c, u3 = .slice a L.length c := by
   rcases hrow.2 with ⟨h5, h6⟩ | ⟨g', cap', cur, h5, -⟩
   ·exact ⟨_, _, by rw [h5, h6]⟩
   ·exact ⟨_, _, h5⟩
  obtain ⟨pa, pc, rfl⟩ := hlen
  have HB := Lib.hid hbs
  have HF := Lib.hid hfar
  have HRow := Lib.hid hrow
  clear r0 hS0 X0 hbs hfar hrow
  obtain ⟨x0, x1, x2, x3⟩ := hxb.cells
  have xz := hxb.lt
  by_cases hlt : (q : Int) < p
  ·have I1 := Lib.hid (fun (w : World) (h : XV w t p s ad n vs) => HIn.out q w h (by omega) hlt)
   have HO := Lib.hid (fun w => HOf.out q w (by omega) hlt)
   have HSb2 := Lib.hid (fun (k : Int) (w : World) (h : XV w t p s ad n vs) (h2 : 0 ≤ k) (h3 : k ≤ 8) => HSb.out q k w h (by omega) hlt h2 h3)
   have bd9 := inf_bd (gv vs t q 0)
   obtain ⟨b1, b2, b3, b4, b5, b6, -⟩ := bd9
   have hpq : partQ vs t s q = if iK (gv vs t q 0) = 1 ∨ iK (gv vs t q 0) = 2 then [(iK (gv vs t q 0), addrF s q 0, iL (gv vs t q 0) * pageF s)] else if iK (gv vs t q 0) = 3 then slabF vs t s q (iC (gv vs t q 0)) else [] := rfl
   rw [hpq] at hls
   have hll2 : L.length ≤ 33792 := by omega
   have hsb := slabF_len vs t s q (iC (gv vs t q 0))
   have hsp := slabF_pos vs t s q (iC (gv vs t q 0)) b5 b6
   have HSb3 := Lib.hid (fun (w : World) (h : XV w t p s ad n vs) => HSb2.out (iC (gv vs t q 0)) w h b5 b6)
   clear hpq HIn HOf HSb HSb2 hll hL
   generalize slabF vs t s q (iC (gv vs t q 0)) = sb at *
   generalize iK (gv vs t q 0) = a1 at *
   generalize iL (gv vs t q 0) = a2 at *
   generalize iC (gv vs t q 0) = a3 at *
   generalize addrF s q 0 = ar at *
   generalize pageF s = pg at *
   have hm0 : 0 ≤ a2 * pg := Int.mul_nonneg (by omega) (by omega)
   have hm1 : a2 * pg ≤ 1024 * 1048576 := Int.mul_le_mul (by omega) (by omega) (by omega) (by omega)
   have hmw : IntKind.i64.wrap (a2 * pg) = a2 * pg := wrap_in _ (by omega)
   by_cases hk1 : a1 = 1
   ·subst hk1
    have hls2 : partsL vs t s (q + 1) = L ++ [(1, ar, a2 * pg)] := by rw [hls]; simp
    have HLS := Lib.hid hls2
    clear hls hls2
    go_wp2_with fail
    refine (I1.out _ hxb.xv).mono ?_
    rintro e w2 ⟨rfl, hb2⟩
    have X2 := hxb.keep hb2
    obtain ⟨X20, X21, X22, X23⟩ := X2.cells
    have X2z := X2.lt
    have XI := X2.alloc (.cells #[.int .i64 1, .int .i64 a2, .int .i64 a3] 174)
    have hS2 := (HB.out.below hb2)
    have hw2 := hb2.size
    have hS3 := hS2.alloc (.cells #[.int .i64 1, .int .i64 a2, .int .i64 a3] 174)
    go_wp2_with fail
    refine (HO.out _).mono ?_
    rintro e w3 ⟨rfl, hb3⟩
    have X3 := XI.keep hb3
    obtain ⟨X30, X31, X32, X33⟩ := X3.cells
    have X3z := X3.lt
    have hS4 := hS3.below hb3
    have bI := fun o => (hb3.cell (p := ⟨w2.heap.size, o, none⟩) (by simp)).trans (loc_alloc w2 #[.int .i64 1, .int .i64 a2, .int .i64 a3] 174 o)
    have bi0 := bI 0
    have bi1 := bI 1
    have bi2 := bI 2
    simp at bi0 bi1 bi2
    have li := hb3.size
    simp only [World.size_alloc] at li
    have hRz := (((BS.start wr).below hb2).alloc (.cells #[.int .i64 1, .int .i64 a2, .int .i64 a3] 174)).below hb3
    have R4 := hRz.row HRow.out
    clear hb2 hb3 X20 X21 X22 X23 X2z x0 x1 x2 x3
    go_wp2_with fail
    refine world_gen ?_
    intro wz hwz
    have hSz : BS w (w.heap.size :: w2.heap.size :: (Value.slice pa L.length pc).ownBlock.toList) wz := by rw [hwz]; exact hS4.sub _ (fun L hL => by simp only [List.mem_cons] at hL ⊢; rcases hL with h | h | h <;> simp [h])
    have Xz : XB w t p s ad n c vs wz := by rw [hwz]; exact X3
    have bz : ∀ o : Nat, wz.cell? ⟨w2.heap.size, o, none⟩ = (#[.int .i64 1, .int .i64 a2, .int .i64 a3] : Array Value)[o]? := by rw [hwz]; exact bI
    have Rz : wz.ownsRow 0 162 3 (.slice pa L.length pc) L.length (partCells L) := by rw [hwz]; exact R4
    have HX := Lib.hid Xz.box
    have HbI := Lib.hid bz
    have HRz := Lib.hid Rz
    clear hwz bz Rz bi0 bi1 bi2 X30 X31 X32 X33 X3z bI hS2 hS3 hS4 hRz R4
    refine wp_region_noPanic ?_
    refine wp_region_held_drew (S := fun w' => BS w (w.heap.size :: w2.heap.size :: (Value.slice pa L.length pc).ownBlock.toList) w' ∧ (∀ o : Nat, w'.cell? ⟨w.heap.size, o, none⟩ = (#[.int .i64 t, .int .i64 p, .int .i64 s, .slice (some ad) n c] : Array Value)[o]?) ∧ (∀ o : Nat, w'.cell? ⟨w2.heap.size, o, none⟩ = (#[.int .i64 1, .int .i64 a2, .int .i64 a3] : Array Value)[o]?)) (by kernel_rfl) ?_ (fun hHeld => ?_)
    ·exact ⟨hSz.drew, HX.out, HbI.out⟩
    refine wT 0 ?_
    refine wT 1 ?_
    refine wT 2 ?_
    refine wT 3 ?_
    refine wT 4 ?_
    refine wT 5 ?_
    refine wT 6 ?_
    refine wT 7 ?_
    refine wR 8 fun K hK => ?_
    go_simp
    refine (calls_b hHeld.1 (HP.out _)).mono ?_
    rintro e wy ⟨rfl, hVy, hVyl⟩
    have cxy := loc_step hVyl (by simp) hHeld.2.1
    have ciy := loc_step hVyl (by simp) hHeld.2.2
    have Ry := row_step hVyl (fun k hk => by simp [hk]) (ownsRow_block (w' := wz.drew) HRz.out (fun _ _ => rfl))
    clear hVyl
    dsimp only
    refine hK.out _ _ ?_ (fun hHeld => ?_)
    ·exact ⟨hVy, cxy, ciy⟩
    clear hK K
    try simp only [Act.put, zA, zB, zC, zD, zE, zF]
    refine wT 9 ?_
    refine wT 10 ?_
    refine wR 11 fun K hK => ?_
    go_simp
    refine hK.out _ _ ?_ (fun hHeld => ?_)
    ·exact ⟨(hHeld.1.alloc _).tail, loc_old _ (hHeld.1.ls _ (by simp)).1 hHeld.2.1, loc_old _ (hHeld.1.ls _ (by simp)).1 hHeld.2.2⟩
    clear hK K
    try simp only [Act.put, zA, zB, zC, zD, zE, zF]
    refine wR 12 fun K hK => ?_
    refine step_append_new rfl (.tmp 31) (.tmp 42) rfl 162 i0 (.agg #[.int .i64 0, .int .i64 0, .int .i64 0]) 3 24 Tryz.underlying159 HI.out.1 HI.out.2.1 HI.out.2.2.1 HI.out.2.2.2 rfl (by decide) (.slice pa L.length pc) L.length (partCells L) rfl (Ry.alloc _) ⟨wy.heap.size, 0, none⟩ 1 1 [.int .i64 1, .int .i64 ar, .int .i64 (a2 * pg)] rfl rfl (cell_three_new _ _ _ _ _) ?c1 ?c2 ?c3 ?_
    case c1 => (simp [Value.oneCell'])
    case c2 => (unfold maxLen; omega)
    case c3 => (omega)
    intro v' w5 hown5 hg5 hnew5 hnil5
    clear hnil5
    obtain ⟨g', cap', rfl⟩ := Joins.ownsRow_form hown5 (by omega)
    have hb5 := hHeld.1.grown hg5 (fun k hk => by simp [hk]) (w.heap.size :: w2.heap.size :: (Value.slice pa L.length pc).ownBlock.toList) (fun L hL => Or.inl hL)
    have hn5 := hHeld.1.grown hg5 (fun k hk => by simp [hk]) (w.heap.size :: (Value.slice (some ⟨g', 0, none⟩) (L.length + 1) cap').ownBlock.toList) (mem_new hnew5 hown5)
    have hlx := (hHeld.1.ls w.heap.size (by simp))
    have hli := (hHeld.1.ls w2.heap.size (by simp))
    have hx5 := loc_grown hg5 hlx.1 (fun e => by have := HF.out _ e; omega) hHeld.2.1
    have hi5 := loc_grown hg5 hli.1 (fun e => by have := ownsRow_lt HRow.out e; omega) hHeld.2.2
    refine hK.out _ _ ?_ (fun hHeld => ?_)
    ·exact ⟨hb5, hx5, hi5⟩
    clear hK K
    try simp only [Act.put, zA, zB, zC, zD, zE, zF]
    refine wT 13 ?_
    refine wpAnyH_done (by kernel_rfl) (NoPanic.normal ?_) _
    refine world_gen ?_
    intro wz2 hwz2
    subst hwz2
    go_wp2_with fail
    go_roundw
    case rel =>
     refine ⟨q + 1, by go_num, by omega, ?_, hn5, ⟨hn5.bel, hx5, (hn5.ls w.heap.size (by simp)).1, H0.out.keep hn5.bel⟩, ?_⟩
     ·rw [HLS.out, partCells_app, List.length_append]; exact hown5
     ·exact fun k hk => (hnew5 k hk).elim (HF.out k) (fun h => by have := hlx.1; omega)
    case measure => simp [intOf]; omega
   ·have hkb1 : (a1 == 1) = false := by simp [hk1]
    by_cases hk2 : a1 = 2
    ·subst hk2
     have hls2 : partsL vs t s (q + 1) = L ++ [(2, ar, a2 * pg)] := by rw [hls]; simp
     have HLS := Lib.hid hls2
     clear hls hls2 hk1
     go_wp2_with fail
     refine (I1.out _ hxb.xv).mono ?_
     rintro e w2 ⟨rfl, hb2⟩
     have X2 := hxb.keep hb2
     obtain ⟨X20, X21, X22, X23⟩ := X2.cells
     have X2z := X2.lt
     have XI := X2.alloc (.cells #[.int .i64 2, .int .i64 a2, .int .i64 a3] 174)
     have hS2 := (HB.out.below hb2)
     have hw2 := hb2.size
     have hS3 := hS2.alloc (.cells #[.int .i64 2, .int .i64 a2, .int .i64 a3] 174)
     go_wp2_with fail
     refine (HO.out _).mono ?_
     rintro e w3 ⟨rfl, hb3⟩
     have X3 := XI.keep hb3
     obtain ⟨X30, X31, X32, X33⟩ := X3.cells
     have X3z := X3.lt
     have hS4 := hS3.below hb3
     have bI := fun o => (hb3.cell (p := ⟨w2.heap.size, o, none⟩) (by simp)).trans (loc_alloc w2 #[.int .i64 2, .int .i64 a2, .int .i64 a3] 174 o)
     have bi0 := bI 0
     have bi1 := bI 1
     have bi2 := bI 2
     simp at bi0 bi1 bi2
     have li := hb3.size
     simp only [World.size_alloc] at li
     have hRz := (((BS.start wr).below hb2).alloc (.cells #[.int .i64 2, .int .i64 a2, .int .i64 a3] 174)).below hb3
     have R4 := hRz.row HRow.out
     clear hb2 hb3 X20 X21 X22 X23 X2z x0 x1 x2 x3
     go_wp2_with fail
     refine world_gen ?_
     intro wz hwz
     have hSz : BS w (w.heap.size :: w2.heap.size :: (Value.slice pa L.length pc).ownBlock.toList) wz := by rw [hwz]; exact hS4.sub _ (fun L hL => by simp only [List.mem_cons] at hL ⊢; rcases hL with h | h | h <;> simp [h])
     have Xz : XB w t p s ad n c vs wz := by rw [hwz]; exact X3
     have bz : ∀ o : Nat, wz.cell? ⟨w2.heap.size, o, none⟩ = (#[.int .i64 2, .int .i64 a2, .int .i64 a3] : Array Value)[o]? := by rw [hwz]; exact bI
     have Rz : wz.ownsRow 0 162 3 (.slice pa L.length pc) L.length (partCells L) := by rw [hwz]; exact R4
     have HX := Lib.hid Xz.box
     have HbI := Lib.hid bz
     have HRz := Lib.hid Rz
     clear hwz bz Rz bi0 bi1 bi2 X30 X31 X32 X33 X3z bI hS2 hS3 hS4 hRz R4
     refine wp_region_noPanic ?_
     refine wp_region_held_drew (S := fun w' => BS w (w.heap.size :: w2.heap.size :: (Value.slice pa L.length pc).ownBlock.toList) w' ∧ (∀ o : Nat, w'.cell? ⟨w.heap.size, o, none⟩ = (#[.int .i64 t, .int .i64 p, .int .i64 s, .slice (some ad) n c] : Array Value)[o]?) ∧ (∀ o : Nat, w'.cell? ⟨w2.heap.size, o, none⟩ = (#[.int .i64 2, .int .i64 a2, .int .i64 a3] : Array Value)[o]?)) (by kernel_rfl) ?_ (fun hHeld => ?_)
     ·exact ⟨hSz.drew, HX.out, HbI.out⟩
     refine wT 0 ?_
     refine wT 1 ?_
     refine wT 2 ?_
     refine wT 3 ?_
     refine wT 4 ?_
     refine wT 5 ?_
     refine wT 6 ?_
     refine wT 7 ?_
     refine wR 8 fun K hK => ?_
     go_simp
     refine (calls_b hHeld.1 (HP.out _)).mono ?_
     rintro e wy ⟨rfl, hVy, hVyl⟩
     have cxy := loc_step hVyl (by simp) hHeld.2.1
     have ciy := loc_step hVyl (by simp) hHeld.2.2
     have Ry := row_step hVyl (fun k hk => by simp [hk]) (ownsRow_block (w' := wz.drew) HRz.out (fun _ _ => rfl))
     clear hVyl
     dsimp only
     refine hK.out _ _ ?_ (fun hHeld => ?_)
     ·exact ⟨hVy, cxy, ciy⟩
     clear hK K
     try simp only [Act.put, zA, zB, zC, zD, zE, zF]
     refine wT 9 ?_
     refine wT 10 ?_
     refine wR 11 fun K hK => ?_
     go_simp
     refine hK.out _ _ ?_ (fun hHeld => ?_)
     ·exact ⟨(hHeld.1.alloc _).tail, loc_old _ (hHeld.1.ls _ (by simp)).1 hHeld.2.1, loc_old _ (hHeld.1.ls _ (by simp)).1 hHeld.2.2⟩
     clear hK K
     try simp only [Act.put, zA, zB, zC, zD, zE, zF]
     refine wR 12 fun K hK => ?_
     refine step_append_new rfl (.tmp 31) (.tmp 42) rfl 162 i0 (.agg #[.int .i64 0, .int .i64 0, .int .i64 0]) 3 24 Tryz.underlying159 HI.out.1 HI.out.2.1 HI.out.2.2.1 HI.out.2.2.2 rfl (by decide) (.slice pa L.length pc) L.length (partCells L) rfl (Ry.alloc _) ⟨wy.heap.size, 0, none⟩ 1 1 [.int .i64 2, .int .i64 ar, .int .i64 (a2 * pg)] rfl rfl (cell_three_new _ _ _ _ _) ?c1 ?c2 ?c3 ?_
     case c1 => (simp [Value.oneCell'])
     case c2 => (unfold maxLen; omega)
     case c3 => (omega)
     intro v' w5 hown5 hg5 hnew5 hnil5
     clear hnil5
     obtain ⟨g', cap', rfl⟩ := Joins.ownsRow_form hown5 (by omega)
     have hb5 := hHeld.1.grown hg5 (fun k hk => by simp [hk]) (w.heap.size :: w2.heap.size :: (Value.slice pa L.length pc).ownBlock.toList) (fun L hL => Or.inl hL)
     have hn5 := hHeld.1.grown hg5 (fun k hk => by simp [hk]) (w.heap.size :: (Value.slice (some ⟨g', 0, none⟩) (L.length + 1) cap').ownBlock.toList) (mem_new hnew5 hown5)
     have hlx := (hHeld.1.ls w.heap.size (by simp))
     have hli := (hHeld.1.ls w2.heap.size (by simp))
     have hx5 := loc_grown hg5 hlx.1 (fun e => by have := HF.out _ e; omega) hHeld.2.1
     have hi5 := loc_grown hg5 hli.1 (fun e => by have := ownsRow_lt HRow.out e; omega) hHeld.2.2
     refine hK.out _ _ ?_ (fun hHeld => ?_)
     ·exact ⟨hb5, hx5, hi5⟩
     clear hK K
     try simp only [Act.put, zA, zB, zC, zD, zE, zF]
     refine wT 13 ?_
     refine wpAnyH_done (by kernel_rfl) (NoPanic.normal ?_) _
     refine world_gen ?_
     intro wz2 hwz2
     subst hwz2
     go_wp2_with fail
     go_roundw
     case rel =>
      refine ⟨q + 1, by go_num, by omega, ?_, hn5, ⟨hn5.bel, hx5, (hn5.ls w.heap.size (by simp)).1, H0.out.keep hn5.bel⟩, ?_⟩
      ·rw [HLS.out, partCells_app, List.length_append]; exact hown5
      ·exact fun k hk => (hnew5 k hk).elim (HF.out k) (fun h => by have := hlx.1; omega)
     case measure => simp [intOf]; omega

    ·have hkb2 : (a1 == 2) = false := by simp [hk2]
     rw [if_neg (by omega)] at hls
     by_cases hk3 : a1 = 3
     ·subst hk3
      rw [if_pos rfl] at hls
      have HLS := Lib.hid hls
      clear hls hk1 hk2 hkb1 hkb2
      go_wp2_with fail
      refine (I1.out _ hxb.xv).mono ?_
      rintro e w2 ⟨rfl, hb2⟩
      have X2 := hxb.keep hb2
      obtain ⟨X20, X21, X22, X23⟩ := X2.cells
      have X2z := X2.lt
      have XI := X2.alloc (.cells #[.int .i64 3, .int .i64 a2, .int .i64 a3] 174)
      have hS2 := (HB.out.below hb2)
      have hw2 := hb2.size
      have hS3 := hS2.alloc (.cells #[.int .i64 3, .int .i64 a2, .int .i64 a3] 174)
      go_wp2_with fail
      refine (HO.out _).mono ?_
      rintro e w3 ⟨rfl, hb3⟩
      have X3 := XI.keep hb3
      obtain ⟨X30, X31, X32, X33⟩ := X3.cells
      have X3z := X3.lt
      have hS4 := hS3.below hb3
      have bI := fun o => (hb3.cell (p := ⟨w2.heap.size, o, none⟩) (by simp)).trans (loc_alloc w2 #[.int .i64 3, .int .i64 a2, .int .i64 a3] 174 o)
      have bi0 := bI 0
      have bi1 := bI 1
      have bi2 := bI 2
      simp at bi0 bi1 bi2
      have li := hb3.size
      simp only [World.size_alloc] at li
      have hRz := (((BS.start wr).below hb2).alloc (.cells #[.int .i64 3, .int .i64 a2, .int .i64 a3] 174)).below hb3
      have R4 := hRz.row HRow.out
      clear hb2 hb3 X20 X21 X22 X23 X2z x0 x1 x2 x3
      go_wp2_with fail
      refine (HSb3.out _ X3.xv).mono ?_
      rintro e w4 ⟨sv, rfl, hsv⟩
      obtain ⟨gs, cs, rfl⟩ := Joins.ownsRow_form hsv.1 hsp
      have X4 := X3.keep hsv.2.2
      have S5 := hS4.below hsv.2.2
      have R5 := ((BS.start _).below hsv.2.2).row R4
      have HNews := Lib.hid (hsv.1.cells (g := gs) rfl)
      have hnl : (partCells sb).length = sb.length * 3 := partCells_len sb
      have HNL := Lib.hid hnl
      have hone : ∀ u ∈ partCells sb, u.oneCell' = true := by
       intro u hu
       simp only [partCells, List.mem_flatMap] at hu
       obtain ⟨x, -, hx⟩ := hu
       simp at hx
       rcases hx with rfl | rfl | rfl <;> rfl
      have HOne := Lib.hid hone
      clear hsv hnl hone bI hS2 hS3 hS4 hRz R4
      go_wp2_with (at_builtin; go_must (refine wpL_append rfl _ _ rfl 162 i0 (.agg #[.int .i64 0, .int .i64 0, .int .i64 0]) 3 24 Tryz.underlying159 HI.out.1 HI.out.2.1 HI.out.2.2.1 HI.out.2.2.2 rfl (by decide) (.slice pa L.length pc) L.length (partCells L) rfl R5 ⟨gs, 0, none⟩ sb.length cs (partCells sb) rfl HNL.out HNews.out HOne.out ?c2 ?c3 ?_); go_must (case c2 => (unfold maxLen; omega)); go_must (case c3 => (omega)); go_must (intro v' w8 hown8 hg8 hnew8 hnil8); clear hnil8; go_must (obtain ⟨g', cap', rfl⟩ := Joins.ownsRow_form hown8 (by omega)))
      have hn5 := S5.grown hg8 (fun k hk => by simp [hk]) (w.heap.size :: (Value.slice (some ⟨g', 0, none⟩) (L.length + sb.length) cap').ownBlock.toList) (mem_new3 hnew8 hown8)
      have hx5 := loc_grown hg8 X4.lt (fun e => by have := HF.out _ e; omega) X4.box
      go_roundw
      case rel =>
       refine ⟨q + 1, by go_num, by omega, ?_, hn5, ⟨hn5.bel, hx5, (hn5.ls w.heap.size (by simp)).1, H0.out.keep hn5.bel⟩, ?_⟩
       ·rw [HLS.out, partCells_app, List.length_append]; exact hown8
       ·exact fun k hk => (hnew8 k hk).elim (HF.out k) (fun h => by have := X4.lt; omega)
      case measure => simp [intOf]; omega
     ·have hkb3 : (a1 == 3) = false := by simp [hk3]
      rw [if_neg hk3, List.append_nil] at hls
      have HLS := Lib.hid hls
      clear hls hk1 hk2 hk3
      go_wp2_with fail
      refine (I1.out _ hxb.xv).mono ?_
      rintro e w2 ⟨rfl, hb2⟩
      have X2 := hxb.keep hb2
      obtain ⟨X20, X21, X22, X23⟩ := X2.cells
      have X2z := X2.lt
      have XI := X2.alloc (.cells #[.int .i64 a1, .int .i64 a2, .int .i64 a3] 174)
      have hS2 := (HB.out.below hb2)
      have hw2 := hb2.size
      have hS3 := hS2.alloc (.cells #[.int .i64 a1, .int .i64 a2, .int .i64 a3] 174)
      go_wp2_with fail
      refine (HO.out _).mono ?_
      rintro e w3 ⟨rfl, hb3⟩
      have X3 := XI.keep hb3
      obtain ⟨X30, X31, X32, X33⟩ := X3.cells
      have X3z := X3.lt
      have hS4 := hS3.below hb3
      have bI := fun o => (hb3.cell (p := ⟨w2.heap.size, o, none⟩) (by simp)).trans (loc_alloc w2 #[.int .i64 a1, .int .i64 a2, .int .i64 a3] 174 o)
      have bi0 := bI 0
      have bi1 := bI 1
      have bi2 := bI 2
      simp at bi0 bi1 bi2
      have li := hb3.size
      simp only [World.size_alloc] at li
      have hRz := (((BS.start wr).below hb2).alloc (.cells #[.int .i64 a1, .int .i64 a2, .int .i64 a3] 174)).below hb3
      have R4 := hRz.row HRow.out
      clear hb2 hb3 X20 X21 X22 X23 X2z x0 x1 x2 x3
      go_wp2_with fail
      go_roundw
      case rel =>
       refine ⟨q + 1, by go_num, by omega, ?_, hS4.sub _ (by simp; intro a ha; exact Or.inr (Or.inr ha)), X3, HF.out⟩
       rw [HLS.out]; exact R4
      case measure => simp [intOf]; omega
  ·have hqe : p.toNat = q := by omega
   have hFL : F = L := by rw [← HF0.out, ← hL]; unfold partsF; rw [hqe]
   subst hFL
   clear hL hqe hll hls
   go_wp2
   go_ret
   exact ⟨_, rfl, HRow.out, fun k hk => Nat.le_of_lt (HF.out k hk), HB.out.bel⟩
end
end Go.Proofs.YtcbikgafdclhaaaGreat
/- the document's audit: blocks, Has, roots. -/
set_option linter.unusedSimpArgs false
set_option linter.unusedVariables false
namespace Go.Proofs.YtcbikgafdclhaaaGreat
open Go.RowKit

theorem infoBlock : (Tryz.prog.info? 80).map (fun i => (i.zero, i.size, i.bytes)) = some (some (.agg #[.int .i64 0, .int .i64 0]), 2, 16) := by kernel_rfl
def blockCells (l : List (Int × Int)) : List Value := l.flatMap fun x => [.int .i64 x.1, .int .i64 x.2]
theorem blockCells_len (l : List (Int × Int)) : (blockCells l).length = l.length * 2 := by
 induction l with
 | nil => rfl
 | cons y ys ih => unfold blockCells at ih ⊢; simp [ih]; omega
theorem blockCells_app (l m : List (Int × Int)) : blockCells (l ++ m) = blockCells l ++ blockCells m := by simp [blockCells]
def RowB (w : World) (l : List (Int × Int)) (v : Value) (w' : World) : Prop :=
 w'.ownsRow 0 80 2 v l.length (blockCells l) ∧ (∀ k, v.ownBlock = some k → w.heap.size ≤ k) ∧ Below w.heap.size w w'

/-- the live ones of parts. -/
def liveL : List (Int × Int × Int) → List (Int × Int)
 | [] => []
 | x :: l => (if x.1 = 2 then [(x.2.1, x.2.2)] else []) ++ liveL l
theorem liveL_app (l m : List (Int × Int × Int)) : liveL (l ++ m) = liveL l ++ liveL m := by
 induction l with
 | nil => rfl
 | cons x l ih => simp [liveL, ih]
theorem liveL_len (l : List (Int × Int × Int)) : (liveL l).length ≤ l.length := by
 induction l with
 | nil => exact Nat.le_refl _
 | cons x l ih =>
  simp only [liveL, List.length_append, List.length_cons]
  split <;> simp <;> omega
theorem liveL_take {l : List (Int × Int × Int)} {k : Nat} {x : Int × Int × Int} (h : l[k]? = some x) : liveL (l.take (k + 1)) = liveL (l.take k) ++ if x.1 = 2 then [(x.2.1, x.2.2)] else [] := by
 rw [List.take_add_one, h, liveL_app]
 simp [liveL]
theorem part_cell {l : List (Int × Int × Int)} {k : Nat} {x : Int × Int × Int} (h : l[k]? = some x) : (partCells l)[k * 3]? = some (.int .i64 x.1) ∧ (partCells l)[k * 3 + 1]? = some (.int .i64 x.2.1) ∧ (partCells l)[k * 3 + 2]? = some (.int .i64 x.2.2) := by
 induction l generalizing k with
 | nil => simp at h
 | cons y ys ih =>
  have e : partCells (y :: ys) = [.int .i64 y.1, .int .i64 y.2.1, .int .i64 y.2.2] ++ partCells ys := by simp [partCells]
  rw [e]
  cases k with
  | zero => simp at h; subst h; simp
  | succ k =>
   have h2 : ys[k]? = some x := by simpa using h
   obtain ⟨a, b, d⟩ := ih h2
   refine ⟨?_, ?_, ?_⟩
   ·rw [List.getElem?_append_right (by simp; omega)]; rw [← a]; congr 1; simp; omega
   ·rw [List.getElem?_append_right (by simp; omega)]; rw [← b]; congr 1; simp; omega
   ·rw [List.getElem?_append_right (by simp; omega)]; rw [← d]; congr 1; simp; omega
theorem block_cell {l : List (Int × Int)} {k : Nat} {x : Int × Int} (h : l[k]? = some x) : (blockCells l)[k * 2]? = some (.int .i64 x.1) ∧ (blockCells l)[k * 2 + 1]? = some (.int .i64 x.2) := by
 induction l generalizing k with
 | nil => simp at h
 | cons y ys ih =>
  have e : blockCells (y :: ys) = [.int .i64 y.1, .int .i64 y.2] ++ blockCells ys := by simp [blockCells]
  rw [e]
  cases k with
  | zero => simp at h; subst h; simp
  | succ k =>
   have h2 : ys[k]? = some x := by simpa using h
   obtain ⟨a, b⟩ := ih h2
   refine ⟨?_, ?_⟩
   ·rw [List.getElem?_append_right (by simp; omega)]; rw [← a]; congr 1; simp; omega
   ·rw [List.getElem?_append_right (by simp; omega)]; rw [← b]; congr 1; simp; omega

section
variable {t p s : Int} {ad : Addr} {n c : Nat} {vs : List Int}
def blocksF (vs : List Int) (t p s : Int) : List (Int × Int) := liveL (partsF vs t p s)

structure BlRel (w : World) (l : List (Int × Int × Int)) (lv : Value) (v3 v5 : Value) (wr : World) (k : Nat) : Prop where
 hk : v5 = .int .i64 k
 le : k ≤ l.length
 row : wr.ownsRow 0 80 2 v3 (liveL (l.take k)).length (blockCells (liveL (l.take k)))
 bs : BS w (w.heap.size :: v3.ownBlock.toList) wr
 lrow : wr.ownsRow 0 162 3 lv l.length (partCells l)
 far : ∀ k, v3.ownBlock = some k → lv.ownBlock ≠ some k
def BlRelE (w : World) (l : List (Int × Int × Int)) (lv : Value) (v3 v5 : Value) (wr : World) : Prop := ∃ k, BlRel w l lv v3 v5 wr k

set_option maxHeartbeats 4000000 in
set_option maxRecDepth 100000 in
theorem blocks_any (c : Nat) (w : World) (h : XV w t p s ad n vs) :
 Calls Tryz.prog 120 #[.agg #[.int .i64 t, .int .i64 p, .int .i64 s, .slice (some ad) n c]] w fun e w' => ∃ v, e = .returned v ∧ RowB w (blocksF vs t p s) v w' := by
 have X0 := (h.boxed c).alloc (.cells #[] 80)
 have r0 := row_empty (w.alloc (.cells #[.int .i64 t, .int .i64 p, .int .i64 s, .slice (some ad) n c] 169)) 80 2
 have hS0 := ((BS.start w).alloc (.cells #[.int .i64 t, .int .i64 p, .int .i64 s, .slice (some ad) n c] 169)).alloc (.cells #[] 80)
 simp only [World.size_alloc] at hS0 r0
 have HP := Lib.hid (fun (w : World) (h : XV w t p s ad n vs) => parts_any c w h)
 have hll : (partsF vs t p s).length ≤ 33792 := by
  have := partsL_len vs t s p.toNat
  have := h.bd
  unfold partsF; omega
 obtain ⟨i0, hi0, hi1, hi2, hi3⟩ := info_parts infoBlock
 have HI := Lib.hid (And.intro hi0 (And.intro hi1 (And.intro hi2 hi3)))
 have hF0 : blocksF vs t p s = liveL (partsF vs t p s) := rfl
 generalize blocksF vs t p s = F at *
 generalize partsF vs t p s = l at *
 have HF0 := Lib.hid hF0
 clear hi0 hi1 hi2 hi3 h hF0
 obtain ⟨x0, x1, x2, x3⟩ := X0.cells
 have xz := X0.lt
 go_enter Tryz.func120, Tryz.ntmps120
 go_wp2_with fail
 refine (HP.out _ X0.xv).mono ?_
 rintro e w1 ⟨lv, rfl, hlv⟩
 have r1 := ((BS.start _).below hlv.2.2).row r0
 have hS1 := hS0.below hlv.2.2
 have hlr := hlv.1
 have hlf := hlv.2.1
 have hls : ∃ a c, lv = .slice a l.length c := row_shape hlr
 obtain ⟨la, lc, rfl⟩ := hls
 simp only [World.size_alloc] at hlf
 clear hlv r0 hS0 X0 x0 x1 x2 x3 xz
 go_wp2_with fail
 go_loopw [3, 5] (fun v3 v5 wr => BlRelE w l (.slice la l.length lc) v3 v5 wr) (fun _ v5 _ => l.length - (intOf v5).toNat)
 case atStart => exact ⟨0, rfl, by omega, by simpa [liveL, blockCells] using r1, hS1.sub _ (by simp [Value.ownBlock]), hlr, fun k hk e => by have := hlf k e; simp [Value.ownBlock] at hk; omega⟩
 case round =>
  obtain ⟨k, rfl, hle, hrow, hbs, hlrow, hfar⟩ := hrel
  have hll2 := liveL_len (l.take k)
  have hll3 : (l.take k).length ≤ l.length := by simp; omega
  have HTk := Lib.hid (fun x (h : l[k]? = some x) => liveL_take h)
  have HTe := Lib.hid (fun (h : k = l.length) => (show liveL (l.take k) = liveL l by rw [h, List.take_length]))
  generalize liveL (l.take k) = o at *
  have hol : o.length ≤ 33792 := by omega
  have hlen : ∃ a c, u3 = .slice a o.length c := row_shape hrow
  obtain ⟨pa, pc, rfl⟩ := hlen
  have HB := Lib.hid hbs
  have HF := Lib.hid hfar
  have HRow := Lib.hid hrow
  have HLr := Lib.hid hlrow
  clear r1 hS1 hlr hlf hbs hfar hrow hlrow hll2 hll3
  by_cases hlt : k < l.length
  ·obtain ⟨⟨y1, y2, y3⟩, hx⟩ : ∃ x, l[k]? = some x := ⟨_, List.getElem?_eq_getElem hlt⟩
   obtain ⟨g, cap, hg⟩ := Joins.ownsRow_form HLr.out (by omega)
   simp only [Value.slice.injEq, true_and] at hg
   obtain ⟨rfl, rfl⟩ := hg
   obtain ⟨p0, p1, p2⟩ := part_cell hx
   have q0 := (HLr.out.cellAt (k * 3) (by omega)).trans p0
   have q1 := (HLr.out.cellAt (k * 3 + 1) (by omega)).trans p1
   have q2 := (HLr.out.cellAt (k * 3 + 2) (by omega)).trans p2
   have ht := HTk.out _ hx
   simp only at ht q0 q1 q2
   have hgl : g < wr.heap.size := ownsRow_lt HLr.out (by simp [Value.ownBlock])
   have hgn : (Value.slice pa o.length pc).ownBlock ≠ some g := fun e => HF.out g e (by simp [Value.ownBlock])
   clear p0 p1 p2 hx HTk HTe
   by_cases hy : y1 = 2
   ·subst hy
    rw [if_pos rfl] at ht
    have HT := Lib.hid ht
    have HQ1 := Lib.hid q1
    have HQ2 := Lib.hid q2
    have HGn := Lib.hid hgn
    clear ht hgn
    go_wp2_with fail
    refine wp_region_noPanic ?_
    refine wp_region_held_drew (S := fun w' => w'.cell? ⟨g, k * 3 + 1, none⟩ = some (.int .i64 y2) ∧ w'.cell? ⟨g, k * 3 + 2, none⟩ = some (.int .i64 y3)) (by kernel_rfl) ?_ (fun hHeld => ?_)
    ·exact ⟨HQ1.out, HQ2.out⟩
    refine wT 0 ?_
    refine wT 1 ?_
    refine wT 2 ?_
    refine wT 3 ?_
    refine wT 4 ?_
    refine wT 5 ?_
    refine wT 6 ?_
    refine wT 7 ?_
    refine wT 8 ?_
    refine wT 9 ?_
    refine wT 10 ?_
    refine wT 11 ?_
    refine wR 12 fun K hK => ?_
    go_simp
    refine hK.out _ _ ?_ (fun hHeld => ?_)
    ·exact ⟨(World.cell?_alloc_lt (a := ⟨g, k * 3 + 1, none⟩) _ _ (by simpa using hgl)).trans HQ1.out, (World.cell?_alloc_lt (a := ⟨g, k * 3 + 2, none⟩) _ _ (by simpa using hgl)).trans HQ2.out⟩
    clear hK K
    try simp only [Act.put, zA, zB, zC, zD, zE, zF]
    refine wR 13 fun K hK => ?_
    refine step_append_new rfl (.tmp 21) (.tmp 33) rfl 80 i0 (.agg #[.int .i64 0, .int .i64 0]) 2 16 Tryz.underlying35 HI.out.1 HI.out.2.1 HI.out.2.2.1 HI.out.2.2.2 rfl (by decide) (.slice pa o.length pc) o.length (blockCells o) rfl ((ownsRow_block (w' := wr.drew) HRow.out (fun _ _ => rfl)).alloc _) ⟨_, 0, none⟩ 1 1 [.int .i64 y2, .int .i64 y3] rfl rfl (cell_two_at _ _ _ _ _ (by simp)) ?c1 ?c2 ?c3 ?_
    case c1 => (simp [Value.oneCell'])
    case c2 => (unfold maxLen; omega)
    case c3 => (omega)
    intro v' w5 hown5 hg5 hnew5 hnil5
    clear hnil5
    obtain ⟨g', cap', rfl⟩ := Joins.ownsRow_form hown5 (by omega)
    have hc5 := fun i => (World.cell?_of_block (a := ⟨g, i, none⟩) (hg5.block g (by simp; omega) (fun e => HGn.out e.symm))).trans (World.cell?_alloc_lt (w := wr.drew) (a := ⟨g, i, none⟩) _ (by simpa using hgl))
    refine hK.out _ _ ?_ (fun hHeld => ?_)
    ·exact ⟨(hc5 _).trans HQ1.out, (hc5 _).trans HQ2.out⟩
    clear hK K
    try simp only [Act.put, zA, zB, zC, zD, zE, zF]
    refine wT 14 ?_
    refine wpAnyH_done (by kernel_rfl) (NoPanic.normal ?_) _
    go_wp2_with fail
    go_roundw
    case rel =>
     have B5 := HB.out.drew.append hg5 hnew5 hown5
     refine ⟨k + 1, by go_num, by omega, ?_, B5, ownsRow_block HLr.out (fun j hj => ?_), fun j hj e => ?_⟩
     ·rw [HT.out, blockCells_app, List.length_append]; exact hown5
     ·simp [Value.ownBlock] at hj
      subst hj
      exact (hg5.block g (by simp; omega) (fun e => HGn.out e.symm)).trans (heap_alloc_old _ _ (by simpa using hgl))
     ·simp [Value.ownBlock] at e
      subst e
      rcases hnew5 g hj with x | x
      ·exact HGn.out x
      ·simp at x; omega
    case measure => simp [intOf]; omega
   ·rw [if_neg hy, List.append_nil] at ht
    have HT := Lib.hid ht
    have hyb : (y1 == 2) = false := by simp [hy]
    clear ht hgn hy
    go_wp2_with fail
    go_roundw
    case rel =>
     refine ⟨k + 1, by go_num, by omega, ?_, HB.out, HLr.out, HF.out⟩
     rw [HT.out]; exact HRow.out
    case measure => simp [intOf]; omega
  ·have hFo : F = o := by rw [HF0.out, HTe.out (by omega)]
   subst hFo
   clear HTk HTe
   go_wp2
   go_ret
   refine ⟨.slice pa F.length pc, rfl, HRow.out, fun k hk => (HB.out.ls k (List.mem_cons_of_mem _ ?_)).2, HB.out.bel⟩
   rw [hk]; simp

def hasB (l : List (Int × Int)) (a : Int) : Bool := l.any fun x => x.1 == a
def HsRel (l : List (Int × Int)) (a : Int) (w : World) (i : Value) (wr : World) : Prop := ∃ k : Nat, k ≤ l.length ∧ i = .int .i64 k ∧ (∀ j x, j < k → l[j]? = some x → x.1 ≠ a) ∧ w = wr
theorem hasb_any (l : List (Int × Int)) (a : Int) (v : Value) (w : World) (h : w.ownsRow 0 80 2 v l.length (blockCells l)) (hn : l.length ≤ 4294967296) :
 Calls Tryz.prog 221 #[v, .int .i64 a] w fun e w' => e = .returned (.bool (hasB l a)) ∧ Below w.heap.size w w' := by
 have hc : ∀ k x, l[k]? = some x → ∃ g m c, v = .slice (some ⟨g, 0, none⟩) m c ∧ w.cell? ⟨g, k * 2, none⟩ = some (.int .i64 x.1) := by
  intro k x hk
  have hkl := (List.getElem?_eq_some_iff.1 hk).1
  obtain ⟨g, cap, rfl⟩ := Joins.ownsRow_form h (by omega)
  exact ⟨g, _, cap, rfl, (h.cellAt (k * 2) (by omega)).trans (block_cell hk).1⟩
 obtain ⟨pa, pc, rfl⟩ := row_shape h
 clear h
 generalize hr : hasB l a = r
 have HR := Lib.hid hr
 clear hr
 go_enter Tryz.func221, Tryz.ntmps221
 go_wp2
 go_loopw [5] (fun i wr => HsRel l a w i wr) (fun i _ => l.length - (intOf i).toNat)
 case atStart => exact ⟨0, by omega, rfl, by omega, rfl⟩
 case round =>
  obtain ⟨k, hk, rfl, hno, rfl⟩ := hrel
  have HN := Lib.hid hno
  clear hno
  by_cases hlt : k < l.length
  ·obtain ⟨⟨y1, y2⟩, hx⟩ : ∃ x, l[k]? = some x := ⟨_, List.getElem?_eq_getElem hlt⟩
   obtain ⟨g, m, c', hv, c0⟩ := hc k _ hx
   simp only [Value.slice.injEq] at hv
   obtain ⟨rfl, rfl, rfl⟩ := hv
   have HX := Lib.hid hx
   clear hc hx
   simp only at c0
   by_cases hy : y1 = a
   ·have HY := Lib.hid hy
    have hb : (y1 == a) = true := by simp [hy]
    have hres : r = true := by
     rw [← HR.out]
     unfold hasB
     rw [List.any_eq_true]
     exact ⟨_, List.mem_of_getElem? HX.out, by simpa using hy⟩
    subst hres
    clear hy
    go_wp2
    go_ret
    exact ⟨rfl, Below.refl _ _⟩
   ·have hb : (y1 == a) = false := by simp [hy]
    have HY := Lib.hid hy
    clear hy
    go_wp2
    go_roundw
    case rel =>
     refine ⟨k + 1, by omega, by go_num, fun j x hj hjx => ?_, rfl⟩
     by_cases e : j = k
     ·subst e; rw [HX.out] at hjx; simp at hjx; subst hjx; exact HY.out
     ·exact HN.out j x (by omega) hjx
    case measure => simp [intOf]; omega
  ·have hres : r = false := by
    rw [← HR.out]
    unfold hasB
    rw [List.any_eq_false]
    intro x hx
    obtain ⟨j, hj⟩ := List.mem_iff_getElem?.1 hx
    have := HN.out j x (by have := (List.getElem?_eq_some_iff.1 hj).1; omega) hj
    simpa using this
   subst hres
   clear hc
   go_wp2
   go_ret
   exact ⟨rfl, Below.refl _ _⟩

def rootB (vs : List Int) (bl : List (Int × Int)) (i : Nat) : Bool := vs.getD (22 + i) 0 == 0 || hasB bl (vs.getD (22 + i) 0)
def rootsF (vs : List Int) (t p s : Int) : Bool := allN (rootB vs (blocksF vs t p s)) 8
theorem blocksF_len (vs : List Int) (t p s : Int) (h : p ≤ 1024) : (blocksF vs t p s).length ≤ 33792 := by
 have h1 := liveL_len (partsF vs t p s)
 have h2 := partsL_len vs t s p.toNat
 unfold blocksF
 unfold partsF at h1 ⊢
 omega

set_option maxHeartbeats 4000000 in
set_option maxRecDepth 100000 in
theorem roots_any (c : Nat) (w : World) (h : XV w t p s ad n vs) :
 Calls Tryz.prog 174 #[.agg #[.int .i64 t, .int .i64 p, .int .i64 s, .slice (some ad) n c]] w fun e w' => e = .returned (.bool (rootsF vs t p s)) ∧ Below w.heap.size w w' := by
 have X0 := h.boxed c
 have hnn : 30 ≤ n := by have := h.bd; omega
 have hbl := blocksF_len vs t p s h.few
 have HP := Lib.hid (fun (w : World) (h : XV w t p s ad n vs) => blocks_any c w h)
 have HC := Lib.hid h.cells
 have HU := Lib.hid (fun i => getD_u32 h.u32 i)
 generalize hr : rootsF vs t p s = r
 have hr2 : allN (rootB vs (blocksF vs t p s)) 8 = r := hr
 have HR := Lib.hid hr2
 generalize blocksF vs t p s = l at *
 clear h hr hr2
 obtain ⟨x0, x1, x2, x3⟩ := X0.cells
 have xz := X0.lt
 go_enter Tryz.func174, Tryz.ntmps174
 go_wp2_with fail
 refine (HP.out _ X0.xv).mono ?_
 rintro e w1 ⟨lv, rfl, hlv⟩
 have X1 := X0.keep hlv.2.2
 have hls : ∃ a c, lv = .slice a l.length c := row_shape hlv.1
 obtain ⟨la, lc, rfl⟩ := hls
 have HL := Lib.hid hlv.1
 clear hlv X0 x0 x1 x2 x3 xz
 go_wp2_with fail
 go_loopw [4, 5] (fun v4 _ wr => AllRel (rootB vs l) 8 w1 v4 wr) (fun v4 _ _ => 8 - (intOf v4).toNat)
 case atStart => exact ⟨0, by omega, rfl, rfl, Below.refl _ _⟩
 case round =>
  obtain ⟨i, hi, rfl, hall, hbel⟩ := hrel
  have X3 := X1.keep hbel
  have HA := Lib.hid hall
  have HB := Lib.hid hbel
  clear hall hbel
  obtain ⟨x0, x1, x2, x3⟩ := X3.cells
  by_cases hlt : i < 8
  ·have hRo := Lib.hid (fun w => rroot_any i w hlt)
   have hd0 := (BS.mk X3.bel (by simp) : BS w [] wr).old (HC.out (22 + i) (by omega))
   have hu := HU.out (22 + i)
   have hrb : rootB vs l i = (vs.getD (22 + i) 0 == 0 || hasB l (vs.getD (22 + i) 0)) := rfl
   have HBox := Lib.hid X3.box
   have hxl := X3.lt
   have hin : 22 + i < n := by omega
   generalize vs.getD (22 + i) 0 = a at *
   generalize hki : 22 + i = ki at *
   clear hki
   obtain ⟨hu0, hu1⟩ := hu
   have hwa : IntKind.i64.wrap a = a := wrap_in _ (by omega)
   have HH := Lib.hid (fun (w' : World) (hb : Below w1.heap.size w1 w') => hasb_any l a (.slice la l.length lc) w' (ownsRow_block HL.out fun k hk => hb.block k (ownsRow_lt HL.out hk)) (by omega))
   clear HC HU
   by_cases ha : a = 0
   ·subst ha
    have hyes : rootB vs l i = true := by rw [hrb]; simp
    have HY := Lib.hid hyes
    clear hyes hrb
    go_wp2_with fail
    refine wp_region_noPanic ?_
    refine wp_region_held_drew (S := fun w' => BS wr ([] : List Nat) w' ∧ (∀ o : Nat, w'.cell? ⟨w.heap.size, o, none⟩ = (#[.int .i64 t, .int .i64 p, .int .i64 s, .slice (some ad) n c] : Array Value)[o]?) ∧ w'.cell? (ad.add ki) = some (.int .u32 0)) (by kernel_rfl) ?_ (fun hHeld => ?_)
    ·exact ⟨(BS.start wr).drew, HBox.out, hd0⟩
    refine wT 0 ?_
    refine wT 1 ?_
    refine wT 2 ?_
    refine wR 3 fun K hK => ?_
    go_simp
    refine (calls_b hHeld.1 (hRo.out _)).mono ?_
    rintro e wr1 ⟨rfl, hV, hVl⟩
    dsimp only
    refine hK.out _ _ ?_ (fun hHeld2 => ?_)
    ·exact ⟨hV, hV.oldbox HBox.out hxl, hV.old hd0⟩
    clear hK K hV hVl hHeld
    have hHeld := hHeld2
    clear hHeld2
    try simp only [Act.put, zA, zB, zC, zD, zE, zF]
    refine wT 4 ?_
    refine wT 5 ?_
    refine wT 6 ?_
    refine wT 7 ?_
    refine wpAnyH_done (by kernel_rfl) (NoPanic.normal ?_) _
    refine world_gen ?_
    intro wz hwz
    rw [← hwz] at hHeld
    clear hwz
    have hbz := HB.out.trans (hHeld.1.bel.mono HB.out.size)
    clear hHeld
    go_wp2_with fail
    go_roundw
    case rel => exact ⟨i + 1, by omega, by go_num, by simp [allN, HA.out, HY.out], hbz⟩
    case measure => simp [intOf]; omega
   ·have hab : (a != 0) = true := by simp [ha]
    cases hz : hasB l a
    ·have hno : rootB vs l i = false := by rw [hrb, hz]; simp [ha]
     have hres : r = false := by rw [← HR.out]; exact allN_no hlt hno
     subst hres
     rw [hz] at HH
     clear hno hrb ha hz
     go_wp2_with fail
     refine wp_region_noPanic ?_
     refine wp_region_held_drew (S := fun w' => BS wr ([] : List Nat) w' ∧ (∀ o : Nat, w'.cell? ⟨w.heap.size, o, none⟩ = (#[.int .i64 t, .int .i64 p, .int .i64 s, .slice (some ad) n c] : Array Value)[o]?) ∧ w'.cell? (ad.add ki) = some (.int .u32 a)) (by kernel_rfl) ?_ (fun hHeld => ?_)
     ·exact ⟨(BS.start wr).drew, HBox.out, hd0⟩
     refine wT 0 ?_
     refine wT 1 ?_
     refine wT 2 ?_
     refine wR 3 fun K hK => ?_
     go_simp
     refine (calls_b hHeld.1 (hRo.out _)).mono ?_
     rintro e wr1 ⟨rfl, hV, hVl⟩
     dsimp only
     refine hK.out _ _ ?_ (fun hHeld2 => ?_)
     ·exact ⟨hV, hV.oldbox HBox.out hxl, hV.old hd0⟩
     clear hK K hV hVl hHeld
     have hHeld := hHeld2
     clear hHeld2
     try simp only [Act.put, zA, zB, zC, zD, zE, zF]
     refine wT 4 ?_
     refine wT 5 ?_
     refine wT 6 ?_
     refine wT 7 ?_
     refine wpAnyH_done (by kernel_rfl) (NoPanic.normal ?_) _
     refine world_gen ?_
     intro wz hwz
     rw [← hwz] at hHeld
     clear hwz
     have hbz := HB.out.trans (hHeld.1.bel.mono HB.out.size)
     have X5 := X3.keep hHeld.1.bel
     clear hHeld
     go_wp2_with fail
     refine (HH.out _ hbz).mono ?_
     rintro e w5 ⟨rfl, hb5⟩
     go_wp2
     go_ret
     exact ⟨rfl, (X5.keep hb5).bel⟩
    ·have hyes : rootB vs l i = true := by rw [hrb, hz]; simp
     have HY := Lib.hid hyes
     rw [hz] at HH
     clear hyes hrb ha hz
     go_wp2_with fail
     refine wp_region_noPanic ?_
     refine wp_region_held_drew (S := fun w' => BS wr ([] : List Nat) w' ∧ (∀ o : Nat, w'.cell? ⟨w.heap.size, o, none⟩ = (#[.int .i64 t, .int .i64 p, .int .i64 s, .slice (some ad) n c] : Array Value)[o]?) ∧ w'.cell? (ad.add ki) = some (.int .u32 a)) (by kernel_rfl) ?_ (fun hHeld => ?_)
     ·exact ⟨(BS.start wr).drew, HBox.out, hd0⟩
     refine wT 0 ?_
     refine wT 1 ?_
     refine wT 2 ?_
     refine wR 3 fun K hK => ?_
     go_simp
     refine (calls_b hHeld.1 (hRo.out _)).mono ?_
     rintro e wr1 ⟨rfl, hV, hVl⟩
     dsimp only
     refine hK.out _ _ ?_ (fun hHeld2 => ?_)
     ·exact ⟨hV, hV.oldbox HBox.out hxl, hV.old hd0⟩
     clear hK K hV hVl hHeld
     have hHeld := hHeld2
     clear hHeld2
     try simp only [Act.put, zA, zB, zC, zD, zE, zF]
     refine wT 4 ?_
     refine wT 5 ?_
     refine wT 6 ?_
     refine wT 7 ?_
     refine wpAnyH_done (by kernel_rfl) (NoPanic.normal ?_) _
     refine world_gen ?_
     intro wz hwz
     rw [← hwz] at hHeld
     clear hwz
     have hbz := HB.out.trans (hHeld.1.bel.mono HB.out.size)
     clear hHeld
     go_wp2_with fail
     refine (HH.out _ hbz).mono ?_
     rintro e w5 ⟨rfl, hb5⟩
     have hbz5 := hbz.trans (hb5.mono hbz.size)
     go_wp2_with fail
     go_roundw
     case rel => exact ⟨i + 1, by omega, by go_num, by simp [allN, HA.out, HY.out], hbz5⟩
     case measure => simp [intOf]; omega
  ·obtain rfl : i = 8 := by omega
   have hres : r = true := by rw [← HR.out]; exact HA.out
   subst hres
   go_wp2
   go_ret
   exact ⟨rfl, X3.bel⟩
end
end Go.Proofs.YtcbikgafdclhaaaGreat
