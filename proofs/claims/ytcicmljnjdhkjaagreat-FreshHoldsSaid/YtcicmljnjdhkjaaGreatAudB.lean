/- the document's audit: infos of pages. -/
import Derived.Test.YtcicmljnjdhkjaaGreatAudA
namespace Go.Proofs.YtcicmljnjdhkjaaGreat
open Go.RowKit

def okI (v : Int) : Bool := rightI (v % 16) (v / 16 % 4096) (v / 65536)
def iK (v : Int) : Int := if okI v then v % 16 else 0
def iL (v : Int) : Int := if okI v then v / 16 % 4096 else 0
def iC (v : Int) : Int := if okI v then v / 65536 else 0
theorem inf_bd (v : Int) : 0 ≤ iK v ∧ iK v ≤ 3 ∧ 0 ≤ iL v ∧ iL v ≤ 1024 ∧ 0 ≤ iC v ∧ iC v ≤ 8 ∧ (iK v ≠ 0 → okI v = true ∧ 1 ≤ iL v) ∧ (okI v = false → iK v = 0) := by
  unfold iK iL iC
  cases h : okI v
  · simp
  · unfold okI rightI at h
    have h0 := h
    split at h0
    · simp at h0; simp; omega
    · split at h0
      · simp at h0; simp; omega
      · split at h0
        · simp at h0; simp; omega
        · simp at h0

theorem rget9_any (v : Int) (w : World) (h1 : 0 ≤ v) (h2 : v < 4294967296) :
    Calls Tryz.prog 161 #[.int .u32 v] w fun e w' => e = .returned (.tuple #[.agg #[.int .i64 (iK v), .int .i64 (iL v), .int .i64 (iC v)], .bool (okI v)]) ∧ Below w.heap.size w w' := by
  have H := fun w => riright_any (v % 16) (v / 16 % 4096) (v / 65536) w
  have hz : rightI (v % 16) (v / 16 % 4096) (v / 65536) = okI v := rfl
  rw [hz] at H
  have HZ : ∀ z, okI v = z → (iK v = if z then v % 16 else 0) ∧ (iL v = if z then v / 16 % 4096 else 0) ∧ (iC v = if z then v / 65536 else 0) := by
    intro z hz; subst hz; exact ⟨rfl, rfl, rfl⟩
  clear hz
  cases hok : okI v
  · obtain ⟨e1, e2, e3⟩ := HZ _ hok
    simp at e1 e2 e3
    rw [e1, e2, e3]
    rw [hok] at H
    have HH := Lib.hid H
    clear H HZ hok e1 e2 e3
    go_enter Tryz.func161, Tryz.ntmps161
    go_wp2_with fail
    refine (HH.out _).mono ?_
    rintro e w1 ⟨rfl, hb⟩
    obtain ⟨hbc, hbf⟩ := bcell hb
    have z0 : w.heap.size < w1.heap.size := by have := hb.size; simp at this; omega
    have k := fun o => (hbc w.heap.size o (by simp; omega)).trans (loc_old (.cells #[.int .i64 (v % 16), .int .i64 (v / 16 % 4096), .int .i64 (v / 65536)] 111) (by simp) (loc_alloc w #[.int .i64 0, .int .i64 0, .int .i64 0] 111) o)
    have k0 := k 0
    have k1 := k 1
    have k2 := k 2
    simp at k0 k1 k2
    clear k
    go_wp2
    clear hbc hbf
    refine bodyPost_ret (v := .tuple #[.agg #[.int .i64 0, .int .i64 0, .int .i64 0], .bool false]) (by simp [results, Tryz.results161, go_sem, *]) rfl ⟨rfl, ?_⟩
    (repeat (first | exact Below.refl _ _ | assumption | refine Below.setCell ?_ (by first | omega | (simp; done) | (simp; omega)) _ | refine Below.alloc ?_ (by first | omega | (simp; done) | (simp; omega)) _ | refine Below.drew ?_ | refine Below.trans ?_ (Below.mono ‹Below _ _ _› (by first | omega | (simp; done) | (simp; omega)))))
  · obtain ⟨e1, e2, e3⟩ := HZ _ hok
    simp at e1 e2 e3
    rw [e1, e2, e3]
    rw [hok] at H
    have HH := Lib.hid H
    clear H HZ hok e1 e2 e3
    go_enter Tryz.func161, Tryz.ntmps161
    go_wp2_with fail
    refine (HH.out _).mono ?_
    rintro e w1 ⟨rfl, hb⟩
    obtain ⟨hbc, hbf⟩ := bcell hb
    have z0 : w.heap.size < w1.heap.size := by have := hb.size; simp at this; omega
    have z1 : w.heap.size + 1 < w1.heap.size := by have := hb.size; simp at this; omega
    have k := fun o => (hbc w.heap.size o (by simp; omega)).trans (loc_old (.cells #[.int .i64 (v % 16), .int .i64 (v / 16 % 4096), .int .i64 (v / 65536)] 111) (by simp) (loc_alloc w #[.int .i64 0, .int .i64 0, .int .i64 0] 111) o)
    have k0 := k 0
    have k1 := k 1
    have k2 := k 2
    simp at k0 k1 k2
    clear k
    go_wp2
    clear hbc hbf
    refine bodyPost_ret (v := .tuple #[.agg #[.int .i64 (v % 16), .int .i64 (v / 16 % 4096), .int .i64 (v / 65536)], .bool true]) (by simp [results, Tryz.results161, go_sem, *]) rfl ⟨rfl, ?_⟩
    (repeat (first | exact Below.refl _ _ | assumption | refine Below.setCell ?_ (by first | omega | (simp; done) | (simp; omega)) _ | refine Below.alloc ?_ (by first | omega | (simp; done) | (simp; omega)) _ | refine Below.drew ?_ | refine Below.trans ?_ (Below.mono ‹Below _ _ _› (by first | omega | (simp; done) | (simp; omega)))))

section
variable {t p s : Int} {ad : Addr} {n : Nat} {vs : List Int}

set_option maxHeartbeats 800000 in
theorem xinfo_any (q : Int) (c : Nat) (w : World) (h : XV w t p s ad n vs) (h0 : 0 ≤ q) (h1 : q < p) :
    Calls Tryz.prog 134 #[.agg #[.int .i64 t, .int .i64 p, .int .i64 s, .slice (some ad) n c], .int .i64 q] w fun e w' => e = .returned (.agg #[.int .i64 (iK (gv vs t q 0)), .int .i64 (iL (gv vs t q 0)), .int .i64 (iC (gv vs t q 0))]) ∧ Below w.heap.size w w' := by
  obtain ⟨hx1, hx2⟩ := h.cx h0 h1 (part := 0) (by omega) (by omega)
  have hc0 := h.cells _ hx1
  have hgu := h.gu q 0
  have hI := fun w => rinfo_any t p s q w
  rw [hx2] at hI
  have hd : vs.getD (cix t q 0) 0 = gv vs t q 0 := rfl
  rw [hd] at hc0
  generalize gv vs t q 0 = v at *
  have hG := fun w => rget9_any v w hgu.1 hgu.2
  generalize okI v = ok at *
  generalize iK v = a1 at *
  generalize iL v = a2 at *
  generalize iC v = a3 at *
  generalize cix t q 0 = k at *
  have H1 := Lib.hid hI
  have H2 := Lib.hid hG
  clear h hd hgu hI hG hx2
  have hS0 := (((BS.start w).alloc (.cells #[.int .i64 t, .int .i64 p, .int .i64 s, .slice (some ad) n c] 89)).alloc (.cells #[.int .i64 0, .int .i64 0, .int .i64 0] 111))
  simp only [World.size_alloc] at hS0
  go_enter Tryz.func134, Tryz.ntmps134
  go_wp2_with fail
  refine wp_region_noPanic ?_
  refine wp_region_held_drew (S := fun w' => BS w [w.heap.size + 1, w.heap.size] w' ∧ (∀ o : Nat, w'.cell? ⟨w.heap.size, o, none⟩ = (#[.int .i64 t, .int .i64 p, .int .i64 s, .slice (some ad) n c] : Array Value)[o]?) ∧ w'.heap[w.heap.size + 1]? = some (.cells (#[.int .i64 0, .int .i64 0, .int .i64 0]) 111) ∧ w'.cell? (ad.add k) = some (.int .u32 v)) (by kernel_rfl) ?_ (fun hHeld => ?_)
  · exact ⟨hS0.drew, loc_old _ (by simp) (loc_alloc w _ _), hb_alloc _ _ _ (by simp), hS0.drew.old hc0⟩
  refine wpAnyH_take (i := 0) (oi := _) (v := ?_) rfl (by kernel_rfl) (by kernel_rfl) (by kernel_rfl) (fun _ _ _ h => h) (Or.inl ⟨by rfl, ?_⟩) (by assumption) ?_
  rotate_left
  · intro w hSw; (try dsimp only at hSw); go_simp; try with_reducible rfl
  try simp only [Act.put, List.getElem_toArray, List.getElem_cons_zero, List.setIfInBounds_toArray, List.set_cons_zero, List.set_cons_succ]
  refine wpAnyH_take (i := 1) (oi := _) (v := ?_) rfl (by kernel_rfl) (by kernel_rfl) (by kernel_rfl) (fun _ _ _ h => h) (Or.inl ⟨by rfl, ?_⟩) (by assumption) ?_
  rotate_left
  · intro w hSw; (try dsimp only at hSw); go_simp; try with_reducible rfl
  try simp only [Act.put, List.getElem_toArray, List.getElem_cons_zero, List.getElem_cons_succ, List.setIfInBounds_toArray, List.set_cons_zero, List.set_cons_succ]
  refine wpAnyH_take (i := 2) (oi := _) (v := ?_) rfl (by kernel_rfl) (by kernel_rfl) (by kernel_rfl) (fun _ _ _ h => h) (Or.inl ⟨by rfl, ?_⟩) (by assumption) ?_
  rotate_left
  · intro w hSw; (try dsimp only at hSw); go_simp; try with_reducible rfl
  try simp only [Act.put, List.getElem_toArray, List.getElem_cons_zero, List.getElem_cons_succ, List.setIfInBounds_toArray, List.set_cons_zero, List.set_cons_succ]
  refine wpAnyH_take (i := 3) (oi := _) (v := ?_) rfl (by kernel_rfl) (by kernel_rfl) (by kernel_rfl) (fun _ _ _ h => h) (Or.inl ⟨by rfl, ?_⟩) (by assumption) ?_
  rotate_left
  · intro w hSw; (try dsimp only at hSw); go_simp; try with_reducible rfl
  try simp only [Act.put, List.getElem_toArray, List.getElem_cons_zero, List.getElem_cons_succ, List.setIfInBounds_toArray, List.set_cons_zero, List.set_cons_succ]
  refine wpAnyH_take (i := 4) (oi := _) (v := ?_) rfl (by kernel_rfl) (by kernel_rfl) (by kernel_rfl) (fun _ _ _ h => h) (Or.inl ⟨by rfl, ?_⟩) (by assumption) ?_
  rotate_left
  · intro w hSw; (try dsimp only at hSw); go_simp; try with_reducible rfl
  try simp only [Act.put, List.getElem_toArray, List.getElem_cons_zero, List.getElem_cons_succ, List.setIfInBounds_toArray, List.set_cons_zero, List.set_cons_succ]
  refine wpAnyH_ready (rs := [5, 12]) (by kernel_rfl) (by simp) ?_
  refine AllReadyH.cons (o := _) rfl (fun K hK => ?_) (AllReadyH.cons (o := _) rfl (fun K hK => ?_) AllReadyH.nil)
  · go_simp
    refine (calls_b hHeld.1 (H1.out _)).mono ?_
    rintro e wr1 ⟨rfl, hV, hVl⟩
    dsimp only
    refine hK.out _ _ ?_ (fun hHeld2 => ?_)
    · exact ⟨hV, loc_step hVl (by simp) hHeld.2.1, (hVl _ (by simp)).trans hHeld.2.2.1, hV.old hc0⟩
    clear hK K hV hVl hHeld
    have hHeld := hHeld2
    clear hHeld2
    try simp only [Act.put, List.getElem_toArray, List.getElem_cons_zero, List.getElem_cons_succ, List.setIfInBounds_toArray, List.set_cons_zero, List.set_cons_succ]
    refine wpAnyH_take (i := 6) (oi := _) (v := ?_) rfl (by kernel_rfl) (by kernel_rfl) (by kernel_rfl) (fun _ _ _ h => h) (Or.inl ⟨by rfl, ?_⟩) (by assumption) ?_
    rotate_left
    · intro w hSw; (try dsimp only at hSw); go_simp; try with_reducible rfl
    try simp only [Act.put, List.getElem_toArray, List.getElem_cons_zero, List.getElem_cons_succ, List.setIfInBounds_toArray, List.set_cons_zero, List.set_cons_succ]
    refine wpAnyH_take (i := 7) (oi := _) (v := ?_) rfl (by kernel_rfl) (by kernel_rfl) (by kernel_rfl) (fun _ _ _ h => h) (Or.inl ⟨by rfl, ?_⟩) (by assumption) ?_
    rotate_left
    · intro w hSw; (try dsimp only at hSw); go_simp; try with_reducible rfl
    try simp only [Act.put, List.getElem_toArray, List.getElem_cons_zero, List.getElem_cons_succ, List.setIfInBounds_toArray, List.set_cons_zero, List.set_cons_succ]
    refine wpAnyH_ready (rs := [8, 12]) (by kernel_rfl) (by simp) ?_
    refine AllReadyH.cons (o := _) rfl (fun K hK => ?_) (AllReadyH.cons (o := _) rfl (fun K hK => ?_) AllReadyH.nil)
    · go_simp
      refine (calls_b hHeld.1 (H2.out _)).mono ?_
      rintro e wr2 ⟨rfl, hV, hVl⟩
      dsimp only
      refine hK.out _ _ ?_ (fun hHeld2 => ?_)
      · exact ⟨hV, loc_step hVl (by simp) hHeld.2.1, (hVl _ (by simp)).trans hHeld.2.2.1, hV.old hc0⟩
      clear hK K hV hVl hHeld
      have hHeld := hHeld2
      clear hHeld2
      try simp only [Act.put, List.getElem_toArray, List.getElem_cons_zero, List.getElem_cons_succ, List.setIfInBounds_toArray, List.set_cons_zero, List.set_cons_succ]
      refine wpAnyH_take (i := 9) (oi := _) (v := ?_) rfl (by kernel_rfl) (by kernel_rfl) (by kernel_rfl) (fun _ _ _ h => h) (Or.inl ⟨by rfl, ?_⟩) (by assumption) ?_
      rotate_left
      · intro w hSw; (try dsimp only at hSw); go_simp; try with_reducible rfl
      try simp only [Act.put, List.getElem_toArray, List.getElem_cons_zero, List.getElem_cons_succ, List.setIfInBounds_toArray, List.set_cons_zero, List.set_cons_succ]
      refine wpAnyH_take (i := 10) (oi := _) (v := ?_) rfl (by kernel_rfl) (by kernel_rfl) (by kernel_rfl) (fun _ _ _ h => h) (Or.inl ⟨by rfl, ?_⟩) (by assumption) ?_
      rotate_left
      · intro w hSw; (try dsimp only at hSw); go_simp; try with_reducible rfl
      try simp only [Act.put, List.getElem_toArray, List.getElem_cons_zero, List.getElem_cons_succ, List.setIfInBounds_toArray, List.set_cons_zero, List.set_cons_succ]
      refine wpAnyH_take (i := 11) (oi := _) (v := ?_) rfl (by kernel_rfl) (by kernel_rfl) (by kernel_rfl) (fun _ _ _ h => h) (Or.inl ⟨by rfl, ?_⟩) (by assumption) ?_
      rotate_left
      · intro w hSw; (try dsimp only at hSw); go_simp; try with_reducible rfl
      try simp only [Act.put, List.getElem_toArray, List.getElem_cons_zero, List.getElem_cons_succ, List.setIfInBounds_toArray, List.set_cons_zero, List.set_cons_succ]
      refine wpAnyH_ready (rs := [12]) (by kernel_rfl) (by simp) ?_
      refine AllReadyH.cons (o := _) rfl (fun K hK => ?_) AllReadyH.nil
      have hP := hHeld
      have hA := hHeld.1.allocd (#[.int .i64 0, .int .i64 0, .int .i64 0]) 111
      try simp only [World.size_drew] at hA
      try simp only [World.size_alloc] at hA
      go_simp
      refine hK.out _ _ ?_ (fun hHeld2 => ?_)
      · exact ⟨hA.bs.sub _ (by simp), loc_old _ (hHeld.1.ls _ (by simp)).1 hHeld.2.1, (heap_alloc_old _ _ (hHeld.1.ls _ (by simp)).1).trans hHeld.2.2.1, hA.bs.old hc0⟩
      clear hK K hHeld
      have hHeld := hHeld2
      clear hHeld2
      try simp only [Act.put, List.getElem_toArray, List.getElem_cons_zero, List.getElem_cons_succ, List.setIfInBounds_toArray, List.set_cons_zero, List.set_cons_succ]
      refine wpAnyH_ready (rs := [13]) (by kernel_rfl) (by simp) ?_
      refine AllReadyH.cons (o := _) rfl (fun K hK => ?_) AllReadyH.nil
      go_simp
      have hA2 := (hP.1).allocd (#[.int .i64 a1 , .int .i64 a2 , .int .i64 a3]) 111
      refine hK.out _ _ ?_ (fun hHeld2 => ?_)
      try simp only [World.size_drew] at hA2
      try simp only [World.size_alloc] at hA2
      · exact ⟨hA2.bs.sub _ (by simp), loc_old _ ((hP.1).ls _ (by simp)).1 hP.2.1, (heap_alloc_old _ _ ((hP.1).ls _ (by simp)).1).trans hP.2.2.1, hA2.bs.old hc0⟩
      clear hA hP
      have hA := hA2
      clear hA2 hHeld
      have hHeld := hHeld2
      clear hHeld2
      clear hK K
      try simp only [Act.put, List.getElem_toArray, List.getElem_cons_zero, List.getElem_cons_succ, List.setIfInBounds_toArray, List.set_cons_zero, List.set_cons_succ]
      refine wpAnyH_take (i := 14) (oi := _) (v := ?_) rfl (by kernel_rfl) (by kernel_rfl) (by kernel_rfl) (fun _ _ _ h => h) (Or.inl ⟨by rfl, ?_⟩) (by assumption) ?_
      rotate_left
      · intro w hSw; (try dsimp only at hSw); go_simp; try with_reducible rfl
      try simp only [Act.put, List.getElem_toArray, List.getElem_cons_zero, List.getElem_cons_succ, List.setIfInBounds_toArray, List.set_cons_zero, List.set_cons_succ]
      refine wpAnyH_done (by kernel_rfl) ?_ _
      refine NoPanic.normal ?_
      refine world_gen ?_
      intro wz hwz
      rw [← hwz] at hHeld hA
      clear hwz
      obtain ⟨⟨q0, q1, q2⟩, f0, f1, f2, z1, z2, bel⟩ := hA.cells3
      obtain ⟨⟨r0, r1, r2⟩, g0, g1, g2⟩ := cells3 hHeld.2.2.1
      have y1 := hA.ne (w.heap.size + 1) (by simp)
      have y2 := (hHeld.1.ls (w.heap.size + 1) (by simp)).1
      clear hHeld hA H1 H2 hS0 hc0
      go_wp2
      refine bodyPost_ret (v := .agg #[.int .i64 a1, .int .i64 a2, .int .i64 a3]) (by simp [results, Tryz.results134, go_sem, *]) rfl ⟨rfl, ?_⟩
      exact (bel.setCell (by simp) _ |>.setCell (by simp) _ |>.setCell (by simp) _)
    · have hP := hHeld
      have hA := hHeld.1.allocd (#[.int .i64 0, .int .i64 0, .int .i64 0]) 111
      try simp only [World.size_drew] at hA
      try simp only [World.size_alloc] at hA
      go_simp
      refine hK.out _ _ ?_ (fun hHeld2 => ?_)
      · exact ⟨hA.bs.sub _ (by simp), loc_old _ (hHeld.1.ls _ (by simp)).1 hHeld.2.1, (heap_alloc_old _ _ (hHeld.1.ls _ (by simp)).1).trans hHeld.2.2.1, hA.bs.old hc0⟩
      clear hK K hHeld
      have hHeld := hHeld2
      clear hHeld2
      try simp only [Act.put, List.getElem_toArray, List.getElem_cons_zero, List.getElem_cons_succ, List.setIfInBounds_toArray, List.set_cons_zero, List.set_cons_succ]
      refine wpAnyH_ready (rs := [8]) (by kernel_rfl) (by simp) ?_
      refine AllReadyH.cons (o := _) rfl (fun K hK => ?_) AllReadyH.nil
      go_simp
      refine (calls_b hA.bs (H2.out _)).mono ?_
      rintro e wr3 ⟨rfl, hV, hVl⟩
      have hAn := hA.step hV hVl
      dsimp only
      refine hK.out _ _ ?_ (fun hHeld2 => ?_)
      · exact ⟨hV.sub _ (by simp), loc_step hVl (by simp) hHeld.2.1, (hVl _ (by simp)).trans hHeld.2.2.1, hV.old hc0⟩
      clear hK K hV hVl hHeld hA hP
      have hA := hAn
      have hP := trivial
      clear hAn
      have hHeld := hHeld2
      clear hHeld2
      try simp only [Act.put, List.getElem_toArray, List.getElem_cons_zero, List.getElem_cons_succ, List.setIfInBounds_toArray, List.set_cons_zero, List.set_cons_succ]
      refine wpAnyH_take (i := 9) (oi := _) (v := ?_) rfl (by kernel_rfl) (by kernel_rfl) (by kernel_rfl) (fun _ _ _ h => h) (Or.inl ⟨by rfl, ?_⟩) (by assumption) ?_
      rotate_left
      · intro w hSw; (try dsimp only at hSw); go_simp; try with_reducible rfl
      try simp only [Act.put, List.getElem_toArray, List.getElem_cons_zero, List.getElem_cons_succ, List.setIfInBounds_toArray, List.set_cons_zero, List.set_cons_succ]
      refine wpAnyH_take (i := 10) (oi := _) (v := ?_) rfl (by kernel_rfl) (by kernel_rfl) (by kernel_rfl) (fun _ _ _ h => h) (Or.inl ⟨by rfl, ?_⟩) (by assumption) ?_
      rotate_left
      · intro w hSw; (try dsimp only at hSw); go_simp; try with_reducible rfl
      try simp only [Act.put, List.getElem_toArray, List.getElem_cons_zero, List.getElem_cons_succ, List.setIfInBounds_toArray, List.set_cons_zero, List.set_cons_succ]
      refine wpAnyH_take (i := 11) (oi := _) (v := ?_) rfl (by kernel_rfl) (by kernel_rfl) (by kernel_rfl) (fun _ _ _ h => h) (Or.inl ⟨by rfl, ?_⟩) (by assumption) ?_
      rotate_left
      · intro w hSw; (try dsimp only at hSw); go_simp; try with_reducible rfl
      try simp only [Act.put, List.getElem_toArray, List.getElem_cons_zero, List.getElem_cons_succ, List.setIfInBounds_toArray, List.set_cons_zero, List.set_cons_succ]
      refine wpAnyH_ready (rs := [13]) (by kernel_rfl) (by simp) ?_
      refine AllReadyH.cons (o := _) rfl (fun K hK => ?_) AllReadyH.nil
      have kc0 := (cell?_of_heap (o := 0) hA.box)
      have kc1 := (cell?_of_heap (o := 1) hA.box)
      have kc2 := (cell?_of_heap (o := 2) hA.box)
      simp at kc0 kc1 kc2
      have kf0 := frozen?_of_heap (o := 0) hA.box
      have kf1 := frozen?_of_heap (o := 1) hA.box
      have kf2 := frozen?_of_heap (o := 2) hA.box
      go_simp
      refine hK.out _ _ ?_ (fun hHeld2 => ?_)
      · exact ⟨(((hA.set 0 _).set 1 _).set 2 _).bs.sub _ (by simp), (((hA.set 0 _).set 1 _).loc (by simp) 2 _ ((hA.set 0 _).loc (by simp) 1 _ (hA.loc (by simp) 0 _ hHeld.2.1))), (((hA.set 0 _).set 1 _).hloc (by simp) 2 _ ((hA.set 0 _).hloc (by simp) 1 _ (hA.hloc (by simp) 0 _ hHeld.2.2.1))), (((hA.set 0 _).set 1 _).set 2 _).bs.old hc0⟩
      have hA2 : BA w [w.heap.size + 1, w.heap.size] _ (#[.int .i64 a1 , .int .i64 a2 , .int .i64 a3]) 111 _ := (((hA.set 0 (.int .i64 a1)).set 1 (.int .i64 a2)).set 2 (.int .i64 a3))
      clear kc0 kf0 kc1 kf1 kc2 kf2 hA hP
      have hA := hA2
      clear hA2 hHeld
      have hHeld := hHeld2
      clear hHeld2
      clear hK K
      try simp only [Act.put, List.getElem_toArray, List.getElem_cons_zero, List.getElem_cons_succ, List.setIfInBounds_toArray, List.set_cons_zero, List.set_cons_succ]
      refine wpAnyH_take (i := 14) (oi := _) (v := ?_) rfl (by kernel_rfl) (by kernel_rfl) (by kernel_rfl) (fun _ _ _ h => h) (Or.inl ⟨by rfl, ?_⟩) (by assumption) ?_
      rotate_left
      · intro w hSw; (try dsimp only at hSw); go_simp; try with_reducible rfl
      try simp only [Act.put, List.getElem_toArray, List.getElem_cons_zero, List.getElem_cons_succ, List.setIfInBounds_toArray, List.set_cons_zero, List.set_cons_succ]
      refine wpAnyH_done (by kernel_rfl) ?_ _
      refine NoPanic.normal ?_
      refine world_gen ?_
      intro wz hwz
      rw [← hwz] at hHeld hA
      clear hwz
      obtain ⟨⟨q0, q1, q2⟩, f0, f1, f2, z1, z2, bel⟩ := hA.cells3
      obtain ⟨⟨r0, r1, r2⟩, g0, g1, g2⟩ := cells3 hHeld.2.2.1
      have y1 := hA.ne (w.heap.size + 1) (by simp)
      have y2 := (hHeld.1.ls (w.heap.size + 1) (by simp)).1
      clear hHeld hA H1 H2 hS0 hc0
      go_wp2
      refine bodyPost_ret (v := .agg #[.int .i64 a1, .int .i64 a2, .int .i64 a3]) (by simp [results, Tryz.results134, go_sem, *]) rfl ⟨rfl, ?_⟩
      exact (bel.setCell (by simp) _ |>.setCell (by simp) _ |>.setCell (by simp) _)
  · have hP := hHeld
    have hA := hHeld.1.allocd (#[.int .i64 0, .int .i64 0, .int .i64 0]) 111
    try simp only [World.size_drew] at hA
    try simp only [World.size_alloc] at hA
    go_simp
    refine hK.out _ _ ?_ (fun hHeld2 => ?_)
    · exact ⟨hA.bs.sub _ (by simp), loc_old _ (hHeld.1.ls _ (by simp)).1 hHeld.2.1, (heap_alloc_old _ _ (hHeld.1.ls _ (by simp)).1).trans hHeld.2.2.1, hA.bs.old hc0⟩
    clear hK K hHeld
    have hHeld := hHeld2
    clear hHeld2
    try simp only [Act.put, List.getElem_toArray, List.getElem_cons_zero, List.getElem_cons_succ, List.setIfInBounds_toArray, List.set_cons_zero, List.set_cons_succ]
    refine wpAnyH_ready (rs := [5]) (by kernel_rfl) (by simp) ?_
    refine AllReadyH.cons (o := _) rfl (fun K hK => ?_) AllReadyH.nil
    go_simp
    refine (calls_b hA.bs (H1.out _)).mono ?_
    rintro e wr4 ⟨rfl, hV, hVl⟩
    have hAn := hA.step hV hVl
    dsimp only
    refine hK.out _ _ ?_ (fun hHeld2 => ?_)
    · exact ⟨hV.sub _ (by simp), loc_step hVl (by simp) hHeld.2.1, (hVl _ (by simp)).trans hHeld.2.2.1, hV.old hc0⟩
    clear hK K hV hVl hHeld hA hP
    have hA := hAn
    have hP := trivial
    clear hAn
    have hHeld := hHeld2
    clear hHeld2
    try simp only [Act.put, List.getElem_toArray, List.getElem_cons_zero, List.getElem_cons_succ, List.setIfInBounds_toArray, List.set_cons_zero, List.set_cons_succ]
    refine wpAnyH_take (i := 6) (oi := _) (v := ?_) rfl (by kernel_rfl) (by kernel_rfl) (by kernel_rfl) (fun _ _ _ h => h) (Or.inl ⟨by rfl, ?_⟩) (by assumption) ?_
    rotate_left
    · intro w hSw; (try dsimp only at hSw); go_simp; try with_reducible rfl
    try simp only [Act.put, List.getElem_toArray, List.getElem_cons_zero, List.getElem_cons_succ, List.setIfInBounds_toArray, List.set_cons_zero, List.set_cons_succ]
    refine wpAnyH_take (i := 7) (oi := _) (v := ?_) rfl (by kernel_rfl) (by kernel_rfl) (by kernel_rfl) (fun _ _ _ h => h) (Or.inl ⟨by rfl, ?_⟩) (by assumption) ?_
    rotate_left
    · intro w hSw; (try dsimp only at hSw); go_simp; try with_reducible rfl
    try simp only [Act.put, List.getElem_toArray, List.getElem_cons_zero, List.getElem_cons_succ, List.setIfInBounds_toArray, List.set_cons_zero, List.set_cons_succ]
    refine wpAnyH_ready (rs := [8]) (by kernel_rfl) (by simp) ?_
    refine AllReadyH.cons (o := _) rfl (fun K hK => ?_) AllReadyH.nil
    go_simp
    refine (calls_b hA.bs (H2.out _)).mono ?_
    rintro e wr5 ⟨rfl, hV, hVl⟩
    have hAn := hA.step hV hVl
    dsimp only
    refine hK.out _ _ ?_ (fun hHeld2 => ?_)
    · exact ⟨hV.sub _ (by simp), loc_step hVl (by simp) hHeld.2.1, (hVl _ (by simp)).trans hHeld.2.2.1, hV.old hc0⟩
    clear hK K hV hVl hHeld hA hP
    have hA := hAn
    have hP := trivial
    clear hAn
    have hHeld := hHeld2
    clear hHeld2
    try simp only [Act.put, List.getElem_toArray, List.getElem_cons_zero, List.getElem_cons_succ, List.setIfInBounds_toArray, List.set_cons_zero, List.set_cons_succ]
    refine wpAnyH_take (i := 9) (oi := _) (v := ?_) rfl (by kernel_rfl) (by kernel_rfl) (by kernel_rfl) (fun _ _ _ h => h) (Or.inl ⟨by rfl, ?_⟩) (by assumption) ?_
    rotate_left
    · intro w hSw; (try dsimp only at hSw); go_simp; try with_reducible rfl
    try simp only [Act.put, List.getElem_toArray, List.getElem_cons_zero, List.getElem_cons_succ, List.setIfInBounds_toArray, List.set_cons_zero, List.set_cons_succ]
    refine wpAnyH_take (i := 10) (oi := _) (v := ?_) rfl (by kernel_rfl) (by kernel_rfl) (by kernel_rfl) (fun _ _ _ h => h) (Or.inl ⟨by rfl, ?_⟩) (by assumption) ?_
    rotate_left
    · intro w hSw; (try dsimp only at hSw); go_simp; try with_reducible rfl
    try simp only [Act.put, List.getElem_toArray, List.getElem_cons_zero, List.getElem_cons_succ, List.setIfInBounds_toArray, List.set_cons_zero, List.set_cons_succ]
    refine wpAnyH_take (i := 11) (oi := _) (v := ?_) rfl (by kernel_rfl) (by kernel_rfl) (by kernel_rfl) (fun _ _ _ h => h) (Or.inl ⟨by rfl, ?_⟩) (by assumption) ?_
    rotate_left
    · intro w hSw; (try dsimp only at hSw); go_simp; try with_reducible rfl
    try simp only [Act.put, List.getElem_toArray, List.getElem_cons_zero, List.getElem_cons_succ, List.setIfInBounds_toArray, List.set_cons_zero, List.set_cons_succ]
    refine wpAnyH_ready (rs := [13]) (by kernel_rfl) (by simp) ?_
    refine AllReadyH.cons (o := _) rfl (fun K hK => ?_) AllReadyH.nil
    have kc0 := (cell?_of_heap (o := 0) hA.box)
    have kc1 := (cell?_of_heap (o := 1) hA.box)
    have kc2 := (cell?_of_heap (o := 2) hA.box)
    simp at kc0 kc1 kc2
    have kf0 := frozen?_of_heap (o := 0) hA.box
    have kf1 := frozen?_of_heap (o := 1) hA.box
    have kf2 := frozen?_of_heap (o := 2) hA.box
    go_simp
    refine hK.out _ _ ?_ (fun hHeld2 => ?_)
    · exact ⟨(((hA.set 0 _).set 1 _).set 2 _).bs.sub _ (by simp), (((hA.set 0 _).set 1 _).loc (by simp) 2 _ ((hA.set 0 _).loc (by simp) 1 _ (hA.loc (by simp) 0 _ hHeld.2.1))), (((hA.set 0 _).set 1 _).hloc (by simp) 2 _ ((hA.set 0 _).hloc (by simp) 1 _ (hA.hloc (by simp) 0 _ hHeld.2.2.1))), (((hA.set 0 _).set 1 _).set 2 _).bs.old hc0⟩
    have hA2 : BA w [w.heap.size + 1, w.heap.size] _ (#[.int .i64 a1 , .int .i64 a2 , .int .i64 a3]) 111 _ := (((hA.set 0 (.int .i64 a1)).set 1 (.int .i64 a2)).set 2 (.int .i64 a3))
    clear kc0 kf0 kc1 kf1 kc2 kf2 hA hP
    have hA := hA2
    clear hA2 hHeld
    have hHeld := hHeld2
    clear hHeld2
    clear hK K
    try simp only [Act.put, List.getElem_toArray, List.getElem_cons_zero, List.getElem_cons_succ, List.setIfInBounds_toArray, List.set_cons_zero, List.set_cons_succ]
    refine wpAnyH_take (i := 14) (oi := _) (v := ?_) rfl (by kernel_rfl) (by kernel_rfl) (by kernel_rfl) (fun _ _ _ h => h) (Or.inl ⟨by rfl, ?_⟩) (by assumption) ?_
    rotate_left
    · intro w hSw; (try dsimp only at hSw); go_simp; try with_reducible rfl
    try simp only [Act.put, List.getElem_toArray, List.getElem_cons_zero, List.getElem_cons_succ, List.setIfInBounds_toArray, List.set_cons_zero, List.set_cons_succ]
    refine wpAnyH_done (by kernel_rfl) ?_ _
    refine NoPanic.normal ?_
    refine world_gen ?_
    intro wz hwz
    rw [← hwz] at hHeld hA
    clear hwz
    obtain ⟨⟨q0, q1, q2⟩, f0, f1, f2, z1, z2, bel⟩ := hA.cells3
    obtain ⟨⟨r0, r1, r2⟩, g0, g1, g2⟩ := cells3 hHeld.2.2.1
    have y1 := hA.ne (w.heap.size + 1) (by simp)
    have y2 := (hHeld.1.ls (w.heap.size + 1) (by simp)).1
    clear hHeld hA H1 H2 hS0 hc0
    go_wp2
    refine bodyPost_ret (v := .agg #[.int .i64 a1, .int .i64 a2, .int .i64 a3]) (by simp [results, Tryz.results134, go_sem, *]) rfl ⟨rfl, ?_⟩
    exact (bel.setCell (by simp) _ |>.setCell (by simp) _ |>.setCell (by simp) _)
end
end Go.Proofs.YtcicmljnjdhkjaaGreat
