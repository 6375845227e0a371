/- parts of the proof, merged by a program. -/
import Derived.Test.YtkhanbedcmmlcaaGreatDoorMtp2
import Derived.RangeFuncNested
import Derived.RangeFuncBound
import Derived.RangeFuncCalls
import Derived.RangeFuncLeaves
import Derived.Shelf.Abstract
import Derived.WalkKit
import Derived.OwnWalkIn
import Derived.TacticsInMore
import Derived.LoopNIn
import Derived.LoopIn
import Derived.OrdersIn
import Derived.Deep.OwnRows
set_option linter.unusedSimpArgs false
set_option linter.unusedVariables false
/- the program's audit: racks. -/
set_option linter.unusedSimpArgs false
set_option linter.unusedVariables false
namespace Go.Proofs.YtkhanbedcmmlcaaGreatDoor
open Go.RowKit
section
variable {b : Nat} {t p s : Int} {ad : Addr} {n c : Nat} {vs : List Int} {mb : Nat}
theorem heldR {w w' : World} {L1 kb kb2 b : Nat} {c1 : Array Value} {u1 u2 v0 v1 v2 : Value} (hb : Below w.heap.size w w') (h1 : L1 < w.heap.size)
    (h : (∀ o : Nat, w.cell? ⟨L1, o, none⟩ = c1[o]?) ∧ w.cell? ⟨kb, 0, none⟩ = some u1 ∧ w.cell? ⟨kb2, 0, none⟩ = some u2 ∧ w.cell? ⟨b, 0, none⟩ = some v0 ∧ w.cell? ⟨b, 1, none⟩ = some v1 ∧ w.cell? ⟨b, 2, none⟩ = some v2) :
    (∀ o : Nat, w'.cell? ⟨L1, o, none⟩ = c1[o]?) ∧ w'.cell? ⟨kb, 0, none⟩ = some u1 ∧ w'.cell? ⟨kb2, 0, none⟩ = some u2 ∧ w'.cell? ⟨b, 0, none⟩ = some v0 ∧ w'.cell? ⟨b, 1, none⟩ = some v1 ∧ w'.cell? ⟨b, 2, none⟩ = some v2 := by
  have cc : ∀ {a : Addr} {v : Value}, w.cell? a = some v → w'.cell? a = some v := fun hc => (hb.cell (World.block_lt_of_cell? _ _ hc)).trans hc
  exact ⟨fun o => (hb.cell (p := ⟨L1, o, none⟩) h1).trans (h.1 o), cc h.2.1, cc h.2.2.1, cc h.2.2.2.1, cc h.2.2.2.2.1, cc h.2.2.2.2.2⟩
def rkB (vs : List Int) (t : Int) (al : List (Int × Int × Int)) (k : Int) (q : Nat) : Bool := (al.getD q (0, 0, 0)).1 == 3 && (al.getD q (0, 0, 0)).2.2 == k && !(gv vs t q 5 == 2 ^ (slotsF (al.getD q (0, 0, 0)).2.2).toNat - 1)
set_option maxHeartbeats 2000000 in
set_option maxRecDepth 100000 in
theorem pracked1_any (w0 W : World) (ml : List (Int × Int)) (g P q kb kb2 : Nat) (k : Int) (al : List (Int × Int × Int)) (h : LS w0 b t P s ad n c vs (.slice (some ⟨g, 0, none⟩) P P) mb ml W) (hA : AtR w0 b mb g P al ad W) (hq : q < P)
    (hk : W.cell? ⟨kb, 0, none⟩ = some (.int .i64 k)) (hk2 : W.cell? ⟨kb2, 0, none⟩ = some (.pointer (some ⟨b, 0, none⟩))) :
    Calls Tryz.prog 145 #[.int .i64 q, .pointer (some ⟨kb2, 0, none⟩), .pointer (some ⟨kb, 0, none⟩)] W fun e W' => e = .returned (.bool (rkB vs t al k q)) ∧ Below W.heap.size W W' := by
  obtain ⟨⟨c0, c1, c2⟩, -, c4, -⟩ := h.lk.cells
  obtain ⟨K, L, C, hx, q0, q1, q2⟩ := hA.at hq
  have hb : rkB vs t al k q = (K == 3 && C == k && !(gv vs t q 5 == 2 ^ (slotsF C).toNat - 1)) := by
    unfold rkB
    rw [List.getD_eq_getElem?_getD, hx]
    rfl
  have hqP : (q : Int) < P := by omega
  rw [hb]
  have hx5 := h.lk.xv.cx (q := q) (part := 5) (by omega) (by omega) (by omega) (by omega)
  have H5 := Lib.hid (fun w => pptaken_any t P s q w)
  rw [hx5.2] at H5
  have G5 := Lib.hid (fun (w : World) (h : LK b t P s ad n c vs (.slice (some ⟨g, 0, none⟩) P P) mb w) => pget_any (cix t q 5) w h hx5.1)
  have hd5 : vs.getD (cix t q 5) 0 = gv vs t q 5 := rfl
  rw [hd5] at G5
  have HWh := Lib.hid (fun w => pwhole_any C w)
  have hLa := h.keep ((Below.refl _ _).alloc (Nat.le_refl _) (.cells #[.int .i64 K, .int .i64 L, .int .i64 C] 40))
  have HLa := Lib.hid hLa
  have SA := (BS.start W).alloc (.cells #[.int .i64 K, .int .i64 L, .int .i64 C] 40)
  have i4 := loc_alloc W #[.int .i64 K, .int .i64 L, .int .i64 C] 40
  have hltb := h.lk.lt
  have lk1 := World.block_lt_of_cell? _ _ hk
  have lk2 := World.block_lt_of_cell? _ _ hk2
  simp only at lk1 lk2
  have x1 : (W.alloc (.cells #[.int .i64 K, .int .i64 L, .int .i64 C] 40)).cell? ⟨kb, 0, none⟩ = some (.int .i64 k) := (World.cell?_of_block (a := ⟨kb, 0, none⟩) (heap_alloc_old _ _ lk1)).trans hk
  have x2 : (W.alloc (.cells #[.int .i64 K, .int .i64 L, .int .i64 C] 40)).cell? ⟨kb2, 0, none⟩ = some (.pointer (some ⟨b, 0, none⟩)) := (World.cell?_of_block (a := ⟨kb2, 0, none⟩) (heap_alloc_old _ _ lk2)).trans hk2
  obtain ⟨⟨e0, e1, e2⟩, -, -, -⟩ := hLa.lk.cells
  clear h hA hx hb hx5 hd5 hLa
  generalize gv vs t q 5 = u at *
  generalize (2 : Int) ^ (slotsF C).toNat - 1 = wv at *
  generalize cix t q 5 = x5 at *
  by_cases hK : K = 3
  · subst hK
    by_cases hC : C = k
    · subst hC
      go_enter Tryz.func145, Tryz.ntmps145
      go_wp2_with fail
      refine wp_region_noPanic ?_
      refine wp_region_held_drew (S := fun w' => (∀ o : Nat, w'.cell? ⟨W.heap.size, o, none⟩ = (#[.int .i64 3, .int .i64 L, .int .i64 C] : Array Value)[o]?) ∧ w'.cell? ⟨kb, 0, none⟩ = some (.int .i64 C) ∧ w'.cell? ⟨kb2, 0, none⟩ = some (.pointer (some ⟨b, 0, none⟩)) ∧ w'.cell? ⟨b, 0, none⟩ = some (.int .i64 t) ∧ w'.cell? ⟨b, 1, none⟩ = some (.int .i64 P) ∧ w'.cell? ⟨b, 2, none⟩ = some (.int .i64 s)) (by kernel_rfl) ?_ (fun hHeld => ?_)
      · exact ⟨i4, x1, x2, e0, e1, e2⟩
      refine wT 0 ?_
      refine wT 1 ?_
      refine wT 2 ?_
      refine wT 3 ?_
      refine wT 4 ?_
      refine wT 5 ?_
      refine wT 6 ?_
      refine wT 7 ?_
      refine wT 8 ?_
      refine wT 9 ?_
      refine wT 10 ?_
      refine wT 11 ?_
      refine wT 12 ?_
      refine wT 13 ?_
      refine wT 14 ?_
      refine wT 15 ?_
      refine wT 18 ?_
      refine wR 16 fun K hK => ?_
      go_simp
      refine (H5.out _).mono ?_
      rintro e w1 ⟨rfl, d1⟩
      have S1 := SA.drew.below d1
      have L1 := Lib.hid ((HLa.out.keep (Below.refl _ _).drew).keep d1)
      have k1 := heldR d1 (SA.drew.ls W.heap.size (by simp)).1 hHeld
      refine hK.out _ _ ?_ (fun hHeld => ?_)
      · exact k1
      clear hK K
      try simp only [Act.put, zA, zB, zC, zD, zE, zF]
      refine wR 17 fun K hK => ?_
      go_simp
      refine (G5.out _ L1.out.lk).mono ?_
      rintro e w2 ⟨rfl, d2⟩
      have S2 := S1.below d2
      have k2 := heldR d2 (S1.ls W.heap.size (by simp)).1 hHeld
      refine hK.out _ _ ?_ (fun hHeld => ?_)
      · exact k2
      clear hK K
      try simp only [Act.put, zA, zB, zC, zD, zE, zF]
      refine wR 19 fun K hK => ?_
      go_simp
      refine (HWh.out _).mono ?_
      rintro e w3 ⟨rfl, d3⟩
      have S3 := S2.below d3
      have k3 := heldR d3 (S2.ls W.heap.size (by simp)).1 hHeld
      refine hK.out _ _ ?_ (fun hHeld => ?_)
      · exact k3
      clear hK K
      try simp only [Act.put, zA, zB, zC, zD, zE, zF]
      refine wT 20 ?_
      refine wT 21 ?_
      refine wT 22 ?_
      refine wpAnyH_done (by kernel_rfl) (NoPanic.normal ?_) _
      go_wp2
      go_ret
      refine ⟨ret_bool ?_, S3.bel⟩
      simp [bne]
    · have hCb : (C == k) = false := by simpa using hC
      go_enter Tryz.func145, Tryz.ntmps145
      go_wp2_with fail
      refine wp_region_noPanic ?_
      refine wp_region_held_drew (S := fun w' => (∀ o : Nat, w'.cell? ⟨W.heap.size, o, none⟩ = (#[.int .i64 3, .int .i64 L, .int .i64 C] : Array Value)[o]?) ∧ w'.cell? ⟨kb, 0, none⟩ = some (.int .i64 k)) (by kernel_rfl) ?_ (fun hHeld => ?_)
      · exact ⟨i4, x1⟩
      refine wT 0 ?_
      refine wT 1 ?_
      refine wT 2 ?_
      refine wT 3 ?_
      refine wT 4 ?_
      refine wT 5 ?_
      refine wT 6 ?_
      refine wT 7 ?_
      refine wT 8 ?_
      refine wT 9 ?_
      refine wU 10 ?_
      refine wU 11 ?_
      refine wU 12 ?_
      refine wU 13 ?_
      refine wU 14 ?_
      refine wU 15 ?_
      refine wU 16 ?_
      refine wU 17 ?_
      refine wU 18 ?_
      refine wU 19 ?_
      refine wU 20 ?_
      refine wT 21 ?_
      refine wT 22 ?_
      refine wpAnyH_done (by kernel_rfl) (NoPanic.normal ?_) _
      go_wp2
      go_ret
      exact ⟨ret_bool (by simp [hCb]), SA.bel.drew⟩
  · have hKb : (K == 3) = false := by simpa using hK
    go_enter Tryz.func145, Tryz.ntmps145
    go_wp2_with fail
    refine wp_region_noPanic ?_
    refine wp_region_held_drew (S := fun w' => (∀ o : Nat, w'.cell? ⟨W.heap.size, o, none⟩ = (#[.int .i64 K, .int .i64 L, .int .i64 C] : Array Value)[o]?)) (by kernel_rfl) ?_ (fun hHeld => ?_)
    · exact i4
    refine wT 0 ?_
    refine wT 1 ?_
    refine wT 2 ?_
    refine wT 3 ?_
    refine wU 4 ?_
    refine wU 5 ?_
    refine wU 6 ?_
    refine wU 7 ?_
    refine wT 8 ?_
    refine wT 9 ?_
    refine wU 10 ?_
    refine wU 11 ?_
    refine wU 12 ?_
    refine wU 13 ?_
    refine wU 14 ?_
    refine wU 15 ?_
    refine wU 16 ?_
    refine wU 17 ?_
    refine wU 18 ?_
    refine wU 19 ?_
    refine wU 20 ?_
    refine wT 21 ?_
    refine wT 22 ?_
    refine wpAnyH_done (by kernel_rfl) (NoPanic.normal ?_) _
    go_wp2
    go_ret
    exact ⟨ret_bool (by simp [hKb]), SA.bel.drew⟩
set_option maxHeartbeats 2000000 in
set_option maxRecDepth 100000 in
theorem plistr_any (w0 W : World) (k : Int) (hd g P kb kb2 : Nat) (vis : List Nat) (al : List (Int × Int × Int)) (h : LS w0 b t p s ad n c vs (.slice (some ⟨g, 0, none⟩) P P) mb (mlOf vis) W) (hA : AtR w0 b mb g P al ad W) (hP : p = P)
    (hk : W.cell? ⟨kb, 0, none⟩ = some (.int .i64 k)) (hk2 : W.cell? ⟨kb2, 0, none⟩ = some (.pointer (some ⟨b, 0, none⟩))) (hd1 : hd < n) (hv : ad.block < w0.heap.size) (hnd : vis.Nodup) (hvis : ∀ y ∈ vis, y < P) :
    Calls Tryz.prog 142 #[.pointer (some ⟨b, 0, none⟩), .int .i64 hd, .func (.func 145) #[] #[.pointer (some ⟨kb2, 0, none⟩), .pointer (some ⟨kb, 0, none⟩)]] W fun e W' =>
      ∃ r, r = plL (rkB vs t al k) vs t P (P + 1 - vis.length) (vs.getD hd 0) 0 0 vis ∧ e = .returned (.tuple #[.int .i64 r.1, .bool r.2.1]) ∧ LS w0 b t p s ad n c vs (.slice (some ⟨g, 0, none⟩) P P) mb (mlOf r.2.2) W' ∧ AtR w0 b mb g P al ad W' ∧ (∀ k' : Nat, k' ≠ mb → k' < W.heap.size → W'.heap[k']? = W.heap[k']?) ∧ W.heap.size ≤ W'.heap.size := by
  subst hP
  obtain ⟨b1, b2, b3, b4, b5, b6, b7⟩ := h.lk.xv.bd
  have HG := Lib.hid (fun (w : World) (h : LK b t P s ad n c vs (.slice (some ⟨g, 0, none⟩) P P) mb w) => pget_any hd w h hd1)
  have hu := getD_u32 h.lk.xv.u32 hd
  have H0 := Lib.hid h
  have A0 := Lib.hid hA
  have HK := Lib.hid (And.intro hk hk2)
  have hvl := VS.length_le_of_nodup P vis hnd hvis
  have hkm : kb ≠ mb := by
    rintro rfl
    obtain ⟨es, clk, h1, -⟩ := h.map
    simp [World.cell?, h1] at hk
  have hkm2 : kb2 ≠ mb := by
    rintro rfl
    obtain ⟨es, clk, h1, -⟩ := h.map
    simp [World.cell?, h1] at hk2
  have hbm := h.ne
  generalize hres : plL (rkB vs t al k) vs t P (P + 1 - vis.length) (vs.getD hd 0) 0 0 vis = res
  have HRes := Lib.hid hres
  unfold VS.U32 at hu
  clear hres h hA hk hk2
  go_enter Tryz.func142, Tryz.ntmps142
  go_wp2_with fail
  refine (HG.out _ H0.out.lk).mono ?_
  rintro e w1 ⟨rfl, d1⟩
  generalize vs.getD hd 0 = q0 at *
  have hstart : PlRel w0 W b t P s ad n c vs mb g P kb kb2 k al (rkB vs t al k) res (.int .u32 0) (.int .i64 0) (.int .u32 q0) w1 := by
    refine ⟨q0, 0, 0, vis, rfl, rfl, rfl, by omega, by omega, by omega, by omega, by omega, hnd, hvis, HRes.out, H0.out.keep d1, A0.out.keep d1, (d1.cell (World.block_lt_of_cell? _ _ HK.out.1)).trans HK.out.1, (d1.cell (World.block_lt_of_cell? _ _ HK.out.2)).trans HK.out.2, fun k' _ hk' => d1.block k' hk', d1.size⟩
  clear d1 HRes
  go_wp2
  go_loopw [8, 9, 10] (fun va vn vq wr => PlRel w0 W b t P s ad n c vs mb g P kb kb2 k al (rkB vs t al k) res va vn vq wr) (fun _ vn _ _ => P + 1 - (intOf vn).toNat)
  case atStart => exact hstart
  case round =>
    clear hstart
    obtain ⟨q, ah, m, vi, rfl, rfl, rfl, z0, z1, z2, z3, hm, hnd2, hvis2, hpl, hL, hA, hk, hk2, hsame, hsz⟩ := hrel
    have hvl2 := VS.length_le_of_nodup P vi hnd2 hvis2
    obtain ⟨fu, hfu⟩ : ∃ fu, P + 1 - vi.length = fu + 1 := ⟨P - vi.length, by omega⟩
    rw [hfu] at hpl
    have HFu := Lib.hid hfu
    clear hfu
    unfold plL at hpl
    by_cases hq0 : q = 0
    · rw [if_pos hq0] at hpl
      subst hq0
      have HP := Lib.hid hpl
      have HL := Lib.hid hL
      have HA := Lib.hid hA
      have HS := Lib.hid (And.intro hsame hsz)
      clear hpl hL hA hk hk2 hsame hsz
      go_wp2
      exact bodyPost_ret (v := .tuple #[.int .i64 m, .bool true]) (by simp [results, Tryz.results142, go_sem]) rfl ⟨res, rfl, by rw [← HP.out], by rw [← HP.out]; exact HL.out, HA.out, HS.out.1, HS.out.2⟩
    · rw [if_neg hq0] at hpl
      obtain ⟨x, hqx⟩ : ∃ x : Nat, q - 1 = (x : Int) := ⟨(q - 1).toNat, by omega⟩
      rw [hqx, Int.toNat_natCast] at hpl
      have hqb : (q != 0) = true := by simpa using hq0
      obtain ⟨⟨c0, c1, c2⟩, c3, c4, c5⟩ := hL.lk.cells
      have hlkq := run_lookup_ok (P := Tryz.prog) hL.map uMap Tryz.underlying3 (zInt _) (x : Int) false
      simp only [Bool.false_eq_true, if_false] at hlkq
      rw [assoc_ml] at hlkq
      by_cases hPx : (P : Int) ≤ x
      · rw [if_pos (Or.inl hPx)] at hpl
        have HP := Lib.hid hpl
        have HL := Lib.hid hL
        have HA := Lib.hid hA
        have HS := Lib.hid (And.intro hsame hsz)
        clear hpl hL hA hk hk2 hsame hsz hlkq
        go_wp2
        exact bodyPost_ret (v := .tuple #[.int .i64 0, .bool false]) (by simp [results, Tryz.results142, go_sem]) rfl ⟨res, rfl, by rw [← HP.out]; rfl, by rw [← HP.out]; exact HL.out, HA.out, HS.out.1, HS.out.2⟩
      · have hPx2 : (x : Int) < P := by omega
        have hPxn : x < P := by omega
        by_cases hxv : x ∈ vi
        · rw [if_pos (Or.inr (Or.inl hxv))] at hpl
          rw [if_pos hxv] at hlkq
          have HP := Lib.hid hpl
          have HL := Lib.hid hL
          have HA := Lib.hid hA
          have HS := Lib.hid (And.intro hsame hsz)
          clear hpl hL hA hk hk2 hsame hsz hPx
          go_wp2
          exact bodyPost_ret (v := .tuple #[.int .i64 0, .bool false]) (by simp [results, Tryz.results142, go_sem]) rfl ⟨res, rfl, by rw [← HP.out]; rfl, by rw [← HP.out]; exact HL.out, HA.out, HS.out.1, HS.out.2⟩
        · rw [if_neg hxv] at hlkq
          have HB := Lib.hid (pracked1_any w0 wr (mlOf vi) g P x kb kb2 k al hL hA hPxn hk hk2)
          have HL := Lib.hid hL
          have HA := Lib.hid hA
          have HS := Lib.hid (And.intro hsame hsz)
          have HKK := Lib.hid (And.intro hk hk2)
          have HP := Lib.hid hpl
          clear hpl hL hA hk hk2 hsame hsz hPx
          generalize rkB vs t al k x = bx at *
          go_wp2_with fail
          refine (HB.out).mono ?_
          rintro e w2 ⟨rfl, d2⟩
          have hx3 := HL.out.lk.xv.cx (q := x) (part := 3) (by omega) (by omega) (by omega) (by omega)
          have hx2 := HL.out.lk.xv.cx (q := x) (part := 2) (by omega) (by omega) (by omega) (by omega)
          have H3 := Lib.hid (fun w => ppprev_any t P s x w)
          rw [hx3.2] at H3
          have H2 := Lib.hid (fun w => ppnext_any t P s x w)
          rw [hx2.2] at H2
          have G3 := Lib.hid (fun (w : World) (h : LK b t P s ad n c vs (.slice (some ⟨g, 0, none⟩) P P) mb w) => pget_any (cix t x 3) w h hx3.1)
          have G2 := Lib.hid (fun (w : World) (h : LK b t P s ad n c vs (.slice (some ⟨g, 0, none⟩) P P) mb w) => pget_any (cix t x 2) w h hx2.1)
          have hd3 : vs.getD (cix t x 3) 0 = gv vs t x 3 := rfl
          have hd2 : vs.getD (cix t x 2) 0 = gv vs t x 2 := rfl
          rw [hd3] at G3
          rw [hd2] at G2
          have hgu := HL.out.lk.xv.gu x 2
          have hL2 := HL.out.keep d2
          have HL2 := Lib.hid hL2
          obtain ⟨⟨c0, c1, c2⟩, c3, c4, c5⟩ := hL2.lk.cells
          clear hL2 hx3 hx2 hd3 hd2
          generalize gv vs t x 3 = pv at *
          generalize gv vs t x 2 = nv at *
          generalize cix t x 3 = x3 at *
          generalize cix t x 2 = x2 at *
          cases bx
          · rw [if_pos (Or.inr (Or.inr (Or.inl rfl)))] at HP
            have DD := Lib.hid d2
            go_wp2
            exact bodyPost_ret (v := .tuple #[.int .i64 0, .bool false]) (by simp [results, Tryz.results142, go_sem]) rfl ⟨res, rfl, by rw [← HP.out]; rfl, by rw [← HP.out]; exact HL.out.keep DD.out, HA.out.keep DD.out, fun k' h1 h2 => (DD.out.block k' (Nat.lt_of_lt_of_le h2 HS.out.2)).trans (HS.out.1 k' h1 h2), Nat.le_trans HS.out.2 DD.out.size⟩
          · go_wp2_with fail
            refine (H3.out _).mono ?_
            rintro e w3 ⟨rfl, d3⟩
            have HL3 := Lib.hid (HL2.out.keep d3)
            go_wp2_with fail
            refine (G3.out _ HL3.out.lk).mono ?_
            rintro e w4 ⟨rfl, d4⟩
            have HL4 := Lib.hid (HL3.out.keep d4)
            have DD := Lib.hid (d2.trans ((d3.trans (d4.mono d3.size)).mono d2.size))
            clear d2 d3 d4 c0 c1 c2 c3 c4 c5
            obtain ⟨⟨c0, c1, c2⟩, c3, c4, c5⟩ := HL4.out.lk.cells
            by_cases hpa : pv = ah
            · subst hpa
              rw [if_neg (by simp [hxv, hPxn])] at HP
              obtain ⟨w5, hrun, hm5, hg5⟩ := run_update (P := Tryz.prog) HL4.out.map uMap Tryz.underlying3 (x : Int) 1
              rw [upsert_ml x vi hxv] at hm5
              have HL5 := Lib.hid (HL4.out.grownMap hv hg5 hm5)
              have HA5 := Lib.hid ((HA.out.keep DD.out).grownMap hg5)
              obtain ⟨⟨e0, e1, e2⟩, e3, e4, e5⟩ := HL5.out.lk.cells
              have hk5 := hg5.cell ((DD.out.cell (World.block_lt_of_cell? _ _ HKK.out.1)).trans HKK.out.1) (by simp; exact hkm)
              have hk52 := hg5.cell ((DD.out.cell (World.block_lt_of_cell? _ _ HKK.out.2)).trans HKK.out.2) (by simp; exact hkm2)
              have HKK5 := Lib.hid (And.intro hk5 hk52)
              have HS5 : Hid ((∀ k' : Nat, k' ≠ mb → k' < W.heap.size → w5.heap[k']? = W.heap[k']?) ∧ W.heap.size ≤ w5.heap.size) := Lib.hid ⟨fun k' h1 h2 => (hg5.block k' (Nat.lt_of_lt_of_le (Nat.lt_of_lt_of_le h2 HS.out.2) DD.out.size) (by simp; exact h1)).trans ((DD.out.block k' (Nat.lt_of_lt_of_le h2 HS.out.2)).trans (HS.out.1 k' h1 h2)), Nat.le_trans (Nat.le_trans HS.out.2 DD.out.size) hg5.size⟩
              have hnd5 : (vi ++ [x]).Nodup := by
                rw [List.nodup_append]
                exact ⟨hnd2, by simp, fun a ha c hc e => by simp at hc; subst hc; subst e; exact hxv ha⟩
              have hvis5 : ∀ y ∈ vi ++ [x], y < P := by
                intro y hy
                simp at hy
                rcases hy with hy | rfl
                · exact hvis2 y hy
                · exact hPxn
              have hvl5 := VS.length_le_of_nodup P _ hnd5 hvis5
              have HN5 := Lib.hid (And.intro hnd5 hvis5)
              clear hm5 hg5 hk5 hk52 hnd5 hvis5
              go_wp2_with fail
              refine (H2.out _).mono ?_
              rintro e w6 ⟨rfl, d6⟩
              have HL6 := Lib.hid (HL5.out.keep d6)
              go_wp2_with fail
              refine (G2.out _ HL6.out.lk).mono ?_
              rintro e w7 ⟨rfl, d7⟩
              have D7 := Lib.hid (d6.trans (d7.mono d6.size))
              clear d6 d7
              go_wp2
              go_roundw
              case rel =>
                refine ⟨nv, q, m + 1, vi ++ [x], rfl, rfl, by go_num, by omega, by omega, by omega, by omega, by simp; omega, HN5.out.1, HN5.out.2, ?_, HL5.out.keep D7.out, HA5.out.keep D7.out, (D7.out.cell (World.block_lt_of_cell? _ _ HKK5.out.1)).trans HKK5.out.1, (D7.out.cell (World.block_lt_of_cell? _ _ HKK5.out.2)).trans HKK5.out.2, fun k' h1 h2 => (D7.out.block k' (Nat.lt_of_lt_of_le h2 HS5.out.2)).trans (HS5.out.1 k' h1 h2), Nat.le_trans HS5.out.2 D7.out.size⟩
                rw [← HP.out]
                have := HFu.out
                congr 1
                simp
                omega
              case measure => simp [intOf] at hvl5 ⊢; omega
            · rw [if_pos (Or.inr (Or.inr (Or.inr hpa)))] at HP
              have hpb : (pv != ah) = true := by simpa using hpa
              go_wp2
              exact bodyPost_ret (v := .tuple #[.int .i64 0, .bool false]) (by simp [results, Tryz.results142, go_sem]) rfl ⟨res, rfl, by rw [← HP.out]; rfl, by rw [← HP.out]; exact HL.out.keep DD.out, HA.out.keep DD.out, fun k' h1 h2 => (DD.out.block k' (Nat.lt_of_lt_of_le h2 HS.out.2)).trans (HS.out.1 k' h1 h2), Nat.le_trans HS.out.2 DD.out.size⟩
set_option maxHeartbeats 2000000 in
set_option maxRecDepth 100000 in
theorem pcountr_any (w0 W : World) (k : Int) (g P kb kb2 : Nat) (ml : List (Int × Int)) (al : List (Int × Int × Int)) (h : LS w0 b t P s ad n c vs (.slice (some ⟨g, 0, none⟩) P P) mb ml W) (hA : AtR w0 b mb g P al ad W) (hP : P ≤ 1024)
    (hk : W.cell? ⟨kb, 0, none⟩ = some (.int .i64 k)) (hk2 : W.cell? ⟨kb2, 0, none⟩ = some (.pointer (some ⟨b, 0, none⟩))) :
    Calls Tryz.prog 144 #[.pointer (some ⟨b, 0, none⟩), .func (.func 145) #[] #[.pointer (some ⟨kb2, 0, none⟩), .pointer (some ⟨kb, 0, none⟩)]] W fun e W' =>
      e = .returned (.int .i64 (cntN (rkB vs t al k) P)) ∧ Below W.heap.size W W' := by
  obtain ⟨-, -, c4, -⟩ := h.lk.cells
  have H0 := Lib.hid h
  have A0 := Lib.hid hA
  have HK := Lib.hid (And.intro hk hk2)
  clear h hA hk hk2
  go_enter Tryz.func144, Tryz.ntmps144
  go_wp2
  go_loopw [5, 12] (fun vn vi wr => CbRel (rkB vs t al k) P W vn vi wr) (fun _ vi _ => P - (intOf vi).toNat)
  case atStart => exact ⟨0, by omega, rfl, rfl, Below.refl _ _⟩
  case round =>
    clear c4
    obtain ⟨q, hq, rfl, rfl, hb⟩ := hrel
    have hcl := cntN_le (rkB vs t al k) q
    by_cases hlt : q < P
    · have HB := Lib.hid (pracked1_any w0 wr ml g P q kb kb2 k al (H0.out.keep hb) (A0.out.keep hb) hlt ((hb.cell (World.block_lt_of_cell? _ _ HK.out.1)).trans HK.out.1) ((hb.cell (World.block_lt_of_cell? _ _ HK.out.2)).trans HK.out.2))
      have HX := Lib.hid hb
      have hs : cntN (rkB vs t al k) (q + 1) = cntN (rkB vs t al k) q + if rkB vs t al k q then 1 else 0 := rfl
      have HS := Lib.hid hs
      have hqP : (q : Int) < P := by omega
      clear hb hs
      generalize rkB vs t al k q = z at *
      generalize cntN (rkB vs t al k) q = m at *
      cases z
      · go_wp2_with fail
        refine (HB.out).mono ?_
        rintro e w2 ⟨rfl, d2⟩
        go_wp2
        go_roundw
        case rel => exact ⟨q + 1, by omega, by go_num, by rw [HS.out]; simp, HX.out.trans (d2.mono HX.out.size)⟩
        case measure => simp [intOf]; omega
      · go_wp2_with fail
        refine (HB.out).mono ?_
        rintro e w2 ⟨rfl, d2⟩
        go_wp2
        go_roundw
        case rel => exact ⟨q + 1, by omega, by go_num, by rw [HS.out]; simp, HX.out.trans (d2.mono HX.out.size)⟩
        case measure => simp [intOf]; omega
    · have h1 : q = P := by omega
      rw [h1]
      go_wp2
      go_ret
      exact ⟨rfl, hb⟩
set_option maxHeartbeats 2000000 in
set_option maxRecDepth 100000 in
theorem pracked_any (w0 W : World) (k g P : Nat) (hk : k < 9) (vis : List Nat) (al : List (Int × Int × Int)) (h : LS w0 b t p s ad n c vs (.slice (some ⟨g, 0, none⟩) P P) mb (mlOf vis) W) (hA : AtR w0 b mb g P al ad W) (hP : p = P)
    (hv : ad.block < w0.heap.size) (hnd : vis.Nodup) (hvis : ∀ y ∈ vis, y < P) :
    Calls Tryz.prog 112 #[.pointer (some ⟨b, 0, none⟩), .int .i64 k] W (BnP w0 W b t p s ad n c vs mb g P al (rkB vs t al k) (plL (rkB vs t al k) vs t P (P + 1 - vis.length) (vs.getD (13 + k) 0) 0 0 vis)) := by
  subst hP
  obtain ⟨b1, b2, b3, b4, b5, b6, b7⟩ := h.lk.xv.bd
  have HB := Lib.hid (fun w => pprack_any k w hk)
  have hmW := (h.bs.ls mb (by simp)).1
  have hm1 : W.heap.size ≠ mb := by omega
  have hm2 : W.heap.size + 1 ≠ mb := by omega
  have S0 := ((BS.start W).alloc (.cells #[.pointer (some ⟨b, 0, none⟩)] 69)).alloc (.cells #[.int .i64 k] 3)
  simp only [World.size_alloc] at S0
  have x0 : ((W.alloc (.cells #[.pointer (some ⟨b, 0, none⟩)] 69)).alloc (.cells #[.int .i64 k] 3)).cell? ⟨W.heap.size, 0, none⟩ = some (.pointer (some ⟨b, 0, none⟩)) := loc_old (.cells #[.int .i64 k] 3) (by simp) (loc_alloc W #[.pointer (some ⟨b, 0, none⟩)] 69) 0
  have x1 : ((W.alloc (.cells #[.pointer (some ⟨b, 0, none⟩)] 69)).alloc (.cells #[.int .i64 k] 3)).cell? ⟨W.heap.size + 1, 0, none⟩ = some (.int .i64 k) := by
    simp
  have HL0 := Lib.hid (h.keep S0.bel)
  have HA0 := Lib.hid (hA.keep S0.bel)
  have HLi := Lib.hid (fun (w : World) (hw : LS w0 b t P s ad n c vs (.slice (some ⟨g, 0, none⟩) P P) mb (mlOf vis) w) (ha : AtR w0 b mb g P al ad w) (h1 : w.cell? ⟨W.heap.size + 1, 0, none⟩ = some (.int .i64 k)) (h2 : w.cell? ⟨W.heap.size, 0, none⟩ = some (.pointer (some ⟨b, 0, none⟩))) => plistr_any w0 w k (13 + k) g P (W.heap.size + 1) W.heap.size vis al hw ha rfl h1 h2 (by omega) hv hnd hvis)
  have HCo := Lib.hid (fun (ml : List (Int × Int)) (w : World) (hw : LS w0 b t P s ad n c vs (.slice (some ⟨g, 0, none⟩) P P) mb ml w) (ha : AtR w0 b mb g P al ad w) (h1 : w.cell? ⟨W.heap.size + 1, 0, none⟩ = some (.int .i64 k)) (h2 : w.cell? ⟨W.heap.size, 0, none⟩ = some (.pointer (some ⟨b, 0, none⟩))) => pcountr_any w0 w k g P (W.heap.size + 1) W.heap.size ml al hw ha (by omega) h1 h2)
  generalize plL (rkB vs t al k) vs t P (P + 1 - vis.length) (vs.getD (13 + k) 0) 0 0 vis = res at *
  obtain ⟨rn, rb, rv⟩ := res
  generalize 13 + k = k2 at *
  clear h hA hnd hvis
  go_enter Tryz.func112, Tryz.ntmps112
  go_wp2_with fail
  refine wp_region_noPanic ?_
  refine wp_region_held_drew (S := fun w' => w'.cell? ⟨W.heap.size, 0, none⟩ = some (.pointer (some ⟨b, 0, none⟩)) ∧ w'.cell? ⟨W.heap.size + 1, 0, none⟩ = some (.int .i64 k)) (by kernel_rfl) ?_ (fun hHeld => ?_)
  · exact ⟨x0, x1⟩
  refine wT 0 ?_
  refine wT 1 ?_
  refine wT 3 ?_
  refine wR 2 fun K hK => ?_
  go_simp
  refine (HB.out _).mono ?_
  rintro e w1 ⟨rfl, d1⟩
  have L1 := Lib.hid ((HL0.out.keep (Below.refl _ _).drew).keep d1)
  have A1 := Lib.hid ((HA0.out.keep (Below.refl _ _).drew).keep d1)
  have y0 := (d1.cell (World.block_lt_of_cell? _ _ hHeld.1)).trans hHeld.1
  have y1 := (d1.cell (World.block_lt_of_cell? _ _ hHeld.2)).trans hHeld.2
  have S1 := S0.drew.below d1
  refine hK.out _ _ ?_ (fun hHeld => ?_)
  · exact ⟨y0, y1⟩
  clear hK K
  try simp only [Act.put, zA, zB, zC, zD, zE, zF]
  refine wR 4 fun K hK => ?_
  go_simp
  refine (HLi.out _ L1.out A1.out y1 y0).mono ?_
  rintro e w2 ⟨r, rfl, rfl, hL2, hA2, hs2, hz2⟩
  have z0 : w2.cell? ⟨W.heap.size, 0, none⟩ = some (.pointer (some ⟨b, 0, none⟩)) := (World.cell?_of_block (a := ⟨W.heap.size, 0, none⟩) (hs2 _ hm1 (World.block_lt_of_cell? _ _ y0))).trans y0
  have z1 : w2.cell? ⟨W.heap.size + 1, 0, none⟩ = some (.int .i64 k) := (World.cell?_of_block (a := ⟨W.heap.size + 1, 0, none⟩) (hs2 _ hm2 (World.block_lt_of_cell? _ _ y1))).trans y1
  refine hK.out _ _ ?_ (fun hHeld => ?_)
  · exact ⟨z0, z1⟩
  clear hK K
  try simp only [Act.put, zA, zB, zC, zD, zE, zF]
  refine wT 5 ?_
  refine wT 6 ?_
  refine wT 7 ?_
  refine wT 8 ?_
  refine wT 9 ?_
  refine wpAnyH_done (by kernel_rfl) (NoPanic.normal ?_) _
  have hsAll : ∀ k' : Nat, k' ≠ mb → k' < W.heap.size → w2.heap[k']? = W.heap[k']? := fun k' h1 h2 => (hs2 k' h1 (Nat.lt_of_lt_of_le h2 S1.bel.size)).trans (S1.bel.block k' h2)
  have hzAll : W.heap.size ≤ w2.heap.size := Nat.le_trans S1.bel.size hz2
  have HS := Lib.hid (And.intro hsAll hzAll)
  have HL2 := Lib.hid hL2
  have HA2 := Lib.hid hA2
  clear hs2 hz2 hsAll hzAll hL2 hA2 L1 A1 y0 y1 S1 S0 x0 x1 hHeld d1
  cases rb
  · go_wp2
    go_ret
    exact ⟨rfl, HL2.out, HA2.out, HS.out.1, HS.out.2⟩
  · go_wp2_with fail
    refine (HCo.out _ _ HL2.out HA2.out z1 z0).mono ?_
    rintro e w3 ⟨rfl, d3⟩
    go_wp2
    go_ret
    refine ⟨ret_bool ?_, HL2.out.keep d3, HA2.out.keep d3, fun k' h1 h2 => (d3.block k' (Nat.lt_of_lt_of_le h2 HS.out.2)).trans (HS.out.1 k' h1 h2), Nat.le_trans HS.out.2 d3.size⟩
    simp only [Bool.true_and]
    rw [Bool.eq_iff_iff]
    simp
    try omega
end
end Go.Proofs.YtkhanbedcmmlcaaGreatDoor
/- the program's audit: all. -/
set_option linter.unusedSimpArgs false
set_option linter.unusedVariables false
namespace Go.Proofs.YtkhanbedcmmlcaaGreatDoor
open Go.RowKit

def AlRelBn (fb : Nat → Bool) (I : Nat → World → Prop) (N : Nat) (vi : Value) (wr : World) : Prop := ∃ k : Nat, k ≤ N ∧ vi = .int .i64 k ∧ allN fb k = true ∧ I k wr
set_option maxRecDepth 100000 in
theorem pallBn (N : Nat) (hN : N ≤ 1024) (v : Value) (fb : Nat → Bool) (I : Nat → World → Prop) (W : World) (h0 : I 0 W)
    (hc : ∀ (k : Nat) w, k < N → allN fb k = true → I k w → Calls Tryz.prog 111 #[v, .int .i64 k] w fun e w' => e = .returned (.bool (fb k)) ∧ I (k + 1) w') :
    Calls Tryz.prog 110 #[.int .i64 N, .func (.func 111) #[v] #[]] W fun e W' => e = .returned (.bool (allN fb N)) ∧ ∃ k, k ≤ N + 1 ∧ (allN fb N = true → k = N) ∧ I k W' := by
  have HC := Lib.hid hc
  clear hc
  go_enter Tryz.func110, Tryz.ntmps110
  go_wp2
  go_loopw [7] (fun vi wr => AlRelBn fb I N vi wr) (fun vi _ => N - (intOf vi).toNat)
  case atStart => exact ⟨0, by omega, rfl, rfl, h0⟩
  case round =>
    clear h0
    obtain ⟨k, hk, rfl, hall, hI⟩ := hrel
    by_cases hlt : k < N
    · have hkN : (k : Int) < N := by omega
      have HK := Lib.hid (HC.out k wr hlt hall hI)
      have hs : allN fb (k + 1) = (allN fb k && fb k) := rfl
      rw [hall] at hs
      have HS := Lib.hid hs
      have HNo := Lib.hid (fun (h : fb k = false) => allN_no hlt h)
      clear hs hall hI
      generalize hz : fb k = z at *
      clear hz
      go_wp2_with fail
      refine (HK.out).mono ?_
      rintro e w2 ⟨rfl, hI2⟩
      have HI2 := Lib.hid hI2
      clear hI2
      cases z
      · go_wp2
        go_ret
        refine ⟨ret_bool (HNo.out (by simp)).symm, k + 1, by omega, fun h => ?_, HI2.out⟩
        rw [HNo.out (by simp)] at h
        simp at h
      · go_wp2
        go_roundw
        case rel => exact ⟨k + 1, by omega, by go_num, by rw [HS.out]; rfl, HI2.out⟩
        case measure => simp [intOf]; omega
    · have h1 : k = N := by omega
      rw [h1] at hall hI
      have HA := Lib.hid hall
      have HI := Lib.hid hI
      clear hall hI h1
      go_wp2
      go_ret
      exact ⟨ret_bool HA.out.symm, N, by omega, fun _ => rfl, HI.out⟩
def AlRelRk (fb : Nat → Bool) (I : Nat → World → Prop) (N : Nat) (vi : Value) (wr : World) : Prop := ∃ k : Nat, k ≤ N ∧ vi = .int .i64 k ∧ allN fb k = true ∧ I k wr
set_option maxRecDepth 100000 in
theorem pallRk (N : Nat) (hN : N ≤ 1024) (v : Value) (fb : Nat → Bool) (I : Nat → World → Prop) (W : World) (h0 : I 0 W)
    (hc : ∀ (k : Nat) w, k < N → allN fb k = true → I k w → Calls Tryz.prog 112 #[v, .int .i64 k] w fun e w' => e = .returned (.bool (fb k)) ∧ I (k + 1) w') :
    Calls Tryz.prog 110 #[.int .i64 N, .func (.func 112) #[v] #[]] W fun e W' => e = .returned (.bool (allN fb N)) ∧ ∃ k, k ≤ N + 1 ∧ (allN fb N = true → k = N) ∧ I k W' := by
  have HC := Lib.hid hc
  clear hc
  go_enter Tryz.func110, Tryz.ntmps110
  go_wp2
  go_loopw [7] (fun vi wr => AlRelRk fb I N vi wr) (fun vi _ => N - (intOf vi).toNat)
  case atStart => exact ⟨0, by omega, rfl, rfl, h0⟩
  case round =>
    clear h0
    obtain ⟨k, hk, rfl, hall, hI⟩ := hrel
    by_cases hlt : k < N
    · have hkN : (k : Int) < N := by omega
      have HK := Lib.hid (HC.out k wr hlt hall hI)
      have hs : allN fb (k + 1) = (allN fb k && fb k) := rfl
      rw [hall] at hs
      have HS := Lib.hid hs
      have HNo := Lib.hid (fun (h : fb k = false) => allN_no hlt h)
      clear hs hall hI
      generalize hz : fb k = z at *
      clear hz
      go_wp2_with fail
      refine (HK.out).mono ?_
      rintro e w2 ⟨rfl, hI2⟩
      have HI2 := Lib.hid hI2
      clear hI2
      cases z
      · go_wp2
        go_ret
        refine ⟨ret_bool (HNo.out (by simp)).symm, k + 1, by omega, fun h => ?_, HI2.out⟩
        rw [HNo.out (by simp)] at h
        simp at h
      · go_wp2
        go_roundw
        case rel => exact ⟨k + 1, by omega, by go_num, by rw [HS.out]; rfl, HI2.out⟩
        case measure => simp [intOf]; omega
    · have h1 : k = N := by omega
      rw [h1] at hall hI
      have HA := Lib.hid hall
      have HI := Lib.hid hI
      clear hall hI h1
      go_wp2
      go_ret
      exact ⟨ret_bool HA.out.symm, N, by omega, fun _ => rfl, HI.out⟩
def AlRelLs (fb : Nat → Bool) (I : Nat → World → Prop) (N : Nat) (vi : Value) (wr : World) : Prop := ∃ k : Nat, k ≤ N ∧ vi = .int .i64 k ∧ allN fb k = true ∧ I k wr
set_option maxRecDepth 100000 in
theorem pallLs (N : Nat) (hN : N ≤ 1024) (v : Value) (fb : Nat → Bool) (I : Nat → World → Prop) (W : World) (h0 : I 0 W)
    (hc : ∀ (k : Nat) w, k < N → allN fb k = true → I k w → Calls Tryz.prog 113 #[.int .i64 k, v] w fun e w' => e = .returned (.bool (fb k)) ∧ I (k + 1) w') :
    Calls Tryz.prog 110 #[.int .i64 N, .func (.func 113) #[] #[v]] W fun e W' => e = .returned (.bool (allN fb N)) ∧ ∃ k, k ≤ N + 1 ∧ (allN fb N = true → k = N) ∧ I k W' := by
  have HC := Lib.hid hc
  clear hc
  go_enter Tryz.func110, Tryz.ntmps110
  go_wp2
  go_loopw [7] (fun vi wr => AlRelLs fb I N vi wr) (fun vi _ => N - (intOf vi).toNat)
  case atStart => exact ⟨0, by omega, rfl, rfl, h0⟩
  case round =>
    clear h0
    obtain ⟨k, hk, rfl, hall, hI⟩ := hrel
    by_cases hlt : k < N
    · have hkN : (k : Int) < N := by omega
      have HK := Lib.hid (HC.out k wr hlt hall hI)
      have hs : allN fb (k + 1) = (allN fb k && fb k) := rfl
      rw [hall] at hs
      have HS := Lib.hid hs
      have HNo := Lib.hid (fun (h : fb k = false) => allN_no hlt h)
      clear hs hall hI
      generalize hz : fb k = z at *
      clear hz
      go_wp2_with fail
      refine (HK.out).mono ?_
      rintro e w2 ⟨rfl, hI2⟩
      have HI2 := Lib.hid hI2
      clear hI2
      cases z
      · go_wp2
        go_ret
        refine ⟨ret_bool (HNo.out (by simp)).symm, k + 1, by omega, fun h => ?_, HI2.out⟩
        rw [HNo.out (by simp)] at h
        simp at h
      · go_wp2
        go_roundw
        case rel => exact ⟨k + 1, by omega, by go_num, by rw [HS.out]; rfl, HI2.out⟩
        case measure => simp [intOf]; omega
    · have h1 : k = N := by omega
      rw [h1] at hall hI
      have HA := Lib.hid hall
      have HI := Lib.hid hI
      clear hall hI h1
      go_wp2
      go_ret
      exact ⟨ret_bool HA.out.symm, N, by omega, fun _ => rfl, HI.out⟩
def AlRelRt (fb : Nat → Bool) (I : Nat → World → Prop) (N : Nat) (vi : Value) (wr : World) : Prop := ∃ k : Nat, k ≤ N ∧ vi = .int .i64 k ∧ allN fb k = true ∧ I k wr
set_option maxRecDepth 100000 in
theorem pallRt (N : Nat) (hN : N ≤ 1024) (v1 v2 : Value) (fb : Nat → Bool) (I : Nat → World → Prop) (W : World) (h0 : I 0 W)
    (hc : ∀ (k : Nat) w, k < N → allN fb k = true → I k w → Calls Tryz.prog 117 #[.int .i64 k, v1, v2] w fun e w' => e = .returned (.bool (fb k)) ∧ I (k + 1) w') :
    Calls Tryz.prog 110 #[.int .i64 N, .func (.func 117) #[] #[v1, v2]] W fun e W' => e = .returned (.bool (allN fb N)) ∧ ∃ k, k ≤ N + 1 ∧ (allN fb N = true → k = N) ∧ I k W' := by
  have HC := Lib.hid hc
  clear hc
  go_enter Tryz.func110, Tryz.ntmps110
  go_wp2
  go_loopw [7] (fun vi wr => AlRelRt fb I N vi wr) (fun vi _ => N - (intOf vi).toNat)
  case atStart => exact ⟨0, by omega, rfl, rfl, h0⟩
  case round =>
    clear h0
    obtain ⟨k, hk, rfl, hall, hI⟩ := hrel
    by_cases hlt : k < N
    · have hkN : (k : Int) < N := by omega
      have HK := Lib.hid (HC.out k wr hlt hall hI)
      have hs : allN fb (k + 1) = (allN fb k && fb k) := rfl
      rw [hall] at hs
      have HS := Lib.hid hs
      have HNo := Lib.hid (fun (h : fb k = false) => allN_no hlt h)
      clear hs hall hI
      generalize hz : fb k = z at *
      clear hz
      go_wp2_with fail
      refine (HK.out).mono ?_
      rintro e w2 ⟨rfl, hI2⟩
      have HI2 := Lib.hid hI2
      clear hI2
      cases z
      · go_wp2
        go_ret
        refine ⟨ret_bool (HNo.out (by simp)).symm, k + 1, by omega, fun h => ?_, HI2.out⟩
        rw [HNo.out (by simp)] at h
        simp at h
      · go_wp2
        go_roundw
        case rel => exact ⟨k + 1, by omega, by go_num, by rw [HS.out]; rfl, HI2.out⟩
        case measure => simp [intOf]; omega
    · have h1 : k = N := by omega
      rw [h1] at hall hI
      have HA := Lib.hid hall
      have HI := Lib.hid hI
      clear hall hI h1
      go_wp2
      go_ret
      exact ⟨ret_bool HA.out.symm, N, by omega, fun _ => rfl, HI.out⟩
end Go.Proofs.YtkhanbedcmmlcaaGreatDoor
/- the program's audit: bins and racks. -/
set_option linter.unusedSimpArgs false
set_option linter.unusedVariables false
namespace Go.Proofs.YtkhanbedcmmlcaaGreatDoor
open Go.RowKit
section
variable {b : Nat} {t p s : Int} {ad : Addr} {n c : Nat} {vs : List Int} {mb : Nat}
/-- one list's way, from the pages that were met before. -/
def wayN (hd : Nat) (f : Nat → Nat → Bool) (vs : List Int) (t : Int) (P : Nat) (vis : List Nat) (k : Nat) : Nat × Bool × List Nat := plL (f k) vs t P (P + 1 - vis.length) (vs.getD (hd + k) 0) 0 0 vis
def visN (hd : Nat) (f : Nat → Nat → Bool) (vs : List Int) (t : Int) (P : Nat) (vis : List Nat) : Nat → List Nat
  | 0 => vis
  | k + 1 => (wayN hd f vs t P (visN hd f vs t P vis k) k).2.2
def fitN (hd : Nat) (f : Nat → Nat → Bool) (vs : List Int) (t : Int) (P : Nat) (vis : List Nat) (k : Nat) : Bool := (wayN hd f vs t P (visN hd f vs t P vis k) k).2.1 && (wayN hd f vs t P (visN hd f vs t P vis k) k).1 == cntN (f k) P
theorem visN_nd {hd : Nat} {f : Nat → Nat → Bool} {vs : List Int} {t : Int} {P : Nat} {vis : List Nat} (h1 : vis.Nodup) (h2 : ∀ y ∈ vis, y < P) (h3 : ∀ k, 0 ≤ vs.getD k 0) : ∀ k, (visN hd f vs t P vis k).Nodup ∧ ∀ y ∈ visN hd f vs t P vis k, y < P
  | 0 => ⟨h1, h2⟩
  | k + 1 => by
    have ih := visN_nd (hd := hd) (f := f) (t := t) h1 h2 h3 k
    exact plL_nd _ _ _ _ _ ih.1 ih.2 (h3 _) (fun q part => h3 _)
set_option maxRecDepth 100000 in
theorem pbins_any (w0 W : World) (g P : Nat) (vis : List Nat) (al : List (Int × Int × Int)) (h : LS w0 b t P s ad n c vs (.slice (some ⟨g, 0, none⟩) P P) mb (mlOf vis) W) (hA : AtR w0 b mb g P al ad W) (hlen : ∀ x ∈ al, x.1 = 1 → 1 ≤ x.2.1 ∧ x.2.1 ≤ 1024) (hv : ad.block < w0.heap.size) (hnd : vis.Nodup) (hvis : ∀ y ∈ vis, y < P) :
    Calls Tryz.prog 64 #[.pointer (some ⟨b, 0, none⟩)] W fun e W' => e = .returned (.bool (allN (fitN 2 (fun k => bnB al (k : Int)) vs t P vis) 11)) ∧
      ∃ k, k ≤ 12 ∧ (allN (fitN 2 (fun k => bnB al (k : Int)) vs t P vis) 11 = true → k = 11) ∧ LS w0 b t P s ad n c vs (.slice (some ⟨g, 0, none⟩) P P) mb (mlOf (visN 2 (fun k => bnB al (k : Int)) vs t P vis k)) W' ∧ AtR w0 b mb g P al ad W' ∧ (∀ k' : Nat, k' ≠ mb → k' < W.heap.size → W'.heap[k']? = W.heap[k']?) ∧ W.heap.size ≤ W'.heap.size := by
  have hu : ∀ k, 0 ≤ vs.getD k 0 := fun k => (getD_u32 h.lk.xv.u32 k).1
  have hN := fun k => visN_nd (hd := 2) (f := fun k => bnB al (k : Int)) (vs := vs) (t := t) (P := P) hnd hvis hu k
  have H := pallBn 11 (by omega) (.pointer (some ⟨b, 0, none⟩)) (fitN 2 (fun k => bnB al (k : Int)) vs t P vis)
    (fun k w => LS w0 b t P s ad n c vs (.slice (some ⟨g, 0, none⟩) P P) mb (mlOf (visN 2 (fun k => bnB al (k : Int)) vs t P vis k)) w ∧ AtR w0 b mb g P al ad w ∧ (∀ k' : Nat, k' ≠ mb → k' < W.heap.size → w.heap[k']? = W.heap[k']?) ∧ W.heap.size ≤ w.heap.size)
    W ⟨h, hA, fun _ _ _ => rfl, Nat.le_refl _⟩ (fun k w hk _ hI => by
      obtain ⟨i1, i2, i3, i4⟩ := hI
      refine (pbinned_any w0 w k g P hk (visN 2 (fun k => bnB al (k : Int)) vs t P vis k) al i1 i2 rfl hlen hv (hN k).1 (hN k).2).mono ?_
      rintro e w' ⟨e1, e2, e3, e4, e5⟩
      exact ⟨e1, e2, e3, fun k' a1 a2 => (e4 k' a1 (Nat.lt_of_lt_of_le a2 i4)).trans (i3 k' a1 a2), Nat.le_trans i4 e5⟩)
  have HH := Lib.hid H
  clear H hN hu
  go_enter Tryz.func64, Tryz.ntmps64
  go_wp2_with fail
  refine HH.out.mono ?_
  rintro e w1 ⟨rfl, hx⟩
  have HX := Lib.hid hx
  clear hx
  go_wp2
  go_ret
  exact ⟨rfl, HX.out⟩
set_option maxRecDepth 100000 in
theorem pracks_any (w0 W : World) (g P : Nat) (vis : List Nat) (al : List (Int × Int × Int)) (h : LS w0 b t P s ad n c vs (.slice (some ⟨g, 0, none⟩) P P) mb (mlOf vis) W) (hA : AtR w0 b mb g P al ad W) (hv : ad.block < w0.heap.size) (hnd : vis.Nodup) (hvis : ∀ y ∈ vis, y < P) :
    Calls Tryz.prog 65 #[.pointer (some ⟨b, 0, none⟩)] W fun e W' => e = .returned (.bool (allN (fitN 13 (fun k => rkB vs t al (k : Int)) vs t P vis) 9)) ∧
      ∃ k, k ≤ 10 ∧ (allN (fitN 13 (fun k => rkB vs t al (k : Int)) vs t P vis) 9 = true → k = 9) ∧ LS w0 b t P s ad n c vs (.slice (some ⟨g, 0, none⟩) P P) mb (mlOf (visN 13 (fun k => rkB vs t al (k : Int)) vs t P vis k)) W' ∧ AtR w0 b mb g P al ad W' ∧ (∀ k' : Nat, k' ≠ mb → k' < W.heap.size → W'.heap[k']? = W.heap[k']?) ∧ W.heap.size ≤ W'.heap.size := by
  have hu : ∀ k, 0 ≤ vs.getD k 0 := fun k => (getD_u32 h.lk.xv.u32 k).1
  have hN := fun k => visN_nd (hd := 13) (f := fun k => rkB vs t al (k : Int)) (vs := vs) (t := t) (P := P) hnd hvis hu k
  have H := pallRk 9 (by omega) (.pointer (some ⟨b, 0, none⟩)) (fitN 13 (fun k => rkB vs t al (k : Int)) vs t P vis)
    (fun k w => LS w0 b t P s ad n c vs (.slice (some ⟨g, 0, none⟩) P P) mb (mlOf (visN 13 (fun k => rkB vs t al (k : Int)) vs t P vis k)) w ∧ AtR w0 b mb g P al ad w ∧ (∀ k' : Nat, k' ≠ mb → k' < W.heap.size → w.heap[k']? = W.heap[k']?) ∧ W.heap.size ≤ w.heap.size)
    W ⟨h, hA, fun _ _ _ => rfl, Nat.le_refl _⟩ (fun k w hk _ hI => by
      obtain ⟨i1, i2, i3, i4⟩ := hI
      refine (pracked_any w0 w k g P hk (visN 13 (fun k => rkB vs t al (k : Int)) vs t P vis k) al i1 i2 rfl hv (hN k).1 (hN k).2).mono ?_
      rintro e w' ⟨e1, e2, e3, e4, e5⟩
      exact ⟨e1, e2, e3, fun k' a1 a2 => (e4 k' a1 (Nat.lt_of_lt_of_le a2 i4)).trans (i3 k' a1 a2), Nat.le_trans i4 e5⟩)
  have HH := Lib.hid H
  clear H hN hu
  go_enter Tryz.func65, Tryz.ntmps65
  go_wp2_with fail
  refine HH.out.mono ?_
  rintro e w1 ⟨rfl, hx⟩
  have HX := Lib.hid hx
  clear hx
  go_wp2
  go_ret
  exact ⟨rfl, HX.out⟩
end
end Go.Proofs.YtkhanbedcmmlcaaGreatDoor
/- the program's audit: loose. -/
set_option linter.unusedSimpArgs false
set_option linter.unusedVariables false
namespace Go.Proofs.YtkhanbedcmmlcaaGreatDoor
open Go.RowKit
theorem heldL {w w' : World} {a0 a1 a2 a3 a5 : Addr} {u0 u1 u2 u3 u5 : Value} (hb : Below w.heap.size w w') (h : w.cell? a0 = some u0 ∧ w.cell? a1 = some u1 ∧ w.cell? a2 = some u2 ∧ w.cell? a3 = some u3 ∧ w.cell? a5 = some u5) :
    w'.cell? a0 = some u0 ∧ w'.cell? a1 = some u1 ∧ w'.cell? a2 = some u2 ∧ w'.cell? a3 = some u3 ∧ w'.cell? a5 = some u5 := by
  have cc : ∀ {a : Addr} {v : Value}, w.cell? a = some v → w'.cell? a = some v := fun hc => (hb.cell (World.block_lt_of_cell? _ _ hc)).trans hc
  exact ⟨cc h.1, cc h.2.1, cc h.2.2.1, cc h.2.2.2.1, cc h.2.2.2.2⟩
section
variable {b : Nat} {t p s : Int} {ad : Addr} {n c : Nat} {vs : List Int} {mb : Nat}
def lsB (vs : List Int) (t : Int) (vis : List Nat) (q : Nat) : Bool := decide (q ∈ vis) || (gv vs t q 2 == 0 && gv vs t q 3 == 0)
set_option maxHeartbeats 2000000 in
set_option maxRecDepth 100000 in
theorem ploose1_any (w0 W : World) (g P q kb : Nat) (vis : List Nat) (h : LS w0 b t P s ad n c vs (.slice (some ⟨g, 0, none⟩) P P) mb (mlOf vis) W) (hq : q < P) (hk : W.cell? ⟨kb, 0, none⟩ = some (.pointer (some ⟨b, 0, none⟩))) :
    Calls Tryz.prog 113 #[.int .i64 q, .pointer (some ⟨kb, 0, none⟩)] W fun e W' => e = .returned (.bool (lsB vs t vis q)) ∧ Below W.heap.size W W' := by
  obtain ⟨⟨c0, c1, c2⟩, -, -, c5⟩ := h.lk.cells
  have hx3 := h.lk.xv.cx (q := q) (part := 3) (by omega) (by omega) (by omega) (by omega)
  have hx2 := h.lk.xv.cx (q := q) (part := 2) (by omega) (by omega) (by omega) (by omega)
  have H3 := Lib.hid (fun w => ppprev_any t P s q w)
  rw [hx3.2] at H3
  have H2 := Lib.hid (fun w => ppnext_any t P s q w)
  rw [hx2.2] at H2
  have G3 := Lib.hid (fun (w : World) (h : LK b t P s ad n c vs (.slice (some ⟨g, 0, none⟩) P P) mb w) => pget_any (cix t q 3) w h hx3.1)
  have G2 := Lib.hid (fun (w : World) (h : LK b t P s ad n c vs (.slice (some ⟨g, 0, none⟩) P P) mb w) => pget_any (cix t q 2) w h hx2.1)
  have hd3 : vs.getD (cix t q 3) 0 = gv vs t q 3 := rfl
  have hd2 : vs.getD (cix t q 2) 0 = gv vs t q 2 := rfl
  rw [hd3] at G3
  rw [hd2] at G2
  have hD := h.keep (Below.refl _ _).drew
  have hlkq := run_lookup_ok (P := Tryz.prog) hD.map uMap Tryz.underlying3 (zInt _) (q : Int) false
  simp only [Bool.false_eq_true, if_false] at hlkq
  rw [assoc_ml] at hlkq
  have HD := Lib.hid hD
  unfold lsB
  clear h hx3 hx2 hd3 hd2 hD
  generalize gv vs t q 3 = pv at *
  generalize gv vs t q 2 = nv at *
  generalize cix t q 3 = x3 at *
  generalize cix t q 2 = x2 at *
  by_cases hm : q ∈ vis
  · rw [if_pos hm] at hlkq
    have hmd : decide (q ∈ vis) = true := by simpa using hm
    rw [hmd]
    clear hm hmd
    go_enter Tryz.func113, Tryz.ntmps113
    go_wp2_with fail
    refine wp_region_noPanic ?_
    refine wp_region_held_drew (S := fun w' => w'.cell? ⟨kb, 0, none⟩ = some (.pointer (some ⟨b, 0, none⟩)) ∧ w'.cell? ⟨b, 0, none⟩ = some (.int .i64 t) ∧ w'.cell? ⟨b, 1, none⟩ = some (.int .i64 P) ∧ w'.cell? ⟨b, 2, none⟩ = some (.int .i64 s) ∧ w'.cell? ⟨b, 5, none⟩ = some (.map (some mb))) (by kernel_rfl) ?_ (fun hHeld => ?_)
    · exact ⟨hk, c0, c1, c2, c5⟩
    refine wT 0 ?_
    refine wT 1 ?_
    refine wT 2 ?_
    refine wT 3 ?_
    refine wT 4 ?_
    refine wR 5 fun K hK => ?_
    go_simp
    refine hK.out _ _ ?_ (fun hHeld => ?_)
    · exact hHeld
    clear hK K
    try simp only [Act.put, zA, zB, zC, zD, zE, zF]
    refine wT 6 ?_
    refine wT 7 ?_
    refine wU 8 ?_
    refine wU 9 ?_
    refine wU 10 ?_
    refine wU 11 ?_
    refine wU 12 ?_
    refine wU 13 ?_
    refine wU 14 ?_
    refine wU 15 ?_
    refine wU 16 ?_
    refine wU 17 ?_
    refine wU 18 ?_
    refine wU 19 ?_
    refine wU 20 ?_
    refine wU 21 ?_
    refine wU 22 ?_
    refine wU 23 ?_
    refine wU 24 ?_
    refine wU 25 ?_
    refine wU 26 ?_
    refine wU 27 ?_
    refine wT 28 ?_
    refine wT 29 ?_
    refine wpAnyH_done (by kernel_rfl) (NoPanic.normal ?_) _
    go_wp2
    go_ret
    exact ⟨ret_bool (by simp), (Below.refl _ _).drew⟩
  · rw [if_neg hm] at hlkq
    have hmd : decide (q ∈ vis) = false := by simpa using hm
    rw [hmd]
    clear hm hmd
    by_cases hnv : nv = 0
    · subst hnv
      go_enter Tryz.func113, Tryz.ntmps113
      go_wp2_with fail
      refine wp_region_noPanic ?_
      refine wp_region_held_drew (S := fun w' => w'.cell? ⟨kb, 0, none⟩ = some (.pointer (some ⟨b, 0, none⟩)) ∧ w'.cell? ⟨b, 0, none⟩ = some (.int .i64 t) ∧ w'.cell? ⟨b, 1, none⟩ = some (.int .i64 P) ∧ w'.cell? ⟨b, 2, none⟩ = some (.int .i64 s) ∧ w'.cell? ⟨b, 5, none⟩ = some (.map (some mb))) (by kernel_rfl) ?_ (fun hHeld => ?_)
      · exact ⟨hk, c0, c1, c2, c5⟩
      refine wT 0 ?_
      refine wT 1 ?_
      refine wT 2 ?_
      refine wT 3 ?_
      refine wT 4 ?_
      refine wR 5 fun K hK => ?_
      go_simp
      refine hK.out _ _ ?_ (fun hHeld => ?_)
      · exact hHeld
      clear hK K
      try simp only [Act.put, zA, zB, zC, zD, zE, zF]
      refine wT 6 ?_
      refine wT 7 ?_
      refine wT 8 ?_
      refine wT 9 ?_
      refine wT 10 ?_
      refine wT 11 ?_
      refine wT 12 ?_
      refine wT 13 ?_
      refine wR 14 fun K hK => ?_
      go_simp
      refine (H2.out _).mono ?_
      rintro e w1 ⟨rfl, d1⟩
      have L1 := Lib.hid (HD.out.keep d1)
      have k1 := heldL d1 hHeld
      refine hK.out _ _ ?_ (fun hHeld => ?_)
      · exact k1
      clear hK K
      try simp only [Act.put, zA, zB, zC, zD, zE, zF]
      refine wR 15 fun K hK => ?_
      go_simp
      refine (G2.out _ L1.out.lk).mono ?_
      rintro e w2 ⟨rfl, d2⟩
      have L2 := Lib.hid (L1.out.keep d2)
      have k2 := heldL d2 hHeld
      refine hK.out _ _ ?_ (fun hHeld => ?_)
      · exact k2
      clear hK K
      try simp only [Act.put, zA, zB, zC, zD, zE, zF]
      refine wT 16 ?_
      refine wT 17 ?_
      refine wT 18 ?_
      refine wT 19 ?_
      refine wT 20 ?_
      refine wT 21 ?_
      refine wT 22 ?_
      refine wT 23 ?_
      refine wR 24 fun K hK => ?_
      go_simp
      refine (H3.out _).mono ?_
      rintro e w3 ⟨rfl, d3⟩
      have L3 := Lib.hid (L2.out.keep d3)
      have k3 := heldL d3 hHeld
      refine hK.out _ _ ?_ (fun hHeld => ?_)
      · exact k3
      clear hK K
      try simp only [Act.put, zA, zB, zC, zD, zE, zF]
      refine wR 25 fun K hK => ?_
      go_simp
      refine (G3.out _ L3.out.lk).mono ?_
      rintro e w4 ⟨rfl, d4⟩
      have k4 := heldL d4 hHeld
      refine hK.out _ _ ?_ (fun hHeld => ?_)
      · exact k4
      clear hK K
      try simp only [Act.put, zA, zB, zC, zD, zE, zF]
      refine wT 26 ?_
      refine wT 27 ?_
      refine wT 28 ?_
      refine wT 29 ?_
      refine wpAnyH_done (by kernel_rfl) (NoPanic.normal ?_) _
      go_wp2
      go_ret
      exact ⟨ret_bool (by simp), (Below.refl _ _).drew.trans (d1.trans ((d2.trans ((d3.trans (d4.mono d3.size)).mono d2.size)).mono d1.size))⟩
    · have hnb : (nv == 0) = false := by simpa using hnv
      clear hnv
      go_enter Tryz.func113, Tryz.ntmps113
      go_wp2_with fail
      refine wp_region_noPanic ?_
      refine wp_region_held_drew (S := fun w' => w'.cell? ⟨kb, 0, none⟩ = some (.pointer (some ⟨b, 0, none⟩)) ∧ w'.cell? ⟨b, 0, none⟩ = some (.int .i64 t) ∧ w'.cell? ⟨b, 1, none⟩ = some (.int .i64 P) ∧ w'.cell? ⟨b, 2, none⟩ = some (.int .i64 s) ∧ w'.cell? ⟨b, 5, none⟩ = some (.map (some mb))) (by kernel_rfl) ?_ (fun hHeld => ?_)
      · exact ⟨hk, c0, c1, c2, c5⟩
      refine wT 0 ?_
      refine wT 1 ?_
      refine wT 2 ?_
      refine wT 3 ?_
      refine wT 4 ?_
      refine wR 5 fun K hK => ?_
      go_simp
      refine hK.out _ _ ?_ (fun hHeld => ?_)
      · exact hHeld
      clear hK K
      try simp only [Act.put, zA, zB, zC, zD, zE, zF]
      refine wT 6 ?_
      refine wT 7 ?_
      refine wT 8 ?_
      refine wT 9 ?_
      refine wT 10 ?_
      refine wT 11 ?_
      refine wT 12 ?_
      refine wT 13 ?_
      refine wR 14 fun K hK => ?_
      go_simp
      refine (H2.out _).mono ?_
      rintro e w1 ⟨rfl, d1⟩
      have L1 := Lib.hid (HD.out.keep d1)
      have k1 := heldL d1 hHeld
      refine hK.out _ _ ?_ (fun hHeld => ?_)
      · exact k1
      clear hK K
      try simp only [Act.put, zA, zB, zC, zD, zE, zF]
      refine wR 15 fun K hK => ?_
      go_simp
      refine (G2.out _ L1.out.lk).mono ?_
      rintro e w2 ⟨rfl, d2⟩
      have k2 := heldL d2 hHeld
      refine hK.out _ _ ?_ (fun hHeld => ?_)
      · exact k2
      clear hK K
      try simp only [Act.put, zA, zB, zC, zD, zE, zF]
      refine wT 16 ?_
      refine wT 17 ?_
      refine wU 18 ?_
      refine wU 19 ?_
      refine wU 20 ?_
      refine wU 21 ?_
      refine wU 22 ?_
      refine wU 23 ?_
      refine wU 24 ?_
      refine wU 25 ?_
      refine wU 26 ?_
      refine wT 27 ?_
      refine wT 28 ?_
      refine wT 29 ?_
      refine wpAnyH_done (by kernel_rfl) (NoPanic.normal ?_) _
      go_wp2
      go_ret
      exact ⟨ret_bool (by simp [hnb]), (Below.refl _ _).drew.trans (d1.trans (d2.mono d1.size))⟩
set_option maxRecDepth 100000 in
theorem ploose_any (w0 W : World) (g P : Nat) (vis : List Nat) (h : LS w0 b t P s ad n c vs (.slice (some ⟨g, 0, none⟩) P P) mb (mlOf vis) W) :
    Calls Tryz.prog 66 #[.pointer (some ⟨b, 0, none⟩)] W fun e W' => e = .returned (.bool (allN (lsB vs t vis) P)) ∧ Below W.heap.size W W' := by
  obtain ⟨⟨c0, c1, c2⟩, c3, c4, c5⟩ := h.lk.cells
  have hlt := h.lk.lt
  obtain ⟨b1, b2, b3, b4, b5, b6, b7⟩ := h.lk.xv.bd
  have hb0 : Below W.heap.size W (W.alloc (.cells #[.pointer (some ⟨b, 0, none⟩)] 69)) := (Below.refl _ _).alloc (Nat.le_refl _) _
  have x0 : (W.alloc (.cells #[.pointer (some ⟨b, 0, none⟩)] 69)).cell? ⟨W.heap.size, 0, none⟩ = some (.pointer (some ⟨b, 0, none⟩)) := loc_alloc W #[.pointer (some ⟨b, 0, none⟩)] 69 0
  have H := pallLs P (by omega) (.pointer (some ⟨W.heap.size, 0, none⟩)) (lsB vs t vis)
    (fun _ w => LS w0 b t P s ad n c vs (.slice (some ⟨g, 0, none⟩) P P) mb (mlOf vis) w ∧ w.cell? ⟨W.heap.size, 0, none⟩ = some (.pointer (some ⟨b, 0, none⟩)) ∧ Below W.heap.size W w)
    _ ⟨h.keep hb0, x0, hb0⟩ (fun k w hk _ hI => by
      obtain ⟨i1, i2, i3⟩ := hI
      refine (ploose1_any w0 w g P k W.heap.size vis i1 hk i2).mono ?_
      rintro e w' ⟨e1, e2⟩
      exact ⟨e1, i1.keep e2, (e2.cell (World.block_lt_of_cell? _ _ i2)).trans i2, i3.trans (e2.mono i3.size)⟩)
  have HH := Lib.hid H
  clear H h
  go_enter Tryz.func66, Tryz.ntmps66
  go_wp2_with fail
  refine HH.out.mono ?_
  rintro e w1 ⟨rfl, k, -, -, -, -, hx⟩
  go_wp2
  go_ret
  exact ⟨rfl, hx⟩
end
end Go.Proofs.YtkhanbedcmmlcaaGreatDoor
/- regions that draw, in a round of a range over a function; the iterator over spans. -/
set_option linter.unusedSimpArgs false
set_option linter.unusedVariables false
namespace Go.Proofs.YtkhanbedcmmlcaaGreatDoor
open Go.RowKit
attribute [local go_sem] Oper.semAt_some

/-- an operation that is no defer statement. -/
def noDefer (o : Oper) : Bool := match o.op with | .defer _ => false | _ => true
theorem noDefer_spec {o : Oper} (h : noDefer o = true) : ∀ c, o.op ≠ .defer c := by
  intro c e
  unfold noDefer at h
  rw [e] at h
  simp at h
/-- the post of a way on alone. -/
def Only (Q : Exit → Act → World → Prop) : Exit → Act → World → Prop
  | .normal, a, w => Q .normal a w
  | _, _, _ => False
theorem Only.normal {Q : Exit → Act → World → Prop} {a : Act} {w : World} (h : Q .normal a w) : Only Q .normal a w := h
theorem Only.imp {Q : Exit → Act → World → Prop} : ∀ (e : Exit) (a : Act) (w : World), Only Q e a w → Q e a w := fun e a w h => by
  cases e <;> first | exact h | exact (h : False).elim
theorem noOut {Q : Exit → Act → World → Prop} : ¬ LetsOut (NoPanic (Only Q)) := fun ⟨_, _, h⟩ => h
section
variable {P : Program} {ops : Array Oper} {Q : Exit → Act → World → Prop} {md : Region.Mode} {l n : Nat}
theorem wideDepth : (Fence.wide.inRound l).depth.isSome = true → 1 ≤ n := fun h => by
  have : (Fence.wide.inRound l).depth = none := rfl
  rw [this] at h
  simp at h
theorem wpOpIn_of_wpOp (hnd : ops.all noDefer = true) (hQ : ¬ LetsOut Q) {i : Nat} {K : Act → World → Prop} {a : Act} {w : World} (h : wpOp P ops Q i K a w) : wpOpIn (Fence.wide.inRound l) n P ops Q i K a w := by
  unfold wpOp at h
  unfold wpOpIn
  cases ho : ops[i]? with
  | none => simpa [ho] using h
  | some o =>
    simp only [ho] at h ⊢
    have hno : noDefer o = true := by
      obtain ⟨hi, e⟩ := Array.getElem?_eq_some_iff.1 ho
      rw [← e]
      exact (Array.all_eq_true.1 hnd) i hi
    split
    · rename_i hw
      simp only [hw, if_true] at h
      rcases h with h | ⟨-, h⟩
      · refine ⟨fun _ _ => trivial, ?_⟩
        unfold Oper.wp at h
        rw [show (Fence.wide.inRound l).round = some l from rfl, Oper.semAt_some l _ o (noDefer_spec hno)]
        generalize (execOp a.eval o).run P w = r at *
        cases r with
        | ok x w' =>
          cases x with
          | value v => exact h
          | skip => exact h
          | defer d => exact h
          | enter f args => exact ⟨wideDepth, CallsIn.inRound l (callsIn_wide.2 h)⟩
          | row row args =>
            refine ⟨wideDepth, fun c cs _ => ?_⟩
            obtain ⟨v, w2, hR, hs⟩ := h c cs
            exact ⟨v, w2, hR, stepsIn_wide.2 hs⟩
          | round l f tmps assign body => exact (h : False).elim
          | _ => exact (h : False).elim
        | halt x w' =>
          cases x <;> first | exact h | exact (h : False).elim
      · exact absurd h hQ
    · rename_i hw
      simp only [hw] at h
      exact ⟨fun _ _ => trivial, h⟩
theorem wpAnyIn_of_wpAny (hnd : ops.all noDefer = true) (hQ : ¬ LetsOut Q) : ∀ (fuel : Nat) (listed : Array Bool) (a : Act) (w : World), wpAny P md ops Q fuel listed a w → wpAnyIn (Fence.wide.inRound l) n P md ops Q fuel listed a w
  | 0, _, _, _, h => h
  | fuel + 1, _, _, _, h => ⟨h.1, fun i hi => wpOpIn_mono (fun a' w' h' => wpAnyIn_of_wpAny hnd hQ fuel _ a' w' h') (wpOpIn_of_wpOp hnd hQ (h.2 i hi))⟩
theorem wpIn_region_held_drew {S : World → Prop} {id : Nat} {a : Act} {w : World} (hm : P.follows .mixedOrders = true) (hnd : ops.all noDefer = true) (hS : S w.drew)
    (h : S w.drew → wpAnyH P .any ops (NoPanic (Only Q)) S ops.size (Array.replicate ops.size false) a w.drew) : (Code.region id ops true).wpIn (Fence.wide.inRound l) n P Q a w :=
  wpIn_mono (wpIn_region_any hm (wpAnyIn_of_wpAny hnd noOut _ _ _ _ (wpAny_of_held _ _ _ _ (h hS)))) fun e a w hq => Only.imp e a w (NoPanic.imp e a w hq)
end
/-- a body that calls keeps what is no cells. -/
theorem Below.from {W W' : World} (h : Below W.heap.size W W') (B : Nat) : KeepsFrom B W W' :=
  ⟨h.size, fun k o _ hk _ => (h.block k (Array.getElem?_eq_some_iff.1 hk).1).trans hk⟩

def spV (x : Nat × Int × Int × Int) : Array Value := #[.int .i64 (x.1 : Int), .agg #[.int .i64 x.2.1, .int .i64 x.2.2.1, .int .i64 x.2.2.2]]
/-- the spans that begin among the first k pages. -/
def spN (al : List (Int × Int × Int)) : Nat → List (Nat × Int × Int × Int)
  | 0 => []
  | k + 1 => if (al.getD k (0, 0, 0)).1 = 0 then spN al k else spN al k ++ [(k, al.getD k (0, 0, 0))]
theorem spN_len (al : List (Int × Int × Int)) : ∀ k, (spN al k).length ≤ k
  | 0 => Nat.le_refl _
  | k + 1 => by
    have := spN_len al k
    unfold spN
    split
    · omega
    · simp; omega
/-- a span lies in the pages, and is of a kind and a class. -/
def SpIn (P : Nat) (x : Nat × Int × Int × Int) : Prop := (1 ≤ x.2.2.1 ∧ x.1 + x.2.2.1 ≤ P) ∧ (1 ≤ x.2.1 ∧ x.2.1 ≤ 3) ∧ 0 ≤ x.2.2.2 ∧ x.2.2.2 ≤ 8
abbrev SpT (P : Nat) := { x : Nat × Int × Int × Int // SpIn P x }
def raw {P : Nat} (pre : List (SpT P)) : List (Nat × Int × Int × Int) := pre.map Subtype.val
theorem raw_snoc {P : Nat} (pre : List (SpT P)) (x : SpT P) : raw (pre ++ [x]) = raw pre ++ [x.1] := by simp [raw]
section
variable {P : Nat}
theorem pspans_any (w : World) (b : Nat) :
    Calls Tryz.prog 96 #[.pointer (some ⟨b, 0, none⟩)] w fun e w' => e = .returned (.func (.func 126) #[] #[.pointer (some ⟨w.heap.size, 0, none⟩)]) ∧ w' = w.alloc (.cells #[.pointer (some ⟨b, 0, none⟩)] 69) := by
  go_enter Tryz.func96, Tryz.ntmps96
  go_wp2
  go_ret
  exact ⟨rfl, rfl⟩
set_option maxHeartbeats 2000000 in
set_option maxRecDepth 100000 in
theorem spans1_in (n : Nat) (hn : 1 ≤ n) (l Bl n₀ b g : Nat) (al : List (Int × Int × Int)) (hP : P ≤ 10000) (hlen : al.length = P) (hsp : ∀ k x, al[k]? = some x → x.1 ≠ 0 → SpIn P (k, x)) (hg : g < n₀) (J Jx : List (SpT P) → World → Prop)
    (hY : ∀ pre x W, J pre W → pre.length < P → YieldAt Fence.wide (n - 1) Tryz.prog l (spV x.1) W fun e W' =>
      (e = .returned (.bool true) ∧ J (pre ++ [x]) W' ∧ Below n₀ W W') ∨ (e = .returned (.bool false) ∧ Jx (pre ++ [x]) W'))
    (W : World) (hn₀ : n₀ ≤ W.heap.size) (hJ : AbidesFrom W.heap.size J) (hBl : W.cell? ⟨Bl, 0, none⟩ = some (.pointer (some ⟨b, 0, none⟩))) (h4 : W.cell? ⟨b, 4, none⟩ = some (.slice (some ⟨g, 0, none⟩) P P))
    (hc : ∀ k x, al[k]? = some x → W.cell? ⟨g, k * 3, none⟩ = some (.int .i64 x.1) ∧ W.cell? ⟨g, k * 3 + 1, none⟩ = some (.int .i64 x.2.1) ∧ W.cell? ⟨g, k * 3 + 2, none⟩ = some (.int .i64 x.2.2)) (h0 : J [] W) :
    CallsIn Fence.wide n Tryz.prog 126 #[.func (.yield l) #[] #[], .pointer (some ⟨Bl, 0, none⟩)] W fun e W' => (∃ v, e = .returned v) ∧
      ((∃ ys, raw ys = spN al P ∧ J ys W') ∨ (∃ pre, (∃ k, k ≤ P ∧ raw pre = spN al k) ∧ Jx pre W')) := by
  refine callsIn_of_wp Tryz.func126 rfl trivial ?_ rfl
  simp only [Tryz.ntmps126, List.size_toArray, List.length_cons, List.length_nil, Nat.reduceAdd, Nat.reduceSub, Array.replicate_succ, Array.replicate_zero, List.push_toArray, List.append_toArray, List.nil_append, List.cons_append]
  gi_wp2
  gi_loopw [10] (fun i wr => ∃ (k : Nat) (pre : List (SpT P)), k ≤ P ∧ i = .int .i64 k ∧ raw pre = spN al k ∧ J pre wr ∧ Below n₀ W wr ∧ W.heap.size ≤ wr.heap.size)
    (fun i _ => P - (intOf i).toNat)
  case atStart => exact ⟨0, [], Nat.zero_le _, rfl, rfl, h0, Below.refl _ _, Nat.le_refl _⟩
  case round =>
    obtain ⟨k, pre, hk, rfl, hpre, hJs, hnx, hsz⟩ := hrel
    by_cases hlt : k < P
    · obtain ⟨⟨K, L, C⟩, hx⟩ : ∃ x, al[k]? = some x := ⟨_, List.getElem?_eq_getElem (by omega)⟩
      obtain ⟨p0, p1, p2⟩ := hc k _ hx
      have q0 : wr.cell? ⟨g, k * 3, none⟩ = some (.int .i64 K) := (hnx.cell (p := ⟨g, k * 3, none⟩) hg).trans p0
      have q1 : wr.cell? ⟨g, k * 3 + 1, none⟩ = some (.int .i64 L) := (hnx.cell (p := ⟨g, k * 3 + 1, none⟩) hg).trans p1
      have q2 : wr.cell? ⟨g, k * 3 + 2, none⟩ = some (.int .i64 C) := (hnx.cell (p := ⟨g, k * 3 + 2, none⟩) hg).trans p2
      have hgd : al.getD k (0, 0, 0) = (K, L, C) := by rw [List.getD_eq_getElem?_getD, hx]; rfl
      have hJa : J pre (wr.alloc (.cells #[.int .i64 K, .int .i64 L, .int .i64 C] 40)) := hJ _ _ _ none hJs (World.grownBy_alloc _ _ none) (fun r e => by cases e)
      have hba : Below n₀ wr (wr.alloc (.cells #[.int .i64 K, .int .i64 L, .int .i64 C] 40)) := (Below.refl _ _).alloc (Nat.le_trans hn₀ hsz) _
      have i4 := loc_alloc wr #[.int .i64 K, .int .i64 L, .int .i64 C] 40
      by_cases hK : K = 0
      · have hs : spN al (k + 1) = spN al k := by rw [spN, hgd, if_pos hK]
        subst hK
        gi_wp2
        refine ⟨fun _ h => (by cases h), ?_⟩
        gi_wp2
        go_roundw
        case rel => exact ⟨k + 1, pre, by omega, by go_num, by rw [hs]; exact hpre, hJa, hnx.trans hba, by simp; omega⟩
        case measure => simp [intOf]; omega
      · have hs : spN al (k + 1) = spN al k ++ [(k, K, L, C)] := by rw [spN, hgd, if_neg hK]
        have hKb : (K != 0) = true := by simpa using hK
        have hpl : pre.length = (spN al k).length := by rw [← hpre]; simp [raw]
        obtain ⟨fn, tmps, assign, body, hy, hR⟩ := hY _ ⟨(k, K, L, C), hsp k _ hx hK⟩ _ hJa (by have := spN_len al k; omega)
        dsimp only [spV] at hy
        gi_wp2
        refine hR.mono ?_
        rintro e W3 (⟨rfl, hJ3, hk3⟩ | ⟨rfl, hJx3⟩)
        · gi_wp2
          go_roundw
          case rel => exact ⟨k + 1, _, by omega, by go_num, by rw [hs, raw_snoc, hpre], hJ3, (hnx.trans hba).trans hk3, by have := hk3.size; simp at this; omega⟩
          case measure => simp [intOf]; omega
        · gi_wp2
          refine bodyPost_ret (results_none rfl _ _ _) rfl ?_
          exact ⟨⟨_, rfl⟩, .inr ⟨_, ⟨k + 1, by omega, by rw [hs, raw_snoc, hpre]⟩, hJx3⟩⟩
    · obtain rfl : k = P := by omega
      gi_wp2
      go_end0
      exact ⟨⟨_, rfl⟩, .inl ⟨_, hpre, hJs⟩⟩
theorem spans_stops (n : Nat) (hn : 1 ≤ n) (Bl n₀ b g : Nat) (al : List (Int × Int × Int)) (hP : P ≤ 10000) (hlen : al.length = P) (hsp : ∀ k x, al[k]? = some x → x.1 ≠ 0 → SpIn P (k, x)) (w : World) (hBl0 : Bl < w.heap.size) (hn₀ : n₀ ≤ w.heap.size) (hg : g < n₀) (hb : b < n₀) (hBl : w.cell? ⟨Bl, 0, none⟩ = some (.pointer (some ⟨b, 0, none⟩))) (h4 : w.cell? ⟨b, 4, none⟩ = some (.slice (some ⟨g, 0, none⟩) P P))
    (hc : ∀ k x, al[k]? = some x → w.cell? ⟨g, k * 3, none⟩ = some (.int .i64 x.1) ∧ w.cell? ⟨g, k * 3 + 1, none⟩ = some (.int .i64 x.2.1) ∧ w.cell? ⟨g, k * 3 + 2, none⟩ = some (.int .i64 x.2.2)) :
    SeqStopsK Fence.wide n Tryz.prog 126 #[.pointer (some ⟨Bl, 0, none⟩)] (fun x : SpT P => spV x.1) (Below n₀) (fun ys => raw ys = spN al P) (fun pre => ∃ k, k ≤ P ∧ raw pre = spN al k) P w := fun l J Jx W hW hJ _ hY h0 => by
  have hsz := hW.size
  exact spans1_in n hn l Bl n₀ b g al hP hlen hsp hg J Jx hY W (by omega) hJ ((hW.cell (p := ⟨Bl, 0, none⟩) hBl0).trans hBl) ((hW.cell (p := ⟨b, 4, none⟩) (by show b < _; omega)).trans h4)
    (fun k x hx => by
      obtain ⟨a0, a1, a2⟩ := hc k x hx
      exact ⟨(hW.cell (p := ⟨g, k * 3, none⟩) (by show g < _; omega)).trans a0, (hW.cell (p := ⟨g, k * 3 + 1, none⟩) (by show g < _; omega)).trans a1, (hW.cell (p := ⟨g, k * 3 + 2, none⟩) (by show g < _; omega)).trans a2⟩) h0
end
end Go.Proofs.YtkhanbedcmmlcaaGreatDoor
/- the program's audit: apart. -/
set_option linter.unusedSimpArgs false
set_option linter.unusedVariables false
namespace Go.Proofs.YtkhanbedcmmlcaaGreatDoor
open Go.RowKit
attribute [local go_sem] Oper.semAt_some

def apS (s : Int × Bool) (x : Nat × Int × Int × Int) : Int × Bool := (x.2.1, s.2 && !(x.2.1 == 1 && s.1 == 1))
def apL (pre : List (Nat × Int × Int × Int)) : Int × Bool := pre.foldl apS (0, true)
theorem apL_snoc (pre : List (Nat × Int × Int × Int)) (x : Nat × Int × Int × Int) : apL (pre ++ [x]) = apS (apL pre) x := by simp [apL]
theorem spN_pre (al : List (Int × Int × Int)) (k : Nat) : ∀ m, ∃ r, spN al (k + m) = spN al k ++ r
  | 0 => ⟨[], by simp⟩
  | m + 1 => by
    obtain ⟨r, h⟩ := spN_pre al k m
    rw [show k + (m + 1) = (k + m) + 1 from rfl, spN, h]
    split
    · exact ⟨r, rfl⟩
    · exact ⟨r ++ [(k + m, al.getD (k + m) (0, 0, 0))], by simp⟩
theorem apS_false : ∀ (r : List (Nat × Int × Int × Int)) (s : Int × Bool), s.2 = false → (r.foldl apS s).2 = false
  | [], s, h => h
  | x :: r, s, h => by
    rw [List.foldl_cons]
    exact apS_false r _ (by simp [apS, h])
theorem apL_false {al : List (Int × Int × Int)} {k P : Nat} (hk : k ≤ P) (h : (apL (spN al k)).2 = false) : (apL (spN al P)).2 = false := by
  obtain ⟨r, e⟩ := spN_pre al k (P - k)
  rw [show P = k + (P - k) by omega, e]
  unfold apL
  rw [List.foldl_append]
  exact apS_false _ _ h
/-- the cells of a row of infos. -/
theorem AtR.cells {w0 : World} {b mb g P : Nat} {al : List (Int × Int × Int)} {ad : Addr} {W : World} (h : AtR w0 b mb g P al ad W) : ∀ k x, al[k]? = some x → W.cell? ⟨g, k * 3, none⟩ = some (.int .i64 x.1) ∧ W.cell? ⟨g, k * 3 + 1, none⟩ = some (.int .i64 x.2.1) ∧ W.cell? ⟨g, k * 3 + 2, none⟩ = some (.int .i64 x.2.2) := fun k x hx => by
  obtain ⟨p0, p1, p2⟩ := partCells_at al k x hx
  have hpl := h.row.1
  have hal : k < al.length := (List.getElem?_eq_some_iff.1 hx).1
  have hl := partCells_len al
  exact ⟨(h.row.cellAt (k * 3) (by omega)).trans p0, (h.row.cellAt (k * 3 + 1) (by omega)).trans p1, (h.row.cellAt (k * 3 + 2) (by omega)).trans p2⟩
theorem AtR.len {w0 : World} {b mb g P : Nat} {al : List (Int × Int × Int)} {ad : Addr} {W : World} (h : AtR w0 b mb g P al ad W) : al.length = P := by
  have hpl := h.row.1
  have hl := partCells_len al
  omega
/-- a loop variable's box. -/
def InfoAt (W : World) (B : Nat) (x : Nat × Int × Int × Int) : Prop := W.heap[B]? = some (.cells #[.int .i64 x.2.1, .int .i64 x.2.2.1, .int .i64 x.2.2.2] 40)
theorem InfoAt.own {n : Nat} {B : Nat} {x : Nat × Int × Int × Int} : OwnFrom n (fun (_ : Unit) W => InfoAt W B x) := fun _ X Y row hs hg hr => by
  refine (hg.block B (Array.getElem?_eq_some_iff.1 hs).1 (fun e => ?_)).trans hs
  obtain ⟨_, o, ho, hc⟩ := hr B e.symm
  rw [show X.heap[B]? = _ from hs] at ho
  cases ho
  cases hc
theorem InfoAt.cell {W : World} {B : Nat} {x : Nat × Int × Int × Int} (h : InfoAt W B x) : W.cell? ⟨B, 0, none⟩ = some (.int .i64 x.2.1) ∧ W.cell? ⟨B, 1, none⟩ = some (.int .i64 x.2.2.1) ∧ W.cell? ⟨B, 2, none⟩ = some (.int .i64 x.2.2.2) :=
  ⟨cell?_of_heap h, cell?_of_heap h, cell?_of_heap h⟩
section
variable {b : Nat} {t s : Int} {ad : Addr} {n c : Nat} {vs : List Int} {mb : Nat}
set_option maxHeartbeats 4000000 in
set_option maxRecDepth 100000 in
theorem papart_any (w0 w : World) (ml : List (Int × Int)) (g P : Nat) (al : List (Int × Int × Int)) (h : LS w0 b t P s ad n c vs (.slice (some ⟨g, 0, none⟩) P P) mb ml w) (hA : AtR w0 b mb g P al ad w) (hsp : ∀ k x, al[k]? = some x → x.1 ≠ 0 → SpIn P (k, x)) :
    Calls Tryz.prog 62 #[.pointer (some ⟨b, 0, none⟩)] w fun e W' => e = .returned (.bool (apL (spN al P)).2) ∧ Below w.heap.size w W' := by
  obtain ⟨b1, b2, b3, b4, b5, b6, b7⟩ := h.lk.xv.bd
  have hblt := h.lk.lt
  have hglt : g < w.heap.size := ownsRow_lt hA.row rfl
  have hc4 := h.lk.cells.2.2.1
  have hcs := hA.cells
  have hal := hA.len
  clear h hA
  refine (callsIn_wide (n := 10)).1 ?_
  refine callsIn_of_wp_marks Tryz.func62 rfl trivial ?_ rfl
  simp only [Tryz.ntmps62, List.size_toArray, List.length_cons, List.length_nil, Nat.reduceAdd, Nat.reduceSub, Array.replicate_succ, Array.replicate_zero, List.push_toArray, List.append_toArray, List.nil_append, List.cons_append]
  gi_wp2_with (refine ⟨trivial, ?_⟩; gi_at_call 96; refine (callsIn_wide.2 (pspans_any _ b)).mono ?_; rintro e w' ⟨rfl, rfl⟩)
  have bR := ((Boxed.new w 4 (.bool false)).alloc (.cells #[.int .i64 0] 3)).alloc (.cells #[.pointer (some ⟨b, 0, none⟩)] 69)
  have bW := (Boxed.new (w.alloc (.cells #[.bool false] 4)) 3 (.int .i64 0)).alloc (.cells #[.pointer (some ⟨b, 0, none⟩)] 69)
  have bL := Boxed.new ((w.alloc (.cells #[.bool false] 4)).alloc (.cells #[.int .i64 0] 3)) 69 (.pointer (some ⟨b, 0, none⟩))
  simp only [World.size_alloc] at bW bL
  have hB0 : Below w.heap.size w (((w.alloc (.cells #[.bool false] 4)).alloc (.cells #[.int .i64 0] 3)).alloc (.cells #[.pointer (some ⟨b, 0, none⟩)] 69)) := (((Below.refl _ w).alloc (Nat.le_refl _) _).alloc (by simp) _).alloc (by simp; omega) _
  have hsz : (((w.alloc (.cells #[.bool false] 4)).alloc (.cells #[.int .i64 0] 3)).alloc (.cells #[.pointer (some ⟨b, 0, none⟩)] 69)).heap.size = w.heap.size + 3 := by simp
  obtain ⟨W0, hW0⟩ : ∃ W0, ((w.alloc (.cells #[.bool false] 4)).alloc (.cells #[.int .i64 0] 3)).alloc (.cells #[.pointer (some ⟨b, 0, none⟩)] 69) = W0 := ⟨_, rfl⟩
  rw [hW0] at bR bW bL hB0 hsz ⊢
  clear hW0
  refine wpIn_rangeFunc_ownH rfl (by omega) (gf := 126) (lb := #[.pointer (some ⟨w.heap.size + 1 + 1, 0, none⟩)]) rfl trivial (enters_of Tryz.func126 (by kernel_rfl) rfl)
    (spans_stops _ (by omega) (w.heap.size + 1 + 1) w.heap.size b g al (P := P) (by omega) hal hsp W0 (by omega) (by omega) hglt hblt bL.cell ((hB0.cell (p := ⟨b, 4, none⟩) hblt).trans hc4)
      (fun k x hx => ⟨(hB0.cell (p := ⟨g, k * 3, none⟩) hglt).trans (hcs k x hx).1, (hB0.cell (p := ⟨g, k * 3 + 1, none⟩) hglt).trans (hcs k x hx).2.1, (hB0.cell (p := ⟨g, k * 3 + 2, none⟩) hglt).trans (hcs k x hx).2.2⟩))
    belowK_t (belowK_b (by omega)) (Below.refl _ _) (fun _ => rfl)
    (fun pre W => (Boxed W w.heap.size 4 (.bool false) ∧ (Boxed W (w.heap.size + 1) 3 (.int .i64 (apL (raw pre)).1) ∧ (apL (raw pre)).2 = true)) ∧ Below w.heap.size w W)
    (fun cd pre W => (Boxed W w.heap.size 4 (.bool false) ∧ (cd = .ret ∧ (apL (raw pre)).2 = false)) ∧ Below w.heap.size w W)
    (OwnFrom.and (OwnFrom.and (Own.from (boxed_own _ _ _) _) (OwnFrom.and (Own.from (boxed_own _ _ _) _) (ownFrom_pure _ _))) (ownFrom_below (Nat.le_refl _) (by omega)))
    (fun cd => OwnFrom.and (OwnFrom.and (Own.from (boxed_own _ _ _) _) (ownFrom_pure _ _)) (ownFrom_below (Nat.le_refl _) (by omega)))
    ⟨⟨bR, bW, rfl⟩, hB0⟩
    (fun x a' W => ∃ Bx, w.heap.size + 1 < Bx ∧ InfoAt W Bx x.1 ∧ a' = { tmps := #[.pointer (some ⟨b, 0, none⟩), undef, .pointer (some ⟨w.heap.size, 0, none⟩), .pointer (some ⟨w.heap.size + 1, 0, none⟩), undef, .pointer (some ⟨Bx, 0, none⟩), .pointer (some ⟨b, 0, none⟩), .func (.func 126) #[] #[.pointer (some ⟨w.heap.size + 1 + 1, 0, none⟩)], .int .i64 (x.1.1 : Int), .agg #[.int .i64 x.1.2.1, .int .i64 x.1.2.2.1, .int .i64 x.1.2.2.2], undef, undef, undef, undef, undef, undef, undef, undef, undef], defers := [] })
    (fun x a' _ X Y row hs hg hr => by obtain ⟨Bx, h1, h2, h3⟩ := hs; exact ⟨Bx, h1, InfoAt.own () X Y row h2 hg hr, h3⟩)
    ?assign ?body ?done ?stop
  case assign =>
    rintro l pre x W K ⟨⟨i1, i2, i3⟩, iB⟩ hK
    have hszW := iB.size
    have hw2 := i2.lt
    dsimp only [spV]
    gi_wp2
    refine hK _ _ ((KeepsOthers.alloc _ _).from _) ((Below.refl _ W).alloc hszW _) ⟨⟨i1.alloc _, i2.alloc _, i3⟩, iB.alloc hszW _⟩ ⟨W.heap.size, by omega, World.alloc_heap_new W _, rfl⟩
  case body =>
    rintro l pre x a' W hl _ ⟨⟨i1, i2, i3⟩, iB⟩ ⟨Bx, hBx, hI, rfl⟩ hlt
    obtain ⟨q0, q1, q2⟩ := hI.cell
    have c1 := i1.cell
    have f1 := i1.frozen
    have c2 := i2.cell
    have f2 := i2.frozen
    have hsn := apL_snoc (raw pre) x.1
    rw [← raw_snoc] at hsn
    generalize pre ++ [x] = pn at *
    obtain ⟨⟨p, K, L, C⟩, hx⟩ := x
    dsimp only at hsn q0 q1 q2 ⊢
    clear hI hx
    unfold apS at hsn
    rw [i3] at hsn
    generalize hwas : (apL (raw pre)).1 = wv at *
    by_cases hK : K = 1
    · by_cases hw : wv = 1
      · rw [hK, hw] at hsn
        subst hK hw
        gi_wp2
        exact ⟨(KeepsOthers.setCell _ _ _).from _, ⟨i1.set _, rfl, by rw [hsn]; rfl⟩, iB.setCell (p := ⟨w.heap.size, 0, none⟩) (Nat.le_refl _) _⟩
      · have hwb : (wv == 1) = false := by simpa using hw
        rw [hwb] at hsn
        subst hK
        gi_wp2
        exact ⟨(KeepsOthers.setCell _ _ _).from _, (Below.refl _ W).setCell (p := ⟨w.heap.size + 1, 0, none⟩) (by show w.heap.size ≤ w.heap.size + 1; omega) _, ⟨i1.other (by omega) _, by rw [hsn]; exact i2.set _, by rw [hsn]; simp⟩, iB.setCell (p := ⟨w.heap.size + 1, 0, none⟩) (by show w.heap.size ≤ w.heap.size + 1; omega) _⟩
    · have hKb : (K == 1) = false := by simpa using hK
      rw [hKb] at hsn
      gi_wp2
      exact ⟨(KeepsOthers.setCell _ _ _).from _, (Below.refl _ W).setCell (p := ⟨w.heap.size + 1, 0, none⟩) (by show w.heap.size ≤ w.heap.size + 1; omega) _, ⟨i1.other (by omega) _, by rw [hsn]; exact i2.set _, by rw [hsn]; simp⟩, iB.setCell (p := ⟨w.heap.size + 1, 0, none⟩) (by show w.heap.size ≤ w.heap.size + 1; omega) _⟩
  case done =>
    rintro D ys W hD hys ⟨⟨i1, i2, i3⟩, iB⟩ hK
    rw [hys] at i2 i3
    have c1 := i1.cell
    have f1 := i1.frozen
    gi_wp2
    have hK' := (KeepsOthers.setCell W ⟨w.heap.size, 0, none⟩ (.bool true)).same D _ hK rfl
    refine ⟨by simp, .inl ⟨_, _, rfl, run_takeDeferred hK', ?_⟩⟩
    have hc5 := cell_kept (i1.set (.bool true)).cell (grownBy_putObj' _ D (.deferred none)) (fun r e => by cases e; exact ⟨_, hK', rfl⟩)
    refine ⟨.bool true, ?_, ?_, (iB.setCell (p := ⟨w.heap.size, 0, none⟩) (Nat.le_refl _) _).trans (belowK_b (w := w) (Nat.le_refl _) _ D _ _ (by omega) hK' rfl rfl)⟩
    · simp [results, Tryz.f62, go_sem, hc5]
    · exact ret_bool i3.symm
  case stop =>
    rintro D cd pre W hD ⟨k, hk, hpre⟩ ⟨⟨i1, rfl, i3⟩, iB⟩ hK
    rw [hpre] at i3
    have c1 := i1.cell
    gi_wp2
    refine ⟨by simp, .inl ⟨_, _, rfl, run_takeDeferred hK, ?_⟩⟩
    have hc5 := cell_kept i1.cell (grownBy_putObj' _ D (.deferred none)) (fun r e => by cases e; exact ⟨_, hK, rfl⟩)
    refine ⟨.bool false, ?_, ?_, iB.trans (belowK_b (w := w) (Nat.le_refl _) _ D _ _ (by omega) hK rfl rfl)⟩
    · simp [results, Tryz.f62, go_sem, hc5]
    · exact ret_bool (apL_false hk i3).symm
end
end Go.Proofs.YtkhanbedcmmlcaaGreatDoor
/- the program's audit: feet. -/
set_option linter.unusedSimpArgs false
set_option linter.unusedVariables false
namespace Go.Proofs.YtkhanbedcmmlcaaGreatDoor
open Go.RowKit
attribute [local go_sem] Oper.semAt_some

theorem made_u32 (N : Nat) : madeCells #[.int .u32 0] N = (uints (List.replicate N 0)).toArray := by
  apply Array.ext'
  simp [madeCells, uints, Nat.mod_one]
  exact List.eq_replicate_iff.2 ⟨by simp, by simp⟩
/-- what the feet of pages must be, by the spans so far. -/
def wtS (ws : List Int) (x : Nat × Int × Int × Int) : List Int := ws.set (x.1 + x.2.2.1 - 1).toNat (x.1 + 1)
def wtL (P : Nat) (pre : List (Nat × Int × Int × Int)) : List Int := pre.foldl wtS (List.replicate P 0)
theorem wtL_snoc (P : Nat) (pre : List (Nat × Int × Int × Int)) (x : Nat × Int × Int × Int) : wtL P (pre ++ [x]) = wtS (wtL P pre) x := by simp [wtL]
theorem wtL_len (P : Nat) (pre : List (Nat × Int × Int × Int)) : (wtL P pre).length = P := by
  unfold wtL
  have : ∀ (l : List (Nat × Int × Int × Int)) (ws : List Int), (l.foldl wtS ws).length = ws.length := by
    intro l
    induction l with
    | nil => intro ws; rfl
    | cons x l ih => intro ws; rw [List.foldl_cons, ih]; simp [wtS]
  rw [this]
  simp
def WtAt (W : World) (g : Nat) (ws : List Int) : Prop := W.heap[g]? = some (.cells (uints ws).toArray 28)
theorem WtAt.own {β : Type} {n : Nat} {g : Nat} {f : β → List Int} : OwnFrom n (fun (x : β) W => WtAt W g (f x)) := fun x X Y row hs hg hr => by
  refine (hg.block g (Array.getElem?_eq_some_iff.1 hs).1 (fun e => ?_)).trans hs
  obtain ⟨_, o, ho, hc⟩ := hr g e.symm
  rw [show X.heap[g]? = _ from hs] at ho
  cases ho
  cases hc
theorem WtAt.lt {W : World} {g : Nat} {ws : List Int} (h : WtAt W g ws) : g < W.heap.size := (Array.getElem?_eq_some_iff.1 h).1
theorem WtAt.alloc {W : World} {g : Nat} {ws : List Int} (h : WtAt W g ws) (o : Obj) : WtAt (W.alloc o) g ws := (Below.heap_alloc _ _ _ h.lt).trans h
theorem WtAt.cell {W : World} {g : Nat} {ws : List Int} (h : WtAt W g ws) {k : Nat} (hk : k < ws.length) : W.cell? ⟨g, k, none⟩ = some (.int .u32 (ws.getD k 0)) := by
  refine (cell?_of_heap h).trans ?_
  rw [List.getElem?_toArray]
  unfold uints
  rw [List.getElem?_map, List.getElem?_eq_getElem hk, List.getD_eq_getElem?_getD, List.getElem?_eq_getElem hk]
  rfl
theorem WtAt.frozen {W : World} {g : Nat} {ws : List Int} (h : WtAt W g ws) (k : Nat) : W.frozen? ⟨g, k, none⟩ = false := frozen?_of_heap h
theorem WtAt.set {W : World} {g : Nat} {ws : List Int} (h : WtAt W g ws) (k : Nat) (x : Int) : WtAt (W.setCell ⟨g, k, none⟩ (.int .u32 x)) g (ws.set k x) := by
  refine (heap_setCell_same h).trans ?_
  unfold uints
  simp [List.map_set]
theorem WtAt.keep {W W' : World} {g : Nat} {ws : List Int} (h : WtAt W g ws) (hb : Below W.heap.size W W') : WtAt W' g ws := (hb.block g h.lt).trans h
theorem Boxed.otherB {W : World} {B B' o : Nat} {t : TypeId} {v : Value} (h : Boxed W B t v) (hne : B ≠ B') (u : Value) : Boxed (W.setCell ⟨B', o, none⟩ u) B t v := (heap_setCell_other hne).trans h
section
variable {b : Nat} {t s : Int} {ad : Addr} {n c : Nat} {vs : List Int} {mb : Nat}
def FtRel (vs : List Int) (t : Int) (ws : List Int) (g P D : Nat) (w0 : World) (W : World) (i : Value) (wr : World) : Prop :=
  ∃ k : Nat, k ≤ P ∧ i = .int .i64 k ∧ allN (fun q => gv vs t q 1 == ws.getD q 0) k = true ∧ WtAt wr g ws ∧ wr.heap[D]? = some (.deferred (some [])) ∧ Below W.heap.size W wr ∧ Below w0.heap.size w0 wr
set_option maxHeartbeats 4000000 in
set_option maxRecDepth 100000 in
theorem pfeet_any (w0 w : World) (ml : List (Int × Int)) (g P : Nat) (al : List (Int × Int × Int)) (h : LS w0 b t P s ad n c vs (.slice (some ⟨g, 0, none⟩) P P) mb ml w) (hA : AtR w0 b mb g P al ad w) (hsp : ∀ k x, al[k]? = some x → x.1 ≠ 0 → SpIn P (k, x)) :
    Calls Tryz.prog 61 #[.pointer (some ⟨b, 0, none⟩)] w fun e W' => e = .returned (.bool (allN (fun q => gv vs t q 1 == (wtL P (spN al P)).getD q 0) P)) ∧ Below w.heap.size w W' := by
  obtain ⟨b1, b2, b3, b4, b5, b6, b7⟩ := h.lk.xv.bd
  have hblt := h.lk.lt
  have hglt : g < w.heap.size := ownsRow_lt hA.row rfl
  obtain ⟨⟨e0, e1, e2⟩, -, hc4, -⟩ := h.lk.cells
  have hcs := hA.cells
  have hal := hA.len
  have HL := Lib.hid h
  clear h hA
  have hmk : ∀ w : World, (Instr.makeSlice 24 (.int .i64 (P : Int)) (.int .i64 (P : Int))).run Tryz.prog w = .ok (.slice (some ⟨w.heap.size, 0, none⟩) P P) (w.alloc (.cells (madeCells #[.int .u32 0] P) 28)) := run_make_row' (P := Tryz.prog) 24 28 (.int .u32 0) 4 Tryz.underlying24 infoU32 rfl .i64 .i64 P (by omega) (by omega)
  simp only [made_u32] at hmk
  refine (callsIn_wide (n := 10)).1 ?_
  refine callsIn_of_wp_marks Tryz.func61 rfl trivial ?_ rfl
  simp only [Tryz.ntmps61, List.size_toArray, List.length_cons, List.length_nil, Nat.reduceAdd, Nat.reduceSub, Array.replicate_succ, Array.replicate_zero, List.push_toArray, List.append_toArray, List.nil_append, List.cons_append]
  gi_wp2_with (refine ⟨trivial, ?_⟩; gi_at_call 96; refine (callsIn_wide.2 (pspans_any _ b)).mono ?_; rintro e w' ⟨rfl, rfl⟩)
  have bG : WtAt (((w.alloc (.cells (uints (List.replicate P 0)).toArray 28)).alloc (.cells #[.slice (some ⟨w.heap.size, 0, none⟩) P P] 24)).alloc (.cells #[.pointer (some ⟨b, 0, none⟩)] 69)) w.heap.size (List.replicate P 0) := WtAt.alloc (WtAt.alloc (World.alloc_heap_new w _) _) _
  have bV := (Boxed.new (w.alloc (.cells (uints (List.replicate P 0)).toArray 28)) 24 (.slice (some ⟨w.heap.size, 0, none⟩) P P)).alloc (.cells #[.pointer (some ⟨b, 0, none⟩)] 69)
  have bL := Boxed.new ((w.alloc (.cells (uints (List.replicate P 0)).toArray 28)).alloc (.cells #[.slice (some ⟨w.heap.size, 0, none⟩) P P] 24)) 69 (.pointer (some ⟨b, 0, none⟩))
  simp only [World.size_alloc] at bV bL
  have hB0 : Below w.heap.size w (((w.alloc (.cells (uints (List.replicate P 0)).toArray 28)).alloc (.cells #[.slice (some ⟨w.heap.size, 0, none⟩) P P] 24)).alloc (.cells #[.pointer (some ⟨b, 0, none⟩)] 69)) := (((Below.refl _ w).alloc (Nat.le_refl _) _).alloc (by simp) _).alloc (by simp; omega) _
  have hsz : (((w.alloc (.cells (uints (List.replicate P 0)).toArray 28)).alloc (.cells #[.slice (some ⟨w.heap.size, 0, none⟩) P P] 24)).alloc (.cells #[.pointer (some ⟨b, 0, none⟩)] 69)).heap.size = w.heap.size + 3 := by simp
  obtain ⟨W0, hW0⟩ : ∃ W0, ((w.alloc (.cells (uints (List.replicate P 0)).toArray 28)).alloc (.cells #[.slice (some ⟨w.heap.size, 0, none⟩) P P] 24)).alloc (.cells #[.pointer (some ⟨b, 0, none⟩)] 69) = W0 := ⟨_, rfl⟩
  rw [hW0] at bG bV bL hB0 hsz ⊢
  clear hW0
  refine wpIn_rangeFunc_ownH rfl (by omega) (gf := 126) (lb := #[.pointer (some ⟨w.heap.size + 1 + 1, 0, none⟩)]) rfl trivial (enters_of Tryz.func126 (by kernel_rfl) rfl)
    (spans_stops _ (by omega) (w.heap.size + 1 + 1) w.heap.size b g al (P := P) (by omega) hal hsp W0 (by omega) (by omega) hglt hblt bL.cell ((hB0.cell (p := ⟨b, 4, none⟩) hblt).trans hc4)
      (fun k x hx => ⟨(hB0.cell (p := ⟨g, k * 3, none⟩) hglt).trans (hcs k x hx).1, (hB0.cell (p := ⟨g, k * 3 + 1, none⟩) hglt).trans (hcs k x hx).2.1, (hB0.cell (p := ⟨g, k * 3 + 2, none⟩) hglt).trans (hcs k x hx).2.2⟩))
    belowK_t (belowK_b (by omega)) (Below.refl _ _) (fun _ => rfl)
    (fun pre W => (WtAt W w.heap.size (wtL P (raw pre)) ∧ Boxed W (w.heap.size + 1) 24 (.slice (some ⟨w.heap.size, 0, none⟩) P P)) ∧ Below w.heap.size w W)
    (fun _ _ _ => False)
    (OwnFrom.and (OwnFrom.and WtAt.own (Own.from (boxed_own _ _ _) _)) (ownFrom_below (Nat.le_refl _) (by omega)))
    (fun _ _ _ _ _ hs _ _ => hs)
    ⟨⟨bG, bV⟩, hB0⟩
    (fun x a' W => ∃ Bx, w.heap.size + 1 < Bx ∧ InfoAt W Bx x.1 ∧ a' = { tmps := #[.pointer (some ⟨b, 0, none⟩), undef, .bool false, .pointer (some ⟨w.heap.size + 1, 0, none⟩), .int .i64 (x.1.1 : Int), .pointer (some ⟨Bx, 0, none⟩), undef, undef, .pointer (some ⟨b, 0, none⟩), .pointer (some ⟨b, 0, none⟩), .pointer (some ⟨b, 0, none⟩), .pointer (some ⟨b, 1, none⟩), .int .i64 P, .slice (some ⟨w.heap.size, 0, none⟩) P P, .pointer (some ⟨b, 0, none⟩), .func (.func 126) #[] #[.pointer (some ⟨w.heap.size + 1 + 1, 0, none⟩)], .int .i64 (x.1.1 : Int), .agg #[.int .i64 x.1.2.1, .int .i64 x.1.2.2.1, .int .i64 x.1.2.2.2], undef, undef, undef, undef, undef, undef, undef, undef, undef, undef, undef, undef, undef, undef, undef, undef, undef, undef, undef, undef, undef, undef, undef, undef, undef, undef, undef, undef], defers := [] })
    (fun x a' _ X Y row hs hg hr => by obtain ⟨Bx, h1, h2, h3⟩ := hs; exact ⟨Bx, h1, InfoAt.own () X Y row h2 hg hr, h3⟩)
    ?assign ?body ?done ?stop
  case assign =>
    rintro l pre x W K ⟨⟨i1, i2⟩, iB⟩ hK
    have hszW := iB.size
    have hw2 := i2.lt
    dsimp only [spV]
    gi_wp2
    refine hK _ _ ((KeepsOthers.alloc _ _).from _) ((Below.refl _ W).alloc hszW _) ⟨⟨i1.alloc _, i2.alloc _⟩, iB.alloc hszW _⟩ ⟨W.heap.size, by omega, World.alloc_heap_new W _, rfl⟩
  case body =>
    rintro l pre x a' W hl _ ⟨⟨i1, i2⟩, iB⟩ ⟨Bx, hBx, hI, rfl⟩ hlt
    obtain ⟨q0, q1, q2⟩ := hI.cell
    have c2 := i2.cell
    have hsn := wtL_snoc P (raw pre) x.1
    rw [← raw_snoc] at hsn
    have hlen := wtL_len P (raw pre)
    generalize pre ++ [x] = pn at *
    obtain ⟨⟨p, K, L, C⟩, hx⟩ := x
    have hxx := hx
    obtain ⟨⟨x1, x2⟩, -, -⟩ := hxx
    dsimp only at hsn q0 q1 q2 x1 x2 ⊢
    unfold wtS at hsn
    clear hI
    obtain ⟨q, hq⟩ : ∃ q : Nat, (p : Int) + L - 1 = q := ⟨((p : Int) + L - 1).toNat, by omega⟩
    dsimp only at hsn
    rw [hq, Int.toNat_natCast] at hsn
    have hqP : (q : Int) < P := by omega
    have w1 : IntKind.i64.wrap ((p : Int) + L) = (p : Int) + L := wrap_in _ (by omega)
    have w2 : IntKind.i64.wrap ((p : Int) + L - 1) = q := by rw [hq]; exact wrap_in _ (by omega)
    have w3 : IntKind.i64.wrap ((p : Int) + 1) = (p : Int) + 1 := wrap_in _ (by omega)
    have w4 : IntKind.u32.wrap ((p : Int) + 1) = (p : Int) + 1 := wrapsA_u32 _ (by omega) (by omega)
    have cq := i1.cell (k := q) (by omega)
    have fq := i1.frozen q
    gi_wp2
    exact ⟨(KeepsOthers.setCell _ _ _).from _, (Below.refl _ W).setCell (p := ⟨w.heap.size, q, none⟩) (Nat.le_refl _) _, ⟨by rw [hsn]; exact i1.set q _, Boxed.otherB i2 (by omega) _⟩, iB.setCell (p := ⟨w.heap.size, q, none⟩) (Nat.le_refl _) _⟩
  case done =>
    rintro D ys W hD hys ⟨⟨i1, i2⟩, iB⟩ hK
    rw [hys] at i1
    have hwl := wtL_len P (spN al P)
    have c2 := i2.cell
    obtain ⟨ws, hws⟩ : ∃ ws, wtL P (spN al P) = ws := ⟨_, rfl⟩
    rw [hws] at i1 hwl
    have HWS := Lib.hid hws
    clear hws
    gi_wp2
    gi_loopw [30] (fun i wr => FtRel vs t ws w.heap.size P D w W i wr) (fun i _ => P - (intOf i).toNat)
    case atStart => exact ⟨0, by omega, rfl, rfl, i1, hK, Below.refl _ _, iB⟩
    case round =>
      obtain ⟨k, hk, rfl, hall, hw, hD2, hbW, hbw⟩ := hrel
      have HAl := Lib.hid hall
      by_cases hlt : k < P
      · have hkP : (k : Int) < P := by omega
        have ck := hw.cell (k := k) (by omega)
        have hL := HL.out.keep hbw
        obtain ⟨⟨d0, d1, d2⟩, -, -, -⟩ := hL.lk.cells
        have hx1 := hL.lk.xv.cx (q := k) (part := 1) (by omega) (by omega) (by omega) (by omega)
        have H1 := Lib.hid (fun w => pfoot_any t P s k w)
        rw [hx1.2] at H1
        have G1 := Lib.hid (fun (w : World) (h : LK b t P s ad n c vs (.slice (some ⟨g, 0, none⟩) P P) mb w) => pget_any (cix t k 1) w h hx1.1)
        have hd1 : vs.getD (cix t k 1) 0 = gv vs t k 1 := rfl
        rw [hd1] at G1
        have HLh := Lib.hid hL
        clear hL hx1 hd1
        generalize ha : gv vs t k 1 = a at *
        generalize cix t k 1 = x1 at *
        generalize hz : ws.getD k 0 = z at *
        gi_wp2_with (refine ⟨trivial, ?_⟩; gi_at_call 107; refine (callsIn_wide.2 (H1.out _)).mono ?_; rintro e w1 ⟨rfl, r1⟩)
        have HL1 := Lib.hid (HLh.out.keep r1)
        refine ⟨trivial, (callsIn_wide.2 (G1.out _ HL1.out.lk)).mono ?_⟩
        rintro e w2 ⟨rfl, r2⟩
        have r12 := r1.trans (r2.mono r1.size)
        have hD3 : w2.heap[D]? = some (.deferred (some [])) := (r12.block D (Array.getElem?_eq_some_iff.1 hD2).1).trans hD2
        have hw3 := hw.keep r12
        have hbW3 := hbW.trans (r12.mono hbW.size)
        have hbw3 := hbw.trans (r12.mono hbw.size)
        clear H1 G1 HLh HL1
        by_cases haz : a = z
        · subst haz
          gi_wp2
          go_roundw
          case rel =>
            refine ⟨k + 1, by omega, by go_num, ?_, hw3, hD3, hbW3, hbw3⟩
            simp only [allN, HAl.out, Bool.true_and]
            rw [hz, ha]
            simp
          case measure => simp [intOf]; omega
        · have hzb : (a != z) = true := by simpa using haz
          gi_wp2
          refine ⟨by simp, .inl ⟨_, _, rfl, run_takeDeferred hD3, ?_⟩⟩
          refine ⟨_, results_tmp rfl _ _ _, ?_, hbw3.trans (belowK_b (w := w) (Nat.le_refl _) _ D _ _ (by omega) hD3 rfl rfl)⟩
          refine ret_bool ?_
          symm
          refine allN_no hlt ?_
          show (gv vs t k 1 == (wtL P (spN al P)).getD k 0) = false
          rw [HWS.out, hz, ha]
          simpa using haz
      · have h1 : k = P := by omega
        subst h1
        gi_wp2
        refine ⟨by simp, .inl ⟨_, _, rfl, run_takeDeferred hD2, ?_⟩⟩
        refine ⟨_, results_tmp rfl _ _ _, ?_, hbw.trans (belowK_b (w := w) (Nat.le_refl _) _ D _ _ (by omega) hD2 rfl rfl)⟩
        exact ret_bool (by rw [HWS.out]; exact HAl.out.symm)
  case stop =>
    rintro D cd pre W hD _ h _
    exact h.elim
end
end Go.Proofs.YtkhanbedcmmlcaaGreatDoor
/- regions that draw, in a walk by a fence, outside a round. -/
set_option linter.unusedSimpArgs false
set_option linter.unusedVariables false
namespace Go.Proofs.YtkhanbedcmmlcaaGreatDoor
open Go.RowKit
section
variable {P : Program} {ops : Array Oper} {Q : Exit → Act → World → Prop} {md : Region.Mode} {n : Nat}
theorem wideDepth0 : Fence.wide.depth.isSome = true → 1 ≤ n := fun h => by
  have : Fence.wide.depth = none := rfl
  rw [this] at h
  simp at h
theorem wpOpIn_of_wpOp0 (hnd : ops.all noDefer = true) (hQ : ¬ LetsOut Q) {i : Nat} {K : Act → World → Prop} {a : Act} {w : World} (h : wpOp P ops Q i K a w) : wpOpIn Fence.wide n P ops Q i K a w := by
  unfold wpOp at h
  unfold wpOpIn
  cases ho : ops[i]? with
  | none => simpa [ho] using h
  | some o =>
    simp only [ho] at h ⊢
    have hno : noDefer o = true := by
      obtain ⟨hi, e⟩ := Array.getElem?_eq_some_iff.1 ho
      rw [← e]
      exact (Array.all_eq_true.1 hnd) i hi
    split
    · rename_i hw
      simp only [hw, if_true] at h
      rcases h with h | ⟨-, h⟩
      · refine ⟨fun _ _ => trivial, ?_⟩
        unfold Oper.wp at h
        rw [show Fence.wide.round = none from rfl, Oper.semAt_none]
        generalize (execOp a.eval o).run P w = r at *
        cases r with
        | ok x w' =>
          cases x with
          | value v => exact h
          | skip => exact h
          | defer d => exact h
          | enter f args => exact ⟨wideDepth0, callsIn_wide.2 h⟩
          | row row args =>
            refine ⟨wideDepth0, fun c cs _ => ?_⟩
            obtain ⟨v, w2, hR, hs⟩ := h c cs
            exact ⟨v, w2, hR, stepsIn_wide.2 hs⟩
          | round l f tmps assign body => exact (h : False).elim
          | _ => exact (h : False).elim
        | halt x w' =>
          cases x <;> first | exact h | exact (h : False).elim
      · exact absurd h hQ
    · rename_i hw
      simp only [hw] at h
      exact ⟨fun _ _ => trivial, h⟩
theorem wpAnyIn_of_wpAny0 (hnd : ops.all noDefer = true) (hQ : ¬ LetsOut Q) : ∀ (fuel : Nat) (listed : Array Bool) (a : Act) (w : World), wpAny P md ops Q fuel listed a w → wpAnyIn Fence.wide n P md ops Q fuel listed a w
  | 0, _, _, _, h => h
  | fuel + 1, _, _, _, h => ⟨h.1, fun i hi => wpOpIn_mono (fun a' w' h' => wpAnyIn_of_wpAny0 hnd hQ fuel _ a' w' h') (wpOpIn_of_wpOp0 hnd hQ (h.2 i hi))⟩
theorem wpIn_region_held_drew0 {S : World → Prop} {id : Nat} {a : Act} {w : World} (hm : P.follows .mixedOrders = true) (hnd : ops.all noDefer = true) (hS : S w.drew)
    (h : S w.drew → wpAnyH P .any ops (NoPanic (Only Q)) S ops.size (Array.replicate ops.size false) a w.drew) : (Code.region id ops true).wpIn Fence.wide n P Q a w :=
  wpIn_mono (wpIn_region_any hm (wpAnyIn_of_wpAny0 hnd noOut _ _ _ _ (wpAny_of_held _ _ _ _ (h hS)))) fun e a w hq => Only.imp e a w (NoPanic.imp e a w hq)
end
end Go.Proofs.YtkhanbedcmmlcaaGreatDoor
/- the program's audit: counts. -/
set_option linter.unusedSimpArgs false
set_option linter.unusedVariables false
namespace Go.Proofs.YtkhanbedcmmlcaaGreatDoor
open Go.RowKit
attribute [local go_sem] Oper.semAt_some

def coS (vs : List Int) (t : Int) (s : Int × Int) (x : Nat × Int × Int × Int) : Int × Int :=
  if x.2.1 = 1 then (s.1 + x.2.2.1, s.2) else if x.2.1 = 2 then (s.1, s.2 + 1) else if x.2.1 = 3 then (s.1, s.2 + (onesN (gv vs t x.1 4) 32 : Nat)) else s
def coL (vs : List Int) (t : Int) (pre : List (Nat × Int × Int × Int)) : Int × Int := pre.foldl (coS vs t) (0, 0)
theorem coL_snoc (vs : List Int) (t : Int) (pre : List (Nat × Int × Int × Int)) (x : Nat × Int × Int × Int) : coL vs t (pre ++ [x]) = coS vs t (coL vs t pre) x := by simp [coL]
theorem coL_bd {P : Nat} (vs : List Int) (t : Int) (hP : P ≤ 1024) (pre : List (SpT P)) : (0 ≤ (coL vs t (raw pre)).1 ∧ (coL vs t (raw pre)).1 ≤ 1024 * pre.length) ∧ 0 ≤ (coL vs t (raw pre)).2 ∧ (coL vs t (raw pre)).2 ≤ 33 * pre.length := by
  have : ∀ (l : List (SpT P)) (s : Int × Int), 0 ≤ s.1 → 0 ≤ s.2 → ((0 ≤ ((raw l).foldl (coS vs t) s).1 ∧ ((raw l).foldl (coS vs t) s).1 ≤ s.1 + 1024 * l.length) ∧ 0 ≤ ((raw l).foldl (coS vs t) s).2 ∧ ((raw l).foldl (coS vs t) s).2 ≤ s.2 + 33 * l.length) := by
    intro l
    induction l with
    | nil => intro s h1 h2; simp [raw]; omega
    | cons x l ih =>
      intro s h1 h2
      obtain ⟨⟨a1, a2⟩, -, -⟩ := x.2
      have hle := onesN_le (gv vs t x.1.1 4) 32
      have hb : (0 ≤ (coS vs t s x.1).1 ∧ (coS vs t s x.1).1 ≤ s.1 + 1024) ∧ 0 ≤ (coS vs t s x.1).2 ∧ (coS vs t s x.1).2 ≤ s.2 + 33 := by
        unfold coS
        split
        · simp only; omega
        · split
          · simp only; omega
          · split
            · simp only; omega
            · omega
      have := ih (coS vs t s x.1) hb.1.1 hb.2.1
      have e : (raw (x :: l)).foldl (coS vs t) s = (raw l).foldl (coS vs t) (coS vs t s x.1) := rfl
      rw [e]
      simp only [List.length_cons]
      refine ⟨⟨this.1.1, by omega⟩, this.2.1, by omega⟩
  have := this pre (0, 0) (Int.le_refl 0) (Int.le_refl 0)
  unfold coL
  simp only at this
  omega
theorem Boxed.keepB {W W' : World} {B : Nat} {t : TypeId} {v : Value} (h : Boxed W B t v) (hb : Below W.heap.size W W') : Boxed W' B t v := (hb.block B h.lt).trans h
theorem held4d {w w' : World} {B b : Nat} {u v0 v1 v2 : Value} (hb : Below w.heap.size w w') (h0 : B < w.heap.size) (h1 : b < w.heap.size)
    (h : w.cell? ⟨B, 0, none⟩ = some u ∧ w.cell? ⟨b, 0, none⟩ = some v0 ∧ w.cell? ⟨b, 1, none⟩ = some v1 ∧ w.cell? ⟨b, 2, none⟩ = some v2) :
    w'.cell? ⟨B, 0, none⟩ = some u ∧ w'.cell? ⟨b, 0, none⟩ = some v0 ∧ w'.cell? ⟨b, 1, none⟩ = some v1 ∧ w'.cell? ⟨b, 2, none⟩ = some v2 :=
  ⟨(hb.cell (p := ⟨B, 0, none⟩) h0).trans h.1, (hb.cell (p := ⟨b, 0, none⟩) h1).trans h.2.1, (hb.cell (p := ⟨b, 1, none⟩) h1).trans h.2.2.1, (hb.cell (p := ⟨b, 2, none⟩) h1).trans h.2.2.2⟩
theorem held4s {w : World} {B b C : Nat} {u v0 v1 v2 x : Value} (h0 : B ≠ C) (h1 : b ≠ C)
    (h : w.cell? ⟨B, 0, none⟩ = some u ∧ w.cell? ⟨b, 0, none⟩ = some v0 ∧ w.cell? ⟨b, 1, none⟩ = some v1 ∧ w.cell? ⟨b, 2, none⟩ = some v2) :
    (w.setCell ⟨C, 0, none⟩ x).cell? ⟨B, 0, none⟩ = some u ∧ (w.setCell ⟨C, 0, none⟩ x).cell? ⟨b, 0, none⟩ = some v0 ∧ (w.setCell ⟨C, 0, none⟩ x).cell? ⟨b, 1, none⟩ = some v1 ∧ (w.setCell ⟨C, 0, none⟩ x).cell? ⟨b, 2, none⟩ = some v2 := by
  have hc : ∀ {a o : Nat}, a ≠ C → (w.setCell ⟨C, 0, none⟩ x).cell? ⟨a, o, none⟩ = w.cell? ⟨a, o, none⟩ := fun ha => World.cell?_of_block (heap_setCell_other ha)
  rw [hc h0, hc h1, hc h1, hc h1]
  exact h
theorem heldC {w w' : World} {A B C : Nat} {u v x : Value} (hb : Below w.heap.size w w') (h0 : A < w.heap.size) (h1 : B < w.heap.size) (h2 : C < w.heap.size)
    (h : w.cell? ⟨A, 0, none⟩ = some u ∧ w.cell? ⟨B, 0, none⟩ = some v ∧ w.cell? ⟨C, 0, none⟩ = some x) :
    w'.cell? ⟨A, 0, none⟩ = some u ∧ w'.cell? ⟨B, 0, none⟩ = some v ∧ w'.cell? ⟨C, 0, none⟩ = some x :=
  ⟨(hb.cell (p := ⟨A, 0, none⟩) h0).trans h.1, (hb.cell (p := ⟨B, 0, none⟩) h1).trans h.2.1, (hb.cell (p := ⟨C, 0, none⟩) h2).trans h.2.2⟩
section
variable {b : Nat} {t s : Int} {ad : Addr} {n c : Nat} {vs : List Int} {mb : Nat}
set_option maxHeartbeats 4000000 in
set_option maxRecDepth 100000 in
theorem pcounts_any (w0 w : World) (ml : List (Int × Int)) (g P : Nat) (al : List (Int × Int × Int)) (h : LS w0 b t P s ad n c vs (.slice (some ⟨g, 0, none⟩) P P) mb ml w) (hA : AtR w0 b mb g P al ad w) (hsp : ∀ k x, al[k]? = some x → x.1 ≠ 0 → SpIn P (k, x)) :
    Calls Tryz.prog 67 #[.pointer (some ⟨b, 0, none⟩)] w fun e W' => e = .returned (.bool (vs.getD 0 0 == (coL vs t (spN al P)).1 && vs.getD 1 0 == (coL vs t (spN al P)).2)) ∧ Below w.heap.size w W' := by
  obtain ⟨b1, b2, b3, b4, b5, b6, b7⟩ := h.lk.xv.bd
  have hblt := h.lk.lt
  have hglt : g < w.heap.size := ownsRow_lt hA.row rfl
  obtain ⟨⟨e0, e1, e2⟩, -, hc4, -⟩ := h.lk.cells
  have hcs := hA.cells
  have hal := hA.len
  have hP64 : P ≤ 1024 := by omega
  have HL := Lib.hid h.lk
  clear h hA
  refine (callsIn_wide (n := 10)).1 ?_
  refine callsIn_of_wp_marks Tryz.func67 rfl trivial ?_ rfl
  simp only [Tryz.ntmps67, List.size_toArray, List.length_cons, List.length_nil, Nat.reduceAdd, Nat.reduceSub, Array.replicate_succ, Array.replicate_zero, List.push_toArray, List.append_toArray, List.nil_append, List.cons_append]
  gi_wp2_with (refine ⟨trivial, ?_⟩; gi_at_call 96; refine (callsIn_wide.2 (pspans_any _ b)).mono ?_; rintro e w' ⟨rfl, rfl⟩)
  have bB := (((Boxed.new w 69 (.pointer (some ⟨b, 0, none⟩))).alloc (.cells #[.int .i64 0] 3)).alloc (.cells #[.int .i64 0] 3)).alloc (.cells #[.pointer (some ⟨b, 0, none⟩)] 69)
  have bF := ((Boxed.new (w.alloc (.cells #[.pointer (some ⟨b, 0, none⟩)] 69)) 3 (.int .i64 0)).alloc (.cells #[.int .i64 0] 3)).alloc (.cells #[.pointer (some ⟨b, 0, none⟩)] 69)
  have bV := (Boxed.new ((w.alloc (.cells #[.pointer (some ⟨b, 0, none⟩)] 69)).alloc (.cells #[.int .i64 0] 3)) 3 (.int .i64 0)).alloc (.cells #[.pointer (some ⟨b, 0, none⟩)] 69)
  have bL := Boxed.new (((w.alloc (.cells #[.pointer (some ⟨b, 0, none⟩)] 69)).alloc (.cells #[.int .i64 0] 3)).alloc (.cells #[.int .i64 0] 3)) 69 (.pointer (some ⟨b, 0, none⟩))
  simp only [World.size_alloc] at bF bV bL
  have hB0 : Below w.heap.size w ((((w.alloc (.cells #[.pointer (some ⟨b, 0, none⟩)] 69)).alloc (.cells #[.int .i64 0] 3)).alloc (.cells #[.int .i64 0] 3)).alloc (.cells #[.pointer (some ⟨b, 0, none⟩)] 69)) := ((((Below.refl _ w).alloc (Nat.le_refl _) _).alloc (by simp) _).alloc (by simp; omega) _).alloc (by simp; omega) _
  have hsz : ((((w.alloc (.cells #[.pointer (some ⟨b, 0, none⟩)] 69)).alloc (.cells #[.int .i64 0] 3)).alloc (.cells #[.int .i64 0] 3)).alloc (.cells #[.pointer (some ⟨b, 0, none⟩)] 69)).heap.size = w.heap.size + 4 := by simp
  obtain ⟨W0, hW0⟩ : ∃ W0, (((w.alloc (.cells #[.pointer (some ⟨b, 0, none⟩)] 69)).alloc (.cells #[.int .i64 0] 3)).alloc (.cells #[.int .i64 0] 3)).alloc (.cells #[.pointer (some ⟨b, 0, none⟩)] 69) = W0 := ⟨_, rfl⟩
  rw [hW0] at bB bF bV bL hB0 hsz ⊢
  clear hW0
  refine wpIn_rangeFunc_ownH rfl (by omega) (gf := 126) (lb := #[.pointer (some ⟨w.heap.size + 1 + 1 + 1, 0, none⟩)]) rfl trivial (enters_of Tryz.func126 (by kernel_rfl) rfl)
    (spans_stops _ (by omega) (w.heap.size + 1 + 1 + 1) w.heap.size b g al (P := P) (by omega) hal hsp W0 (by omega) (by omega) hglt hblt bL.cell ((hB0.cell (p := ⟨b, 4, none⟩) hblt).trans hc4)
      (fun k x hx => ⟨(hB0.cell (p := ⟨g, k * 3, none⟩) hglt).trans (hcs k x hx).1, (hB0.cell (p := ⟨g, k * 3 + 1, none⟩) hglt).trans (hcs k x hx).2.1, (hB0.cell (p := ⟨g, k * 3 + 2, none⟩) hglt).trans (hcs k x hx).2.2⟩))
    belowK_t (belowK_b (by omega)) (Below.refl _ _) (fun _ => rfl)
    (fun pre W => (Boxed W w.heap.size 69 (.pointer (some ⟨b, 0, none⟩)) ∧ (Boxed W (w.heap.size + 1) 3 (.int .i64 (coL vs t (raw pre)).1) ∧ Boxed W (w.heap.size + 1 + 1) 3 (.int .i64 (coL vs t (raw pre)).2))) ∧ Below w.heap.size w W)
    (fun _ _ _ => False)
    (OwnFrom.and (OwnFrom.and (Own.from (boxed_own _ _ _) _) (OwnFrom.and (Own.from (boxed_own _ _ _) _) (Own.from (boxed_own _ _ _) _))) (ownFrom_below (Nat.le_refl _) (by omega)))
    (fun _ _ _ _ _ hs _ _ => hs)
    ⟨⟨bB, bF, bV⟩, hB0⟩
    (fun x a' W => ∃ Bx, w.heap.size + 1 + 1 < Bx ∧ InfoAt W Bx x.1 ∧ a' = { tmps := #[.pointer (some ⟨b, 0, none⟩), .pointer (some ⟨w.heap.size, 0, none⟩), .bool false, .pointer (some ⟨w.heap.size + 1, 0, none⟩), .pointer (some ⟨w.heap.size + 1 + 1, 0, none⟩), .int .i64 (x.1.1 : Int), .pointer (some ⟨Bx, 0, none⟩), .pointer (some ⟨b, 0, none⟩), .func (.func 126) #[] #[.pointer (some ⟨w.heap.size + 1 + 1 + 1, 0, none⟩)], .int .i64 (x.1.1 : Int), .agg #[.int .i64 x.1.2.1, .int .i64 x.1.2.2.1, .int .i64 x.1.2.2.2], undef, undef, undef, undef, undef, undef, undef, undef, undef, undef, undef, undef, undef, undef, undef, undef, undef, undef, undef, undef, undef, undef, undef, undef, undef, undef, undef, undef, undef, undef, undef, undef, undef, undef, undef, undef, undef], defers := [] })
    (fun x a' _ X Y row hs hg hr => by obtain ⟨Bx, h1, h2, h3⟩ := hs; exact ⟨Bx, h1, InfoAt.own () X Y row h2 hg hr, h3⟩)
    ?assign ?body ?done ?stop
  case assign =>
    rintro l pre x W K ⟨⟨i1, i2, i3⟩, iB⟩ hK
    have hszW := iB.size
    have hw3 := i3.lt
    dsimp only [spV]
    gi_wp2
    refine hK _ _ ((KeepsOthers.alloc _ _).from _) ((Below.refl _ W).alloc hszW _) ⟨⟨i1.alloc _, i2.alloc _, i3.alloc _⟩, iB.alloc hszW _⟩ ⟨W.heap.size, by omega, World.alloc_heap_new W _, rfl⟩
  case body =>
    rintro l pre x a' W hl _ ⟨⟨i1, i2, i3⟩, iB⟩ ⟨Bx, hBx, hI, rfl⟩ hlt
    obtain ⟨q0, q1, q2⟩ := hI.cell
    have c1 := i1.cell
    have c2 := i2.cell
    have f2 := i2.frozen
    have c3 := i3.cell
    have f3 := i3.frozen
    have hsn := coL_snoc vs t (raw pre) x.1
    have hbd := coL_bd vs t hP64 pre
    rw [← raw_snoc] at hsn
    have hLK := HL.out.keep iB
    generalize pre ++ [x] = pn at *
    obtain ⟨⟨p, K, L, C⟩, hx⟩ := x
    have hxx := hx
    obtain ⟨⟨x1, x2⟩, ⟨x3, x4⟩, -⟩ := hxx
    dsimp only at hsn q0 q1 q2 x1 x2 x3 x4 ⊢
    clear hI hx
    unfold coS at hsn
    dsimp only at hsn
    generalize hfr : (coL vs t (raw pre)).1 = fr at *
    generalize hlv : (coL vs t (raw pre)).2 = lv at *
    by_cases hK : K = 1
    · subst hK
      simp only [if_true] at hsn
      have hwr : IntKind.i64.wrap (fr + L) = fr + L := wrap_in _ (by omega)
      gi_wp2
      exact ⟨(KeepsOthers.setCell _ _ _).from _, (Below.refl _ W).setCell (p := ⟨w.heap.size + 1, 0, none⟩) (by show w.heap.size ≤ w.heap.size + 1; omega) _, ⟨i1.other (by omega) _, by rw [hsn]; exact i2.set _, by rw [hsn]; exact i3.other (by omega) _⟩, iB.setCell (p := ⟨w.heap.size + 1, 0, none⟩) (by show w.heap.size ≤ w.heap.size + 1; omega) _⟩
    · by_cases hK2 : K = 2
      · subst hK2
        simp at hsn
        have hwr : IntKind.i64.wrap (lv + 1) = lv + 1 := wrap_in _ (by omega)
        gi_wp2
        exact ⟨(KeepsOthers.setCell _ _ _).from _, (Below.refl _ W).setCell (p := ⟨w.heap.size + 1 + 1, 0, none⟩) (by show w.heap.size ≤ w.heap.size + 1 + 1; omega) _, ⟨i1.other (by omega) _, by rw [hsn]; exact i2.other (by omega) _, by rw [hsn]; exact i3.set _⟩, iB.setCell (p := ⟨w.heap.size + 1 + 1, 0, none⟩) (by show w.heap.size ≤ w.heap.size + 1 + 1; omega) _⟩
      · obtain rfl : K = 3 := by omega
        simp at hsn
        have hx4 := hLK.xv.cx (q := p) (part := 4) (by omega) (by omega) (by omega) (by omega)
        have H1 := Lib.hid (fun w => ppslots_any t P s p w)
        rw [hx4.2] at H1
        have G1 := Lib.hid (fun (w : World) (h : LK b t P s ad n c vs (.slice (some ⟨g, 0, none⟩) P P) mb w) => pget_any (cix t p 4) w h hx4.1)
        have hd1 : vs.getD (cix t p 4) 0 = gv vs t p 4 := rfl
        rw [hd1] at G1
        have hgu := hLK.xv.gu p 4
        have O1 := Lib.hid (fun w => pones_any (gv vs t p 4) w hgu.1 hgu.2)
        have hle := onesN_le (gv vs t p 4) 32
        have hcl := hLK.cells
        obtain ⟨⟨d0, d1, d2⟩, -, -, -⟩ := hcl
        have HLK := Lib.hid (hLK.keep (Below.refl _ _).drew)
        have hltb : b < W.heap.size := hLK.lt
        clear hLK hx4 hd1 hgu
        generalize gv vs t p 4 = a at *
        generalize cix t p 4 = x4 at *
        generalize onesN a 32 = z at *
        have hwr : IntKind.i64.wrap (lv + z) = lv + z := wrap_in _ (by omega)
        have hl1 := i1.lt
        have hl3 := i3.lt
        gi_wp2_with fail
        refine wpIn_region_held_drew (S := fun w' => w'.cell? ⟨w.heap.size, 0, none⟩ = some (.pointer (some ⟨b, 0, none⟩)) ∧ w'.cell? ⟨b, 0, none⟩ = some (.int .i64 t) ∧ w'.cell? ⟨b, 1, none⟩ = some (.int .i64 P) ∧ w'.cell? ⟨b, 2, none⟩ = some (.int .i64 s)) (by kernel_rfl) (by kernel_rfl) ?_ (fun hHeld => ?_)
        · exact ⟨c1, d0, d1, d2⟩
        refine wT 1 ?_
        refine wT 2 ?_
        refine wT 3 ?_
        refine wT 4 ?_
        refine wT 5 ?_
        refine wT 6 ?_
        refine wpAnyH_ready (rs := [0, 7]) (by kernel_rfl) (by simp) ?_
        refine AllReadyH.cons (o := _) rfl (fun K hK => ?_) (AllReadyH.cons (o := _) rfl (fun K hK => ?_) AllReadyH.nil)
        · go_simp
          refine hK.out _ _ ?_ (fun hHeld => ?_)
          · exact hHeld
          clear hK K
          try simp only [Act.put, zA, zB, zD, zE, zF]
          refine wR 7 fun K hK => ?_
          go_simp
          refine (H1.out _).mono ?_
          rintro e w1 ⟨rfl, r1⟩
          have L1 := Lib.hid (HLK.out.keep r1)
          have cl1 := (r1.cell (p := ⟨w.heap.size + 1 + 1, 0, none⟩) hl3).trans c3
          have k1 := held4d r1 hl1 hltb hHeld
          refine hK.out _ _ ?_ (fun hHeld => ?_)
          · exact k1
          clear hK K
          try simp only [Act.put, zA, zB, zC, zD, zE, zF]
          refine wR 8 fun K hK => ?_
          go_simp
          refine (G1.out _ L1.out).mono ?_
          rintro e w2 ⟨rfl, r2⟩
          have cl2 := (r2.cell (p := ⟨w.heap.size + 1 + 1, 0, none⟩) (Nat.lt_of_lt_of_le hl3 r1.size)).trans cl1
          have k2 := held4d r2 (Nat.lt_of_lt_of_le hl1 r1.size) (Nat.lt_of_lt_of_le hltb r1.size) hHeld
          refine hK.out _ _ ?_ (fun hHeld => ?_)
          · exact k2
          clear hK K
          try simp only [Act.put, zA, zB, zC, zD, zE, zF]
          refine wR 9 fun K hK => ?_
          go_simp
          refine (O1.out _).mono ?_
          rintro e w3 ⟨rfl, r3⟩
          have r13 := r1.trans ((r2.trans (r3.mono r2.size)).mono r1.size)
          have cl3 := (r13.cell (p := ⟨w.heap.size + 1 + 1, 0, none⟩) hl3).trans c3
          have cf3 := (r13.frozen (p := ⟨w.heap.size + 1 + 1, 0, none⟩) hl3).trans f3
          have k3 := held4d r3 (Nat.lt_of_lt_of_le hl1 (Nat.le_trans r1.size r2.size)) (Nat.lt_of_lt_of_le hltb (Nat.le_trans r1.size r2.size)) hHeld
          refine hK.out _ _ ?_ (fun hHeld => ?_)
          · exact k3
          clear hK K
          try simp only [Act.put, zA, zB, zC, zD, zE, zF]
          refine wT 10 ?_
          refine wR 11 fun K hK => ?_
          go_simp
          refine hK.out _ _ ?_ (fun hHeld => ?_)
          · exact held4s (by omega) (by omega) hHeld
          clear hK K
          try simp only [Act.put, zA, zB, zC, zD, zE, zF]
          refine wpAnyH_done (by kernel_rfl) (NoPanic.normal ?_) _
          refine Only.normal ?_
          have r13d := (Below.refl W.heap.size W).drew.trans r13
          have hj := r13d.mono iB.size
          refine ⟨(Below.from r13d _).trans ((KeepsOthers.setCell _ _ _).from _), hj.setCell (p := ⟨w.heap.size + 1 + 1, 0, none⟩) (by show w.heap.size ≤ w.heap.size + 1 + 1; omega) _, ⟨(Boxed.keepB i1 r13d).other (by omega) _, ?_, ?_⟩, (iB.trans hj).setCell (p := ⟨w.heap.size + 1 + 1, 0, none⟩) (by show w.heap.size ≤ w.heap.size + 1 + 1; omega) _⟩
          · rw [hsn]; exact (Boxed.keepB i2 r13d).other (by omega) _
          · rw [hsn]; exact (Boxed.keepB i3 r13d).set _
        · go_simp
          refine (H1.out _).mono ?_
          rintro e w1 ⟨rfl, r1⟩
          have L1 := Lib.hid (HLK.out.keep r1)
          have cl1 := (r1.cell (p := ⟨w.heap.size + 1 + 1, 0, none⟩) hl3).trans c3
          have k1 := held4d r1 hl1 hltb hHeld
          refine hK.out _ _ ?_ (fun hHeld => ?_)
          · exact k1
          clear hK K
          try simp only [Act.put, zA, zB, zC, zD, zE, zF]
          refine wpAnyH_ready (rs := [0, 8]) (by kernel_rfl) (by simp) ?_
          refine AllReadyH.cons (o := _) rfl (fun K hK => ?_) (AllReadyH.cons (o := _) rfl (fun K hK => ?_) AllReadyH.nil)
          · go_simp
            refine hK.out _ _ ?_ (fun hHeld => ?_)
            · exact hHeld
            clear hK K
            try simp only [Act.put, zA, zB, zD, zE, zF]
            refine wR 8 fun K hK => ?_
            go_simp
            refine (G1.out _ L1.out).mono ?_
            rintro e w2 ⟨rfl, r2⟩
            have cl2 := (r2.cell (p := ⟨w.heap.size + 1 + 1, 0, none⟩) (Nat.lt_of_lt_of_le hl3 r1.size)).trans cl1
            have k2 := held4d r2 (Nat.lt_of_lt_of_le hl1 r1.size) (Nat.lt_of_lt_of_le hltb r1.size) hHeld
            refine hK.out _ _ ?_ (fun hHeld => ?_)
            · exact k2
            clear hK K
            try simp only [Act.put, zA, zB, zC, zD, zE, zF]
            refine wR 9 fun K hK => ?_
            go_simp
            refine (O1.out _).mono ?_
            rintro e w3 ⟨rfl, r3⟩
            have r13 := r1.trans ((r2.trans (r3.mono r2.size)).mono r1.size)
            have cl3 := (r13.cell (p := ⟨w.heap.size + 1 + 1, 0, none⟩) hl3).trans c3
            have cf3 := (r13.frozen (p := ⟨w.heap.size + 1 + 1, 0, none⟩) hl3).trans f3
            have k3 := held4d r3 (Nat.lt_of_lt_of_le hl1 (Nat.le_trans r1.size r2.size)) (Nat.lt_of_lt_of_le hltb (Nat.le_trans r1.size r2.size)) hHeld
            refine hK.out _ _ ?_ (fun hHeld => ?_)
            · exact k3
            clear hK K
            try simp only [Act.put, zA, zB, zC, zD, zE, zF]
            refine wT 10 ?_
            refine wR 11 fun K hK => ?_
            go_simp
            refine hK.out _ _ ?_ (fun hHeld => ?_)
            · exact held4s (by omega) (by omega) hHeld
            clear hK K
            try simp only [Act.put, zA, zB, zC, zD, zE, zF]
            refine wpAnyH_done (by kernel_rfl) (NoPanic.normal ?_) _
            refine Only.normal ?_
            have r13d := (Below.refl W.heap.size W).drew.trans r13
            have hj := r13d.mono iB.size
            refine ⟨(Below.from r13d _).trans ((KeepsOthers.setCell _ _ _).from _), hj.setCell (p := ⟨w.heap.size + 1 + 1, 0, none⟩) (by show w.heap.size ≤ w.heap.size + 1 + 1; omega) _, ⟨(Boxed.keepB i1 r13d).other (by omega) _, ?_, ?_⟩, (iB.trans hj).setCell (p := ⟨w.heap.size + 1 + 1, 0, none⟩) (by show w.heap.size ≤ w.heap.size + 1 + 1; omega) _⟩
            · rw [hsn]; exact (Boxed.keepB i2 r13d).other (by omega) _
            · rw [hsn]; exact (Boxed.keepB i3 r13d).set _
          · go_simp
            refine (G1.out _ L1.out).mono ?_
            rintro e w2 ⟨rfl, r2⟩
            have cl2 := (r2.cell (p := ⟨w.heap.size + 1 + 1, 0, none⟩) (Nat.lt_of_lt_of_le hl3 r1.size)).trans cl1
            have k2 := held4d r2 (Nat.lt_of_lt_of_le hl1 r1.size) (Nat.lt_of_lt_of_le hltb r1.size) hHeld
            refine hK.out _ _ ?_ (fun hHeld => ?_)
            · exact k2
            clear hK K
            try simp only [Act.put, zA, zB, zC, zD, zE, zF]
            refine wpAnyH_ready (rs := [0, 9]) (by kernel_rfl) (by simp) ?_
            refine AllReadyH.cons (o := _) rfl (fun K hK => ?_) (AllReadyH.cons (o := _) rfl (fun K hK => ?_) AllReadyH.nil)
            · go_simp
              refine hK.out _ _ ?_ (fun hHeld => ?_)
              · exact hHeld
              clear hK K
              try simp only [Act.put, zA, zB, zD, zE, zF]
              refine wR 9 fun K hK => ?_
              go_simp
              refine (O1.out _).mono ?_
              rintro e w3 ⟨rfl, r3⟩
              have r13 := r1.trans ((r2.trans (r3.mono r2.size)).mono r1.size)
              have cl3 := (r13.cell (p := ⟨w.heap.size + 1 + 1, 0, none⟩) hl3).trans c3
              have cf3 := (r13.frozen (p := ⟨w.heap.size + 1 + 1, 0, none⟩) hl3).trans f3
              have k3 := held4d r3 (Nat.lt_of_lt_of_le hl1 (Nat.le_trans r1.size r2.size)) (Nat.lt_of_lt_of_le hltb (Nat.le_trans r1.size r2.size)) hHeld
              refine hK.out _ _ ?_ (fun hHeld => ?_)
              · exact k3
              clear hK K
              try simp only [Act.put, zA, zB, zC, zD, zE, zF]
              refine wT 10 ?_
              refine wR 11 fun K hK => ?_
              go_simp
              refine hK.out _ _ ?_ (fun hHeld => ?_)
              · exact held4s (by omega) (by omega) hHeld
              clear hK K
              try simp only [Act.put, zA, zB, zC, zD, zE, zF]
              refine wpAnyH_done (by kernel_rfl) (NoPanic.normal ?_) _
              refine Only.normal ?_
              have r13d := (Below.refl W.heap.size W).drew.trans r13
              have hj := r13d.mono iB.size
              refine ⟨(Below.from r13d _).trans ((KeepsOthers.setCell _ _ _).from _), hj.setCell (p := ⟨w.heap.size + 1 + 1, 0, none⟩) (by show w.heap.size ≤ w.heap.size + 1 + 1; omega) _, ⟨(Boxed.keepB i1 r13d).other (by omega) _, ?_, ?_⟩, (iB.trans hj).setCell (p := ⟨w.heap.size + 1 + 1, 0, none⟩) (by show w.heap.size ≤ w.heap.size + 1 + 1; omega) _⟩
              · rw [hsn]; exact (Boxed.keepB i2 r13d).other (by omega) _
              · rw [hsn]; exact (Boxed.keepB i3 r13d).set _
            · go_simp
              refine (O1.out _).mono ?_
              rintro e w3 ⟨rfl, r3⟩
              have r13 := r1.trans ((r2.trans (r3.mono r2.size)).mono r1.size)
              have cl3 := (r13.cell (p := ⟨w.heap.size + 1 + 1, 0, none⟩) hl3).trans c3
              have cf3 := (r13.frozen (p := ⟨w.heap.size + 1 + 1, 0, none⟩) hl3).trans f3
              have k3 := held4d r3 (Nat.lt_of_lt_of_le hl1 (Nat.le_trans r1.size r2.size)) (Nat.lt_of_lt_of_le hltb (Nat.le_trans r1.size r2.size)) hHeld
              refine hK.out _ _ ?_ (fun hHeld => ?_)
              · exact k3
              clear hK K
              try simp only [Act.put, zA, zB, zC, zD, zE, zF]
              refine wR 0 fun K hK => ?_
              go_simp
              refine hK.out _ _ ?_ (fun hHeld => ?_)
              · exact hHeld
              clear hK K
              try simp only [Act.put, zA, zB, zD, zE, zF]
              refine wT 10 ?_
              refine wR 11 fun K hK => ?_
              go_simp
              refine hK.out _ _ ?_ (fun hHeld => ?_)
              · exact held4s (by omega) (by omega) hHeld
              clear hK K
              try simp only [Act.put, zA, zB, zC, zD, zE, zF]
              refine wpAnyH_done (by kernel_rfl) (NoPanic.normal ?_) _
              refine Only.normal ?_
              have r13d := (Below.refl W.heap.size W).drew.trans r13
              have hj := r13d.mono iB.size
              refine ⟨(Below.from r13d _).trans ((KeepsOthers.setCell _ _ _).from _), hj.setCell (p := ⟨w.heap.size + 1 + 1, 0, none⟩) (by show w.heap.size ≤ w.heap.size + 1 + 1; omega) _, ⟨(Boxed.keepB i1 r13d).other (by omega) _, ?_, ?_⟩, (iB.trans hj).setCell (p := ⟨w.heap.size + 1 + 1, 0, none⟩) (by show w.heap.size ≤ w.heap.size + 1 + 1; omega) _⟩
              · rw [hsn]; exact (Boxed.keepB i2 r13d).other (by omega) _
              · rw [hsn]; exact (Boxed.keepB i3 r13d).set _
  case done =>
    rintro D ys W hD hys ⟨⟨i1, i2, i3⟩, iB⟩ hK
    have hbd := coL_bd vs t hP64 ys
    have hyl : ys.length ≤ P := by
      have h1 := congrArg List.length hys
      have h2 := spN_len al P
      simp only [raw, List.length_map] at h1
      omega
    rw [hys] at i2 i3 hbd
    have c1 := i1.cell
    have c2 := i2.cell
    have c3 := i3.cell
    have hl1 := i1.lt
    have hl2 := i2.lt
    have hl3 := i3.lt
    have hD3 : D < W.heap.size := (Array.getElem?_eq_some_iff.1 hK).1
    generalize hfr : (coL vs t (spN al P)).1 = fr at *
    generalize hlv : (coL vs t (spN al P)).2 = lv at *
    have hw1 : IntKind.u32.wrap fr = fr := wrapsA_u32 _ (by omega) (by omega)
    have hw2 : IntKind.u32.wrap lv = lv := wrapsA_u32 _ (by omega) (by omega)
    have HLK := Lib.hid ((HL.out.keep iB).keep (Below.refl _ _).drew)
    have G0 := Lib.hid (fun (w : World) (h : LK b t P s ad n c vs (.slice (some ⟨g, 0, none⟩) P P) mb w) => (pget_any 0 w h (by omega) : Calls Tryz.prog 106 #[.pointer (some ⟨b, 0, none⟩), .int .i64 0] w _))
    have G1 := Lib.hid (fun (w : World) (h : LK b t P s ad n c vs (.slice (some ⟨g, 0, none⟩) P P) mb w) => (pget_any 1 w h (by omega) : Calls Tryz.prog 106 #[.pointer (some ⟨b, 0, none⟩), .int .i64 1] w _))
    generalize hv0 : vs.getD 0 0 = v0 at *
    generalize hv1 : vs.getD 1 0 = v1 at *
    have HEq : RowKit.Hid ((vs.getD 0 0 == (coL vs t (spN al P)).1 && vs.getD 1 0 == (coL vs t (spN al P)).2) = (v0 == fr && v1 == lv)) := Lib.hid (by rw [hfr, hlv, hv0, hv1])
    clear hfr hlv hv0 hv1
    by_cases hz : v0 = fr
    · subst hz
      have hzz : (v0 == v0) = true := by simp
      gi_wp2_with fail
      refine wpIn_region_held_drew0 (S := fun w' => w'.cell? ⟨w.heap.size, 0, none⟩ = some (.pointer (some ⟨b, 0, none⟩)) ∧ w'.cell? ⟨w.heap.size + 1, 0, none⟩ = some (.int .i64 v0) ∧ w'.cell? ⟨w.heap.size + 1 + 1, 0, none⟩ = some (.int .i64 lv)) (by kernel_rfl) (by kernel_rfl) ?_ (fun hHeld => ?_)
      · exact ⟨c1, c2, c3⟩
      refine wT 0 ?_
      refine wT 2 ?_
      refine wT 3 ?_
      refine wR 1 fun K hK => ?_
      go_simp
      refine (G0.out _ HLK.out).mono ?_
      rintro e w1 ⟨rfl, r1⟩
      have L1 := Lib.hid (HLK.out.keep r1)
      have k1 := heldC r1 hl1 hl2 hl3 hHeld
      refine hK.out _ _ ?_ (fun hHeld => ?_)
      · exact k1
      clear hK K
      try simp only [Act.put, zA, zB, zC, zD, zE, zF]
      refine wT 4 ?_
      refine wT 5 ?_
      refine wT 6 ?_
      refine wT 8 ?_
      refine wT 9 ?_
      refine wR 7 fun K hK => ?_
      go_simp
      refine (G1.out _ L1.out).mono ?_
      rintro e w2 ⟨rfl, r2⟩
      have k2 := heldC r2 (Nat.lt_of_lt_of_le hl1 r1.size) (Nat.lt_of_lt_of_le hl2 r1.size) (Nat.lt_of_lt_of_le hl3 r1.size) hHeld
      refine hK.out _ _ ?_ (fun hHeld => ?_)
      · exact k2
      clear hK K
      try simp only [Act.put, zA, zB, zC, zD, zE, zF]
      refine wT 10 ?_
      refine wT 11 ?_
      refine wT 12 ?_
      refine wpAnyH_done (by kernel_rfl) (NoPanic.normal ?_) _
      refine Only.normal ?_
      have r12 := (Below.refl W.heap.size W).drew.trans (r1.trans (r2.mono r1.size))
      have hD2 : w2.heap[D]? = some (.deferred (some [])) := (r12.block D hD3).trans hK
      gi_wp2
      refine ⟨by simp, .inl ⟨_, _, rfl, run_takeDeferred hD2, ?_⟩⟩
      refine ⟨_, results_tmp rfl _ _ _, ?_, (iB.trans (r12.mono iB.size)).trans (belowK_b (w := w) (Nat.le_refl _) _ D _ _ (by omega) hD2 rfl rfl)⟩
      exact ret_bool (by rw [HEq.out]; simp)
    · have hzz : (v0 == fr) = false := by simpa using hz
      gi_wp2_with fail
      refine wpIn_region_held_drew0 (S := fun w' => w'.cell? ⟨w.heap.size, 0, none⟩ = some (.pointer (some ⟨b, 0, none⟩)) ∧ w'.cell? ⟨w.heap.size + 1, 0, none⟩ = some (.int .i64 fr) ∧ w'.cell? ⟨w.heap.size + 1 + 1, 0, none⟩ = some (.int .i64 lv)) (by kernel_rfl) (by kernel_rfl) ?_ (fun hHeld => ?_)
      · exact ⟨c1, c2, c3⟩
      refine wT 0 ?_
      refine wT 2 ?_
      refine wT 3 ?_
      refine wR 1 fun K hK => ?_
      go_simp
      refine (G0.out _ HLK.out).mono ?_
      rintro e w1 ⟨rfl, r1⟩
      have k1 := heldC r1 hl1 hl2 hl3 hHeld
      refine hK.out _ _ ?_ (fun hHeld => ?_)
      · exact k1
      clear hK K
      try simp only [Act.put, zA, zB, zC, zD, zE, zF]
      refine wT 4 ?_
      refine wT 5 ?_
      refine wU 6 ?_
      refine wU 7 ?_
      refine wU 8 ?_
      refine wU 9 ?_
      refine wU 10 ?_
      refine wT 11 ?_
      refine wT 12 ?_
      refine wpAnyH_done (by kernel_rfl) (NoPanic.normal ?_) _
      refine Only.normal ?_
      have r12 := (Below.refl W.heap.size W).drew.trans r1
      have hD2 : w1.heap[D]? = some (.deferred (some [])) := (r12.block D hD3).trans hK
      gi_wp2
      refine ⟨by simp, .inl ⟨_, _, rfl, run_takeDeferred hD2, ?_⟩⟩
      refine ⟨_, results_tmp rfl _ _ _, ?_, (iB.trans (r12.mono iB.size)).trans (belowK_b (w := w) (Nat.le_refl _) _ D _ _ (by omega) hD2 rfl rfl)⟩
      exact ret_bool (by rw [HEq.out]; simp [hz])
  case stop =>
    rintro D cd pre W hD _ h _
    exact h.elim
end
end Go.Proofs.YtkhanbedcmmlcaaGreatDoor
