/- the document's audit: Check, Sound. -/
import Derived.Test.YtcicmljnjdhkjaaGreatAudH
import Derived.Test.YtcicmljnjdhkjaaGreatAudI
import Derived.Test.YtcicmljnjdhkjaaGreatAudJ
import Derived.Test.YtcicmljnjdhkjaaGreatAudK
import Derived.Test.YtcicmljnjdhkjaaGreatAudKb
import Derived.Test.YtcicmljnjdhkjaaGreatAudO
namespace Go.Proofs.YtcicmljnjdhkjaaGreat
open Go.RowKit
section
variable {t p s : Int} {ad : Addr} {n c : Nat} {vs : List Int}

/-- which rule does not hold first. -/
def chkF (vs : List Int) (t p s : Int) : Int × Bool :=
  if tilesF vs t p = false then (2, false) else
  if feetF vs t p = false then (3, false) else
  if apartF vs t p = false then (4, false) else
  if slotsAll vs t p = false then (5, false) else
  if binsF vs t p = false then (6, false) else
  if racksF vs t p = false then (7, false) else
  if looseF vs t p = false then (8, false) else
  if countsF vs t p = false then (9, false) else
  if rootsF vs t p s = false then (10, false) else
  (0, true)

set_option maxHeartbeats 4000000 in
set_option maxRecDepth 100000 in
theorem rcheck_any (c : Nat) (w : World) (h : XV w t p s ad n vs) :
    Calls Tryz.prog 21 #[.agg #[.int .i64 t, .int .i64 p, .int .i64 s], .slice (some ad) n c] w fun e w' => e = .returned (.tuple #[.int .i64 (chkF vs t p s).1, .bool (chkF vs t p s).2]) ∧ Below w.heap.size w w' := by
  have H1 := rright_any t p s
  have H2 := rcells_any t p s
  rw [h.right] at H1
  have hcf : cellsF t p s = (n : Int) := by unfold cellsF; rw [h.right, h.num]; rfl
  rw [hcf] at H2
  have HH1 := Lib.hid H1
  have HH2 := Lib.hid H2
  have HV := Lib.hid h
  have hst := (startsF_mem (g := fun q => gv vs t q 0) (p := p) (by have := h.bd; omega)).2.1
  have HSt := Lib.hid hst
  have C_tiles := fun (w : World) (h : XV w t p s ad n vs) => tiles_any c w h
  have C_feet := fun (w : World) (h : XV w t p s ad n vs) (hne : (startsF (fun q => gv vs t q 0) p).1 ≠ []) => feet_any c w h hne
  have C_apart := fun (w : World) (h : XV w t p s ad n vs) => apart_any c w h
  have C_slots := fun (w : World) (h : XV w t p s ad n vs) => slots_any c w h
  have C_bins := fun (w : World) (h : XV w t p s ad n vs) => bins_any c w h
  have C_racks := fun (w : World) (h : XV w t p s ad n vs) => racks_any c w h
  have C_loose := fun (w : World) (h : XV w t p s ad n vs) => loose_any c w h
  have C_counts := fun (w : World) (h : XV w t p s ad n vs) => counts_any c w h
  have C_roots := fun (w : World) (h : XV w t p s ad n vs) => roots_any c w h
  generalize hr : chkF vs t p s = r
  have HR := Lib.hid hr
  clear H1 H2 hcf h hst hr
  cases h_tiles : tilesF vs t p
  · have hR : r = (2, false) := by rw [← HR.out]; simp [chkF, h_tiles]
    subst hR
    rw [h_tiles] at C_tiles
    have K_tiles := Lib.hid C_tiles
    clear HR h_tiles C_tiles C_feet C_apart C_slots C_bins C_racks C_loose C_counts C_roots
    go_enter Tryz.func21, Tryz.ntmps21
    go_wp2_with fail
    refine (HH1.out _).mono ?_
    rintro e w1 ⟨rfl, ha⟩
    obtain ⟨hac, haf⟩ := bcell ha
    have haz0 : w.heap.size < w1.heap.size := by have := ha.size; first | omega | (simp at this; omega)
    go_wp2_with fail
    refine (HH2.out _).mono ?_
    rintro e w2 ⟨rfl, hb⟩
    obtain ⟨hbc, hbf⟩ := bcell hb
    have hbz0 : w1.heap.size ≤ w2.heap.size := by have := hb.size; first | omega | (simp at this; omega)
    have hbz1 : w.heap.size < w2.heap.size := by have := hb.size; first | omega | (simp at this; omega)
    have bel2 : Below w.heap.size w w2 := by (repeat (first | exact Below.refl _ _ | assumption | refine Below.setCell ?_ (by first | omega | (simp; done) | (simp; omega)) _ | refine Below.alloc ?_ (by first | omega | (simp; done) | (simp; omega)) _ | refine Below.drew ?_ | refine Below.trans ?_ (Below.mono ‹Below _ _ _› (by first | omega | (simp; done) | (simp; omega)))))
    have X0 := (HV.out.keep bel2).boxed c
    have X0z := X0.lt
    obtain ⟨X00, X01, X02, X03⟩ := X0.cells
    go_wp2_with fail
    refine (K_tiles.out _ X0.xv).mono ?_
    rintro e v0 ⟨rfl, hv0⟩
    have Y0 := X0.keep hv0
    obtain ⟨Y00, Y01, Y02, Y03⟩ := Y0.cells
    have Y0z := Y0.lt
    clear hv0 X00 X01 X02 X03 X0z
    go_wp2
    exact bodyPost_ret (v := .tuple #[.int .i64 2, .bool false]) (by simp [results, Tryz.results21, go_sem]) rfl ⟨rfl, bel2.trans (Y0.bel.mono bel2.size)⟩
  · have hne := HSt.out (by simp [tilesF] at h_tiles; exact h_tiles.1)
    rw [h_tiles] at C_tiles
    have K_tiles := Lib.hid C_tiles
    clear C_tiles
    cases h_feet : feetF vs t p
    · have hR : r = (3, false) := by rw [← HR.out]; simp [chkF, h_tiles, h_feet]
      have hne := HSt.out (by simp [tilesF] at h_tiles; exact h_tiles.1)
      subst hR
      rw [h_feet] at C_feet
      have K_feet := Lib.hid C_feet
      clear HR h_tiles h_feet C_feet C_apart C_slots C_bins C_racks C_loose C_counts C_roots
      go_enter Tryz.func21, Tryz.ntmps21
      go_wp2_with fail
      refine (HH1.out _).mono ?_
      rintro e w1 ⟨rfl, ha⟩
      obtain ⟨hac, haf⟩ := bcell ha
      have haz0 : w.heap.size < w1.heap.size := by have := ha.size; first | omega | (simp at this; omega)
      go_wp2_with fail
      refine (HH2.out _).mono ?_
      rintro e w2 ⟨rfl, hb⟩
      obtain ⟨hbc, hbf⟩ := bcell hb
      have hbz0 : w1.heap.size ≤ w2.heap.size := by have := hb.size; first | omega | (simp at this; omega)
      have hbz1 : w.heap.size < w2.heap.size := by have := hb.size; first | omega | (simp at this; omega)
      have bel2 : Below w.heap.size w w2 := by (repeat (first | exact Below.refl _ _ | assumption | refine Below.setCell ?_ (by first | omega | (simp; done) | (simp; omega)) _ | refine Below.alloc ?_ (by first | omega | (simp; done) | (simp; omega)) _ | refine Below.drew ?_ | refine Below.trans ?_ (Below.mono ‹Below _ _ _› (by first | omega | (simp; done) | (simp; omega)))))
      have X0 := (HV.out.keep bel2).boxed c
      have X0z := X0.lt
      obtain ⟨X00, X01, X02, X03⟩ := X0.cells
      go_wp2_with fail
      refine (K_tiles.out _ X0.xv).mono ?_
      rintro e v0 ⟨rfl, hv0⟩
      have Y0 := X0.keep hv0
      obtain ⟨Y00, Y01, Y02, Y03⟩ := Y0.cells
      have Y0z := Y0.lt
      clear hv0 X00 X01 X02 X03 X0z
      go_wp2_with fail
      refine (K_feet.out _ Y0.xv hne).mono ?_
      rintro e v1 ⟨rfl, hv1⟩
      have Y1 := Y0.keep hv1
      obtain ⟨Y10, Y11, Y12, Y13⟩ := Y1.cells
      have Y1z := Y1.lt
      clear hv1 Y00 Y01 Y02 Y03 Y0z
      go_wp2
      exact bodyPost_ret (v := .tuple #[.int .i64 3, .bool false]) (by simp [results, Tryz.results21, go_sem]) rfl ⟨rfl, bel2.trans (Y1.bel.mono bel2.size)⟩
    · rw [h_feet] at C_feet
      have K_feet := Lib.hid C_feet
      clear C_feet
      cases h_apart : apartF vs t p
      · have hR : r = (4, false) := by rw [← HR.out]; simp [chkF, h_tiles, h_feet, h_apart]
        subst hR
        rw [h_apart] at C_apart
        have K_apart := Lib.hid C_apart
        clear HR h_tiles h_feet h_apart C_apart C_slots C_bins C_racks C_loose C_counts C_roots
        go_enter Tryz.func21, Tryz.ntmps21
        go_wp2_with fail
        refine (HH1.out _).mono ?_
        rintro e w1 ⟨rfl, ha⟩
        obtain ⟨hac, haf⟩ := bcell ha
        have haz0 : w.heap.size < w1.heap.size := by have := ha.size; first | omega | (simp at this; omega)
        go_wp2_with fail
        refine (HH2.out _).mono ?_
        rintro e w2 ⟨rfl, hb⟩
        obtain ⟨hbc, hbf⟩ := bcell hb
        have hbz0 : w1.heap.size ≤ w2.heap.size := by have := hb.size; first | omega | (simp at this; omega)
        have hbz1 : w.heap.size < w2.heap.size := by have := hb.size; first | omega | (simp at this; omega)
        have bel2 : Below w.heap.size w w2 := by (repeat (first | exact Below.refl _ _ | assumption | refine Below.setCell ?_ (by first | omega | (simp; done) | (simp; omega)) _ | refine Below.alloc ?_ (by first | omega | (simp; done) | (simp; omega)) _ | refine Below.drew ?_ | refine Below.trans ?_ (Below.mono ‹Below _ _ _› (by first | omega | (simp; done) | (simp; omega)))))
        have X0 := (HV.out.keep bel2).boxed c
        have X0z := X0.lt
        obtain ⟨X00, X01, X02, X03⟩ := X0.cells
        go_wp2_with fail
        refine (K_tiles.out _ X0.xv).mono ?_
        rintro e v0 ⟨rfl, hv0⟩
        have Y0 := X0.keep hv0
        obtain ⟨Y00, Y01, Y02, Y03⟩ := Y0.cells
        have Y0z := Y0.lt
        clear hv0 X00 X01 X02 X03 X0z
        go_wp2_with fail
        refine (K_feet.out _ Y0.xv hne).mono ?_
        rintro e v1 ⟨rfl, hv1⟩
        have Y1 := Y0.keep hv1
        obtain ⟨Y10, Y11, Y12, Y13⟩ := Y1.cells
        have Y1z := Y1.lt
        clear hv1 Y00 Y01 Y02 Y03 Y0z
        go_wp2_with fail
        refine (K_apart.out _ Y1.xv).mono ?_
        rintro e v2 ⟨rfl, hv2⟩
        have Y2 := Y1.keep hv2
        obtain ⟨Y20, Y21, Y22, Y23⟩ := Y2.cells
        have Y2z := Y2.lt
        clear hv2 Y10 Y11 Y12 Y13 Y1z
        go_wp2
        exact bodyPost_ret (v := .tuple #[.int .i64 4, .bool false]) (by simp [results, Tryz.results21, go_sem]) rfl ⟨rfl, bel2.trans (Y2.bel.mono bel2.size)⟩
      · rw [h_apart] at C_apart
        have K_apart := Lib.hid C_apart
        clear C_apart
        cases h_slots : slotsAll vs t p
        · have hR : r = (5, false) := by rw [← HR.out]; simp [chkF, h_tiles, h_feet, h_apart, h_slots]
          subst hR
          rw [h_slots] at C_slots
          have K_slots := Lib.hid C_slots
          clear HR h_tiles h_feet h_apart h_slots C_slots C_bins C_racks C_loose C_counts C_roots
          go_enter Tryz.func21, Tryz.ntmps21
          go_wp2_with fail
          refine (HH1.out _).mono ?_
          rintro e w1 ⟨rfl, ha⟩
          obtain ⟨hac, haf⟩ := bcell ha
          have haz0 : w.heap.size < w1.heap.size := by have := ha.size; first | omega | (simp at this; omega)
          go_wp2_with fail
          refine (HH2.out _).mono ?_
          rintro e w2 ⟨rfl, hb⟩
          obtain ⟨hbc, hbf⟩ := bcell hb
          have hbz0 : w1.heap.size ≤ w2.heap.size := by have := hb.size; first | omega | (simp at this; omega)
          have hbz1 : w.heap.size < w2.heap.size := by have := hb.size; first | omega | (simp at this; omega)
          have bel2 : Below w.heap.size w w2 := by (repeat (first | exact Below.refl _ _ | assumption | refine Below.setCell ?_ (by first | omega | (simp; done) | (simp; omega)) _ | refine Below.alloc ?_ (by first | omega | (simp; done) | (simp; omega)) _ | refine Below.drew ?_ | refine Below.trans ?_ (Below.mono ‹Below _ _ _› (by first | omega | (simp; done) | (simp; omega)))))
          have X0 := (HV.out.keep bel2).boxed c
          have X0z := X0.lt
          obtain ⟨X00, X01, X02, X03⟩ := X0.cells
          go_wp2_with fail
          refine (K_tiles.out _ X0.xv).mono ?_
          rintro e v0 ⟨rfl, hv0⟩
          have Y0 := X0.keep hv0
          obtain ⟨Y00, Y01, Y02, Y03⟩ := Y0.cells
          have Y0z := Y0.lt
          clear hv0 X00 X01 X02 X03 X0z
          go_wp2_with fail
          refine (K_feet.out _ Y0.xv hne).mono ?_
          rintro e v1 ⟨rfl, hv1⟩
          have Y1 := Y0.keep hv1
          obtain ⟨Y10, Y11, Y12, Y13⟩ := Y1.cells
          have Y1z := Y1.lt
          clear hv1 Y00 Y01 Y02 Y03 Y0z
          go_wp2_with fail
          refine (K_apart.out _ Y1.xv).mono ?_
          rintro e v2 ⟨rfl, hv2⟩
          have Y2 := Y1.keep hv2
          obtain ⟨Y20, Y21, Y22, Y23⟩ := Y2.cells
          have Y2z := Y2.lt
          clear hv2 Y10 Y11 Y12 Y13 Y1z
          go_wp2_with fail
          refine (K_slots.out _ Y2.xv).mono ?_
          rintro e v3 ⟨rfl, hv3⟩
          have Y3 := Y2.keep hv3
          obtain ⟨Y30, Y31, Y32, Y33⟩ := Y3.cells
          have Y3z := Y3.lt
          clear hv3 Y20 Y21 Y22 Y23 Y2z
          go_wp2
          exact bodyPost_ret (v := .tuple #[.int .i64 5, .bool false]) (by simp [results, Tryz.results21, go_sem]) rfl ⟨rfl, bel2.trans (Y3.bel.mono bel2.size)⟩
        · rw [h_slots] at C_slots
          have K_slots := Lib.hid C_slots
          clear C_slots
          cases h_bins : binsF vs t p
          · have hR : r = (6, false) := by rw [← HR.out]; simp [chkF, h_tiles, h_feet, h_apart, h_slots, h_bins]
            subst hR
            rw [h_bins] at C_bins
            have K_bins := Lib.hid C_bins
            clear HR h_tiles h_feet h_apart h_slots h_bins C_bins C_racks C_loose C_counts C_roots
            go_enter Tryz.func21, Tryz.ntmps21
            go_wp2_with fail
            refine (HH1.out _).mono ?_
            rintro e w1 ⟨rfl, ha⟩
            obtain ⟨hac, haf⟩ := bcell ha
            have haz0 : w.heap.size < w1.heap.size := by have := ha.size; first | omega | (simp at this; omega)
            go_wp2_with fail
            refine (HH2.out _).mono ?_
            rintro e w2 ⟨rfl, hb⟩
            obtain ⟨hbc, hbf⟩ := bcell hb
            have hbz0 : w1.heap.size ≤ w2.heap.size := by have := hb.size; first | omega | (simp at this; omega)
            have hbz1 : w.heap.size < w2.heap.size := by have := hb.size; first | omega | (simp at this; omega)
            have bel2 : Below w.heap.size w w2 := by (repeat (first | exact Below.refl _ _ | assumption | refine Below.setCell ?_ (by first | omega | (simp; done) | (simp; omega)) _ | refine Below.alloc ?_ (by first | omega | (simp; done) | (simp; omega)) _ | refine Below.drew ?_ | refine Below.trans ?_ (Below.mono ‹Below _ _ _› (by first | omega | (simp; done) | (simp; omega)))))
            have X0 := (HV.out.keep bel2).boxed c
            have X0z := X0.lt
            obtain ⟨X00, X01, X02, X03⟩ := X0.cells
            go_wp2_with fail
            refine (K_tiles.out _ X0.xv).mono ?_
            rintro e v0 ⟨rfl, hv0⟩
            have Y0 := X0.keep hv0
            obtain ⟨Y00, Y01, Y02, Y03⟩ := Y0.cells
            have Y0z := Y0.lt
            clear hv0 X00 X01 X02 X03 X0z
            go_wp2_with fail
            refine (K_feet.out _ Y0.xv hne).mono ?_
            rintro e v1 ⟨rfl, hv1⟩
            have Y1 := Y0.keep hv1
            obtain ⟨Y10, Y11, Y12, Y13⟩ := Y1.cells
            have Y1z := Y1.lt
            clear hv1 Y00 Y01 Y02 Y03 Y0z
            go_wp2_with fail
            refine (K_apart.out _ Y1.xv).mono ?_
            rintro e v2 ⟨rfl, hv2⟩
            have Y2 := Y1.keep hv2
            obtain ⟨Y20, Y21, Y22, Y23⟩ := Y2.cells
            have Y2z := Y2.lt
            clear hv2 Y10 Y11 Y12 Y13 Y1z
            go_wp2_with fail
            refine (K_slots.out _ Y2.xv).mono ?_
            rintro e v3 ⟨rfl, hv3⟩
            have Y3 := Y2.keep hv3
            obtain ⟨Y30, Y31, Y32, Y33⟩ := Y3.cells
            have Y3z := Y3.lt
            clear hv3 Y20 Y21 Y22 Y23 Y2z
            go_wp2_with fail
            refine (K_bins.out _ Y3.xv).mono ?_
            rintro e v4 ⟨rfl, hv4⟩
            have Y4 := Y3.keep hv4
            obtain ⟨Y40, Y41, Y42, Y43⟩ := Y4.cells
            have Y4z := Y4.lt
            clear hv4 Y30 Y31 Y32 Y33 Y3z
            go_wp2
            exact bodyPost_ret (v := .tuple #[.int .i64 6, .bool false]) (by simp [results, Tryz.results21, go_sem]) rfl ⟨rfl, bel2.trans (Y4.bel.mono bel2.size)⟩
          · rw [h_bins] at C_bins
            have K_bins := Lib.hid C_bins
            clear C_bins
            cases h_racks : racksF vs t p
            · have hR : r = (7, false) := by rw [← HR.out]; simp [chkF, h_tiles, h_feet, h_apart, h_slots, h_bins, h_racks]
              subst hR
              rw [h_racks] at C_racks
              have K_racks := Lib.hid C_racks
              clear HR h_tiles h_feet h_apart h_slots h_bins h_racks C_racks C_loose C_counts C_roots
              go_enter Tryz.func21, Tryz.ntmps21
              go_wp2_with fail
              refine (HH1.out _).mono ?_
              rintro e w1 ⟨rfl, ha⟩
              obtain ⟨hac, haf⟩ := bcell ha
              have haz0 : w.heap.size < w1.heap.size := by have := ha.size; first | omega | (simp at this; omega)
              go_wp2_with fail
              refine (HH2.out _).mono ?_
              rintro e w2 ⟨rfl, hb⟩
              obtain ⟨hbc, hbf⟩ := bcell hb
              have hbz0 : w1.heap.size ≤ w2.heap.size := by have := hb.size; first | omega | (simp at this; omega)
              have hbz1 : w.heap.size < w2.heap.size := by have := hb.size; first | omega | (simp at this; omega)
              have bel2 : Below w.heap.size w w2 := by (repeat (first | exact Below.refl _ _ | assumption | refine Below.setCell ?_ (by first | omega | (simp; done) | (simp; omega)) _ | refine Below.alloc ?_ (by first | omega | (simp; done) | (simp; omega)) _ | refine Below.drew ?_ | refine Below.trans ?_ (Below.mono ‹Below _ _ _› (by first | omega | (simp; done) | (simp; omega)))))
              have X0 := (HV.out.keep bel2).boxed c
              have X0z := X0.lt
              obtain ⟨X00, X01, X02, X03⟩ := X0.cells
              go_wp2_with fail
              refine (K_tiles.out _ X0.xv).mono ?_
              rintro e v0 ⟨rfl, hv0⟩
              have Y0 := X0.keep hv0
              obtain ⟨Y00, Y01, Y02, Y03⟩ := Y0.cells
              have Y0z := Y0.lt
              clear hv0 X00 X01 X02 X03 X0z
              go_wp2_with fail
              refine (K_feet.out _ Y0.xv hne).mono ?_
              rintro e v1 ⟨rfl, hv1⟩
              have Y1 := Y0.keep hv1
              obtain ⟨Y10, Y11, Y12, Y13⟩ := Y1.cells
              have Y1z := Y1.lt
              clear hv1 Y00 Y01 Y02 Y03 Y0z
              go_wp2_with fail
              refine (K_apart.out _ Y1.xv).mono ?_
              rintro e v2 ⟨rfl, hv2⟩
              have Y2 := Y1.keep hv2
              obtain ⟨Y20, Y21, Y22, Y23⟩ := Y2.cells
              have Y2z := Y2.lt
              clear hv2 Y10 Y11 Y12 Y13 Y1z
              go_wp2_with fail
              refine (K_slots.out _ Y2.xv).mono ?_
              rintro e v3 ⟨rfl, hv3⟩
              have Y3 := Y2.keep hv3
              obtain ⟨Y30, Y31, Y32, Y33⟩ := Y3.cells
              have Y3z := Y3.lt
              clear hv3 Y20 Y21 Y22 Y23 Y2z
              go_wp2_with fail
              refine (K_bins.out _ Y3.xv).mono ?_
              rintro e v4 ⟨rfl, hv4⟩
              have Y4 := Y3.keep hv4
              obtain ⟨Y40, Y41, Y42, Y43⟩ := Y4.cells
              have Y4z := Y4.lt
              clear hv4 Y30 Y31 Y32 Y33 Y3z
              go_wp2_with fail
              refine (K_racks.out _ Y4.xv).mono ?_
              rintro e v5 ⟨rfl, hv5⟩
              have Y5 := Y4.keep hv5
              obtain ⟨Y50, Y51, Y52, Y53⟩ := Y5.cells
              have Y5z := Y5.lt
              clear hv5 Y40 Y41 Y42 Y43 Y4z
              go_wp2
              exact bodyPost_ret (v := .tuple #[.int .i64 7, .bool false]) (by simp [results, Tryz.results21, go_sem]) rfl ⟨rfl, bel2.trans (Y5.bel.mono bel2.size)⟩
            · rw [h_racks] at C_racks
              have K_racks := Lib.hid C_racks
              clear C_racks
              cases h_loose : looseF vs t p
              · have hR : r = (8, false) := by rw [← HR.out]; simp [chkF, h_tiles, h_feet, h_apart, h_slots, h_bins, h_racks, h_loose]
                subst hR
                rw [h_loose] at C_loose
                have K_loose := Lib.hid C_loose
                clear HR h_tiles h_feet h_apart h_slots h_bins h_racks h_loose C_loose C_counts C_roots
                go_enter Tryz.func21, Tryz.ntmps21
                go_wp2_with fail
                refine (HH1.out _).mono ?_
                rintro e w1 ⟨rfl, ha⟩
                obtain ⟨hac, haf⟩ := bcell ha
                have haz0 : w.heap.size < w1.heap.size := by have := ha.size; first | omega | (simp at this; omega)
                go_wp2_with fail
                refine (HH2.out _).mono ?_
                rintro e w2 ⟨rfl, hb⟩
                obtain ⟨hbc, hbf⟩ := bcell hb
                have hbz0 : w1.heap.size ≤ w2.heap.size := by have := hb.size; first | omega | (simp at this; omega)
                have hbz1 : w.heap.size < w2.heap.size := by have := hb.size; first | omega | (simp at this; omega)
                have bel2 : Below w.heap.size w w2 := by (repeat (first | exact Below.refl _ _ | assumption | refine Below.setCell ?_ (by first | omega | (simp; done) | (simp; omega)) _ | refine Below.alloc ?_ (by first | omega | (simp; done) | (simp; omega)) _ | refine Below.drew ?_ | refine Below.trans ?_ (Below.mono ‹Below _ _ _› (by first | omega | (simp; done) | (simp; omega)))))
                have X0 := (HV.out.keep bel2).boxed c
                have X0z := X0.lt
                obtain ⟨X00, X01, X02, X03⟩ := X0.cells
                go_wp2_with fail
                refine (K_tiles.out _ X0.xv).mono ?_
                rintro e v0 ⟨rfl, hv0⟩
                have Y0 := X0.keep hv0
                obtain ⟨Y00, Y01, Y02, Y03⟩ := Y0.cells
                have Y0z := Y0.lt
                clear hv0 X00 X01 X02 X03 X0z
                go_wp2_with fail
                refine (K_feet.out _ Y0.xv hne).mono ?_
                rintro e v1 ⟨rfl, hv1⟩
                have Y1 := Y0.keep hv1
                obtain ⟨Y10, Y11, Y12, Y13⟩ := Y1.cells
                have Y1z := Y1.lt
                clear hv1 Y00 Y01 Y02 Y03 Y0z
                go_wp2_with fail
                refine (K_apart.out _ Y1.xv).mono ?_
                rintro e v2 ⟨rfl, hv2⟩
                have Y2 := Y1.keep hv2
                obtain ⟨Y20, Y21, Y22, Y23⟩ := Y2.cells
                have Y2z := Y2.lt
                clear hv2 Y10 Y11 Y12 Y13 Y1z
                go_wp2_with fail
                refine (K_slots.out _ Y2.xv).mono ?_
                rintro e v3 ⟨rfl, hv3⟩
                have Y3 := Y2.keep hv3
                obtain ⟨Y30, Y31, Y32, Y33⟩ := Y3.cells
                have Y3z := Y3.lt
                clear hv3 Y20 Y21 Y22 Y23 Y2z
                go_wp2_with fail
                refine (K_bins.out _ Y3.xv).mono ?_
                rintro e v4 ⟨rfl, hv4⟩
                have Y4 := Y3.keep hv4
                obtain ⟨Y40, Y41, Y42, Y43⟩ := Y4.cells
                have Y4z := Y4.lt
                clear hv4 Y30 Y31 Y32 Y33 Y3z
                go_wp2_with fail
                refine (K_racks.out _ Y4.xv).mono ?_
                rintro e v5 ⟨rfl, hv5⟩
                have Y5 := Y4.keep hv5
                obtain ⟨Y50, Y51, Y52, Y53⟩ := Y5.cells
                have Y5z := Y5.lt
                clear hv5 Y40 Y41 Y42 Y43 Y4z
                go_wp2_with fail
                refine (K_loose.out _ Y5.xv).mono ?_
                rintro e v6 ⟨rfl, hv6⟩
                have Y6 := Y5.keep hv6
                obtain ⟨Y60, Y61, Y62, Y63⟩ := Y6.cells
                have Y6z := Y6.lt
                clear hv6 Y50 Y51 Y52 Y53 Y5z
                go_wp2
                exact bodyPost_ret (v := .tuple #[.int .i64 8, .bool false]) (by simp [results, Tryz.results21, go_sem]) rfl ⟨rfl, bel2.trans (Y6.bel.mono bel2.size)⟩
              · rw [h_loose] at C_loose
                have K_loose := Lib.hid C_loose
                clear C_loose
                cases h_counts : countsF vs t p
                · have hR : r = (9, false) := by rw [← HR.out]; simp [chkF, h_tiles, h_feet, h_apart, h_slots, h_bins, h_racks, h_loose, h_counts]
                  subst hR
                  rw [h_counts] at C_counts
                  have K_counts := Lib.hid C_counts
                  clear HR h_tiles h_feet h_apart h_slots h_bins h_racks h_loose h_counts C_counts C_roots
                  go_enter Tryz.func21, Tryz.ntmps21
                  go_wp2_with fail
                  refine (HH1.out _).mono ?_
                  rintro e w1 ⟨rfl, ha⟩
                  obtain ⟨hac, haf⟩ := bcell ha
                  have haz0 : w.heap.size < w1.heap.size := by have := ha.size; first | omega | (simp at this; omega)
                  go_wp2_with fail
                  refine (HH2.out _).mono ?_
                  rintro e w2 ⟨rfl, hb⟩
                  obtain ⟨hbc, hbf⟩ := bcell hb
                  have hbz0 : w1.heap.size ≤ w2.heap.size := by have := hb.size; first | omega | (simp at this; omega)
                  have hbz1 : w.heap.size < w2.heap.size := by have := hb.size; first | omega | (simp at this; omega)
                  have bel2 : Below w.heap.size w w2 := by (repeat (first | exact Below.refl _ _ | assumption | refine Below.setCell ?_ (by first | omega | (simp; done) | (simp; omega)) _ | refine Below.alloc ?_ (by first | omega | (simp; done) | (simp; omega)) _ | refine Below.drew ?_ | refine Below.trans ?_ (Below.mono ‹Below _ _ _› (by first | omega | (simp; done) | (simp; omega)))))
                  have X0 := (HV.out.keep bel2).boxed c
                  have X0z := X0.lt
                  obtain ⟨X00, X01, X02, X03⟩ := X0.cells
                  go_wp2_with fail
                  refine (K_tiles.out _ X0.xv).mono ?_
                  rintro e v0 ⟨rfl, hv0⟩
                  have Y0 := X0.keep hv0
                  obtain ⟨Y00, Y01, Y02, Y03⟩ := Y0.cells
                  have Y0z := Y0.lt
                  clear hv0 X00 X01 X02 X03 X0z
                  go_wp2_with fail
                  refine (K_feet.out _ Y0.xv hne).mono ?_
                  rintro e v1 ⟨rfl, hv1⟩
                  have Y1 := Y0.keep hv1
                  obtain ⟨Y10, Y11, Y12, Y13⟩ := Y1.cells
                  have Y1z := Y1.lt
                  clear hv1 Y00 Y01 Y02 Y03 Y0z
                  go_wp2_with fail
                  refine (K_apart.out _ Y1.xv).mono ?_
                  rintro e v2 ⟨rfl, hv2⟩
                  have Y2 := Y1.keep hv2
                  obtain ⟨Y20, Y21, Y22, Y23⟩ := Y2.cells
                  have Y2z := Y2.lt
                  clear hv2 Y10 Y11 Y12 Y13 Y1z
                  go_wp2_with fail
                  refine (K_slots.out _ Y2.xv).mono ?_
                  rintro e v3 ⟨rfl, hv3⟩
                  have Y3 := Y2.keep hv3
                  obtain ⟨Y30, Y31, Y32, Y33⟩ := Y3.cells
                  have Y3z := Y3.lt
                  clear hv3 Y20 Y21 Y22 Y23 Y2z
                  go_wp2_with fail
                  refine (K_bins.out _ Y3.xv).mono ?_
                  rintro e v4 ⟨rfl, hv4⟩
                  have Y4 := Y3.keep hv4
                  obtain ⟨Y40, Y41, Y42, Y43⟩ := Y4.cells
                  have Y4z := Y4.lt
                  clear hv4 Y30 Y31 Y32 Y33 Y3z
                  go_wp2_with fail
                  refine (K_racks.out _ Y4.xv).mono ?_
                  rintro e v5 ⟨rfl, hv5⟩
                  have Y5 := Y4.keep hv5
                  obtain ⟨Y50, Y51, Y52, Y53⟩ := Y5.cells
                  have Y5z := Y5.lt
                  clear hv5 Y40 Y41 Y42 Y43 Y4z
                  go_wp2_with fail
                  refine (K_loose.out _ Y5.xv).mono ?_
                  rintro e v6 ⟨rfl, hv6⟩
                  have Y6 := Y5.keep hv6
                  obtain ⟨Y60, Y61, Y62, Y63⟩ := Y6.cells
                  have Y6z := Y6.lt
                  clear hv6 Y50 Y51 Y52 Y53 Y5z
                  go_wp2_with fail
                  refine (K_counts.out _ Y6.xv).mono ?_
                  rintro e v7 ⟨rfl, hv7⟩
                  have Y7 := Y6.keep hv7
                  obtain ⟨Y70, Y71, Y72, Y73⟩ := Y7.cells
                  have Y7z := Y7.lt
                  clear hv7 Y60 Y61 Y62 Y63 Y6z
                  go_wp2
                  exact bodyPost_ret (v := .tuple #[.int .i64 9, .bool false]) (by simp [results, Tryz.results21, go_sem]) rfl ⟨rfl, bel2.trans (Y7.bel.mono bel2.size)⟩
                · rw [h_counts] at C_counts
                  have K_counts := Lib.hid C_counts
                  clear C_counts
                  cases h_roots : rootsF vs t p s
                  · have hR : r = (10, false) := by rw [← HR.out]; simp [chkF, h_tiles, h_feet, h_apart, h_slots, h_bins, h_racks, h_loose, h_counts, h_roots]
                    subst hR
                    rw [h_roots] at C_roots
                    have K_roots := Lib.hid C_roots
                    clear HR h_tiles h_feet h_apart h_slots h_bins h_racks h_loose h_counts h_roots C_roots 
                    go_enter Tryz.func21, Tryz.ntmps21
                    go_wp2_with fail
                    refine (HH1.out _).mono ?_
                    rintro e w1 ⟨rfl, ha⟩
                    obtain ⟨hac, haf⟩ := bcell ha
                    have haz0 : w.heap.size < w1.heap.size := by have := ha.size; first | omega | (simp at this; omega)
                    go_wp2_with fail
                    refine (HH2.out _).mono ?_
                    rintro e w2 ⟨rfl, hb⟩
                    obtain ⟨hbc, hbf⟩ := bcell hb
                    have hbz0 : w1.heap.size ≤ w2.heap.size := by have := hb.size; first | omega | (simp at this; omega)
                    have hbz1 : w.heap.size < w2.heap.size := by have := hb.size; first | omega | (simp at this; omega)
                    have bel2 : Below w.heap.size w w2 := by (repeat (first | exact Below.refl _ _ | assumption | refine Below.setCell ?_ (by first | omega | (simp; done) | (simp; omega)) _ | refine Below.alloc ?_ (by first | omega | (simp; done) | (simp; omega)) _ | refine Below.drew ?_ | refine Below.trans ?_ (Below.mono ‹Below _ _ _› (by first | omega | (simp; done) | (simp; omega)))))
                    have X0 := (HV.out.keep bel2).boxed c
                    have X0z := X0.lt
                    obtain ⟨X00, X01, X02, X03⟩ := X0.cells
                    go_wp2_with fail
                    refine (K_tiles.out _ X0.xv).mono ?_
                    rintro e v0 ⟨rfl, hv0⟩
                    have Y0 := X0.keep hv0
                    obtain ⟨Y00, Y01, Y02, Y03⟩ := Y0.cells
                    have Y0z := Y0.lt
                    clear hv0 X00 X01 X02 X03 X0z
                    go_wp2_with fail
                    refine (K_feet.out _ Y0.xv hne).mono ?_
                    rintro e v1 ⟨rfl, hv1⟩
                    have Y1 := Y0.keep hv1
                    obtain ⟨Y10, Y11, Y12, Y13⟩ := Y1.cells
                    have Y1z := Y1.lt
                    clear hv1 Y00 Y01 Y02 Y03 Y0z
                    go_wp2_with fail
                    refine (K_apart.out _ Y1.xv).mono ?_
                    rintro e v2 ⟨rfl, hv2⟩
                    have Y2 := Y1.keep hv2
                    obtain ⟨Y20, Y21, Y22, Y23⟩ := Y2.cells
                    have Y2z := Y2.lt
                    clear hv2 Y10 Y11 Y12 Y13 Y1z
                    go_wp2_with fail
                    refine (K_slots.out _ Y2.xv).mono ?_
                    rintro e v3 ⟨rfl, hv3⟩
                    have Y3 := Y2.keep hv3
                    obtain ⟨Y30, Y31, Y32, Y33⟩ := Y3.cells
                    have Y3z := Y3.lt
                    clear hv3 Y20 Y21 Y22 Y23 Y2z
                    go_wp2_with fail
                    refine (K_bins.out _ Y3.xv).mono ?_
                    rintro e v4 ⟨rfl, hv4⟩
                    have Y4 := Y3.keep hv4
                    obtain ⟨Y40, Y41, Y42, Y43⟩ := Y4.cells
                    have Y4z := Y4.lt
                    clear hv4 Y30 Y31 Y32 Y33 Y3z
                    go_wp2_with fail
                    refine (K_racks.out _ Y4.xv).mono ?_
                    rintro e v5 ⟨rfl, hv5⟩
                    have Y5 := Y4.keep hv5
                    obtain ⟨Y50, Y51, Y52, Y53⟩ := Y5.cells
                    have Y5z := Y5.lt
                    clear hv5 Y40 Y41 Y42 Y43 Y4z
                    go_wp2_with fail
                    refine (K_loose.out _ Y5.xv).mono ?_
                    rintro e v6 ⟨rfl, hv6⟩
                    have Y6 := Y5.keep hv6
                    obtain ⟨Y60, Y61, Y62, Y63⟩ := Y6.cells
                    have Y6z := Y6.lt
                    clear hv6 Y50 Y51 Y52 Y53 Y5z
                    go_wp2_with fail
                    refine (K_counts.out _ Y6.xv).mono ?_
                    rintro e v7 ⟨rfl, hv7⟩
                    have Y7 := Y6.keep hv7
                    obtain ⟨Y70, Y71, Y72, Y73⟩ := Y7.cells
                    have Y7z := Y7.lt
                    clear hv7 Y60 Y61 Y62 Y63 Y6z
                    go_wp2_with fail
                    refine (K_roots.out _ Y7.xv).mono ?_
                    rintro e v8 ⟨rfl, hv8⟩
                    have Y8 := Y7.keep hv8
                    obtain ⟨Y80, Y81, Y82, Y83⟩ := Y8.cells
                    have Y8z := Y8.lt
                    clear hv8 Y70 Y71 Y72 Y73 Y7z
                    go_wp2
                    exact bodyPost_ret (v := .tuple #[.int .i64 10, .bool false]) (by simp [results, Tryz.results21, go_sem]) rfl ⟨rfl, bel2.trans (Y8.bel.mono bel2.size)⟩
                  · rw [h_roots] at C_roots
                    have K_roots := Lib.hid C_roots
                    clear C_roots
                    have hR : r = (0, true) := by rw [← HR.out]; simp [chkF, h_tiles, h_feet, h_apart, h_slots, h_bins, h_racks, h_loose, h_counts, h_roots]
                    subst hR
                    clear HR h_tiles h_feet h_apart h_slots h_bins h_racks h_loose h_counts h_roots 
                    go_enter Tryz.func21, Tryz.ntmps21
                    go_wp2_with fail
                    refine (HH1.out _).mono ?_
                    rintro e w1 ⟨rfl, ha⟩
                    obtain ⟨hac, haf⟩ := bcell ha
                    have haz0 : w.heap.size < w1.heap.size := by have := ha.size; first | omega | (simp at this; omega)
                    go_wp2_with fail
                    refine (HH2.out _).mono ?_
                    rintro e w2 ⟨rfl, hb⟩
                    obtain ⟨hbc, hbf⟩ := bcell hb
                    have hbz0 : w1.heap.size ≤ w2.heap.size := by have := hb.size; first | omega | (simp at this; omega)
                    have hbz1 : w.heap.size < w2.heap.size := by have := hb.size; first | omega | (simp at this; omega)
                    have bel2 : Below w.heap.size w w2 := by (repeat (first | exact Below.refl _ _ | assumption | refine Below.setCell ?_ (by first | omega | (simp; done) | (simp; omega)) _ | refine Below.alloc ?_ (by first | omega | (simp; done) | (simp; omega)) _ | refine Below.drew ?_ | refine Below.trans ?_ (Below.mono ‹Below _ _ _› (by first | omega | (simp; done) | (simp; omega)))))
                    have X0 := (HV.out.keep bel2).boxed c
                    have X0z := X0.lt
                    obtain ⟨X00, X01, X02, X03⟩ := X0.cells
                    go_wp2_with fail
                    refine (K_tiles.out _ X0.xv).mono ?_
                    rintro e v0 ⟨rfl, hv0⟩
                    have Y0 := X0.keep hv0
                    obtain ⟨Y00, Y01, Y02, Y03⟩ := Y0.cells
                    have Y0z := Y0.lt
                    clear hv0 X00 X01 X02 X03 X0z
                    go_wp2_with fail
                    refine (K_feet.out _ Y0.xv hne).mono ?_
                    rintro e v1 ⟨rfl, hv1⟩
                    have Y1 := Y0.keep hv1
                    obtain ⟨Y10, Y11, Y12, Y13⟩ := Y1.cells
                    have Y1z := Y1.lt
                    clear hv1 Y00 Y01 Y02 Y03 Y0z
                    go_wp2_with fail
                    refine (K_apart.out _ Y1.xv).mono ?_
                    rintro e v2 ⟨rfl, hv2⟩
                    have Y2 := Y1.keep hv2
                    obtain ⟨Y20, Y21, Y22, Y23⟩ := Y2.cells
                    have Y2z := Y2.lt
                    clear hv2 Y10 Y11 Y12 Y13 Y1z
                    go_wp2_with fail
                    refine (K_slots.out _ Y2.xv).mono ?_
                    rintro e v3 ⟨rfl, hv3⟩
                    have Y3 := Y2.keep hv3
                    obtain ⟨Y30, Y31, Y32, Y33⟩ := Y3.cells
                    have Y3z := Y3.lt
                    clear hv3 Y20 Y21 Y22 Y23 Y2z
                    go_wp2_with fail
                    refine (K_bins.out _ Y3.xv).mono ?_
                    rintro e v4 ⟨rfl, hv4⟩
                    have Y4 := Y3.keep hv4
                    obtain ⟨Y40, Y41, Y42, Y43⟩ := Y4.cells
                    have Y4z := Y4.lt
                    clear hv4 Y30 Y31 Y32 Y33 Y3z
                    go_wp2_with fail
                    refine (K_racks.out _ Y4.xv).mono ?_
                    rintro e v5 ⟨rfl, hv5⟩
                    have Y5 := Y4.keep hv5
                    obtain ⟨Y50, Y51, Y52, Y53⟩ := Y5.cells
                    have Y5z := Y5.lt
                    clear hv5 Y40 Y41 Y42 Y43 Y4z
                    go_wp2_with fail
                    refine (K_loose.out _ Y5.xv).mono ?_
                    rintro e v6 ⟨rfl, hv6⟩
                    have Y6 := Y5.keep hv6
                    obtain ⟨Y60, Y61, Y62, Y63⟩ := Y6.cells
                    have Y6z := Y6.lt
                    clear hv6 Y50 Y51 Y52 Y53 Y5z
                    go_wp2_with fail
                    refine (K_counts.out _ Y6.xv).mono ?_
                    rintro e v7 ⟨rfl, hv7⟩
                    have Y7 := Y6.keep hv7
                    obtain ⟨Y70, Y71, Y72, Y73⟩ := Y7.cells
                    have Y7z := Y7.lt
                    clear hv7 Y60 Y61 Y62 Y63 Y6z
                    go_wp2_with fail
                    refine (K_roots.out _ Y7.xv).mono ?_
                    rintro e v8 ⟨rfl, hv8⟩
                    have Y8 := Y7.keep hv8
                    obtain ⟨Y80, Y81, Y82, Y83⟩ := Y8.cells
                    have Y8z := Y8.lt
                    clear hv8 Y70 Y71 Y72 Y73 Y7z
                    go_wp2
                    exact bodyPost_ret (v := .tuple #[.int .i64 0, .bool true]) (by simp [results, Tryz.results21, go_sem]) rfl ⟨rfl, bel2.trans (Y8.bel.mono bel2.size)⟩

theorem rcheck_no (a : Option Addr) (m c : Nat) (w : World) (h : rightB t p s = false ∨ (m : Int) ≠ cellsN t p) :
    Calls Tryz.prog 21 #[.agg #[.int .i64 t, .int .i64 p, .int .i64 s], .slice a m c] w fun e w' => e = .returned (.tuple #[.int .i64 1, .bool false]) ∧ Below w.heap.size w w' := by
  have H1 := rright_any t p s
  have H2 := rcells_any t p s
  cases hr : rightB t p s
  · rw [hr] at H1
    have HH1 := Lib.hid H1
    clear H1 H2 h hr
    go_enter Tryz.func21, Tryz.ntmps21
    go_wp2_with fail
    refine (HH1.out _).mono ?_
    rintro e w1 ⟨rfl, ha⟩
    obtain ⟨hac, haf⟩ := bcell ha
    have haz0 : w.heap.size < w1.heap.size := by have := ha.size; first | omega | (simp at this; omega)
    go_wp2
    refine bodyPost_ret (v := .tuple #[.int .i64 1, .bool false]) (by simp [results, Tryz.results21, go_sem]) rfl ⟨rfl, ?_⟩
    (repeat (first | exact Below.refl _ _ | assumption | refine Below.setCell ?_ (by first | omega | (simp; done) | (simp; omega)) _ | refine Below.alloc ?_ (by first | omega | (simp; done) | (simp; omega)) _ | refine Below.drew ?_ | refine Below.trans ?_ (Below.mono ‹Below _ _ _› (by first | omega | (simp; done) | (simp; omega)))))
  · rw [hr] at H1
    have hcf : cellsF t p s = cellsN t p := by simp [cellsF, hr]
    rw [hcf] at H2
    have HH1 := Lib.hid H1
    have HH2 := Lib.hid H2
    have hm : (m : Int) ≠ cellsN t p := h.resolve_left (by rw [hr]; simp)
    generalize cellsN t p = z at *
    have hmb : ((m : Int) != z) = true := by simpa using hm
    clear H1 H2 h hr hcf hm
    go_enter Tryz.func21, Tryz.ntmps21
    go_wp2_with fail
    refine (HH1.out _).mono ?_
    rintro e w1 ⟨rfl, ha⟩
    obtain ⟨hac, haf⟩ := bcell ha
    have haz0 : w.heap.size < w1.heap.size := by have := ha.size; first | omega | (simp at this; omega)
    go_wp2_with fail
    refine (HH2.out _).mono ?_
    rintro e w2 ⟨rfl, hb⟩
    obtain ⟨hbc, hbf⟩ := bcell hb
    have hbz0 : w1.heap.size ≤ w2.heap.size := by have := hb.size; first | omega | (simp at this; omega)
    go_wp2
    refine bodyPost_ret (v := .tuple #[.int .i64 1, .bool false]) (by simp [results, Tryz.results21, go_sem]) rfl ⟨rfl, ?_⟩
    (repeat (first | exact Below.refl _ _ | assumption | refine Below.setCell ?_ (by first | omega | (simp; done) | (simp; omega)) _ | refine Below.alloc ?_ (by first | omega | (simp; done) | (simp; omega)) _ | refine Below.drew ?_ | refine Below.trans ?_ (Below.mono ‹Below _ _ _› (by first | omega | (simp; done) | (simp; omega)))))
end
end Go.Proofs.YtcicmljnjdhkjaaGreat
