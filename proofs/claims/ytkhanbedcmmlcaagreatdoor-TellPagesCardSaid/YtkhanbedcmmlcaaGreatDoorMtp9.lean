/- parts of the proof, merged by a program. -/
import Derived.Test.YtkhanbedcmmlcaaGreatDoorMtp2
import Derived.Test.YtkhanbedcmmlcaaGreatDoorMtp3
import Derived.Test.YtkhanbedcmmlcaaGreatDoorMtp4
import Derived.Test.YtkhanbedcmmlcaaGreatDoorMtp5
import Derived.Test.YtkhanbedcmmlcaaGreatDoorMtp6
set_option linter.unusedSimpArgs false
set_option linter.unusedVariables false
/- the document's audit: Check, Sound. -/
set_option linter.unusedSimpArgs false
set_option linter.unusedVariables false
namespace Go.Proofs.YtkhanbedcmmlcaaGreatDoor
open Go.RowKit
section
variable {t p s : Int} {ad : Addr} {n c : Nat} {vs : List Int}

/-- which rule does not hold first. -/
def chkF (vs : List Int) (t p s : Int) : Int × Bool :=
  if tilesF vs t p = false then (2, false) else
  if feetF vs t p = false then (3, false) else
  if apartF vs t p = false then (4, false) else
  if slotsAll vs t p = false then (5, false) else
  if binsF vs t p = false then (6, false) else
  if racksF vs t p = false then (7, false) else
  if looseF vs t p = false then (8, false) else
  if countsF vs t p = false then (9, false) else
  if rootsF vs t p s = false then (10, false) else
  (0, true)

set_option maxHeartbeats 4000000 in
set_option maxRecDepth 100000 in
theorem rcheck_any (c : Nat) (w : World) (h : XV w t p s ad n vs) :
    Calls Tryz.prog 18 #[.agg #[.int .i64 t, .int .i64 p, .int .i64 s], .slice (some ad) n c] w fun e w' => e = .returned (.tuple #[.int .i64 (chkF vs t p s).1, .bool (chkF vs t p s).2]) ∧ Below w.heap.size w w' := by
  have H1 := rright_any t p s
  have H2 := rcells_any t p s
  rw [h.right] at H1
  have hcf : cellsF t p s = (n : Int) := by unfold cellsF; rw [h.right, h.num]; rfl
  rw [hcf] at H2
  have HH1 := Lib.hid H1
  have HH2 := Lib.hid H2
  have HV := Lib.hid h
  have hst := (startsF_mem (g := fun q => gv vs t q 0) (p := p) (by have := h.bd; omega)).2.1
  have HSt := Lib.hid hst
  have C_tiles := fun (w : World) (h : XV w t p s ad n vs) => tiles_any c w h
  have C_feet := fun (w : World) (h : XV w t p s ad n vs) (hne : (startsF (fun q => gv vs t q 0) p).1 ≠ []) => feet_any c w h hne
  have C_apart := fun (w : World) (h : XV w t p s ad n vs) => apart_any c w h
  have C_slots := fun (w : World) (h : XV w t p s ad n vs) => slots_any c w h
  have C_bins := fun (w : World) (h : XV w t p s ad n vs) => bins_any c w h
  have C_racks := fun (w : World) (h : XV w t p s ad n vs) => racks_any c w h
  have C_loose := fun (w : World) (h : XV w t p s ad n vs) => loose_any c w h
  have C_counts := fun (w : World) (h : XV w t p s ad n vs) => counts_any c w h
  have C_roots := fun (w : World) (h : XV w t p s ad n vs) => roots_any c w h
  generalize hr : chkF vs t p s = r
  have HR := Lib.hid hr
  clear H1 H2 hcf h hst hr
  cases h_tiles : tilesF vs t p
  · have hR : r = (2, false) := by rw [← HR.out]; simp [chkF, h_tiles]
    subst hR
    rw [h_tiles] at C_tiles
    have K_tiles := Lib.hid C_tiles
    clear HR h_tiles C_tiles C_feet C_apart C_slots C_bins C_racks C_loose C_counts C_roots
    go_enter Tryz.func18, Tryz.ntmps18
    go_wp2_with fail
    refine (HH1.out _).mono ?_
    rintro e w1 ⟨rfl, ha⟩
    obtain ⟨hac, haf⟩ := bcell ha
    have haz0 : w.heap.size < w1.heap.size := by have := ha.size; first | omega | (simp at this; omega)
    go_wp2_with fail
    refine (HH2.out _).mono ?_
    rintro e w2 ⟨rfl, hb⟩
    obtain ⟨hbc, hbf⟩ := bcell hb
    have hbz0 : w1.heap.size ≤ w2.heap.size := by have := hb.size; first | omega | (simp at this; omega)
    have hbz1 : w.heap.size < w2.heap.size := by have := hb.size; first | omega | (simp at this; omega)
    have bel2 : Below w.heap.size w w2 := by (repeat (first | exact Below.refl _ _ | assumption | refine Below.setCell ?_ (by first | omega | (simp; done) | (simp; omega)) _ | refine Below.alloc ?_ (by first | omega | (simp; done) | (simp; omega)) _ | refine Below.drew ?_ | refine Below.trans ?_ (Below.mono ‹Below _ _ _› (by first | omega | (simp; done) | (simp; omega)))))
    have X0 := (HV.out.keep bel2).boxed c
    have X0z := X0.lt
    obtain ⟨X00, X01, X02, X03⟩ := X0.cells
    go_wp2_with fail
    refine (K_tiles.out _ X0.xv).mono ?_
    rintro e v0 ⟨rfl, hv0⟩
    have Y0 := X0.keep hv0
    obtain ⟨Y00, Y01, Y02, Y03⟩ := Y0.cells
    have Y0z := Y0.lt
    clear hv0 X00 X01 X02 X03 X0z
    go_wp2
    exact bodyPost_ret (v := .tuple #[.int .i64 2, .bool false]) (by simp [results, Tryz.results18, go_sem]) rfl ⟨rfl, bel2.trans (Y0.bel.mono bel2.size)⟩
  · have hne := HSt.out (by simp [tilesF] at h_tiles; exact h_tiles.1)
    rw [h_tiles] at C_tiles
    have K_tiles := Lib.hid C_tiles
    clear C_tiles
    cases h_feet : feetF vs t p
    · have hR : r = (3, false) := by rw [← HR.out]; simp [chkF, h_tiles, h_feet]
      have hne := HSt.out (by simp [tilesF] at h_tiles; exact h_tiles.1)
      subst hR
      rw [h_feet] at C_feet
      have K_feet := Lib.hid C_feet
      clear HR h_tiles h_feet C_feet C_apart C_slots C_bins C_racks C_loose C_counts C_roots
      go_enter Tryz.func18, Tryz.ntmps18
      go_wp2_with fail
      refine (HH1.out _).mono ?_
      rintro e w1 ⟨rfl, ha⟩
      obtain ⟨hac, haf⟩ := bcell ha
      have haz0 : w.heap.size < w1.heap.size := by have := ha.size; first | omega | (simp at this; omega)
      go_wp2_with fail
      refine (HH2.out _).mono ?_
      rintro e w2 ⟨rfl, hb⟩
      obtain ⟨hbc, hbf⟩ := bcell hb
      have hbz0 : w1.heap.size ≤ w2.heap.size := by have := hb.size; first | omega | (simp at this; omega)
      have hbz1 : w.heap.size < w2.heap.size := by have := hb.size; first | omega | (simp at this; omega)
      have bel2 : Below w.heap.size w w2 := by (repeat (first | exact Below.refl _ _ | assumption | refine Below.setCell ?_ (by first | omega | (simp; done) | (simp; omega)) _ | refine Below.alloc ?_ (by first | omega | (simp; done) | (simp; omega)) _ | refine Below.drew ?_ | refine Below.trans ?_ (Below.mono ‹Below _ _ _› (by first | omega | (simp; done) | (simp; omega)))))
      have X0 := (HV.out.keep bel2).boxed c
      have X0z := X0.lt
      obtain ⟨X00, X01, X02, X03⟩ := X0.cells
      go_wp2_with fail
      refine (K_tiles.out _ X0.xv).mono ?_
      rintro e v0 ⟨rfl, hv0⟩
      have Y0 := X0.keep hv0
      obtain ⟨Y00, Y01, Y02, Y03⟩ := Y0.cells
      have Y0z := Y0.lt
      clear hv0 X00 X01 X02 X03 X0z
      go_wp2_with fail
      refine (K_feet.out _ Y0.xv hne).mono ?_
      rintro e v1 ⟨rfl, hv1⟩
      have Y1 := Y0.keep hv1
      obtain ⟨Y10, Y11, Y12, Y13⟩ := Y1.cells
      have Y1z := Y1.lt
      clear hv1 Y00 Y01 Y02 Y03 Y0z
      go_wp2
      exact bodyPost_ret (v := .tuple #[.int .i64 3, .bool false]) (by simp [results, Tryz.results18, go_sem]) rfl ⟨rfl, bel2.trans (Y1.bel.mono bel2.size)⟩
    · rw [h_feet] at C_feet
      have K_feet := Lib.hid C_feet
      clear C_feet
      cases h_apart : apartF vs t p
      · have hR : r = (4, false) := by rw [← HR.out]; simp [chkF, h_tiles, h_feet, h_apart]
        subst hR
        rw [h_apart] at C_apart
        have K_apart := Lib.hid C_apart
        clear HR h_tiles h_feet h_apart C_apart C_slots C_bins C_racks C_loose C_counts C_roots
        go_enter Tryz.func18, Tryz.ntmps18
        go_wp2_with fail
        refine (HH1.out _).mono ?_
        rintro e w1 ⟨rfl, ha⟩
        obtain ⟨hac, haf⟩ := bcell ha
        have haz0 : w.heap.size < w1.heap.size := by have := ha.size; first | omega | (simp at this; omega)
        go_wp2_with fail
        refine (HH2.out _).mono ?_
        rintro e w2 ⟨rfl, hb⟩
        obtain ⟨hbc, hbf⟩ := bcell hb
        have hbz0 : w1.heap.size ≤ w2.heap.size := by have := hb.size; first | omega | (simp at this; omega)
        have hbz1 : w.heap.size < w2.heap.size := by have := hb.size; first | omega | (simp at this; omega)
        have bel2 : Below w.heap.size w w2 := by (repeat (first | exact Below.refl _ _ | assumption | refine Below.setCell ?_ (by first | omega | (simp; done) | (simp; omega)) _ | refine Below.alloc ?_ (by first | omega | (simp; done) | (simp; omega)) _ | refine Below.drew ?_ | refine Below.trans ?_ (Below.mono ‹Below _ _ _› (by first | omega | (simp; done) | (simp; omega)))))
        have X0 := (HV.out.keep bel2).boxed c
        have X0z := X0.lt
        obtain ⟨X00, X01, X02, X03⟩ := X0.cells
        go_wp2_with fail
        refine (K_tiles.out _ X0.xv).mono ?_
        rintro e v0 ⟨rfl, hv0⟩
        have Y0 := X0.keep hv0
        obtain ⟨Y00, Y01, Y02, Y03⟩ := Y0.cells
        have Y0z := Y0.lt
        clear hv0 X00 X01 X02 X03 X0z
        go_wp2_with fail
        refine (K_feet.out _ Y0.xv hne).mono ?_
        rintro e v1 ⟨rfl, hv1⟩
        have Y1 := Y0.keep hv1
        obtain ⟨Y10, Y11, Y12, Y13⟩ := Y1.cells
        have Y1z := Y1.lt
        clear hv1 Y00 Y01 Y02 Y03 Y0z
        go_wp2_with fail
        refine (K_apart.out _ Y1.xv).mono ?_
        rintro e v2 ⟨rfl, hv2⟩
        have Y2 := Y1.keep hv2
        obtain ⟨Y20, Y21, Y22, Y23⟩ := Y2.cells
        have Y2z := Y2.lt
        clear hv2 Y10 Y11 Y12 Y13 Y1z
        go_wp2
        exact bodyPost_ret (v := .tuple #[.int .i64 4, .bool false]) (by simp [results, Tryz.results18, go_sem]) rfl ⟨rfl, bel2.trans (Y2.bel.mono bel2.size)⟩
      · rw [h_apart] at C_apart
        have K_apart := Lib.hid C_apart
        clear C_apart
        cases h_slots : slotsAll vs t p
        · have hR : r = (5, false) := by rw [← HR.out]; simp [chkF, h_tiles, h_feet, h_apart, h_slots]
          subst hR
          rw [h_slots] at C_slots
          have K_slots := Lib.hid C_slots
          clear HR h_tiles h_feet h_apart h_slots C_slots C_bins C_racks C_loose C_counts C_roots
          go_enter Tryz.func18, Tryz.ntmps18
          go_wp2_with fail
          refine (HH1.out _).mono ?_
          rintro e w1 ⟨rfl, ha⟩
          obtain ⟨hac, haf⟩ := bcell ha
          have haz0 : w.heap.size < w1.heap.size := by have := ha.size; first | omega | (simp at this; omega)
          go_wp2_with fail
          refine (HH2.out _).mono ?_
          rintro e w2 ⟨rfl, hb⟩
          obtain ⟨hbc, hbf⟩ := bcell hb
          have hbz0 : w1.heap.size ≤ w2.heap.size := by have := hb.size; first | omega | (simp at this; omega)
          have hbz1 : w.heap.size < w2.heap.size := by have := hb.size; first | omega | (simp at this; omega)
          have bel2 : Below w.heap.size w w2 := by (repeat (first | exact Below.refl _ _ | assumption | refine Below.setCell ?_ (by first | omega | (simp; done) | (simp; omega)) _ | refine Below.alloc ?_ (by first | omega | (simp; done) | (simp; omega)) _ | refine Below.drew ?_ | refine Below.trans ?_ (Below.mono ‹Below _ _ _› (by first | omega | (simp; done) | (simp; omega)))))
          have X0 := (HV.out.keep bel2).boxed c
          have X0z := X0.lt
          obtain ⟨X00, X01, X02, X03⟩ := X0.cells
          go_wp2_with fail
          refine (K_tiles.out _ X0.xv).mono ?_
          rintro e v0 ⟨rfl, hv0⟩
          have Y0 := X0.keep hv0
          obtain ⟨Y00, Y01, Y02, Y03⟩ := Y0.cells
          have Y0z := Y0.lt
          clear hv0 X00 X01 X02 X03 X0z
          go_wp2_with fail
          refine (K_feet.out _ Y0.xv hne).mono ?_
          rintro e v1 ⟨rfl, hv1⟩
          have Y1 := Y0.keep hv1
          obtain ⟨Y10, Y11, Y12, Y13⟩ := Y1.cells
          have Y1z := Y1.lt
          clear hv1 Y00 Y01 Y02 Y03 Y0z
          go_wp2_with fail
          refine (K_apart.out _ Y1.xv).mono ?_
          rintro e v2 ⟨rfl, hv2⟩
          have Y2 := Y1.keep hv2
          obtain ⟨Y20, Y21, Y22, Y23⟩ := Y2.cells
          have Y2z := Y2.lt
          clear hv2 Y10 Y11 Y12 Y13 Y1z
          go_wp2_with fail
          refine (K_slots.out _ Y2.xv).mono ?_
          rintro e v3 ⟨rfl, hv3⟩
          have Y3 := Y2.keep hv3
          obtain ⟨Y30, Y31, Y32, Y33⟩ := Y3.cells
          have Y3z := Y3.lt
          clear hv3 Y20 Y21 Y22 Y23 Y2z
          go_wp2
          exact bodyPost_ret (v := .tuple #[.int .i64 5, .bool false]) (by simp [results, Tryz.results18, go_sem]) rfl ⟨rfl, bel2.trans (Y3.bel.mono bel2.size)⟩
        · rw [h_slots] at C_slots
          have K_slots := Lib.hid C_slots
          clear C_slots
          cases h_bins : binsF vs t p
          · have hR : r = (6, false) := by rw [← HR.out]; simp [chkF, h_tiles, h_feet, h_apart, h_slots, h_bins]
            subst hR
            rw [h_bins] at C_bins
            have K_bins := Lib.hid C_bins
            clear HR h_tiles h_feet h_apart h_slots h_bins C_bins C_racks C_loose C_counts C_roots
            go_enter Tryz.func18, Tryz.ntmps18
            go_wp2_with fail
            refine (HH1.out _).mono ?_
            rintro e w1 ⟨rfl, ha⟩
            obtain ⟨hac, haf⟩ := bcell ha
            have haz0 : w.heap.size < w1.heap.size := by have := ha.size; first | omega | (simp at this; omega)
            go_wp2_with fail
            refine (HH2.out _).mono ?_
            rintro e w2 ⟨rfl, hb⟩
            obtain ⟨hbc, hbf⟩ := bcell hb
            have hbz0 : w1.heap.size ≤ w2.heap.size := by have := hb.size; first | omega | (simp at this; omega)
            have hbz1 : w.heap.size < w2.heap.size := by have := hb.size; first | omega | (simp at this; omega)
            have bel2 : Below w.heap.size w w2 := by (repeat (first | exact Below.refl _ _ | assumption | refine Below.setCell ?_ (by first | omega | (simp; done) | (simp; omega)) _ | refine Below.alloc ?_ (by first | omega | (simp; done) | (simp; omega)) _ | refine Below.drew ?_ | refine Below.trans ?_ (Below.mono ‹Below _ _ _› (by first | omega | (simp; done) | (simp; omega)))))
            have X0 := (HV.out.keep bel2).boxed c
            have X0z := X0.lt
            obtain ⟨X00, X01, X02, X03⟩ := X0.cells
            go_wp2_with fail
            refine (K_tiles.out _ X0.xv).mono ?_
            rintro e v0 ⟨rfl, hv0⟩
            have Y0 := X0.keep hv0
            obtain ⟨Y00, Y01, Y02, Y03⟩ := Y0.cells
            have Y0z := Y0.lt
            clear hv0 X00 X01 X02 X03 X0z
            go_wp2_with fail
            refine (K_feet.out _ Y0.xv hne).mono ?_
            rintro e v1 ⟨rfl, hv1⟩
            have Y1 := Y0.keep hv1
            obtain ⟨Y10, Y11, Y12, Y13⟩ := Y1.cells
            have Y1z := Y1.lt
            clear hv1 Y00 Y01 Y02 Y03 Y0z
            go_wp2_with fail
            refine (K_apart.out _ Y1.xv).mono ?_
            rintro e v2 ⟨rfl, hv2⟩
            have Y2 := Y1.keep hv2
            obtain ⟨Y20, Y21, Y22, Y23⟩ := Y2.cells
            have Y2z := Y2.lt
            clear hv2 Y10 Y11 Y12 Y13 Y1z
            go_wp2_with fail
            refine (K_slots.out _ Y2.xv).mono ?_
            rintro e v3 ⟨rfl, hv3⟩
            have Y3 := Y2.keep hv3
            obtain ⟨Y30, Y31, Y32, Y33⟩ := Y3.cells
            have Y3z := Y3.lt
            clear hv3 Y20 Y21 Y22 Y23 Y2z
            go_wp2_with fail
            refine (K_bins.out _ Y3.xv).mono ?_
            rintro e v4 ⟨rfl, hv4⟩
            have Y4 := Y3.keep hv4
            obtain ⟨Y40, Y41, Y42, Y43⟩ := Y4.cells
            have Y4z := Y4.lt
            clear hv4 Y30 Y31 Y32 Y33 Y3z
            go_wp2
            exact bodyPost_ret (v := .tuple #[.int .i64 6, .bool false]) (by simp [results, Tryz.results18, go_sem]) rfl ⟨rfl, bel2.trans (Y4.bel.mono bel2.size)⟩
          · rw [h_bins] at C_bins
            have K_bins := Lib.hid C_bins
            clear C_bins
            cases h_racks : racksF vs t p
            · have hR : r = (7, false) := by rw [← HR.out]; simp [chkF, h_tiles, h_feet, h_apart, h_slots, h_bins, h_racks]
              subst hR
              rw [h_racks] at C_racks
              have K_racks := Lib.hid C_racks
              clear HR h_tiles h_feet h_apart h_slots h_bins h_racks C_racks C_loose C_counts C_roots
              go_enter Tryz.func18, Tryz.ntmps18
              go_wp2_with fail
              refine (HH1.out _).mono ?_
              rintro e w1 ⟨rfl, ha⟩
              obtain ⟨hac, haf⟩ := bcell ha
              have haz0 : w.heap.size < w1.heap.size := by have := ha.size; first | omega | (simp at this; omega)
              go_wp2_with fail
              refine (HH2.out _).mono ?_
              rintro e w2 ⟨rfl, hb⟩
              obtain ⟨hbc, hbf⟩ := bcell hb
              have hbz0 : w1.heap.size ≤ w2.heap.size := by have := hb.size; first | omega | (simp at this; omega)
              have hbz1 : w.heap.size < w2.heap.size := by have := hb.size; first | omega | (simp at this; omega)
              have bel2 : Below w.heap.size w w2 := by (repeat (first | exact Below.refl _ _ | assumption | refine Below.setCell ?_ (by first | omega | (simp; done) | (simp; omega)) _ | refine Below.alloc ?_ (by first | omega | (simp; done) | (simp; omega)) _ | refine Below.drew ?_ | refine Below.trans ?_ (Below.mono ‹Below _ _ _› (by first | omega | (simp; done) | (simp; omega)))))
              have X0 := (HV.out.keep bel2).boxed c
              have X0z := X0.lt
              obtain ⟨X00, X01, X02, X03⟩ := X0.cells
              go_wp2_with fail
              refine (K_tiles.out _ X0.xv).mono ?_
              rintro e v0 ⟨rfl, hv0⟩
              have Y0 := X0.keep hv0
              obtain ⟨Y00, Y01, Y02, Y03⟩ := Y0.cells
              have Y0z := Y0.lt
              clear hv0 X00 X01 X02 X03 X0z
              go_wp2_with fail
              refine (K_feet.out _ Y0.xv hne).mono ?_
              rintro e v1 ⟨rfl, hv1⟩
              have Y1 := Y0.keep hv1
              obtain ⟨Y10, Y11, Y12, Y13⟩ := Y1.cells
              have Y1z := Y1.lt
              clear hv1 Y00 Y01 Y02 Y03 Y0z
              go_wp2_with fail
              refine (K_apart.out _ Y1.xv).mono ?_
              rintro e v2 ⟨rfl, hv2⟩
              have Y2 := Y1.keep hv2
              obtain ⟨Y20, Y21, Y22, Y23⟩ := Y2.cells
              have Y2z := Y2.lt
              clear hv2 Y10 Y11 Y12 Y13 Y1z
              go_wp2_with fail
              refine (K_slots.out _ Y2.xv).mono ?_
              rintro e v3 ⟨rfl, hv3⟩
              have Y3 := Y2.keep hv3
              obtain ⟨Y30, Y31, Y32, Y33⟩ := Y3.cells
              have Y3z := Y3.lt
              clear hv3 Y20 Y21 Y22 Y23 Y2z
              go_wp2_with fail
              refine (K_bins.out _ Y3.xv).mono ?_
              rintro e v4 ⟨rfl, hv4⟩
              have Y4 := Y3.keep hv4
              obtain ⟨Y40, Y41, Y42, Y43⟩ := Y4.cells
              have Y4z := Y4.lt
              clear hv4 Y30 Y31 Y32 Y33 Y3z
              go_wp2_with fail
              refine (K_racks.out _ Y4.xv).mono ?_
              rintro e v5 ⟨rfl, hv5⟩
              have Y5 := Y4.keep hv5
              obtain ⟨Y50, Y51, Y52, Y53⟩ := Y5.cells
              have Y5z := Y5.lt
              clear hv5 Y40 Y41 Y42 Y43 Y4z
              go_wp2
              exact bodyPost_ret (v := .tuple #[.int .i64 7, .bool false]) (by simp [results, Tryz.results18, go_sem]) rfl ⟨rfl, bel2.trans (Y5.bel.mono bel2.size)⟩
            · rw [h_racks] at C_racks
              have K_racks := Lib.hid C_racks
              clear C_racks
              cases h_loose : looseF vs t p
              · have hR : r = (8, false) := by rw [← HR.out]; simp [chkF, h_tiles, h_feet, h_apart, h_slots, h_bins, h_racks, h_loose]
                subst hR
                rw [h_loose] at C_loose
                have K_loose := Lib.hid C_loose
                clear HR h_tiles h_feet h_apart h_slots h_bins h_racks h_loose C_loose C_counts C_roots
                go_enter Tryz.func18, Tryz.ntmps18
                go_wp2_with fail
                refine (HH1.out _).mono ?_
                rintro e w1 ⟨rfl, ha⟩
                obtain ⟨hac, haf⟩ := bcell ha
                have haz0 : w.heap.size < w1.heap.size := by have := ha.size; first | omega | (simp at this; omega)
                go_wp2_with fail
                refine (HH2.out _).mono ?_
                rintro e w2 ⟨rfl, hb⟩
                obtain ⟨hbc, hbf⟩ := bcell hb
                have hbz0 : w1.heap.size ≤ w2.heap.size := by have := hb.size; first | omega | (simp at this; omega)
                have hbz1 : w.heap.size < w2.heap.size := by have := hb.size; first | omega | (simp at this; omega)
                have bel2 : Below w.heap.size w w2 := by (repeat (first | exact Below.refl _ _ | assumption | refine Below.setCell ?_ (by first | omega | (simp; done) | (simp; omega)) _ | refine Below.alloc ?_ (by first | omega | (simp; done) | (simp; omega)) _ | refine Below.drew ?_ | refine Below.trans ?_ (Below.mono ‹Below _ _ _› (by first | omega | (simp; done) | (simp; omega)))))
                have X0 := (HV.out.keep bel2).boxed c
                have X0z := X0.lt
                obtain ⟨X00, X01, X02, X03⟩ := X0.cells
                go_wp2_with fail
                refine (K_tiles.out _ X0.xv).mono ?_
                rintro e v0 ⟨rfl, hv0⟩
                have Y0 := X0.keep hv0
                obtain ⟨Y00, Y01, Y02, Y03⟩ := Y0.cells
                have Y0z := Y0.lt
                clear hv0 X00 X01 X02 X03 X0z
                go_wp2_with fail
                refine (K_feet.out _ Y0.xv hne).mono ?_
                rintro e v1 ⟨rfl, hv1⟩
                have Y1 := Y0.keep hv1
                obtain ⟨Y10, Y11, Y12, Y13⟩ := Y1.cells
                have Y1z := Y1.lt
                clear hv1 Y00 Y01 Y02 Y03 Y0z
                go_wp2_with fail
                refine (K_apart.out _ Y1.xv).mono ?_
                rintro e v2 ⟨rfl, hv2⟩
                have Y2 := Y1.keep hv2
                obtain ⟨Y20, Y21, Y22, Y23⟩ := Y2.cells
                have Y2z := Y2.lt
                clear hv2 Y10 Y11 Y12 Y13 Y1z
                go_wp2_with fail
                refine (K_slots.out _ Y2.xv).mono ?_
                rintro e v3 ⟨rfl, hv3⟩
                have Y3 := Y2.keep hv3
                obtain ⟨Y30, Y31, Y32, Y33⟩ := Y3.cells
                have Y3z := Y3.lt
                clear hv3 Y20 Y21 Y22 Y23 Y2z
                go_wp2_with fail
                refine (K_bins.out _ Y3.xv).mono ?_
                rintro e v4 ⟨rfl, hv4⟩
                have Y4 := Y3.keep hv4
                obtain ⟨Y40, Y41, Y42, Y43⟩ := Y4.cells
                have Y4z := Y4.lt
                clear hv4 Y30 Y31 Y32 Y33 Y3z
                go_wp2_with fail
                refine (K_racks.out _ Y4.xv).mono ?_
                rintro e v5 ⟨rfl, hv5⟩
                have Y5 := Y4.keep hv5
                obtain ⟨Y50, Y51, Y52, Y53⟩ := Y5.cells
                have Y5z := Y5.lt
                clear hv5 Y40 Y41 Y42 Y43 Y4z
                go_wp2_with fail
                refine (K_loose.out _ Y5.xv).mono ?_
                rintro e v6 ⟨rfl, hv6⟩
                have Y6 := Y5.keep hv6
                obtain ⟨Y60, Y61, Y62, Y63⟩ := Y6.cells
                have Y6z := Y6.lt
                clear hv6 Y50 Y51 Y52 Y53 Y5z
                go_wp2
                exact bodyPost_ret (v := .tuple #[.int .i64 8, .bool false]) (by simp [results, Tryz.results18, go_sem]) rfl ⟨rfl, bel2.trans (Y6.bel.mono bel2.size)⟩
              · rw [h_loose] at C_loose
                have K_loose := Lib.hid C_loose
                clear C_loose
                cases h_counts : countsF vs t p
                · have hR : r = (9, false) := by rw [← HR.out]; simp [chkF, h_tiles, h_feet, h_apart, h_slots, h_bins, h_racks, h_loose, h_counts]
                  subst hR
                  rw [h_counts] at C_counts
                  have K_counts := Lib.hid C_counts
                  clear HR h_tiles h_feet h_apart h_slots h_bins h_racks h_loose h_counts C_counts C_roots
                  go_enter Tryz.func18, Tryz.ntmps18
                  go_wp2_with fail
                  refine (HH1.out _).mono ?_
                  rintro e w1 ⟨rfl, ha⟩
                  obtain ⟨hac, haf⟩ := bcell ha
                  have haz0 : w.heap.size < w1.heap.size := by have := ha.size; first | omega | (simp at this; omega)
                  go_wp2_with fail
                  refine (HH2.out _).mono ?_
                  rintro e w2 ⟨rfl, hb⟩
                  obtain ⟨hbc, hbf⟩ := bcell hb
                  have hbz0 : w1.heap.size ≤ w2.heap.size := by have := hb.size; first | omega | (simp at this; omega)
                  have hbz1 : w.heap.size < w2.heap.size := by have := hb.size; first | omega | (simp at this; omega)
                  have bel2 : Below w.heap.size w w2 := by (repeat (first | exact Below.refl _ _ | assumption | refine Below.setCell ?_ (by first | omega | (simp; done) | (simp; omega)) _ | refine Below.alloc ?_ (by first | omega | (simp; done) | (simp; omega)) _ | refine Below.drew ?_ | refine Below.trans ?_ (Below.mono ‹Below _ _ _› (by first | omega | (simp; done) | (simp; omega)))))
                  have X0 := (HV.out.keep bel2).boxed c
                  have X0z := X0.lt
                  obtain ⟨X00, X01, X02, X03⟩ := X0.cells
                  go_wp2_with fail
                  refine (K_tiles.out _ X0.xv).mono ?_
                  rintro e v0 ⟨rfl, hv0⟩
                  have Y0 := X0.keep hv0
                  obtain ⟨Y00, Y01, Y02, Y03⟩ := Y0.cells
                  have Y0z := Y0.lt
                  clear hv0 X00 X01 X02 X03 X0z
                  go_wp2_with fail
                  refine (K_feet.out _ Y0.xv hne).mono ?_
                  rintro e v1 ⟨rfl, hv1⟩
                  have Y1 := Y0.keep hv1
                  obtain ⟨Y10, Y11, Y12, Y13⟩ := Y1.cells
                  have Y1z := Y1.lt
                  clear hv1 Y00 Y01 Y02 Y03 Y0z
                  go_wp2_with fail
                  refine (K_apart.out _ Y1.xv).mono ?_
                  rintro e v2 ⟨rfl, hv2⟩
                  have Y2 := Y1.keep hv2
                  obtain ⟨Y20, Y21, Y22, Y23⟩ := Y2.cells
                  have Y2z := Y2.lt
                  clear hv2 Y10 Y11 Y12 Y13 Y1z
                  go_wp2_with fail
                  refine (K_slots.out _ Y2.xv).mono ?_
                  rintro e v3 ⟨rfl, hv3⟩
                  have Y3 := Y2.keep hv3
                  obtain ⟨Y30, Y31, Y32, Y33⟩ := Y3.cells
                  have Y3z := Y3.lt
                  clear hv3 Y20 Y21 Y22 Y23 Y2z
                  go_wp2_with fail
                  refine (K_bins.out _ Y3.xv).mono ?_
                  rintro e v4 ⟨rfl, hv4⟩
                  have Y4 := Y3.keep hv4
                  obtain ⟨Y40, Y41, Y42, Y43⟩ := Y4.cells
                  have Y4z := Y4.lt
                  clear hv4 Y30 Y31 Y32 Y33 Y3z
                  go_wp2_with fail
                  refine (K_racks.out _ Y4.xv).mono ?_
                  rintro e v5 ⟨rfl, hv5⟩
                  have Y5 := Y4.keep hv5
                  obtain ⟨Y50, Y51, Y52, Y53⟩ := Y5.cells
                  have Y5z := Y5.lt
                  clear hv5 Y40 Y41 Y42 Y43 Y4z
                  go_wp2_with fail
                  refine (K_loose.out _ Y5.xv).mono ?_
                  rintro e v6 ⟨rfl, hv6⟩
                  have Y6 := Y5.keep hv6
                  obtain ⟨Y60, Y61, Y62, Y63⟩ := Y6.cells
                  have Y6z := Y6.lt
                  clear hv6 Y50 Y51 Y52 Y53 Y5z
                  go_wp2_with fail
                  refine (K_counts.out _ Y6.xv).mono ?_
                  rintro e v7 ⟨rfl, hv7⟩
                  have Y7 := Y6.keep hv7
                  obtain ⟨Y70, Y71, Y72, Y73⟩ := Y7.cells
                  have Y7z := Y7.lt
                  clear hv7 Y60 Y61 Y62 Y63 Y6z
                  go_wp2
                  exact bodyPost_ret (v := .tuple #[.int .i64 9, .bool false]) (by simp [results, Tryz.results18, go_sem]) rfl ⟨rfl, bel2.trans (Y7.bel.mono bel2.size)⟩
                · rw [h_counts] at C_counts
                  have K_counts := Lib.hid C_counts
                  clear C_counts
                  cases h_roots : rootsF vs t p s
                  · have hR : r = (10, false) := by rw [← HR.out]; simp [chkF, h_tiles, h_feet, h_apart, h_slots, h_bins, h_racks, h_loose, h_counts, h_roots]
                    subst hR
                    rw [h_roots] at C_roots
                    have K_roots := Lib.hid C_roots
                    clear HR h_tiles h_feet h_apart h_slots h_bins h_racks h_loose h_counts h_roots C_roots 
                    go_enter Tryz.func18, Tryz.ntmps18
                    go_wp2_with fail
                    refine (HH1.out _).mono ?_
                    rintro e w1 ⟨rfl, ha⟩
                    obtain ⟨hac, haf⟩ := bcell ha
                    have haz0 : w.heap.size < w1.heap.size := by have := ha.size; first | omega | (simp at this; omega)
                    go_wp2_with fail
                    refine (HH2.out _).mono ?_
                    rintro e w2 ⟨rfl, hb⟩
                    obtain ⟨hbc, hbf⟩ := bcell hb
                    have hbz0 : w1.heap.size ≤ w2.heap.size := by have := hb.size; first | omega | (simp at this; omega)
                    have hbz1 : w.heap.size < w2.heap.size := by have := hb.size; first | omega | (simp at this; omega)
                    have bel2 : Below w.heap.size w w2 := by (repeat (first | exact Below.refl _ _ | assumption | refine Below.setCell ?_ (by first | omega | (simp; done) | (simp; omega)) _ | refine Below.alloc ?_ (by first | omega | (simp; done) | (simp; omega)) _ | refine Below.drew ?_ | refine Below.trans ?_ (Below.mono ‹Below _ _ _› (by first | omega | (simp; done) | (simp; omega)))))
                    have X0 := (HV.out.keep bel2).boxed c
                    have X0z := X0.lt
                    obtain ⟨X00, X01, X02, X03⟩ := X0.cells
                    go_wp2_with fail
                    refine (K_tiles.out _ X0.xv).mono ?_
                    rintro e v0 ⟨rfl, hv0⟩
                    have Y0 := X0.keep hv0
                    obtain ⟨Y00, Y01, Y02, Y03⟩ := Y0.cells
                    have Y0z := Y0.lt
                    clear hv0 X00 X01 X02 X03 X0z
                    go_wp2_with fail
                    refine (K_feet.out _ Y0.xv hne).mono ?_
                    rintro e v1 ⟨rfl, hv1⟩
                    have Y1 := Y0.keep hv1
                    obtain ⟨Y10, Y11, Y12, Y13⟩ := Y1.cells
                    have Y1z := Y1.lt
                    clear hv1 Y00 Y01 Y02 Y03 Y0z
                    go_wp2_with fail
                    refine (K_apart.out _ Y1.xv).mono ?_
                    rintro e v2 ⟨rfl, hv2⟩
                    have Y2 := Y1.keep hv2
                    obtain ⟨Y20, Y21, Y22, Y23⟩ := Y2.cells
                    have Y2z := Y2.lt
                    clear hv2 Y10 Y11 Y12 Y13 Y1z
                    go_wp2_with fail
                    refine (K_slots.out _ Y2.xv).mono ?_
                    rintro e v3 ⟨rfl, hv3⟩
                    have Y3 := Y2.keep hv3
                    obtain ⟨Y30, Y31, Y32, Y33⟩ := Y3.cells
                    have Y3z := Y3.lt
                    clear hv3 Y20 Y21 Y22 Y23 Y2z
                    go_wp2_with fail
                    refine (K_bins.out _ Y3.xv).mono ?_
                    rintro e v4 ⟨rfl, hv4⟩
                    have Y4 := Y3.keep hv4
                    obtain ⟨Y40, Y41, Y42, Y43⟩ := Y4.cells
                    have Y4z := Y4.lt
                    clear hv4 Y30 Y31 Y32 Y33 Y3z
                    go_wp2_with fail
                    refine (K_racks.out _ Y4.xv).mono ?_
                    rintro e v5 ⟨rfl, hv5⟩
                    have Y5 := Y4.keep hv5
                    obtain ⟨Y50, Y51, Y52, Y53⟩ := Y5.cells
                    have Y5z := Y5.lt
                    clear hv5 Y40 Y41 Y42 Y43 Y4z
                    go_wp2_with fail
                    refine (K_loose.out _ Y5.xv).mono ?_
                    rintro e v6 ⟨rfl, hv6⟩
                    have Y6 := Y5.keep hv6
                    obtain ⟨Y60, Y61, Y62, Y63⟩ := Y6.cells
                    have Y6z := Y6.lt
                    clear hv6 Y50 Y51 Y52 Y53 Y5z
                    go_wp2_with fail
                    refine (K_counts.out _ Y6.xv).mono ?_
                    rintro e v7 ⟨rfl, hv7⟩
                    have Y7 := Y6.keep hv7
                    obtain ⟨Y70, Y71, Y72, Y73⟩ := Y7.cells
                    have Y7z := Y7.lt
                    clear hv7 Y60 Y61 Y62 Y63 Y6z
                    go_wp2_with fail
                    refine (K_roots.out _ Y7.xv).mono ?_
                    rintro e v8 ⟨rfl, hv8⟩
                    have Y8 := Y7.keep hv8
                    obtain ⟨Y80, Y81, Y82, Y83⟩ := Y8.cells
                    have Y8z := Y8.lt
                    clear hv8 Y70 Y71 Y72 Y73 Y7z
                    go_wp2
                    exact bodyPost_ret (v := .tuple #[.int .i64 10, .bool false]) (by simp [results, Tryz.results18, go_sem]) rfl ⟨rfl, bel2.trans (Y8.bel.mono bel2.size)⟩
                  · rw [h_roots] at C_roots
                    have K_roots := Lib.hid C_roots
                    clear C_roots
                    have hR : r = (0, true) := by rw [← HR.out]; simp [chkF, h_tiles, h_feet, h_apart, h_slots, h_bins, h_racks, h_loose, h_counts, h_roots]
                    subst hR
                    clear HR h_tiles h_feet h_apart h_slots h_bins h_racks h_loose h_counts h_roots 
                    go_enter Tryz.func18, Tryz.ntmps18
                    go_wp2_with fail
                    refine (HH1.out _).mono ?_
                    rintro e w1 ⟨rfl, ha⟩
                    obtain ⟨hac, haf⟩ := bcell ha
                    have haz0 : w.heap.size < w1.heap.size := by have := ha.size; first | omega | (simp at this; omega)
                    go_wp2_with fail
                    refine (HH2.out _).mono ?_
                    rintro e w2 ⟨rfl, hb⟩
                    obtain ⟨hbc, hbf⟩ := bcell hb
                    have hbz0 : w1.heap.size ≤ w2.heap.size := by have := hb.size; first | omega | (simp at this; omega)
                    have hbz1 : w.heap.size < w2.heap.size := by have := hb.size; first | omega | (simp at this; omega)
                    have bel2 : Below w.heap.size w w2 := by (repeat (first | exact Below.refl _ _ | assumption | refine Below.setCell ?_ (by first | omega | (simp; done) | (simp; omega)) _ | refine Below.alloc ?_ (by first | omega | (simp; done) | (simp; omega)) _ | refine Below.drew ?_ | refine Below.trans ?_ (Below.mono ‹Below _ _ _› (by first | omega | (simp; done) | (simp; omega)))))
                    have X0 := (HV.out.keep bel2).boxed c
                    have X0z := X0.lt
                    obtain ⟨X00, X01, X02, X03⟩ := X0.cells
                    go_wp2_with fail
                    refine (K_tiles.out _ X0.xv).mono ?_
                    rintro e v0 ⟨rfl, hv0⟩
                    have Y0 := X0.keep hv0
                    obtain ⟨Y00, Y01, Y02, Y03⟩ := Y0.cells
                    have Y0z := Y0.lt
                    clear hv0 X00 X01 X02 X03 X0z
                    go_wp2_with fail
                    refine (K_feet.out _ Y0.xv hne).mono ?_
                    rintro e v1 ⟨rfl, hv1⟩
                    have Y1 := Y0.keep hv1
                    obtain ⟨Y10, Y11, Y12, Y13⟩ := Y1.cells
                    have Y1z := Y1.lt
                    clear hv1 Y00 Y01 Y02 Y03 Y0z
                    go_wp2_with fail
                    refine (K_apart.out _ Y1.xv).mono ?_
                    rintro e v2 ⟨rfl, hv2⟩
                    have Y2 := Y1.keep hv2
                    obtain ⟨Y20, Y21, Y22, Y23⟩ := Y2.cells
                    have Y2z := Y2.lt
                    clear hv2 Y10 Y11 Y12 Y13 Y1z
                    go_wp2_with fail
                    refine (K_slots.out _ Y2.xv).mono ?_
                    rintro e v3 ⟨rfl, hv3⟩
                    have Y3 := Y2.keep hv3
                    obtain ⟨Y30, Y31, Y32, Y33⟩ := Y3.cells
                    have Y3z := Y3.lt
                    clear hv3 Y20 Y21 Y22 Y23 Y2z
                    go_wp2_with fail
                    refine (K_bins.out _ Y3.xv).mono ?_
                    rintro e v4 ⟨rfl, hv4⟩
                    have Y4 := Y3.keep hv4
                    obtain ⟨Y40, Y41, Y42, Y43⟩ := Y4.cells
                    have Y4z := Y4.lt
                    clear hv4 Y30 Y31 Y32 Y33 Y3z
                    go_wp2_with fail
                    refine (K_racks.out _ Y4.xv).mono ?_
                    rintro e v5 ⟨rfl, hv5⟩
                    have Y5 := Y4.keep hv5
                    obtain ⟨Y50, Y51, Y52, Y53⟩ := Y5.cells
                    have Y5z := Y5.lt
                    clear hv5 Y40 Y41 Y42 Y43 Y4z
                    go_wp2_with fail
                    refine (K_loose.out _ Y5.xv).mono ?_
                    rintro e v6 ⟨rfl, hv6⟩
                    have Y6 := Y5.keep hv6
                    obtain ⟨Y60, Y61, Y62, Y63⟩ := Y6.cells
                    have Y6z := Y6.lt
                    clear hv6 Y50 Y51 Y52 Y53 Y5z
                    go_wp2_with fail
                    refine (K_counts.out _ Y6.xv).mono ?_
                    rintro e v7 ⟨rfl, hv7⟩
                    have Y7 := Y6.keep hv7
                    obtain ⟨Y70, Y71, Y72, Y73⟩ := Y7.cells
                    have Y7z := Y7.lt
                    clear hv7 Y60 Y61 Y62 Y63 Y6z
                    go_wp2_with fail
                    refine (K_roots.out _ Y7.xv).mono ?_
                    rintro e v8 ⟨rfl, hv8⟩
                    have Y8 := Y7.keep hv8
                    obtain ⟨Y80, Y81, Y82, Y83⟩ := Y8.cells
                    have Y8z := Y8.lt
                    clear hv8 Y70 Y71 Y72 Y73 Y7z
                    go_wp2
                    exact bodyPost_ret (v := .tuple #[.int .i64 0, .bool true]) (by simp [results, Tryz.results18, go_sem]) rfl ⟨rfl, bel2.trans (Y8.bel.mono bel2.size)⟩

theorem rcheck_no (a : Option Addr) (m c : Nat) (w : World) (h : rightB t p s = false ∨ (m : Int) ≠ cellsN t p) :
    Calls Tryz.prog 18 #[.agg #[.int .i64 t, .int .i64 p, .int .i64 s], .slice a m c] w fun e w' => e = .returned (.tuple #[.int .i64 1, .bool false]) ∧ Below w.heap.size w w' := by
  have H1 := rright_any t p s
  have H2 := rcells_any t p s
  cases hr : rightB t p s
  · rw [hr] at H1
    have HH1 := Lib.hid H1
    clear H1 H2 h hr
    go_enter Tryz.func18, Tryz.ntmps18
    go_wp2_with fail
    refine (HH1.out _).mono ?_
    rintro e w1 ⟨rfl, ha⟩
    obtain ⟨hac, haf⟩ := bcell ha
    have haz0 : w.heap.size < w1.heap.size := by have := ha.size; first | omega | (simp at this; omega)
    go_wp2
    refine bodyPost_ret (v := .tuple #[.int .i64 1, .bool false]) (by simp [results, Tryz.results18, go_sem]) rfl ⟨rfl, ?_⟩
    (repeat (first | exact Below.refl _ _ | assumption | refine Below.setCell ?_ (by first | omega | (simp; done) | (simp; omega)) _ | refine Below.alloc ?_ (by first | omega | (simp; done) | (simp; omega)) _ | refine Below.drew ?_ | refine Below.trans ?_ (Below.mono ‹Below _ _ _› (by first | omega | (simp; done) | (simp; omega)))))
  · rw [hr] at H1
    have hcf : cellsF t p s = cellsN t p := by simp [cellsF, hr]
    rw [hcf] at H2
    have HH1 := Lib.hid H1
    have HH2 := Lib.hid H2
    have hm : (m : Int) ≠ cellsN t p := h.resolve_left (by rw [hr]; simp)
    generalize cellsN t p = z at *
    have hmb : ((m : Int) != z) = true := by simpa using hm
    clear H1 H2 h hr hcf hm
    go_enter Tryz.func18, Tryz.ntmps18
    go_wp2_with fail
    refine (HH1.out _).mono ?_
    rintro e w1 ⟨rfl, ha⟩
    obtain ⟨hac, haf⟩ := bcell ha
    have haz0 : w.heap.size < w1.heap.size := by have := ha.size; first | omega | (simp at this; omega)
    go_wp2_with fail
    refine (HH2.out _).mono ?_
    rintro e w2 ⟨rfl, hb⟩
    obtain ⟨hbc, hbf⟩ := bcell hb
    have hbz0 : w1.heap.size ≤ w2.heap.size := by have := hb.size; first | omega | (simp at this; omega)
    go_wp2
    refine bodyPost_ret (v := .tuple #[.int .i64 1, .bool false]) (by simp [results, Tryz.results18, go_sem]) rfl ⟨rfl, ?_⟩
    (repeat (first | exact Below.refl _ _ | assumption | refine Below.setCell ?_ (by first | omega | (simp; done) | (simp; omega)) _ | refine Below.alloc ?_ (by first | omega | (simp; done) | (simp; omega)) _ | refine Below.drew ?_ | refine Below.trans ?_ (Below.mono ‹Below _ _ _› (by first | omega | (simp; done) | (simp; omega)))))
end
end Go.Proofs.YtkhanbedcmmlcaaGreatDoor
/- the plain law of tiles: the program's answer is the document's, and what it keeps is the infos of all pages. -/
set_option linter.unusedSimpArgs false
set_option linter.unusedVariables false
namespace Go.Proofs.YtkhanbedcmmlcaaGreatDoor
open Go.RowKit
section
variable {vs : List Int} {t : Int} {P : Nat}
/-- where the next span begins, when k pages are looked at. -/
def nxN (vs : List Int) (t : Int) : Nat → Int
  | 0 => 0
  | k + 1 => if (k : Int) < nxN vs t k then nxN vs t k else k + iL (gv vs t k 0)
/-- does a span begin at a page? -/
def stB (vs : List Int) (t : Int) (k : Nat) : Bool := !decide ((k : Int) < nxN vs t k)
/-- may a page be so? -/
def pgB (vs : List Int) (t : Int) (P k : Nat) : Bool := if stB vs t k then okI (gv vs t k 0) && !(iK (gv vs t k 0) == 0) && decide (iL (gv vs t k 0) ≤ (P : Int) - k) else gv vs t k 0 == 0
def infoQ (vs : List Int) (t : Int) (q : Nat) : Int × Int × Int := (iK (gv vs t q 0), iL (gv vs t q 0), iC (gv vs t q 0))
def infoL (vs : List Int) (t : Int) (P : Nat) : List (Int × Int × Int) := (List.range P).map (infoQ vs t)
theorem infoQ_zero {q : Nat} (h : gv vs t q 0 = 0) : infoQ vs t q = (0, 0, 0) := by
  unfold infoQ
  rw [h]
  decide
/-- the program's way. -/
theorem tlN_eq : ∀ k, k ≤ P → (allN (pgB vs t P) k = true → ∃ al, tlN vs t P k = some (nxN vs t k, al) ∧ al.length = P ∧ (∀ q, q < k → al[q]? = some (infoQ vs t q)) ∧ ∀ q, k ≤ q → q < P → al[q]? = some (0, 0, 0)) ∧ (allN (pgB vs t P) k = false → tlN vs t P k = none)
  | 0, _ => ⟨fun _ => ⟨List.replicate P (0, 0, 0), by simp [tlN, nxN], by simp, by omega, fun q _ hq => by simp [hq]⟩, by simp [allN]⟩
  | k + 1, hk => by
    have ih := tlN_eq k (by omega)
    have e : tlN vs t P (k + 1) = match tlN vs t P k with | none => none | some st => tlStep vs t P k st := rfl
    have ea : allN (pgB vs t P) (k + 1) = (allN (pgB vs t P) k && pgB vs t P k) := rfl
    rw [e, ea]
    cases ha : allN (pgB vs t P) k
    · rw [ih.2 ha]
      simp
    · obtain ⟨al, h1, h2, h3, h4⟩ := ih.1 ha
      rw [h1]
      simp only [Bool.true_and]
      unfold tlStep pgB stB
      by_cases hn : (k : Int) < nxN vs t k
      · have en : nxN vs t (k + 1) = nxN vs t k := by rw [nxN, if_pos hn]
        rw [if_pos hn, en]
        simp only [hn, decide_true, Bool.not_true, Bool.false_eq_true, if_false]
        by_cases hv : gv vs t k 0 = 0
        · rw [if_pos hv]
          refine ⟨fun _ => ⟨al, rfl, h2, fun q hq => ?_, fun q hq => h4 q (by omega)⟩, fun h => by simp [hv] at h⟩
          by_cases eq : q = k
          · subst eq
            rw [h4 q (Nat.le_refl _) (by omega), infoQ_zero hv]
          · exact h3 q (by omega)
        · rw [if_neg hv]
          exact ⟨by simp [hv], fun _ => rfl⟩
      · have en : nxN vs t (k + 1) = k + iL (gv vs t k 0) := by rw [nxN, if_neg hn]
        rw [if_neg hn, en]
        simp only [hn, decide_false, Bool.not_false, if_true]
        by_cases hb : okI (gv vs t k 0) = false ∨ iK (gv vs t k 0) = 0 ∨ (P : Int) - k < iL (gv vs t k 0)
        · rw [if_pos hb]
          refine ⟨fun h => ?_, fun _ => rfl⟩
          simp at h
          rcases hb with hb | hb | hb
          · rw [hb] at h; simp at h
          · exact absurd hb h.1.2
          · omega
        · rw [if_neg hb]
          refine ⟨fun _ => ⟨al.set k (iK (gv vs t k 0), iL (gv vs t k 0), iC (gv vs t k 0)), rfl, by simpa using h2, fun q hq => ?_, fun q hq hq2 => ?_⟩, fun h => ?_⟩
          · by_cases eq : q = k
            · subst eq
              rw [List.getElem?_set_self (by omega)]
              rfl
            · rw [List.getElem?_set_ne (Ne.symm eq)]
              exact h3 q (by omega)
          · rw [List.getElem?_set_ne (by omega)]
            exact h4 q (by omega) hq2
          · exfalso
            apply hb
            simp at h
            cases ho : okI (gv vs t k 0)
            · exact Or.inl rfl
            · by_cases hK : iK (gv vs t k 0) = 0
              · exact Or.inr (Or.inl hK)
              · exact Or.inr (Or.inr (by have := h ho hK; omega))

/-- starts among the first pages. -/
def stL (vs : List Int) (t : Int) : Nat → List Int
  | 0 => []
  | k + 1 => if stB vs t k then stL vs t k ++ [(k : Int)] else stL vs t k
/-- is each start so far a span's begin? -/
def okSt (vs : List Int) (t : Int) (k : Nat) : Bool := !stB vs t k || (okI (gv vs t k 0) && !(iK (gv vs t k 0) == 0))
theorem nx_ge : ∀ k, allN (okSt vs t) k = true → (k : Int) ≤ nxN vs t k
  | 0, _ => by simp [nxN]
  | k + 1, h => by
    simp only [allN, Bool.and_eq_true] at h
    have ih := nx_ge k h.1
    unfold nxN
    by_cases hn : (k : Int) < nxN vs t k
    · rw [if_pos hn]; omega
    · rw [if_neg hn]
      have h2 := h.2
      unfold okSt stB at h2
      simp [hn] at h2
      have := (inf_bd (gv vs t k 0)).2.2.2.2.2.2.1 h2.2
      omega
theorem nx_skip {k : Nat} : ∀ j, k + 1 ≤ j → (j : Int) ≤ nxN vs t (k + 1) → nxN vs t j = nxN vs t (k + 1) ∧ stL vs t j = stL vs t (k + 1)
  | 0, h, _ => by omega
  | j + 1, h, hj => by
    by_cases e : j = k
    · subst e; exact ⟨rfl, rfl⟩
    · have ih := nx_skip (k := k) j (by omega) (by omega)
      have hn : (j : Int) < nxN vs t j := by rw [ih.1]; omega
      have e1 : nxN vs t (j + 1) = nxN vs t j := by rw [nxN, if_pos hn]
      have e2 : stL vs t (j + 1) = stL vs t j := by rw [stL, if_neg (by simp [stB, hn])]
      exact ⟨e1.trans ih.1, e2.trans ih.2⟩
theorem at_start {k : Nat} (hk : nxN vs t k = k) : stB vs t k = true ∧ nxN vs t (k + 1) = k + iL (gv vs t k 0) ∧ stL vs t (k + 1) = stL vs t k ++ [(k : Int)] := by
  have hs : stB vs t k = true := by simp [stB, hk]
  refine ⟨hs, ?_, ?_⟩
  · rw [nxN, if_neg (by omega)]
  · rw [stL, if_pos hs]
theorem okSt_at {k : Nat} (hs : stB vs t k = true) (h : okSt vs t k = true) : okI (gv vs t k 0) = true ∧ iK (gv vs t k 0) ≠ 0 ∧ 1 ≤ iL (gv vs t k 0) := by
  unfold okSt at h
  rw [hs] at h
  simp at h
  exact ⟨h.1, h.2, ((inf_bd (gv vs t k 0)).2.2.2.2.2.2.1 h.2).2⟩
theorem allN_at {f : Nat → Bool} {N k : Nat} (h : allN f N = true) (hk : k < N) : f k = true := (allN_iff.1 h) k hk
/-- the document's starts, from a start on. -/
theorem startsL_eq (hall : allN (okSt vs t) P = true) : ∀ (f k : Nat), k ≤ P → nxN vs t k = k → P - k < f → startsL (fun q => gv vs t q 0) P f k (stL vs t k) = (stL vs t P, nxN vs t P == P)
  | 0, k, _, _, h => by omega
  | f + 1, k, hk, hn, hf => by
    unfold startsL
    by_cases hlt : k < P
    · obtain ⟨s1, s2, s3⟩ := at_start hn
      obtain ⟨o1, o2, o3⟩ := okSt_at s1 (allN_at hall hlt)
      rw [if_pos (by omega), if_neg (by simp [o1, o2]), ← s3]
      by_cases hp : (k : Int) + iL (gv vs t k 0) ≤ P
      · obtain ⟨k', hk'⟩ : ∃ k' : Nat, (k : Int) + iL (gv vs t k 0) = k' := ⟨((k : Int) + iL (gv vs t k 0)).toNat, by omega⟩
        have hsk := nx_skip (vs := vs) (t := t) (k := k) k' (by omega) (by rw [s2]; omega)
        rw [hk', ← hsk.2]
        exact startsL_eq hall f k' (by omega) (by rw [hsk.1, s2, hk']) (by omega)
      · have hsk := nx_skip (vs := vs) (t := t) (k := k) P (by omega) (by rw [s2]; omega)
        obtain ⟨f', rfl⟩ : ∃ f', f = f' + 1 := ⟨f - 1, by omega⟩
        unfold startsL
        rw [if_neg (by omega), hsk.2, hsk.1, s2]
    · have : k = P := by omega
      subst this
      rw [if_neg (by omega), hn]
theorem startsL_bad {k0 : Nat} (hk0 : k0 < P) (hall : allN (okSt vs t) k0 = true) (hbad : okSt vs t k0 = false) : ∀ (f k : Nat) (out : List Int), k ≤ k0 → nxN vs t k = k → P - k < f → (startsL (fun q => gv vs t q 0) P f k out).2 = false
  | 0, k, _, _, _, h => by omega
  | f + 1, k, out, hk, hn, hf => by
    have hs0 : stB vs t k0 = true := by
      unfold okSt at hbad
      simp at hbad
      exact hbad.1
    unfold startsL
    rw [if_pos (by omega)]
    by_cases he : k = k0
    · subst he
      unfold okSt at hbad
      rw [hs0] at hbad
      simp at hbad
      rw [if_pos]
      cases ho : okI (gv vs t k 0)
      · exact Or.inl rfl
      · exact Or.inr (hbad ho)
    · obtain ⟨s1, s2, s3⟩ := at_start hn
      obtain ⟨o1, o2, o3⟩ := okSt_at s1 (allN_at hall (by omega))
      rw [if_neg (by simp [o1, o2])]
      have hle : (k : Int) + iL (gv vs t k 0) ≤ k0 := by
        apply Classical.byContradiction
        intro hgt
        have hsk := nx_skip (vs := vs) (t := t) (k := k) k0 (by omega) (by rw [s2]; omega)
        unfold stB at hs0
        rw [hsk.1, s2] at hs0
        simp at hs0
        omega
      obtain ⟨k', hk'⟩ : ∃ k' : Nat, (k : Int) + iL (gv vs t k 0) = k' := ⟨((k : Int) + iL (gv vs t k 0)).toNat, by omega⟩
      have hsk := nx_skip (vs := vs) (t := t) (k := k) k' (by omega) (by rw [s2]; omega)
      rw [hk']
      exact startsL_bad hk0 hall hbad f k' _ (by omega) (by rw [hsk.1, s2, hk']) (by omega)

theorem stL_pre : ∀ (m q : Nat), q + m = P → ∃ rest, stL vs t P = stL vs t q ++ rest ∧ ∀ y ∈ rest, (q : Int) ≤ y
  | 0, q, h => ⟨[], by rw [show P = q by omega]; simp, by simp⟩
  | m + 1, q, h => by
    obtain ⟨rest, h1, h2⟩ := stL_pre m (q + 1) (by omega)
    by_cases hs : stB vs t q = true
    · have e : stL vs t (q + 1) = stL vs t q ++ [(q : Int)] := by rw [stL, if_pos hs]
      refine ⟨(q : Int) :: rest, by rw [h1, e]; simp, fun y hy => ?_⟩
      simp at hy
      rcases hy with rfl | hy
      · omega
      · have := h2 y hy; omega
    · have e : stL vs t (q + 1) = stL vs t q := by rw [stL, if_neg hs]
      exact ⟨rest, by rw [h1, e], fun y hy => by have := h2 y hy; omega⟩
def nzB (vs : List Int) (t : Int) (q : Nat) : Bool := stB vs t q || gv vs t q 0 == 0
theorem tilesN_eq : ∀ q, q ≤ P → tilesN vs t (stL vs t P) q = if allN (nzB vs t) q = true then some (stL vs t q).length else none
  | 0, _ => rfl
  | q + 1, hq => by
    have ih := tilesN_eq q (by omega)
    obtain ⟨rest, h1, h2⟩ := stL_pre (vs := vs) (t := t) (P := P) (P - (q + 1)) (q + 1) (by omega)
    have ea : allN (nzB vs t) (q + 1) = (allN (nzB vs t) q && nzB vs t q) := rfl
    unfold tilesN
    rw [ih, ea]
    cases ha : allN (nzB vs t) q
    · simp
    · simp only [if_true, Bool.true_and]
      by_cases hs : stB vs t q = true
      · have e : stL vs t (q + 1) = stL vs t q ++ [(q : Int)] := by rw [stL, if_pos hs]
        rw [if_pos (by rw [h1, e]; simp), e, if_pos (by simp [nzB, hs])]
        simp
      · have e : stL vs t (q + 1) = stL vs t q := by rw [stL, if_neg hs]
        have hno : ¬ (stL vs t P)[(stL vs t q).length]? = some (q : Int) := by
          rw [h1, e, List.getElem?_append_right (Nat.le_refl _), Nat.sub_self]
          intro hx
          have := h2 _ (List.mem_of_getElem? hx)
          omega
        rw [if_neg hno, e]
        by_cases hv : gv vs t q 0 = 0
        · rw [if_pos hv, if_pos (by simp [nzB, hv])]
        · rw [if_neg hv, if_neg (by simp [nzB, hv, hs])]
theorem first_bad {f : Nat → Bool} : ∀ N, allN f N = false → ∃ k, k < N ∧ allN f k = true ∧ f k = false
  | 0, h => by simp [allN] at h
  | N + 1, h => by
    cases ha : allN f N
    · obtain ⟨k, h1, h2, h3⟩ := first_bad N ha
      exact ⟨k, by omega, h2, h3⟩
    · simp only [allN, ha, Bool.true_and] at h
      exact ⟨N, by omega, ha, h⟩
theorem nx_le (h : ∀ k, k < P → stB vs t k = true → (k : Int) + iL (gv vs t k 0) ≤ P) : ∀ j, j ≤ P → nxN vs t j ≤ P
  | 0, _ => by simp [nxN]
  | j + 1, hj => by
    have ih := nx_le h j (by omega)
    by_cases hn : (j : Int) < nxN vs t j
    · rw [nxN, if_pos hn]; exact ih
    · rw [nxN, if_neg hn]
      exact h j (by omega) (by simp [stB, hn])
/-- the program's tiles answers as the document's. -/
theorem tiles_law : (tlN vs t P P).isSome = tilesF vs t P := by
  have hz : startsF (fun q => gv vs t q 0) P = startsL (fun q => gv vs t q 0) P (P + 1) ((0 : Nat) : Int) (stL vs t 0) := by
    unfold startsF
    rw [show (P : Int).toNat = P by omega]
    rfl
  have hsome : (tlN vs t P P).isSome = allN (pgB vs t P) P := by
    obtain ⟨a, b⟩ := tlN_eq (vs := vs) (t := t) P (Nat.le_refl P)
    cases h : allN (pgB vs t P) P
    · rw [b h]; rfl
    · obtain ⟨al, h1, -⟩ := a h
      rw [h1]; rfl
  rw [hsome]
  unfold tilesF
  rw [hz, show (P : Int).toNat = P by omega]
  cases hall : allN (okSt vs t) P
  · obtain ⟨k0, h1, h2, h3⟩ := first_bad P hall
    rw [startsL_bad h1 h2 h3 (P + 1) 0 (stL vs t 0) (Nat.zero_le _) rfl (by omega)]
    simp only [Bool.false_and]
    refine allN_no h1 ?_
    unfold okSt at h3
    unfold pgB
    cases hs : stB vs t k0
    · rw [hs] at h3; simp at h3
    · rw [hs] at h3
      simp at h3 ⊢
      intro ho hk
      exact absurd (h3 ho) hk
  · rw [startsL_eq hall (P + 1) 0 (Nat.zero_le _) rfl (by omega)]
    simp only
    rw [tilesN_eq P (Nat.le_refl _)]
    have hge := nx_ge P hall
    rw [Bool.eq_iff_iff]
    rw [allN_iff]
    constructor
    · intro h
      have h1 : ∀ k, k < P → stB vs t k = true → (k : Int) + iL (gv vs t k 0) ≤ P := by
        intro k hk hs
        have := h k hk
        unfold pgB at this
        rw [if_pos hs] at this
        simp at this
        omega
      have h2 := nx_le h1 P (Nat.le_refl _)
      have h3 : allN (nzB vs t) P = true := by
        rw [allN_iff]
        intro k hk
        have := h k hk
        unfold pgB at this
        unfold nzB
        cases hs : stB vs t k
        · rw [hs] at this; simpa using this
        · rfl
      rw [h3]
      simp
      omega
    · intro h k hk
      simp only [Bool.and_eq_true, beq_iff_eq] at h
      obtain ⟨h1, h2⟩ := h
      have h3 : allN (nzB vs t) P = true := by
        cases hc : allN (nzB vs t) P
        · rw [hc] at h2; simp at h2
        · rfl
      have h4 := allN_at h3 hk
      unfold pgB
      unfold nzB at h4
      cases hs : stB vs t k
      · rw [hs] at h4; simpa using h4
      · obtain ⟨o1, o2, o3⟩ := okSt_at hs (allN_at hall hk)
        have hkx : nxN vs t k = k := by
          have := nx_ge k (allN_iff.2 fun j hj => allN_at hall (by omega))
          unfold stB at hs
          simp at hs
          omega
        obtain ⟨s1, s2, s3⟩ := at_start hkx
        have hle : (k : Int) + iL (gv vs t k 0) ≤ P := by
          apply Classical.byContradiction
          intro hgt
          have hsk := nx_skip (vs := vs) (t := t) (k := k) P (by omega) (by rw [s2]; omega)
          rw [hsk.1, s2] at h1
          omega
        simp [o1, o2]
        omega
end
end Go.Proofs.YtkhanbedcmmlcaaGreatDoor
/- the plain law of slots. -/
set_option linter.unusedSimpArgs false
set_option linter.unusedVariables false
namespace Go.Proofs.YtkhanbedcmmlcaaGreatDoor
open Go.RowKit

theorem infoL_at {vs : List Int} {t : Int} {P q : Nat} (h : q < P) : (infoL vs t P).getD q (0, 0, 0) = infoQ vs t q := by
  rw [List.getD_eq_getElem?_getD]
  unfold infoL
  rw [List.getElem?_map, List.getElem?_range h]
  rfl
theorem tlN_info {vs : List Int} {t : Int} {P : Nat} {st : Int × List (Int × Int × Int)} (h : tlN vs t P P = some st) : st.2 = infoL vs t P := by
  obtain ⟨a, b⟩ := tlN_eq (vs := vs) (t := t) P (Nat.le_refl P)
  cases ha : allN (pgB vs t P) P
  · rw [b ha] at h; simp at h
  · obtain ⟨al, h1, h2, h3, -⟩ := a ha
    rw [h1] at h
    simp at h
    subst h
    apply List.ext_getElem?
    intro q
    by_cases hq : q < P
    · rw [h3 q hq]
      unfold infoL
      rw [List.getElem?_map, List.getElem?_range hq]
      rfl
    · rw [List.getElem?_eq_none (by simpa [h2] using hq), List.getElem?_eq_none (by simpa [infoL] using hq)]
theorem bitB_nat (v i : Nat) (h : i < 32) : bitB (v : Int) i = v.testBit i := by
  unfold bitB
  rw [Nat.testBit_eq_decide_div_mod_eq]
  have e : (v : Int) / 2 ^ i % 2 = ((v / 2 ^ i % 2 : Nat) : Int) := by simp
  rw [e, Bool.eq_iff_iff]
  simp [h]
  omega
theorem andN_zero (a u : Nat) (ha : a < 2 ^ 32) (hu : u < 2 ^ 32) : andN (a : Int) (u : Int) = 0 ↔ ∀ i, i < 32 → a.testBit i = true → u.testBit i = true := by
  have e1 : BitVec.ofInt 32 (a : Int) = BitVec.ofNat 32 a := BitVec.ofInt_natCast ..
  have e2 : BitVec.ofInt 32 (u : Int) = BitVec.ofNat 32 u := BitVec.ofInt_natCast ..
  have e3 : andN (a : Int) (u : Int) = ((BitVec.ofNat 32 a &&& ~~~ BitVec.ofNat 32 u).toNat : Int) := by
    show IntKind.u32.wrap ((BitVec.ofInt 32 (a : Int) &&& ~~~ BitVec.ofInt 32 (u : Int)).toNat : Int) = _
    rw [e1, e2]
    have := (BitVec.ofNat 32 a &&& ~~~ BitVec.ofNat 32 u).isLt
    exact wrapsA_u32 _ (by omega) (by exact_mod_cast this)
  rw [e3]
  constructor
  · intro h i hi hai
    have h0 : BitVec.ofNat 32 a &&& ~~~ BitVec.ofNat 32 u = 0#32 := by
      apply BitVec.eq_of_toNat_eq
      simp only [BitVec.toNat_ofNat, Nat.zero_mod]
      omega
    have hb := congrArg (fun z => BitVec.getLsbD z i) h0
    simp only [BitVec.getLsbD_and, BitVec.getLsbD_not, BitVec.getLsbD_ofNat, hi, decide_true, Bool.true_and, hai] at hb
    cases hui : u.testBit i
    · rw [hui] at hb; simp at hb
    · rfl
  · intro h
    have h0 : BitVec.ofNat 32 a &&& ~~~ BitVec.ofNat 32 u = 0#32 := by
      apply BitVec.eq_of_getLsbD_eq
      intro i hi
      simp only [BitVec.getLsbD_and, BitVec.getLsbD_not, BitVec.getLsbD_ofNat, hi, decide_true, Bool.true_and]
      cases hai : a.testBit i
      · simp
      · rw [h i hi hai]; simp
    rw [h0]
    rfl
theorem zero_bits (a : Nat) (ha : a < 2 ^ 32) : a = 0 ↔ ∀ i, i < 32 → a.testBit i = false := by
  constructor
  · rintro rfl i _
    simp
  · intro h
    apply Nat.eq_of_testBit_eq
    intro i
    rw [Nat.zero_testBit]
    by_cases hi : i < 32
    · exact h i hi
    · exact Nat.testBit_lt_two_pow (Nat.lt_of_lt_of_le ha (Nat.pow_le_pow_right (by omega) (by omega)))
theorem slots_law {vs : List Int} {t : Int} {P : Nat} (hu : ∀ v ∈ vs, VS.U32 v) : allN (psB vs t (infoL vs t P)) P = slotsAll vs t P := by
  unfold slotsAll
  rw [show (P : Int).toNat = P by omega, Bool.eq_iff_iff, allN_iff, allN_iff]
  refine forall_congr' fun q => ?_
  by_cases hq : q < P
  · simp only [hq, true_implies]
    unfold psB slotsQ
    rw [infoL_at hq]
    have h4 := getD_u32 hu (cix t q 4)
    have h5 := getD_u32 hu (cix t q 5)
    have hC := inf_bd (gv vs t q 0)
    obtain ⟨a, ha⟩ : ∃ a : Nat, gv vs t q 4 = a := ⟨(gv vs t q 4).toNat, by unfold gv; unfold VS.U32 at h4; omega⟩
    obtain ⟨u, hu2⟩ : ∃ u : Nat, gv vs t q 5 = u := ⟨(gv vs t q 5).toNat, by unfold gv; unfold VS.U32 at h5; omega⟩
    have ha2 : a < 2 ^ 32 := by unfold VS.U32 at h4; unfold gv at ha; omega
    have hu3 : u < 2 ^ 32 := by unfold VS.U32 at h5; unfold gv at hu2; omega
    have hsb : ∀ b, slotB vs t q b = !badB (iK (gv vs t q 0)) (iC (gv vs t q 0)) (bitB a b) (bitB u b) b := by
      intro b; unfold slotB; rw [ha, hu2]
    rw [ha, hu2]
    have hsl := slots_bd (iC (gv vs t q 0))
    show (if iK (gv vs t q 0) = 3 then (!((u : Int) == 0) && (andN (u : Int) (2 ^ (slotsF (iC (gv vs t q 0))).toNat - 1) == 0) && (andN (a : Int) (u : Int) == 0)) else ((a : Int) == 0 && (u : Int) == 0)) = true ↔ _
    by_cases hK : iK (gv vs t q 0) = 3
    · rw [if_pos hK]
      have hw : (2 : Int) ^ (slotsF (iC (gv vs t q 0))).toNat - 1 = ((2 ^ (slotsF (iC (gv vs t q 0))).toNat - 1 : Nat) : Int) := by
        rw [Int.natCast_sub (Nat.two_pow_pos _)]
        simp
      have hwl : 2 ^ (slotsF (iC (gv vs t q 0))).toNat - 1 < 2 ^ 32 := by
        have := Nat.pow_le_pow_right (n := 2) (by omega) (show (slotsF (iC (gv vs t q 0))).toNat ≤ 32 by omega)
        have := Nat.two_pow_pos (slotsF (iC (gv vs t q 0))).toNat
        omega
      rw [hw]
      simp only [Bool.and_eq_true, Bool.not_eq_true', beq_eq_false_iff_ne, beq_iff_eq, ne_eq, hK, true_and]
      rw [andN_zero _ _ hu3 hwl, andN_zero _ _ ha2 hu3, allN_iff]
      constructor
      · rintro ⟨⟨h1, h2⟩, h3⟩
        refine ⟨fun b hb => ?_, by simpa using h1⟩
        rw [hsb, bitB_nat _ _ hb, bitB_nat _ _ hb, hK]
        unfold badB
        have i2 := h2 b hb
        have i3 := h3 b hb
        rw [Nat.testBit_two_pow_sub_one] at i2
        cases hab : a.testBit b <;> cases hub : u.testBit b <;> simp_all
        all_goals omega
      · rintro ⟨h1, h2⟩
        refine ⟨⟨by simpa using h2, fun b hb hub => ?_⟩, fun b hb hab => ?_⟩
        · have := h1 b hb
          rw [hsb, bitB_nat _ _ hb, bitB_nat _ _ hb, hK, hub] at this
          unfold badB at this
          rw [Nat.testBit_two_pow_sub_one]
          simp at this ⊢
          omega
        · have := h1 b hb
          rw [hsb, bitB_nat _ _ hb, bitB_nat _ _ hb, hab] at this
          unfold badB at this
          cases hub : u.testBit b
          · rw [hub] at this; simp at this
          · rfl
    · rw [if_neg hK]
      have hKb : (iK (gv vs t q 0) == 3) = false := by simpa using hK
      rw [hKb]
      simp only [Bool.and_eq_true, beq_iff_eq, Bool.false_and, Bool.not_false, and_true]
      rw [allN_iff]
      constructor
      · rintro ⟨h1, h2⟩ b hb
        have z1 : a = 0 := by omega
        have z2 : u = 0 := by omega
        rw [hsb, z1, z2, bitB_nat _ _ hb]
        simp [badB]
      · intro h
        have hub : ∀ b, b < 32 → u.testBit b = false := by
          intro b hb
          have := h b hb
          rw [hsb, bitB_nat _ _ hb, bitB_nat _ _ hb] at this
          unfold badB at this
          cases hx : u.testBit b
          · rfl
          · rw [hx] at this; simp [hK] at this
        have hab : ∀ b, b < 32 → a.testBit b = false := by
          intro b hb
          have := h b hb
          rw [hsb, bitB_nat _ _ hb, bitB_nat _ _ hb, hub b hb] at this
          unfold badB at this
          cases hx : a.testBit b
          · rfl
          · rw [hx] at this; simp at this
        have z1 := (zero_bits a ha2).2 hab
        have z2 := (zero_bits u hu3).2 hub
        omega
  · simp [hq]
end Go.Proofs.YtkhanbedcmmlcaaGreatDoor
/- the plain law of lists. -/
set_option linter.unusedSimpArgs false
set_option linter.unusedVariables false
namespace Go.Proofs.YtkhanbedcmmlcaaGreatDoor
open Go.RowKit

def ofNs (l : List Nat) : List Int := l.map fun (q : Nat) => (q : Int)
theorem infoL_len {vs : List Int} {t : Int} {P : Nat} : ∀ x ∈ infoL vs t P, x.1 = 1 → 1 ≤ x.2.1 ∧ x.2.1 ≤ 1024 := by
  intro x hx h
  unfold infoL at hx
  obtain ⟨q, -, rfl⟩ := List.mem_map.1 hx
  have := inf_bd (gv vs t q 0)
  simp only [infoQ] at h ⊢
  have := this.2.2.2.2.2.2.1 (by omega)
  omega
section
variable {vs : List Int} {t : Int} {P : Nat} {f : Nat → Bool} {vis0 : List Nat}
/-- where the program's way is well, the document's list is the same pages. -/
theorem way_list (hg : ∀ q part, 0 ≤ gv vs t q part) : ∀ (fu fl : Nat) (q ah : Int) (m : Nat) (L : List Nat), 0 ≤ q → L.Nodup → (∀ y ∈ L, y < P ∧ f y = true) → P + 1 ≤ fl + L.length →
    (plL f vs t P fu q ah m (vis0 ++ L)).2.1 = true → ∃ L', plL f vs t P fu q ah m (vis0 ++ L) = (m + (L'.length - L.length), true, vis0 ++ L') ∧ listL vs t P fl q ah (ofNs L) = (ofNs L', true) ∧ L'.Nodup ∧ (∀ y ∈ L', y < P ∧ f y = true) ∧ L.length ≤ L'.length
  | 0, fl, q, ah, m, L, _, _, _, _, h => by simp [plL] at h
  | fu + 1, fl, q, ah, m, L, hq, hn, hf, hfl, h => by
    have hlen := VS.length_le_of_nodup P L hn (fun y hy => (hf y hy).1)
    obtain ⟨fl', rfl⟩ : ∃ fl', fl = fl' + 1 := ⟨fl - 1, by omega⟩
    unfold plL at h ⊢
    unfold listL
    by_cases e : q = 0
    · rw [if_pos e, if_pos e]
      exact ⟨L, by simp, rfl, hn, hf, Nat.le_refl _⟩
    · rw [if_neg e] at h ⊢
      rw [if_neg e]
      by_cases e2 : (P : Int) ≤ q - 1 ∨ (q - 1).toNat ∈ vis0 ++ L ∨ f (q - 1).toNat = false ∨ gv vs t (q - 1) 3 ≠ ah
      · rw [if_pos e2] at h; simp at h
      · rw [if_neg e2] at h ⊢
        have a1 : ¬ (P : Int) ≤ q - 1 := fun h => e2 (Or.inl h)
        have a2 : (q - 1).toNat ∉ L := fun h => e2 (Or.inr (Or.inl (List.mem_append_right _ h)))
        have a3 : f (q - 1).toNat = true := by
          cases hx : f (q - 1).toNat
          · exact absurd (Or.inr (Or.inr (Or.inl hx))) e2
          · rfl
        have a4 : ¬ gv vs t (q - 1) 3 ≠ ah := fun h => e2 (Or.inr (Or.inr (Or.inr h)))
        have hn2 : (L ++ [(q - 1).toNat]).Nodup := by
          rw [List.nodup_append]
          exact ⟨hn, by simp, fun a ha c hc e => by simp only [List.mem_singleton] at hc; subst hc; subst e; exact a2 ha⟩
        have hf2 : ∀ y ∈ L ++ [(q - 1).toNat], y < P ∧ f y = true := by
          intro y hy
          simp only [List.mem_append, List.mem_singleton] at hy
          rcases hy with hy | rfl
          · exact hf y hy
          · exact ⟨by omega, a3⟩
        have hlen2 := VS.length_le_of_nodup P _ hn2 (fun y hy => (hf2 y hy).1)
        simp only [List.length_append, List.length_singleton] at hlen2
        have hol : (ofNs L).length = L.length := by simp [ofNs]
        rw [if_neg (by rw [hol]; omega), if_neg a4]
        have hap : ofNs L ++ [q - 1] = ofNs (L ++ [(q - 1).toNat]) := by
          simp only [ofNs, List.map_append, List.map_cons, List.map_nil]
          congr 2
          omega
        rw [hap]
        rw [List.append_assoc] at h ⊢
        obtain ⟨L', h1, h2, h3, h4, h5⟩ := way_list hg fu fl' (gv vs t (q - 1) 2) q (m + 1) (L ++ [(q - 1).toNat]) (hg _ _) hn2 hf2 (by simp; omega) h
        simp only [List.length_append, List.length_singleton] at h1 h5
        refine ⟨L', ?_, h2, h3, h4, by omega⟩
        rw [h1]
        congr 1
        omega
theorem listL_pre : ∀ (fl : Nat) (q ah : Int) (out l : List Int), listL vs t P fl q ah out = (l, true) → ∃ r, l = out ++ r
  | 0, q, ah, out, l, h => by simp [listL] at h
  | fl + 1, q, ah, out, l, h => by
    unfold listL at h
    split at h
    · simp at h; exact ⟨[], by simp [h]⟩
    · split at h
      · simp at h
      · split at h
        · simp at h
        · obtain ⟨r, hr⟩ := listL_pre fl _ _ _ _ h
          exact ⟨(q - 1) :: r, by rw [hr]; simp⟩
/-- where the document's list is well, and has each page once, of those that must be in it alone, the program's way is well. -/
theorem list_way (hg : ∀ q part, 0 ≤ gv vs t q part) (h0 : vis0.Nodup) (h1 : ∀ y ∈ vis0, y < P ∧ f y = false) : ∀ (fl fu : Nat) (q ah : Int) (m : Nat) (L : List Nat) (l : List Int), 0 ≤ q → L.Nodup → (∀ y ∈ L, y < P ∧ f y = true) → P + 1 ≤ fu + (vis0.length + L.length) →
    listL vs t P fl q ah (ofNs L) = (l, true) → l.Nodup → (∀ y ∈ l, f y.toNat = true) → ∃ L', l = ofNs L' ∧ plL f vs t P fu q ah m (vis0 ++ L) = (m + (L'.length - L.length), true, vis0 ++ L') ∧ L.length ≤ L'.length ∧ ∃ r, L' = L ++ r
  | 0, fu, q, ah, m, L, l, _, _, _, _, h, _, _ => by simp [listL] at h
  | fl + 1, fu, q, ah, m, L, l, hq, hn, hf, hfu, h, hln, hlf => by
    have hall : (vis0 ++ L).Nodup := by
      rw [List.nodup_append]
      exact ⟨h0, hn, fun a ha c hc e => by subst e; have := (h1 a ha).2; rw [(hf a hc).2] at this; simp at this⟩
    have hlen := VS.length_le_of_nodup P (vis0 ++ L) hall (fun y hy => by
      rcases List.mem_append.1 hy with hy | hy
      · exact (h1 y hy).1
      · exact (hf y hy).1)
    simp only [List.length_append] at hlen
    obtain ⟨fu', rfl⟩ : ∃ fu', fu = fu' + 1 := ⟨fu - 1, by omega⟩
    unfold listL at h
    unfold plL
    by_cases e : q = 0
    · rw [if_pos e] at h ⊢
      simp at h
      subst h
      exact ⟨L, rfl, by simp, Nat.le_refl _, [], by simp⟩
    · rw [if_neg e] at h ⊢
      by_cases e2 : (P : Int) < q ∨ (P : Int) ≤ (ofNs L).length
      · rw [if_pos e2] at h; simp at h
      · rw [if_neg e2] at h
        by_cases e3 : gv vs t (q - 1) 3 ≠ ah
        · rw [if_pos e3] at h; simp at h
        · rw [if_neg e3] at h
          have hap : ofNs L ++ [q - 1] = ofNs (L ++ [(q - 1).toNat]) := by
            simp only [ofNs, List.map_append, List.map_cons, List.map_nil]
            congr 2
            omega
          rw [hap] at h
          obtain ⟨r0, hr0⟩ := listL_pre _ _ _ _ _ h
          have hxl : (((q - 1).toNat : Nat) : Int) ∈ l := by rw [hr0]; simp [ofNs]
          have hfx : f (q - 1).toNat = true := by simpa using hlf _ hxl
          have hxL : (q - 1).toNat ∉ L := by
            intro hx
            rw [hr0] at hln
            have hn3 := (List.nodup_append.1 hln).1
            rw [ofNs, List.map_append, List.nodup_append] at hn3
            exact hn3.2.2 (((q - 1).toNat : Nat) : Int) (List.mem_map.2 ⟨_, hx, rfl⟩) (((q - 1).toNat : Nat) : Int) (by simp) rfl
          have hxv : (q - 1).toNat ∉ vis0 := by
            intro hx
            have := (h1 _ hx).2
            rw [hfx] at this
            simp at this
          have hn2 : (L ++ [(q - 1).toNat]).Nodup := by
            rw [List.nodup_append]
            exact ⟨hn, by simp, fun a ha c hc e => by simp only [List.mem_singleton] at hc; subst hc; subst e; exact hxL ha⟩
          have hf2 : ∀ y ∈ L ++ [(q - 1).toNat], y < P ∧ f y = true := by
            intro y hy
            simp only [List.mem_append, List.mem_singleton] at hy
            rcases hy with hy | rfl
            · exact hf y hy
            · exact ⟨by omega, hfx⟩
          have hno : ¬ ((P : Int) ≤ q - 1 ∨ (q - 1).toNat ∈ vis0 ++ L ∨ f (q - 1).toNat = false ∨ gv vs t (q - 1) 3 ≠ ah) := by
            rintro (h2 | h2 | h2 | h2)
            · omega
            · rcases List.mem_append.1 h2 with h2 | h2
              · exact hxv h2
              · exact hxL h2
            · rw [hfx] at h2; simp at h2
            · exact e3 h2
          rw [if_neg hno, List.append_assoc]
          obtain ⟨L', g1, g2, g3, r, g4⟩ := list_way hg h0 h1 fl fu' (gv vs t (q - 1) 2) q (m + 1) (L ++ [(q - 1).toNat]) l (hg _ _) hn2 hf2 (by simp; omega) h hln hlf
          simp only [List.length_append, List.length_singleton] at g2 g3
          refine ⟨L', g1, ?_, by omega, (q - 1).toNat :: r, by rw [g4]; simp⟩
          rw [g2]
          congr 1
          omega
theorem cntN_filter : ∀ k, cntN f k = ((List.range k).filter f).length
  | 0 => rfl
  | k + 1 => by
    rw [List.range_succ, List.filter_append, List.length_append, ← cntN_filter k]
    rw [show cntN f (k + 1) = cntN f k + (if f k then 1 else 0) from rfl]
    cases h : f k <;> simp [h]
theorem cnt_all {L : List Nat} (hn : L.Nodup) (hf : ∀ y ∈ L, y < P ∧ f y = true) : L.length = cntN f P ↔ ∀ q, q < P → f q = true → q ∈ L := by
  rw [cntN_filter]
  have hs : ∀ y, y ∈ (List.range P).filter f ↔ y < P ∧ f y = true := by intro y; simp
  have hsub : L ⊆ (List.range P).filter f := fun y hy => (hs y).2 (hf y hy)
  have hle := List.Nodup.length_le_of_subset hn hsub
  constructor
  · intro h q hq hfq
    apply Classical.byContradiction
    intro hno
    have hn2 : (q :: L).Nodup := List.nodup_cons.2 ⟨hno, hn⟩
    have := List.Nodup.length_le_of_subset hn2 (l₂ := (List.range P).filter f) (fun y hy => by
      rcases List.mem_cons.1 hy with rfl | hy
      · exact (hs _).2 ⟨hq, hfq⟩
      · exact hsub hy)
    simp only [List.length_cons] at this
    omega
  · intro h
    have hns : ((List.range P).filter f).Nodup := List.Pairwise.filter _ List.nodup_range
    have := List.Nodup.length_le_of_subset hns (l₂ := L) (fun y hy => h y ((hs y).1 hy).1 ((hs y).1 hy).2)
    omega
theorem listL_rng (hg : ∀ q part, 0 ≤ gv vs t q part) : ∀ (fl : Nat) (q ah : Int) (out : List Int), 0 ≤ q → (∀ y ∈ out, 0 ≤ y ∧ y < P) → ∀ y ∈ (listL vs t P fl q ah out).1, 0 ≤ y ∧ y < P
  | 0, q, ah, out, _, h => h
  | fl + 1, q, ah, out, hq, h => by
    unfold listL
    split
    · exact h
    · split
      · exact h
      · split
        · exact h
        · refine listL_rng hg fl _ _ _ (hg _ _) ?_
          intro y hy
          simp only [List.mem_append, List.mem_singleton] at hy
          rcases hy with hy | rfl
          · exact h y hy
          · omega
theorem count_nd {L : List Nat} (hn : L.Nodup) (q : Nat) : (ofNs L).count (q : Int) = if q ∈ L then 1 else 0 := by
  have hinj : (ofNs L).Nodup := by
    unfold ofNs
    rw [List.Nodup, List.pairwise_map]
    exact hn.imp fun h e => h (by omega)
  by_cases h : q ∈ L
  · rw [if_pos h]
    have : (q : Int) ∈ ofNs L := List.mem_map.2 ⟨q, h, rfl⟩
    exact List.Nodup.count hinj ▸ (by simp [this])
  · rw [if_neg h, List.count_eq_zero]
    intro hx
    obtain ⟨y, hy, e⟩ := List.mem_map.1 hx
    have : y = q := by omega
    exact h (this ▸ hy)
end
end Go.Proofs.YtkhanbedcmmlcaaGreatDoor
/- the plain law of bins, racks and loose. -/
set_option linter.unusedSimpArgs false
set_option linter.unusedVariables false
namespace Go.Proofs.YtkhanbedcmmlcaaGreatDoor
open Go.RowKit

theorem allN_congr {f g : Nat → Bool} : ∀ {N : Nat}, (∀ k, k < N → f k = g k) → allN f N = allN g N
  | 0, _ => rfl
  | N + 1, h => by
    show (allN f N && f N) = (allN g N && g N)
    rw [allN_congr fun k hk => h k (by omega), h N (by omega)]
section
variable {vs : List Int} {t : Int} {P hd : Nat} {F : Nat → Nat → Bool} {vis0 : List Nat}
def docB (hd : Nat) (F : Nat → Nat → Bool) (vs : List Int) (t : Int) (P k : Nat) : Bool :=
  (listF vs t P (hd + k)).2 && allN (fun q => (((listF vs t P (hd + k)).1.count (q : Int) : Nat) : Int) == wantI (F k q)) P
theorem fit_doc (hg : ∀ k, 0 ≤ vs.getD k 0) {k : Nat} {vis : List Nat} (hn : vis.Nodup) (hv : ∀ y ∈ vis, y < P ∧ F k y = false) :
    ((wayN hd F vs t P vis k).2.1 && (wayN hd F vs t P vis k).1 == cntN (F k) P) = docB hd F vs t P k ∧
      (docB hd F vs t P k = true → ∃ L, (wayN hd F vs t P vis k).2.2 = vis ++ L ∧ L.Nodup ∧ ∀ y, y ∈ L ↔ y < P ∧ F k y = true) := by
  have hgv : ∀ q part, 0 ≤ gv vs t q part := fun q part => hg _
  have hlf : listF vs t P (hd + k) = listL vs t P (P + 1) (vs.getD (hd + k) 0) 0 (ofNs []) := by
    unfold listF
    rw [Int.toNat_natCast]
    rfl
  have hle := VS.length_le_of_nodup P vis hn (fun y hy => (hv y hy).1)
  have A : ((wayN hd F vs t P vis k).2.1 && (wayN hd F vs t P vis k).1 == cntN (F k) P) = true → docB hd F vs t P k = true := by
    intro h
    rw [Bool.and_eq_true] at h
    obtain ⟨h1, h2⟩ := h
    unfold wayN at h1 h2
    rw [← List.append_nil vis] at h1 h2
    obtain ⟨L, e1, e2, e3, e4, -⟩ := way_list (vis0 := vis) hgv (P + 1 - (vis ++ []).length) (P + 1) (vs.getD (hd + k) 0) 0 0 [] (hg _) List.nodup_nil (by simp) (by simp) h1
    rw [e1] at h2
    simp only [List.length_nil, Nat.sub_zero, Nat.zero_add, beq_iff_eq] at h2
    have hm := (cnt_all e3 e4).1 h2
    unfold docB
    rw [hlf, e2]
    simp only [Bool.true_and]
    rw [allN_iff]
    intro q hq
    rw [count_nd e3 q]
    by_cases hqL : q ∈ L
    · rw [if_pos hqL, (e4 q hqL).2]; rfl
    · rw [if_neg hqL]
      cases hf : F k q
      · rfl
      · exact absurd (hm q hq hf) hqL
  have B : docB hd F vs t P k = true → ∃ L, wayN hd F vs t P vis k = (L.length, true, vis ++ L) ∧ L.Nodup ∧ (∀ y, y ∈ L ↔ y < P ∧ F k y = true) ∧ L.length = cntN (F k) P := by
    intro h
    unfold docB at h
    rw [Bool.and_eq_true, allN_iff] at h
    obtain ⟨h1, h2⟩ := h
    obtain ⟨l, hl⟩ : ∃ l, listF vs t P (hd + k) = (l, true) := ⟨(listF vs t P (hd + k)).1, by rw [← h1]⟩
    rw [hl] at h2
    simp only at h2
    have hrng : ∀ y ∈ l, 0 ≤ y ∧ y < P := by
      have := listL_rng (P := P) hgv (P + 1) (vs.getD (hd + k) 0) 0 [] (hg _) (by simp)
      rw [hlf] at hl
      rw [show ofNs [] = ([] : List Int) from rfl] at hl
      rw [hl] at this
      exact this
    have hcnt : ∀ y ∈ l, l.count y = 1 ∧ F k y.toNat = true := by
      intro y hy
      have hr := hrng y hy
      have := h2 y.toNat (by omega)
      rw [show ((y.toNat : Nat) : Int) = y by omega] at this
      have hpos := List.count_pos_iff.2 hy
      simp only [beq_iff_eq] at this
      cases hf : F k y.toNat
      · rw [hf] at this; simp [wantI] at this; omega
      · rw [hf] at this; simp [wantI] at this; exact ⟨by omega, rfl⟩
    have hln : l.Nodup := by
      rw [List.nodup_iff_count]
      intro y
      by_cases hy : y ∈ l
      · have := (hcnt y hy).1; omega
      · have := List.count_eq_zero.2 hy; omega
    rw [hlf] at hl
    obtain ⟨L, g1, g2, -, -⟩ := list_way (vis0 := vis) hgv hn hv (P + 1) (P + 1 - vis.length) (vs.getD (hd + k) 0) 0 0 [] l (hg _) List.nodup_nil (by simp) (by simp; omega) hl hln (fun y hy => (hcnt y hy).2)
    simp only [List.append_nil, List.length_nil, Nat.sub_zero, Nat.zero_add] at g2
    subst g1
    have hmem : ∀ y, y ∈ L ↔ ((y : Nat) : Int) ∈ ofNs L := by
      intro y
      unfold ofNs
      constructor
      · exact fun hy => List.mem_map.2 ⟨y, hy, rfl⟩
      · intro hy
        obtain ⟨z, hz, e⟩ := List.mem_map.1 hy
        have : z = y := by omega
        exact this ▸ hz
    have hLn : L.Nodup := by
      unfold ofNs at hln
      rw [List.Nodup, List.pairwise_map] at hln
      exact hln.imp fun h e => h (by omega)
    have hiff : ∀ y, y ∈ L ↔ y < P ∧ F k y = true := by
      intro y
      rw [hmem]
      constructor
      · intro hy
        have a1 := hrng _ hy
        have a2 := (hcnt _ hy).2
        rw [Int.toNat_natCast] at a2
        exact ⟨by omega, a2⟩
      · rintro ⟨hy, hf⟩
        have := h2 y hy
        rw [hf] at this
        simp [wantI] at this
        exact List.count_pos_iff.1 (by omega)
    refine ⟨L, g2, hLn, hiff, (cnt_all hLn fun y hy => (hiff y).1 hy).2 fun q hq hf => (hiff q).2 ⟨hq, hf⟩⟩
  refine ⟨?_, fun h => ?_⟩
  · rw [Bool.eq_iff_iff]
    refine ⟨A, fun h => ?_⟩
    obtain ⟨L, e1, -, -, e4⟩ := B h
    rw [e1, ← e4]
    simp
  · obtain ⟨L, e1, e2, e3, -⟩ := B h
    exact ⟨L, by rw [e1], e2, e3⟩
theorem fits_law (hg : ∀ k, 0 ≤ vs.getD k 0) (hF : ∀ k k' q, F k q = true → F k' q = true → k = k') (hn : vis0.Nodup) (hv : ∀ y ∈ vis0, y < P ∧ ∀ k, F k y = false) :
    ∀ N, allN (fitN hd F vs t P vis0) N = allN (docB hd F vs t P) N ∧
      (allN (docB hd F vs t P) N = true → (visN hd F vs t P vis0 N).Nodup ∧ ∀ y, y ∈ visN hd F vs t P vis0 N ↔ y ∈ vis0 ∨ (y < P ∧ ∃ k, k < N ∧ F k y = true))
  | 0 => ⟨rfl, fun _ => ⟨hn, fun y => by simp [visN]⟩⟩
  | N + 1 => by
    obtain ⟨i1, i2⟩ := fits_law hg hF hn hv N
    show (allN (fitN hd F vs t P vis0) N && fitN hd F vs t P vis0 N) = (allN (docB hd F vs t P) N && docB hd F vs t P N) ∧ ((allN (docB hd F vs t P) N && docB hd F vs t P N) = true → _)
    rw [i1]
    cases ha : allN (docB hd F vs t P) N
    · simp
    · obtain ⟨j1, j2⟩ := i2 ha
      have hvis : ∀ y ∈ visN hd F vs t P vis0 N, y < P ∧ F N y = false := by
        intro y hy
        rcases (j2 y).1 hy with h | ⟨h, k, hk, hf⟩
        · exact ⟨(hv y h).1, (hv y h).2 N⟩
        · refine ⟨h, ?_⟩
          cases hx : F N y
          · rfl
          · have := hF _ _ _ hf hx; omega
      obtain ⟨q1, q2⟩ := fit_doc (hd := hd) (t := t) hg j1 hvis
      simp only [Bool.true_and]
      refine ⟨q1, fun h => ?_⟩
      obtain ⟨L, e1, e2, e3⟩ := q2 h
      show ((wayN hd F vs t P (visN hd F vs t P vis0 N) N).2.2).Nodup ∧ ∀ y, y ∈ (wayN hd F vs t P (visN hd F vs t P vis0 N) N).2.2 ↔ _
      rw [e1]
      refine ⟨List.nodup_append.2 ⟨j1, e2, fun a ha c hc e => ?_⟩, fun y => ?_⟩
      · subst e
        have := (hvis a ha).2
        rw [((e3 a).1 hc).2] at this
        simp at this
      · rw [List.mem_append, j2, e3]
        constructor
        · rintro ((h | ⟨h, k, hk, hf⟩) | ⟨h, hf⟩)
          · exact Or.inl h
          · exact Or.inr ⟨h, k, by omega, hf⟩
          · exact Or.inr ⟨h, N, by omega, hf⟩
        · rintro (h0 | ⟨h0, k, hk, hf⟩)
          · exact Or.inl (Or.inl h0)
          · by_cases e : k = N
            · rw [e] at hf; exact Or.inr ⟨h0, hf⟩
            · exact Or.inl (Or.inr ⟨h0, k, by omega, hf⟩)
end
section
variable {vs : List Int} {t : Int} {P : Nat}
abbrev bnF (vs : List Int) (t : Int) (P : Nat) : Nat → Nat → Bool := fun k => bnB (infoL vs t P) (k : Int)
abbrev rkF (vs : List Int) (t : Int) (P : Nat) : Nat → Nat → Bool := fun k => rkB vs t (infoL vs t P) (k : Int)
theorem bnF_in {k q : Nat} (h : q < P) : bnF vs t P k q = binnedB (gv vs t q 0) k := by
  show bnB _ _ _ = _
  unfold bnB binnedB
  rw [infoL_at h]
  rfl
theorem bins_law (hg : ∀ k, 0 ≤ vs.getD k 0) : allN (fitN 2 (bnF vs t P) vs t P []) 11 = binsF vs t P ∧
    (binsF vs t P = true → (visN 2 (bnF vs t P) vs t P [] 11).Nodup ∧ ∀ y, y ∈ visN 2 (bnF vs t P) vs t P [] 11 ↔ y < P ∧ iK (gv vs t y 0) = 1) := by
  have hF : ∀ k k' q, bnF vs t P k q = true → bnF vs t P k' q = true → k = k' := by
    intro k k' q h h'
    simp only [bnF, bnB, Bool.and_eq_true, beq_iff_eq] at h h'
    omega
  obtain ⟨a, b⟩ := fits_law (hd := 2) (t := t) (P := P) (vs := vs) (F := bnF vs t P) (vis0 := []) hg hF List.nodup_nil (by simp) 11
  have hd : allN (docB 2 (bnF vs t P) vs t P) 11 = binsF vs t P := by
    unfold binsF
    refine allN_congr fun k hk => ?_
    unfold docB binsB binsInB
    rw [Int.toNat_natCast]
    refine congrArg (and _) ?_
    refine allN_congr fun q hq => ?_
    rw [bnF_in hq]
  rw [hd] at a b
  refine ⟨a, fun h => ⟨(b h).1, fun y => ?_⟩⟩
  rw [(b h).2]
  simp only [List.not_mem_nil, false_or]
  constructor
  · rintro ⟨h1, k, hk, hf⟩
    rw [bnF_in h1] at hf
    simp only [binnedB, Bool.and_eq_true, beq_iff_eq] at hf
    exact ⟨h1, hf.1⟩
  · rintro ⟨h1, h2⟩
    refine ⟨h1, ?_⟩
    have hb := inf_bd (gv vs t y 0)
    have hl := hb.2.2.2.2.2.2.1 (by omega)
    have hlog : 0 ≤ logF (iL (gv vs t y 0)) ∧ logF (iL (gv vs t y 0)) < 11 := by
      obtain ⟨m, hm⟩ : ∃ m : Nat, iL (gv vs t y 0) = m := ⟨(iL (gv vs t y 0)).toNat, by omega⟩
      rw [hm]
      unfold logF bitsN
      rw [Int.toNat_natCast, if_neg (by omega)]
      have : m.log2 < 11 := by
        have : m < 2 ^ 11 := by omega
        exact (Nat.log2_lt (by omega)).2 this
      omega
    refine ⟨(logF (iL (gv vs t y 0))).toNat, by omega, ?_⟩
    rw [bnF_in h1]
    simp only [binnedB, h2, Bool.and_eq_true, beq_iff_eq]
    refine ⟨trivial, ?_⟩
    omega
/-- how many bits are 1, where none is beyond s: s just if all are. -/
theorem ones_full (v s : Nat) (h : ∀ i, s ≤ i → i < 32 → v.testBit i = false) : ∀ k, k ≤ 32 → onesN (v : Int) k ≤ min k s ∧ (onesN (v : Int) k = min k s ↔ ∀ i, i < min k s → v.testBit i = true)
  | 0, _ => by simp [onesN]
  | k + 1, hk => by
    obtain ⟨i1, i2⟩ := ones_full v s h k (by omega)
    have e : onesN (v : Int) (k + 1) = onesN (v : Int) k + if v.testBit k then 1 else 0 := by
      rw [← bitB_nat v k (by omega)]
      rfl
    rw [e]
    by_cases hs : s ≤ k
    · rw [h k hs (by omega)]
      rw [Nat.min_eq_right hs] at i1 i2
      rw [Nat.min_eq_right (by omega)]
      simpa using ⟨i1, i2⟩
    · rw [Nat.min_eq_left (by omega)] at i1 i2
      rw [Nat.min_eq_left (by omega)]
      cases hb : v.testBit k
      · simp only [Bool.false_eq_true, if_false, Nat.add_zero]
        refine ⟨by omega, ⟨fun h => by omega, fun h => ?_⟩⟩
        have := h k (by omega)
        rw [hb] at this
        simp at this
      · simp only [if_true]
        refine ⟨by omega, ⟨fun h i hi => ?_, fun h => ?_⟩⟩
        · by_cases e : i = k
          · subst e; exact hb
          · exact i2.1 (by omega) i (by omega)
        · have := i2.2 fun i hi => h i (by omega)
          omega
theorem full_whole (v s : Nat) (hv : v < 2 ^ 32) (hs : s ≤ 32) (h : ∀ i, s ≤ i → i < 32 → v.testBit i = false) : onesN (v : Int) 32 = s ↔ v = 2 ^ s - 1 := by
  have := (ones_full v s h 32 (Nat.le_refl _)).2
  rw [Nat.min_eq_right hs] at this
  rw [this]
  constructor
  · intro hx
    apply Nat.eq_of_testBit_eq
    intro i
    rw [Nat.testBit_two_pow_sub_one]
    by_cases hi : i < s
    · rw [hx i hi]; simp [hi]
    · rw [show decide (i < s) = false by simp [hi]]
      by_cases h2 : i < 32
      · exact h i (by omega) h2
      · exact Nat.testBit_lt_two_pow (Nat.lt_of_lt_of_le hv (Nat.pow_le_pow_right (by omega) (by omega)))
  · rintro rfl i hi
    rw [Nat.testBit_two_pow_sub_one]
    simp [hi]
/-- of a slab whose slots may be, the program and the document tell alike whether it is full. -/
theorem slots_full (hu : ∀ v ∈ vs, VS.U32 v) (hs : slotsAll vs t P = true) {q : Nat} (hq : q < P) (hK : iK (gv vs t q 0) = 3) : (gv vs t q 5 == 2 ^ (slotsF (iC (gv vs t q 0))).toNat - 1) = fullB (gv vs t q 5) (iC (gv vs t q 0)) := by
  unfold slotsAll at hs
  rw [Int.toNat_natCast, allN_iff] at hs
  have h1 := hs q hq
  unfold slotsQ at h1
  rw [Bool.and_eq_true, allN_iff] at h1
  have h2 := h1.1
  have h5 := getD_u32 hu (cix t q 5)
  obtain ⟨u, hu2⟩ : ∃ u : Nat, gv vs t q 5 = u := ⟨(gv vs t q 5).toNat, by unfold gv; unfold VS.U32 at h5; omega⟩
  have hu3 : u < 2 ^ 32 := by unfold VS.U32 at h5; unfold gv at hu2; omega
  have hsl := slots_bd (iC (gv vs t q 0))
  have hbit : ∀ i, (slotsF (iC (gv vs t q 0))).toNat ≤ i → i < 32 → u.testBit i = false := by
    intro i hi hi2
    have := h2 i hi2
    unfold slotB at this
    rw [hu2, bitB_nat _ _ hi2, hK] at this
    cases hx : u.testBit i
    · rfl
    · rw [hx] at this
      unfold badB at this
      simp at this
      omega
  have hf := full_whole u _ hu3 (by omega) hbit
  unfold fullB
  rw [hu2, Bool.eq_iff_iff]
  simp only [beq_iff_eq]
  have hw : (2 : Int) ^ (slotsF (iC (gv vs t q 0))).toNat - 1 = ((2 ^ (slotsF (iC (gv vs t q 0))).toNat - 1 : Nat) : Int) := by
    rw [Int.natCast_sub (Nat.two_pow_pos _)]
    simp
  rw [hw]
  constructor
  · intro h
    have := hf.2 (by omega)
    omega
  · intro h
    have := hf.1 (by omega)
    omega
theorem rkF_in (hu : ∀ v ∈ vs, VS.U32 v) (hs : slotsAll vs t P = true) {k q : Nat} (h : q < P) : rkF vs t P k q = rackedB (gv vs t q 0) (gv vs t q 5) k := by
  show rkB _ _ _ _ _ = _
  unfold rkB rackedB
  rw [infoL_at h]
  show (iK (gv vs t q 0) == 3 && iC (gv vs t q 0) == k && !(gv vs t q 5 == 2 ^ (slotsF (iC (gv vs t q 0))).toNat - 1)) = _
  by_cases hK : iK (gv vs t q 0) = 3
  · rw [slots_full hu hs h hK]
    by_cases hC : iC (gv vs t q 0) = k
    · rw [hC]
    · have : (iC (gv vs t q 0) == (k : Int)) = false := by simpa using hC
      rw [this]; simp
  · have : (iK (gv vs t q 0) == 3) = false := by simpa using hK
    rw [this]; simp
theorem racks_law (hg : ∀ k, 0 ≤ vs.getD k 0) (hu : ∀ v ∈ vs, VS.U32 v) (hs : slotsAll vs t P = true) (hb : binsF vs t P = true) :
    allN (fitN 13 (rkF vs t P) vs t P (visN 2 (bnF vs t P) vs t P [] 11)) 9 = racksF vs t P ∧
    (racksF vs t P = true → ∀ y, y < P → decide (y ∈ visN 13 (rkF vs t P) vs t P (visN 2 (bnF vs t P) vs t P [] 11) 9) = hungB vs t y) := by
  have hF : ∀ k k' q, rkF vs t P k q = true → rkF vs t P k' q = true → k = k' := by
    intro k k' q h h'
    simp only [rkF, rkB, Bool.and_eq_true, beq_iff_eq] at h h'
    omega
  obtain ⟨v1, v2⟩ := (bins_law hg).2 hb
  obtain ⟨a, b⟩ := fits_law (hd := 13) (t := t) (P := P) (vs := vs) (F := rkF vs t P) (vis0 := visN 2 (bnF vs t P) vs t P [] 11) hg hF v1 (by
    intro y hy
    obtain ⟨h1, h2⟩ := (v2 y).1 hy
    refine ⟨h1, fun k => ?_⟩
    rw [rkF_in hu hs h1]
    simp [rackedB, h2]) 9
  have hd : allN (docB 13 (rkF vs t P) vs t P) 9 = racksF vs t P := by
    unfold racksF
    refine allN_congr fun k hk => ?_
    unfold docB racksB racksInB
    rw [Int.toNat_natCast]
    refine congrArg (and _) ?_
    refine allN_congr fun q hq => ?_
    rw [rkF_in hu hs hq]
  rw [hd] at a b
  refine ⟨a, fun h y hy => ?_⟩
  have hm := (b h).2 y
  rw [v2] at hm
  rw [Bool.eq_iff_iff, decide_eq_true_iff, hm]
  unfold hungB
  simp only [Bool.or_eq_true, Bool.and_eq_true, beq_iff_eq, Bool.not_eq_true', hy, true_and]
  refine or_congr Iff.rfl ?_
  constructor
  · rintro ⟨k, hk, hf⟩
    rw [rkF_in hu hs hy] at hf
    simp only [rackedB, Bool.and_eq_true, beq_iff_eq, Bool.not_eq_true'] at hf
    obtain ⟨⟨f1, f2⟩, f3⟩ := hf
    rw [f2]
    exact ⟨f1, f3⟩
  · rintro ⟨h1, h2⟩
    have hbd := inf_bd (gv vs t y 0)
    refine ⟨(iC (gv vs t y 0)).toNat, by omega, ?_⟩
    rw [rkF_in hu hs hy]
    simp only [rackedB, Bool.and_eq_true, beq_iff_eq, Bool.not_eq_true']
    have e : (((iC (gv vs t y 0)).toNat : Nat) : Int) = iC (gv vs t y 0) := by omega
    rw [e]
    exact ⟨⟨h1, rfl⟩, h2⟩
theorem loose_law {vis : List Nat} (h : ∀ y, y < P → decide (y ∈ vis) = hungB vs t y) : allN (lsB vs t vis) P = looseF vs t P := by
  unfold looseF
  rw [Int.toNat_natCast]
  refine allN_congr fun q hq => ?_
  unfold lsB looseQ
  rw [h q hq]
end
end Go.Proofs.YtkhanbedcmmlcaaGreatDoor
/- the plain law of feet, apart and counts. -/
set_option linter.unusedSimpArgs false
set_option linter.unusedVariables false
namespace Go.Proofs.YtkhanbedcmmlcaaGreatDoor
open Go.RowKit
section
variable {vs : List Int} {t : Int} {P : Nat}
theorem tiles_pg (h : tilesF vs t P = true) : allN (pgB vs t P) P = true := by
  rw [← tiles_law] at h
  obtain ⟨a, b⟩ := tlN_eq (vs := vs) (t := t) P (Nat.le_refl P)
  cases hc : allN (pgB vs t P) P
  · rw [b hc] at h; simp at h
  · rfl
theorem pg_ok (h : allN (pgB vs t P) P = true) : allN (okSt vs t) P = true := by
  rw [allN_iff] at h ⊢
  intro k hk
  have := h k hk
  unfold pgB at this
  unfold okSt
  cases hs : stB vs t k
  · rfl
  · rw [hs] at this
    simp at this ⊢
    exact this.1
theorem tiles_starts (h : tilesF vs t P = true) : startsF (fun q => gv vs t q 0) P = (stL vs t P, nxN vs t P == P) := by
  unfold startsF
  rw [Int.toNat_natCast]
  exact startsL_eq (pg_ok (tiles_pg h)) (P + 1) 0 (Nat.zero_le _) rfl (by omega)
theorem st_kind (h : allN (pgB vs t P) P = true) {k : Nat} (hk : k < P) : stB vs t k = true ↔ iK (gv vs t k 0) ≠ 0 := by
  have := allN_at h hk
  unfold pgB at this
  cases hs : stB vs t k
  · rw [hs] at this
    simp only [Bool.false_eq_true, if_false, beq_iff_eq] at this
    rw [this]
    simp
    decide
  · rw [hs] at this
    simp only [if_true, Bool.and_eq_true, Bool.not_eq_true', beq_eq_false_iff_ne] at this
    simp [this.1.2]
theorem st_at (h : allN (pgB vs t P) P = true) {k : Nat} (hk : k < P) (hs : stB vs t k = true) : nxN vs t k = k ∧ 1 ≤ iL (gv vs t k 0) ∧ (k : Int) + iL (gv vs t k 0) ≤ P ∧ nxN vs t (k + 1) = k + iL (gv vs t k 0) := by
  have hall := pg_ok h
  obtain ⟨o1, o2, o3⟩ := okSt_at hs (allN_at hall hk)
  have hkx : nxN vs t k = k := by
    have := nx_ge k (allN_iff.2 fun j hj => allN_at hall (by omega))
    unfold stB at hs
    simp at hs
    omega
  have hp := allN_at h hk
  unfold pgB at hp
  rw [hs] at hp
  simp only [if_true, Bool.and_eq_true, decide_eq_true_eq] at hp
  exact ⟨hkx, o3, by omega, (at_start hkx).2.1⟩
theorem spN_step (h : allN (pgB vs t P) P = true) {k : Nat} (hk : k < P) : spN (infoL vs t P) (k + 1) = if stB vs t k then spN (infoL vs t P) k ++ [(k, infoQ vs t k)] else spN (infoL vs t P) k := by
  rw [spN, infoL_at hk]
  have := st_kind h hk
  show (if iK (gv vs t k 0) = 0 then _ else _) = _
  by_cases hs : stB vs t k = true
  · rw [if_pos hs, if_neg (this.1 hs)]
  · rw [if_neg hs, if_pos (Classical.byContradiction fun hn => hs (this.2 hn))]
/-- the spans that the program goes through lie in the pages. -/
theorem sp_in (h : tilesF vs t P = true) (k : Nat) (x : Int × Int × Int) (hx : (infoL vs t P)[k]? = some x) (hK : x.1 ≠ 0) : SpIn P (k, x) := by
  have hk : k < P := by
    have := (List.getElem?_eq_some_iff.1 hx).1
    simpa [infoL] using this
  have hxe : x = infoQ vs t k := by
    have := infoL_at (vs := vs) (t := t) hk
    rw [List.getD_eq_getElem?_getD, hx] at this
    exact this
  subst hxe
  have hpg := tiles_pg h
  have hs := (st_kind hpg hk).2 hK
  obtain ⟨-, a1, a2, -⟩ := st_at hpg hk hs
  have hb := inf_bd (gv vs t k 0)
  have hK' : iK (gv vs t k 0) ≠ 0 := hK
  unfold SpIn infoQ
  dsimp only
  omega

/-- the last start among the first pages. -/
def lsN (vs : List Int) (t : Int) : Nat → Int
  | 0 => 0
  | k + 1 => if stB vs t k then k else lsN vs t k
theorem st0 : stB vs t 0 = true := by simp [stB, nxN]
theorem stL_last : ∀ k, ∃ r, stL vs t (k + 1) = r ++ [lsN vs t (k + 1)]
  | 0 => ⟨[], by rw [stL, lsN, if_pos st0, if_pos st0]; rfl⟩
  | k + 1 => by
    by_cases hs : stB vs t (k + 1) = true
    · exact ⟨stL vs t (k + 1), by rw [stL, lsN, if_pos hs, if_pos hs]⟩
    · obtain ⟨r, h⟩ := stL_last k
      exact ⟨r, by rw [stL, lsN, if_neg hs, if_neg hs, h]⟩
theorem apart_at (h : allN (pgB vs t P) P = true) : ∀ k, k ≤ P → (k = 0 ∨ (apL (spN (infoL vs t P) k)).1 = iK (gv vs t (lsN vs t k) 0)) ∧ (apL (spN (infoL vs t P) k)).2 = allN (apB vs t (stL vs t k)) ((stL vs t k).length - 1)
  | 0, _ => ⟨Or.inl rfl, rfl⟩
  | k + 1, hk => by
    obtain ⟨i1, i2⟩ := apart_at h k (by omega)
    rw [spN_step h (by omega)]
    by_cases hs : stB vs t k = true
    · rw [if_pos hs, apL_snoc, stL, lsN, if_pos hs, if_pos hs]
      refine ⟨Or.inr rfl, ?_⟩
      unfold apS
      dsimp only
      rw [i2]
      rcases Nat.eq_zero_or_pos k with rfl | hpos
      · show (true && !(_ && ((0 : Int) == 1))) = true
        simp
      · obtain ⟨j, rfl⟩ : ∃ j, k = j + 1 := ⟨k - 1, by omega⟩
        obtain ⟨r, hr⟩ := stL_last (vs := vs) (t := t) j
        have i3 := i1.resolve_left (by omega)
        rw [i3, hr]
        generalize lsN vs t (j + 1) = x
        simp only [List.length_append, List.length_singleton, Nat.add_sub_cancel]
        show _ = (allN (apB vs t (r ++ [x] ++ [((j + 1 : Nat) : Int)])) r.length && apB vs t (r ++ [x] ++ [((j + 1 : Nat) : Int)]) r.length)
        congr 1
        · refine allN_congr fun i hi => ?_
          unfold apB
          have e1 : (r ++ [x] ++ [((j + 1 : Nat) : Int)]).getD (i + 1) 0 = (r ++ [x]).getD (i + 1) 0 := by
            rw [List.getD_eq_getElem?_getD, List.getD_eq_getElem?_getD, List.getElem?_append_left (by simp; omega)]
          have e2 : (r ++ [x] ++ [((j + 1 : Nat) : Int)]).getD i 0 = (r ++ [x]).getD i 0 := by
            rw [List.getD_eq_getElem?_getD, List.getD_eq_getElem?_getD, List.getElem?_append_left (by simp; omega)]
          rw [e1, e2]
        · unfold apB
          have e1 : (r ++ [x] ++ [((j + 1 : Nat) : Int)]).getD (r.length + 1) 0 = ((j + 1 : Nat) : Int) := by simp
          have e2 : (r ++ [x] ++ [((j + 1 : Nat) : Int)]).getD r.length 0 = x := by simp
          rw [e1, e2]
          rfl
    · rw [if_neg hs, stL, lsN, if_neg hs, if_neg hs]
      refine ⟨?_, i2⟩
      rcases i1 with rfl | i1
      · exact absurd st0 hs
      · exact Or.inr i1
theorem apart_law (h : tilesF vs t P = true) : (apL (spN (infoL vs t P) P)).2 = apartF vs t P := by
  unfold apartF
  rw [tiles_starts h]
  exact (apart_at (tiles_pg h) P (Nat.le_refl _)).2

/-- what the foot of a page must be. -/
def footN (vs : List Int) (t : Int) (q : Nat) : Int := if nxN vs t (q + 1) = q + 1 then lsN vs t (q + 1) + 1 else 0
theorem ls_skip {k : Nat} (hs : stB vs t k = true) : ∀ j, k + 1 ≤ j → (j : Int) ≤ nxN vs t (k + 1) → lsN vs t j = k
  | 0, h, _ => by omega
  | j + 1, h, hj => by
    by_cases e : j = k
    · subst e; rw [lsN, if_pos hs]
    · have ih := ls_skip hs j (by omega) (by omega)
      have hn := (nx_skip (vs := vs) (t := t) (k := k) j (by omega) (by omega)).1
      rw [lsN, if_neg (by simp [stB, hn]; omega), ih]
theorem ls_nx : ∀ k, nxN vs t (k + 1) = lsN vs t (k + 1) + iL (gv vs t (lsN vs t (k + 1)) 0)
  | 0 => by rw [nxN, lsN, if_pos st0, if_neg (by simp [nxN])]
  | k + 1 => by
    by_cases hs : stB vs t (k + 1) = true
    · rw [lsN, if_pos hs, nxN, if_neg (by simpa [stB] using hs)]
    · rw [lsN, if_neg hs, nxN, if_pos (by simpa [stB] using hs)]
      exact ls_nx k
theorem wt_at (h : allN (pgB vs t P) P = true) : ∀ k, k ≤ P → ∀ q, q < P → (wtL P (spN (infoL vs t P) k)).getD q 0 = if (q : Int) < nxN vs t k then footN vs t q else 0
  | 0, _, q, hq => by
    rw [if_neg (by simp [nxN])]
    show (List.replicate P (0 : Int)).getD q 0 = 0
    simp [List.getD_eq_getElem?_getD, hq]
  | k + 1, hk, q, hq => by
    have ih := wt_at h k (by omega) q hq
    have hge := nx_ge k (allN_iff.2 fun j hj => allN_at (pg_ok h) (by omega))
    rw [spN_step h (by omega)]
    by_cases hs : stB vs t k = true
    · obtain ⟨s1, s2, s3, s4⟩ := st_at h (by omega) hs
      rw [if_pos hs, wtL_snoc]
      unfold wtS infoQ
      dsimp only
      have hlen := wtL_len P (spN (infoL vs t P) k)
      obtain ⟨m, hm⟩ : ∃ m : Nat, (k : Int) + iL (gv vs t k 0) - 1 = m := ⟨((k : Int) + iL (gv vs t k 0) - 1).toNat, by omega⟩
      rw [hm, Int.toNat_natCast, s4]
      rw [s1] at ih
      rw [List.getD_eq_getElem?_getD, List.getElem?_set]
      by_cases hqm : m = q
      · subst hqm
        rw [if_pos rfl, if_pos (by omega), if_pos (by omega)]
        unfold footN
        have n1 := (nx_skip (vs := vs) (t := t) (k := k) (m + 1) (by omega) (by omega)).1
        rw [if_pos (by omega), ls_skip hs (m + 1) (by omega) (by omega)]
        rfl
      · rw [if_neg hqm, ← List.getD_eq_getElem?_getD, ih]
        by_cases hqk : q < k
        · rw [if_pos (by omega), if_pos (by omega)]
        · rw [if_neg (by omega)]
          by_cases hq2 : (q : Int) < k + iL (gv vs t k 0)
          · rw [if_pos hq2]
            unfold footN
            have n1 := (nx_skip (vs := vs) (t := t) (k := k) (q + 1) (by omega) (by omega)).1
            rw [if_neg (by omega)]
          · rw [if_neg hq2]
    · have en : nxN vs t (k + 1) = nxN vs t k := by rw [nxN, if_pos (by simpa [stB] using hs)]
      rw [if_neg hs, ih, en]
theorem feetN_eq (h : allN (pgB vs t P) P = true) : ∀ q, q ≤ P → feetN vs t (stL vs t P) q = if allN (fun q => gv vs t q 1 == footN vs t q) q = true then some ((stL vs t q).length - 1) else none
  | 0, _ => rfl
  | q + 1, hq => by
    have ih := feetN_eq h q (by omega)
    have ea : allN (fun q => gv vs t q 1 == footN vs t q) (q + 1) = (allN (fun q => gv vs t q 1 == footN vs t q) q && (gv vs t q 1 == footN vs t q)) := rfl
    unfold feetN
    rw [ih, ea]
    cases ha : allN (fun q => gv vs t q 1 == footN vs t q) q
    · simp
    · simp only [if_true, Bool.true_and]
      obtain ⟨rest, h1, h2⟩ := stL_pre (vs := vs) (t := t) (P := P) (P - (q + 1)) (q + 1) (by omega)
      obtain ⟨r, hr⟩ := stL_last (vs := vs) (t := t) q
      have hadv : advN (stL vs t P) ((stL vs t q).length - 1) q = r.length := by
        unfold advN
        by_cases hs : stB vs t q = true
        · have e : stL vs t (q + 1) = stL vs t q ++ [(q : Int)] := by rw [stL, if_pos hs]
          rcases Nat.eq_zero_or_pos q with rfl | hpos
          · have hr0 : r = [] := by
              rw [e] at hr
              have := congrArg List.length hr
              simp [stL] at this
              exact this
            subst hr0
            rw [if_neg]
            · rfl
            · show ¬ (stL vs t P)[1]? = _
              rw [h1, hr]
              intro hx
              simp at hx
              have := h2 _ (List.mem_of_getElem? hx)
              omega
          · obtain ⟨j, rfl⟩ : ∃ j, q = j + 1 := ⟨q - 1, by omega⟩
            obtain ⟨r', hr'⟩ := stL_last (vs := vs) (t := t) j
            have hl : (stL vs t (j + 1)).length = r'.length + 1 := by rw [hr']; simp
            have hrl : r.length = r'.length + 1 := by
              have := congrArg List.length hr
              rw [e] at this
              simp at this
              omega
            rw [hl, Nat.add_sub_cancel, if_pos, hrl]
            rw [h1, e, List.append_assoc, List.getElem?_append_right (by omega), hl]
            simp
        · have e : stL vs t (q + 1) = stL vs t q := by rw [stL, if_neg hs]
          have hl : (stL vs t q).length = r.length + 1 := by rw [← e, hr]; simp
          rw [hl, Nat.add_sub_cancel, if_neg]
          rw [h1, hr, List.getElem?_append_right (by simp)]
          intro hx
          have := h2 _ (List.mem_of_getElem? hx)
          omega
      rw [hadv]
      have hwant : wantF vs t (stL vs t P) r.length q = footN vs t q := by
        have hg : (stL vs t P).getD r.length 0 = lsN vs t (q + 1) := by
          rw [List.getD_eq_getElem?_getD, h1, hr]
          simp
        unfold wantF footN
        rw [hg, ls_nx q]
        by_cases e : (q : Int) = lsN vs t (q + 1) + iL (gv vs t (lsN vs t (q + 1)) 0) - 1
        · rw [if_pos e, if_pos (by omega)]
        · rw [if_neg e, if_neg (by omega)]
      rw [hwant, hr]
      by_cases e : gv vs t q 1 = footN vs t q
      · rw [if_pos e, if_pos (by simpa using e)]
        simp
      · rw [if_neg e, if_neg (by simpa using e)]
theorem feet_law (h : tilesF vs t P = true) : allN (fun q => gv vs t q 1 == (wtL P (spN (infoL vs t P) P)).getD q 0) P = feetF vs t P := by
  have hpg := tiles_pg h
  unfold feetF
  rw [tiles_starts h, Int.toNat_natCast]
  simp only
  rw [feetN_eq hpg P (Nat.le_refl _)]
  have hge := nx_ge P (pg_ok hpg)
  have e : allN (fun q => gv vs t q 1 == (wtL P (spN (infoL vs t P) P)).getD q 0) P = allN (fun q => gv vs t q 1 == footN vs t q) P := by
    refine allN_congr fun q hq => ?_
    rw [wt_at hpg P (Nat.le_refl _) q hq, if_pos (by omega)]
  rw [e]
  cases allN (fun q => gv vs t q 1 == footN vs t q) P <;> rfl

theorem ones_zero : onesN 0 32 = 0 := by decide
theorem co_at (h : allN (pgB vs t P) P = true) (hz : ∀ q, q < P → iK (gv vs t q 0) ≠ 3 → gv vs t q 4 = 0) : ∀ k, k ≤ P → coL vs t (spN (infoL vs t P) k) = (freeN vs t k, liveN vs t k)
  | 0, _ => rfl
  | k + 1, hk => by
    have ih := co_at h hz k (by omega)
    have hb := inf_bd (gv vs t k 0)
    have hK := st_kind h (show k < P by omega)
    rw [spN_step h (by omega), freeN, liveN]
    by_cases hs : stB vs t k = true
    · have hK0 := hK.1 hs
      rw [if_pos hs, coL_snoc, ih]
      unfold coS infoQ
      dsimp only
      by_cases h1 : iK (gv vs t k 0) = 1
      · rw [hz k (by omega) (by omega), ones_zero]
        simp [h1]
      · by_cases h2 : iK (gv vs t k 0) = 2
        · rw [hz k (by omega) (by omega), ones_zero]
          simp [h2]
        · have h3 : iK (gv vs t k 0) = 3 := by omega
          simp [h3]
    · have hK0 : iK (gv vs t k 0) = 0 := Classical.byContradiction fun hn => hs (hK.2 hn)
      rw [if_neg hs, ih, hz k (by omega) (by omega), ones_zero, hK0]
      simp
theorem counts_law (h : tilesF vs t P = true) (hu : ∀ v ∈ vs, VS.U32 v) (hs : slotsAll vs t P = true) : (vs.getD 0 0 == (coL vs t (spN (infoL vs t P) P)).1 && vs.getD 1 0 == (coL vs t (spN (infoL vs t P) P)).2) = countsF vs t P := by
  have hps := slots_law (t := t) (P := P) hu
  rw [hs] at hps
  have hz : ∀ q, q < P → iK (gv vs t q 0) ≠ 3 → gv vs t q 4 = 0 := by
    intro q hq hK
    have := allN_at hps hq
    unfold psB at this
    rw [infoL_at hq] at this
    have hK' : ¬ (infoQ vs t q).1 = 3 := hK
    rw [if_neg hK'] at this
    simp only [Bool.and_eq_true, beq_iff_eq] at this
    exact this.1
  rw [co_at (tiles_pg h) hz P (Nat.le_refl _)]
  unfold countsF
  rw [Int.toNat_natCast]
end
end Go.Proofs.YtkhanbedcmmlcaaGreatDoor
/- the plain law of parts and roots. -/
set_option linter.unusedSimpArgs false
set_option linter.unusedVariables false
namespace Go.Proofs.YtkhanbedcmmlcaaGreatDoor
open Go.RowKit
section
variable {vs : List Int} {t s : Int} {P : Nat}
theorem parts_at (h : allN (pgB vs t P) P = true) : ∀ k, k ≤ P → paL vs t s (spN (infoL vs t P) k) = partsL vs t s k
  | 0, _ => rfl
  | k + 1, hk => by
    have ih := parts_at h k (by omega)
    have hK := st_kind h (show k < P by omega)
    have hb := inf_bd (gv vs t k 0)
    rw [spN_step h (by omega), partsL]
    by_cases hs : stB vs t k = true
    · have hK0 := hK.1 hs
      rw [if_pos hs, paL_snoc, ih]
      congr 1
      show (if iK (gv vs t k 0) = 1 then _ else if iK (gv vs t k 0) = 2 then _ else _) = partQ vs t s k
      unfold partQ
      by_cases h1 : iK (gv vs t k 0) = 1
      · rw [if_pos h1, if_pos (Or.inl h1), h1]
        rfl
      · rw [if_neg h1]
        by_cases h2 : iK (gv vs t k 0) = 2
        · rw [if_pos h2, if_pos (Or.inr h2), h2]
          rfl
        · rw [if_neg h2, if_neg (by omega), if_pos (by omega)]
          rfl
    · have hK0 : iK (gv vs t k 0) = 0 := Classical.byContradiction fun hn => hs (hK.2 hn)
      rw [if_neg hs, ih]
      unfold partQ
      rw [if_neg (by omega), if_neg (by omega), List.append_nil]
theorem parts_law (h : tilesF vs t P = true) : paL vs t s (spN (infoL vs t P) P) = partsF vs t P s := by
  unfold partsF
  rw [Int.toNat_natCast]
  exact parts_at (tiles_pg h) P (Nat.le_refl _)
theorem roots_law (h : tilesF vs t P = true) : allN (rootB vs (liveL (paL vs t s (spN (infoL vs t P) P)))) 8 = rootsF vs t P s := by
  rw [parts_law h]
  rfl
end
end Go.Proofs.YtkhanbedcmmlcaaGreatDoor
/- the program's audit: see. -/
set_option linter.unusedSimpArgs false
set_option linter.unusedVariables false
namespace Go.Proofs.YtkhanbedcmmlcaaGreatDoor
open Go.RowKit

/-- the rules, in their order. -/
def ruleB (vs : List Int) (t s : Int) (P : Nat) : Nat → Bool
  | 1 => tilesF vs t P
  | 2 => feetF vs t P
  | 3 => apartF vs t P
  | 4 => slotsAll vs t P
  | 5 => binsF vs t P
  | 6 => racksF vs t P
  | 7 => looseF vs t P
  | 8 => countsF vs t P
  | 9 => rootsF vs t P s
  | _ => true
theorem chk_first {vs : List Int} {t s : Int} {P k : Nat} (hk : k < 10) (h : allN (ruleB vs t s P) k = true) (hf : ruleB vs t s P k = false) : chkF vs t P s = ((k : Int) + 1, false) := by
  rw [allN_iff] at h
  have h1 := h 1
  have h2 := h 2
  have h3 := h 3
  have h4 := h 4
  have h5 := h 5
  have h6 := h 6
  have h7 := h 7
  have h8 := h 8
  clear h
  rcases (by omega : k = 0 ∨ k = 1 ∨ k = 2 ∨ k = 3 ∨ k = 4 ∨ k = 5 ∨ k = 6 ∨ k = 7 ∨ k = 8 ∨ k = 9) with rfl | rfl | rfl | rfl | rfl | rfl | rfl | rfl | rfl | rfl <;> simp [ruleB] at * <;> simp [chkF, *]
theorem chk_all {vs : List Int} {t s : Int} {P : Nat} (h : allN (ruleB vs t s P) 10 = true) : chkF vs t P s = (0, true) := by
  rw [allN_iff] at h
  have h1 := h 1
  have h2 := h 2
  have h3 := h 3
  have h4 := h 4
  have h5 := h 5
  have h6 := h 6
  have h7 := h 7
  have h8 := h 8
  have h9 := h 9
  clear h
  simp [ruleB] at *
  simp [chkF, *]
/-- the pages that were met in lists. -/
def visK (vs : List Int) (t : Int) (P k : Nat) : List Nat :=
  if k ≤ 5 then [] else if k = 6 then visN 2 (bnF vs t P) vs t P [] 11 else visN 13 (rkF vs t P) vs t P (visN 2 (bnF vs t P) vs t P [] 11) 9
def fnC (b : Nat) : Array Value := #[.func (.func 59) #[.pointer (some ⟨b, 0, none⟩)] #[], .func (.func 60) #[.pointer (some ⟨b, 0, none⟩)] #[], .func (.func 61) #[.pointer (some ⟨b, 0, none⟩)] #[], .func (.func 62) #[.pointer (some ⟨b, 0, none⟩)] #[], .func (.func 63) #[.pointer (some ⟨b, 0, none⟩)] #[], .func (.func 64) #[.pointer (some ⟨b, 0, none⟩)] #[], .func (.func 65) #[.pointer (some ⟨b, 0, none⟩)] #[], .func (.func 66) #[.pointer (some ⟨b, 0, none⟩)] #[], .func (.func 67) #[.pointer (some ⟨b, 0, none⟩)] #[], .func (.func 68) #[.pointer (some ⟨b, 0, none⟩)] #[]]
/-- how things stand ahead of rule k + 1. -/
structure SeeSt (w : World) (b mb R : Nat) (t s : Int) (P : Nat) (ad : Addr) (n c : Nat) (vs : List Int) (k : Nat) (wr : World) : Prop where
  st : if k ≤ 1 then LS w b t P s ad n c vs (.slice none 0 0) mb [] wr else ∃ g, LS w b t P s ad n c vs (.slice (some ⟨g, 0, none⟩) P P) mb (mlOf (visK vs t P k)) wr ∧ AtR w b mb g P (infoL vs t P) ad wr
  fn : wr.heap[R]? = some (.cells (fnC b) 27)
  ok : allN (ruleB vs t s P) k = true
  n1 : R ≠ b
  n2 : R ≠ mb
  ge : w.heap.size ≤ R
  old : ad.block < w.heap.size
section
variable {w : World} {b mb R : Nat} {t s : Int} {P : Nat} {ad : Addr} {n c : Nat} {vs : List Int} {k : Nat} {wr W' : World}
theorem SeeSt.fnlt (h : SeeSt w b mb R t s P ad n c vs k wr) : R < wr.heap.size := (Array.getElem?_eq_some_iff.1 h.fn).1
theorem SeeSt.bel (h : SeeSt w b mb R t s P ad n c vs k wr) : Below w.heap.size w wr := by
  have h1 := h.st
  split at h1
  · exact h1.bs.bel
  · obtain ⟨g, h2, -⟩ := h1
    exact h2.bs.bel
theorem SeeSt.at (h : SeeSt w b mb R t s P ad n c vs k wr) (hk : 2 ≤ k) : ∃ g, LS w b t P s ad n c vs (.slice (some ⟨g, 0, none⟩) P P) mb (mlOf (visK vs t P k)) wr ∧ AtR w b mb g P (infoL vs t P) ad wr := by
  have h1 := h.st
  rw [if_neg (by omega)] at h1
  exact h1
theorem SeeSt.rule (h : SeeSt w b mb R t s P ad n c vs k wr) {j : Nat} (hj : j < k) : ruleB vs t s P j = true := allN_at h.ok hj
/-- behind a rule that turns nothing. -/
theorem SeeSt.pure (h : SeeSt w b mb R t s P ad n c vs k wr) (hk : k ≠ 1 ∧ k ≠ 5 ∧ k ≠ 6) (hb : Below wr.heap.size wr W') (hr : ruleB vs t s P k = true) : SeeSt w b mb R t s P ad n c vs (k + 1) W' := by
  refine ⟨?_, (hb.block R h.fnlt).trans h.fn, by show (allN _ k && _) = true; rw [h.ok, hr]; rfl, h.n1, h.n2, h.ge, h.old⟩
  have h1 := h.st
  by_cases h0 : k = 0
  · subst h0
    simp only [Nat.zero_le, if_true] at h1
    simp only [Nat.zero_add, Nat.le_refl, if_true]
    exact h1.keep hb
  · rw [if_neg (by omega)] at h1
    rw [if_neg (by omega)]
    obtain ⟨g, h2, h3⟩ := h1
    refine ⟨g, ?_, h3.keep hb⟩
    have hv : visK vs t P (k + 1) = visK vs t P k := by
      unfold visK
      by_cases h5 : k ≤ 5
      · rw [if_pos h5, if_pos (by omega)]
      · rw [if_neg h5, if_neg (by omega), if_neg (by omega), if_neg (by omega)]
    rw [hv]
    exact h2.keep hb
def SeeN (w : World) (b mb R : Nat) (t s : Int) (P : Nat) (ad : Addr) (n c : Nat) (vs : List Int) (k : Nat) (e : Ending) (W' : World) : Prop :=
  e = .returned (.bool (ruleB vs t s P k)) ∧ Below w.heap.size w W' ∧ (ruleB vs t s P k = true → SeeSt w b mb R t s P ad n c vs (k + 1) W')
theorem SeeSt.next (h : SeeSt w b mb R t s P ad n c vs k wr) (hk : k ≠ 1 ∧ k ≠ 5 ∧ k ≠ 6) {x : Bool} (hx : x = ruleB vs t s P k) {e : Ending} (he : e = .returned (.bool x)) (hb : Below wr.heap.size wr W') : SeeN w b mb R t s P ad n c vs k e W' := by
  subst hx
  exact ⟨he, h.bel.trans (hb.mono h.bel.size), fun hr => h.pure hk hb hr⟩
theorem see0 (h : SeeSt w b mb R t s P ad n c vs 0 wr) : Calls Tryz.prog 59 #[.pointer (some ⟨b, 0, none⟩)] wr (SeeN w b mb R t s P ad n c vs 0) := by
  have h1 := h.st
  simp only [Nat.zero_le, if_true] at h1
  refine (plsize_any wr h1.lk).mono ?_
  rintro e W' ⟨he, hb⟩
  exact h.next (by decide) rfl he hb
theorem see1 (h : SeeSt w b mb R t s P ad n c vs 1 wr) : Calls Tryz.prog 60 #[.pointer (some ⟨b, 0, none⟩)] wr (SeeN w b mb R t s P ad n c vs 1) := by
  have h1 := h.st
  simp only [Nat.le_refl, if_true] at h1
  refine (ptiles_any w wr [] h1 h.old).mono ?_
  rintro e W' ⟨he, h2, h3, h4, h5⟩
  rw [Int.toNat_natCast, tiles_law] at he
  refine ⟨he, h3, fun hr => ⟨?_, (h4 R h.n1 h.fnlt).trans h.fn, by show (allN _ 1 && _) = true; rw [h.ok, hr]; rfl, h.n1, h.n2, h.ge, h.old⟩⟩
  rw [if_neg (by omega)]
  have hr2 : tilesF vs t P = true := hr
  rw [← tiles_law] at hr2
  obtain ⟨st, hst⟩ := Option.isSome_iff_exists.1 hr2
  rw [Int.toNat_natCast] at h2
  obtain ⟨g, a, b⟩ := h2 st hst
  rw [tlN_info hst] at b
  exact ⟨g, a, b⟩
theorem see2 (h : SeeSt w b mb R t s P ad n c vs 2 wr) : Calls Tryz.prog 61 #[.pointer (some ⟨b, 0, none⟩)] wr (SeeN w b mb R t s P ad n c vs 2) := by
  obtain ⟨g, h1, h2⟩ := h.at (by omega)
  have ht : tilesF vs t P = true := h.rule (j := 1) (by omega)
  refine (pfeet_any w wr _ g P _ h1 h2 (sp_in ht)).mono ?_
  rintro e W' ⟨he, hb⟩
  exact h.next (by decide) (feet_law ht) he (hb)
theorem see3 (h : SeeSt w b mb R t s P ad n c vs 3 wr) : Calls Tryz.prog 62 #[.pointer (some ⟨b, 0, none⟩)] wr (SeeN w b mb R t s P ad n c vs 3) := by
  obtain ⟨g, h1, h2⟩ := h.at (by omega)
  have ht : tilesF vs t P = true := h.rule (j := 1) (by omega)
  refine (papart_any w wr _ g P _ h1 h2 (sp_in ht)).mono ?_
  rintro e W' ⟨he, hb⟩
  exact h.next (by decide) (apart_law ht) he (hb)
theorem see4 (h : SeeSt w b mb R t s P ad n c vs 4 wr) : Calls Tryz.prog 63 #[.pointer (some ⟨b, 0, none⟩)] wr (SeeN w b mb R t s P ad n c vs 4) := by
  obtain ⟨g, h1, h2⟩ := h.at (by omega)
  refine (pslotsr_any w wr _ g P _ h1 h2 rfl).mono ?_
  rintro e W' ⟨he, hb⟩
  exact h.next (by decide) (slots_law h1.lk.xv.u32) he (hb)
theorem see5 (h : SeeSt w b mb R t s P ad n c vs 5 wr) : Calls Tryz.prog 64 #[.pointer (some ⟨b, 0, none⟩)] wr (SeeN w b mb R t s P ad n c vs 5) := by
  obtain ⟨g, h1, h2⟩ := h.at (by omega)
  have hg : ∀ k, 0 ≤ vs.getD k 0 := fun k => (getD_u32 h1.lk.xv.u32 k).1
  have hv5 : visK vs t P 5 = [] := by unfold visK; rw [if_pos (by omega)]
  have hv6 : visK vs t P (5 + 1) = visN 2 (bnF vs t P) vs t P [] 11 := by unfold visK; rw [if_neg (by omega), if_pos rfl]
  rw [hv5] at h1
  refine (pbins_any w wr g P [] (infoL vs t P) h1 h2 infoL_len h.old List.nodup_nil (by simp)).mono ?_
  rintro e W' ⟨he, k, hk, hk2, h3, h4, h5, h6⟩
  have hl := bins_law (P := P) (t := t) hg
  have he2 : e = .returned (.bool (binsF vs t P)) := by rw [← hl.1]; exact he
  refine ⟨he2, h3.bs.bel, fun hr => ⟨?_, (h5 R h.n2 h.fnlt).trans h.fn, by show (allN _ 5 && _) = true; rw [h.ok, hr]; rfl, h.n1, h.n2, h.ge, h.old⟩⟩
  rw [if_neg (by omega)]
  have hk3 := hk2 (hl.1.trans hr)
  subst hk3
  rw [hv6]
  exact ⟨g, h3, h4⟩
theorem see6 (h : SeeSt w b mb R t s P ad n c vs 6 wr) : Calls Tryz.prog 65 #[.pointer (some ⟨b, 0, none⟩)] wr (SeeN w b mb R t s P ad n c vs 6) := by
  obtain ⟨g, h1, h2⟩ := h.at (by omega)
  have hu := h1.lk.xv.u32
  have hg : ∀ k, 0 ≤ vs.getD k 0 := fun k => (getD_u32 hu k).1
  have hb : binsF vs t P = true := h.rule (j := 5) (by omega)
  have hs : slotsAll vs t P = true := h.rule (j := 4) (by omega)
  obtain ⟨v1, v2⟩ := (bins_law (P := P) (t := t) hg).2 hb
  have hv5 : visK vs t P 6 = visN 2 (bnF vs t P) vs t P [] 11 := by unfold visK; rw [if_neg (by omega), if_pos rfl]
  have hv6 : visK vs t P (6 + 1) = visN 13 (rkF vs t P) vs t P (visN 2 (bnF vs t P) vs t P [] 11) 9 := by unfold visK; rw [if_neg (by omega), if_neg (by omega)]
  rw [hv5] at h1
  refine (pracks_any w wr g P (visN 2 (bnF vs t P) vs t P [] 11) (infoL vs t P) h1 h2 h.old v1 (fun y hy => ((v2 y).1 hy).1)).mono ?_
  rintro e W' ⟨he, k, hk, hk2, h3, h4, h5, h6⟩
  have hl := racks_law (P := P) (t := t) hg hu hs hb
  have he2 : e = .returned (.bool (racksF vs t P)) := by rw [← hl.1]; exact he
  refine ⟨he2, h3.bs.bel, fun hr => ⟨?_, (h5 R h.n2 h.fnlt).trans h.fn, by show (allN _ 6 && _) = true; rw [h.ok, hr]; rfl, h.n1, h.n2, h.ge, h.old⟩⟩
  rw [if_neg (by omega)]
  have hk3 := hk2 (hl.1.trans hr)
  subst hk3
  rw [hv6]
  exact ⟨g, h3, h4⟩
theorem see7 (h : SeeSt w b mb R t s P ad n c vs 7 wr) : Calls Tryz.prog 66 #[.pointer (some ⟨b, 0, none⟩)] wr (SeeN w b mb R t s P ad n c vs 7) := by
  obtain ⟨g, h1, h2⟩ := h.at (by omega)
  have hu := h1.lk.xv.u32
  have hg : ∀ k, 0 ≤ vs.getD k 0 := fun k => (getD_u32 hu k).1
  have hb : binsF vs t P = true := h.rule (j := 5) (by omega)
  have hs : slotsAll vs t P = true := h.rule (j := 4) (by omega)
  have hrk : racksF vs t P = true := h.rule (j := 6) (by omega)
  refine (ploose_any w wr g P _ h1).mono ?_
  rintro e W' ⟨he, hb2⟩
  exact h.next (by decide) (loose_law ((racks_law hg hu hs hb).2 hrk)) he hb2
theorem see8 (h : SeeSt w b mb R t s P ad n c vs 8 wr) : Calls Tryz.prog 67 #[.pointer (some ⟨b, 0, none⟩)] wr (SeeN w b mb R t s P ad n c vs 8) := by
  obtain ⟨g, h1, h2⟩ := h.at (by omega)
  have ht : tilesF vs t P = true := h.rule (j := 1) (by omega)
  have hs : slotsAll vs t P = true := h.rule (j := 4) (by omega)
  refine (pcounts_any w wr _ g P _ h1 h2 (sp_in ht)).mono ?_
  rintro e W' ⟨he, hb⟩
  exact h.next (by decide) (counts_law ht h1.lk.xv.u32 hs) he (hb)
theorem see9 (h : SeeSt w b mb R t s P ad n c vs 9 wr) : Calls Tryz.prog 68 #[.pointer (some ⟨b, 0, none⟩)] wr (SeeN w b mb R t s P ad n c vs 9) := by
  obtain ⟨g, h1, h2⟩ := h.at (by omega)
  have ht : tilesF vs t P = true := h.rule (j := 1) (by omega)
  refine (proots_any w wr _ g P _ h1 h2 (sp_in ht)).mono ?_
  rintro e W' ⟨he, hb⟩
  exact h.next (by decide) (roots_law ht) he (hb)
/-- what see answers of values as many as there must be. -/
def SeeP (w : World) (t s : Int) (P : Nat) (ad : Addr) (n c : Nat) (vs : List Int) (e : Ending) (W' : World) : Prop :=
  ∃ b mb, e = .returned (.tuple #[.pointer (some ⟨b, 0, none⟩), .int .i64 (chkF vs t P s).1]) ∧ Below w.heap.size w W' ∧ ((chkF vs t P s).2 = true → ∃ g ml, LS w b t P s ad n c vs (.slice (some ⟨g, 0, none⟩) P P) mb ml W' ∧ AtR w b mb g P (infoL vs t P) ad W')
def SeeRel (w : World) (b mb R : Nat) (t s : Int) (P : Nat) (ad : Addr) (n c : Nat) (vs : List Int) (v : Value) (wr : World) : Prop := ∃ k : Nat, k ≤ 10 ∧ v = .int .i64 k ∧ SeeSt w b mb R t s P ad n c vs k wr
set_option maxHeartbeats 4000000 in
set_option maxRecDepth 100000 in
theorem psee_any (h : XV w t P s ad n vs) (c : Nat) (hold : ad.block < w.heap.size) : Calls Tryz.prog 28 #[.agg #[.int .i64 t, .int .i64 P, .int .i64 s], .slice (some ad) n c] w (SeeP w t s P ad n c vs) := by
  have h0 : SeeSt w (w.heap.size + 1 + 1) (w.heap.size + 1) (w.heap.size + 1 + 1 + 1) t s P ad n c vs 0 ((((w.alloc (.cells #[.int .i64 t, .int .i64 P, .int .i64 s] 23)).alloc (.map #[] 0)).alloc (.cells #[.int .i64 t, .int .i64 P, .int .i64 s, .slice (some ad) n c, .slice none 0 0, .map (some (w.heap.size + 1))] 96)).alloc (.cells (fnC (w.heap.size + 1 + 1)) 27)) := by
    have S := (((BS.start w).alloc (.cells #[.int .i64 t, .int .i64 P, .int .i64 s] 23)).alloc (.map #[] 0)).alloc (.cells #[.int .i64 t, .int .i64 P, .int .i64 s, .slice (some ad) n c, .slice none 0 0, .map (some (w.heap.size + 1))] 96)
    have S2 := S.alloc (.cells (fnC (w.heap.size + 1 + 1)) 27)
    simp only [World.size_alloc] at S S2
    refine ⟨?_, hb_alloc _ _ _ (by simp), rfl, by omega, by omega, by omega, hold⟩
    simp only [Nat.zero_le, if_true]
    refine ⟨⟨(heap_alloc_old _ _ (by simp)).trans (hb_alloc _ _ _ (by simp)), h.keep S2.bel⟩, S2.sub _ (by simp), by omega, #[], 0, ?_, rfl⟩
    exact (heap_alloc_old _ _ (by simp)).trans ((heap_alloc_old _ _ (by simp)).trans (hb_alloc _ _ _ (by simp)))
  have hmm := @run_makeMap Tryz.prog
  have H0 := Lib.hid h0
  clear h0 h
  go_enter Tryz.func28, Tryz.ntmps28
  go_wp2_with fail
  go_loopw [7, 8, 36] (fun _ _ v36 wr => SeeRel w (w.heap.size + 1 + 1) (w.heap.size + 1) (w.heap.size + 1 + 1 + 1) t s P ad n c vs v36 wr) (fun _ _ v36 _ => 10 - (intOf v36).toNat)
  case atStart => exact ⟨0, by omega, rfl, H0.out⟩
  case round =>
    obtain ⟨k, hk, rfl, hst⟩ := hrel
    clear H0
    have hfn := fun o => cell?_of_heap (o := o) hst.fn
    have HSt := Lib.hid hst
    have HFn := Lib.hid hfn
    clear hst hfn
    rcases (by omega : k = 0 ∨ k = 1 ∨ k = 2 ∨ k = 3 ∨ k = 4 ∨ k = 5 ∨ k = 6 ∨ k = 7 ∨ k = 8 ∨ k = 9 ∨ k = 10) with rfl | rfl | rfl | rfl | rfl | rfl | rfl | rfl | rfl | rfl | rfl
    · have c := HFn.out 0
      simp only [fnC, List.getElem?_toArray, List.getElem?_cons_zero, List.getElem?_cons_succ] at c
      have HR := Lib.hid (see0 HSt.out)
      go_wp2_with fail
      refine HR.out.mono ?_
      rintro e w2 ⟨he, hbel, hnx⟩
      cases hb : ruleB vs t s P 0
      · rw [hb] at he
        subst he
        have HCk := Lib.hid (chk_first (by omega) HSt.out.ok hb)
        have HBe := Lib.hid hbel
        clear hnx hb hbel HR HSt HFn c
        go_wp2
        refine bodyPost_ret (v := .tuple #[.pointer (some ⟨w.heap.size + 1 + 1, 0, none⟩), .int .i64 1]) (by simp [results, Tryz.results28, go_sem]) rfl ?_
        exact ⟨_, w.heap.size + 1, by rw [HCk.out]; rfl, HBe.out, fun h => by rw [HCk.out] at h; simp at h⟩
      · rw [hb] at he
        subst he
        have HNx := Lib.hid (hnx hb)
        clear hnx hb hbel HR HSt HFn c
        go_wp2
        go_roundw
        case rel => exact ⟨1, by omega, by go_num, HNx.out⟩
        case measure => simp [intOf]
    · have c := HFn.out 1
      simp only [fnC, List.getElem?_toArray, List.getElem?_cons_zero, List.getElem?_cons_succ] at c
      have HR := Lib.hid (see1 HSt.out)
      go_wp2_with fail
      refine HR.out.mono ?_
      rintro e w2 ⟨he, hbel, hnx⟩
      cases hb : ruleB vs t s P 1
      · rw [hb] at he
        subst he
        have HCk := Lib.hid (chk_first (by omega) HSt.out.ok hb)
        have HBe := Lib.hid hbel
        clear hnx hb hbel HR HSt HFn c
        go_wp2
        refine bodyPost_ret (v := .tuple #[.pointer (some ⟨w.heap.size + 1 + 1, 0, none⟩), .int .i64 2]) (by simp [results, Tryz.results28, go_sem]) rfl ?_
        exact ⟨_, w.heap.size + 1, by rw [HCk.out]; rfl, HBe.out, fun h => by rw [HCk.out] at h; simp at h⟩
      · rw [hb] at he
        subst he
        have HNx := Lib.hid (hnx hb)
        clear hnx hb hbel HR HSt HFn c
        go_wp2
        go_roundw
        case rel => exact ⟨2, by omega, by go_num, HNx.out⟩
        case measure => simp [intOf]
    · have c := HFn.out 2
      simp only [fnC, List.getElem?_toArray, List.getElem?_cons_zero, List.getElem?_cons_succ] at c
      have HR := Lib.hid (see2 HSt.out)
      go_wp2_with fail
      refine HR.out.mono ?_
      rintro e w2 ⟨he, hbel, hnx⟩
      cases hb : ruleB vs t s P 2
      · rw [hb] at he
        subst he
        have HCk := Lib.hid (chk_first (by omega) HSt.out.ok hb)
        have HBe := Lib.hid hbel
        clear hnx hb hbel HR HSt HFn c
        go_wp2
        refine bodyPost_ret (v := .tuple #[.pointer (some ⟨w.heap.size + 1 + 1, 0, none⟩), .int .i64 3]) (by simp [results, Tryz.results28, go_sem]) rfl ?_
        exact ⟨_, w.heap.size + 1, by rw [HCk.out]; rfl, HBe.out, fun h => by rw [HCk.out] at h; simp at h⟩
      · rw [hb] at he
        subst he
        have HNx := Lib.hid (hnx hb)
        clear hnx hb hbel HR HSt HFn c
        go_wp2
        go_roundw
        case rel => exact ⟨3, by omega, by go_num, HNx.out⟩
        case measure => simp [intOf]
    · have c := HFn.out 3
      simp only [fnC, List.getElem?_toArray, List.getElem?_cons_zero, List.getElem?_cons_succ] at c
      have HR := Lib.hid (see3 HSt.out)
      go_wp2_with fail
      refine HR.out.mono ?_
      rintro e w2 ⟨he, hbel, hnx⟩
      cases hb : ruleB vs t s P 3
      · rw [hb] at he
        subst he
        have HCk := Lib.hid (chk_first (by omega) HSt.out.ok hb)
        have HBe := Lib.hid hbel
        clear hnx hb hbel HR HSt HFn c
        go_wp2
        refine bodyPost_ret (v := .tuple #[.pointer (some ⟨w.heap.size + 1 + 1, 0, none⟩), .int .i64 4]) (by simp [results, Tryz.results28, go_sem]) rfl ?_
        exact ⟨_, w.heap.size + 1, by rw [HCk.out]; rfl, HBe.out, fun h => by rw [HCk.out] at h; simp at h⟩
      · rw [hb] at he
        subst he
        have HNx := Lib.hid (hnx hb)
        clear hnx hb hbel HR HSt HFn c
        go_wp2
        go_roundw
        case rel => exact ⟨4, by omega, by go_num, HNx.out⟩
        case measure => simp [intOf]
    · have c := HFn.out 4
      simp only [fnC, List.getElem?_toArray, List.getElem?_cons_zero, List.getElem?_cons_succ] at c
      have HR := Lib.hid (see4 HSt.out)
      go_wp2_with fail
      refine HR.out.mono ?_
      rintro e w2 ⟨he, hbel, hnx⟩
      cases hb : ruleB vs t s P 4
      · rw [hb] at he
        subst he
        have HCk := Lib.hid (chk_first (by omega) HSt.out.ok hb)
        have HBe := Lib.hid hbel
        clear hnx hb hbel HR HSt HFn c
        go_wp2
        refine bodyPost_ret (v := .tuple #[.pointer (some ⟨w.heap.size + 1 + 1, 0, none⟩), .int .i64 5]) (by simp [results, Tryz.results28, go_sem]) rfl ?_
        exact ⟨_, w.heap.size + 1, by rw [HCk.out]; rfl, HBe.out, fun h => by rw [HCk.out] at h; simp at h⟩
      · rw [hb] at he
        subst he
        have HNx := Lib.hid (hnx hb)
        clear hnx hb hbel HR HSt HFn c
        go_wp2
        go_roundw
        case rel => exact ⟨5, by omega, by go_num, HNx.out⟩
        case measure => simp [intOf]
    · have c := HFn.out 5
      simp only [fnC, List.getElem?_toArray, List.getElem?_cons_zero, List.getElem?_cons_succ] at c
      have HR := Lib.hid (see5 HSt.out)
      go_wp2_with fail
      refine HR.out.mono ?_
      rintro e w2 ⟨he, hbel, hnx⟩
      cases hb : ruleB vs t s P 5
      · rw [hb] at he
        subst he
        have HCk := Lib.hid (chk_first (by omega) HSt.out.ok hb)
        have HBe := Lib.hid hbel
        clear hnx hb hbel HR HSt HFn c
        go_wp2
        refine bodyPost_ret (v := .tuple #[.pointer (some ⟨w.heap.size + 1 + 1, 0, none⟩), .int .i64 6]) (by simp [results, Tryz.results28, go_sem]) rfl ?_
        exact ⟨_, w.heap.size + 1, by rw [HCk.out]; rfl, HBe.out, fun h => by rw [HCk.out] at h; simp at h⟩
      · rw [hb] at he
        subst he
        have HNx := Lib.hid (hnx hb)
        clear hnx hb hbel HR HSt HFn c
        go_wp2
        go_roundw
        case rel => exact ⟨6, by omega, by go_num, HNx.out⟩
        case measure => simp [intOf]
    · have c := HFn.out 6
      simp only [fnC, List.getElem?_toArray, List.getElem?_cons_zero, List.getElem?_cons_succ] at c
      have HR := Lib.hid (see6 HSt.out)
      go_wp2_with fail
      refine HR.out.mono ?_
      rintro e w2 ⟨he, hbel, hnx⟩
      cases hb : ruleB vs t s P 6
      · rw [hb] at he
        subst he
        have HCk := Lib.hid (chk_first (by omega) HSt.out.ok hb)
        have HBe := Lib.hid hbel
        clear hnx hb hbel HR HSt HFn c
        go_wp2
        refine bodyPost_ret (v := .tuple #[.pointer (some ⟨w.heap.size + 1 + 1, 0, none⟩), .int .i64 7]) (by simp [results, Tryz.results28, go_sem]) rfl ?_
        exact ⟨_, w.heap.size + 1, by rw [HCk.out]; rfl, HBe.out, fun h => by rw [HCk.out] at h; simp at h⟩
      · rw [hb] at he
        subst he
        have HNx := Lib.hid (hnx hb)
        clear hnx hb hbel HR HSt HFn c
        go_wp2
        go_roundw
        case rel => exact ⟨7, by omega, by go_num, HNx.out⟩
        case measure => simp [intOf]
    · have c := HFn.out 7
      simp only [fnC, List.getElem?_toArray, List.getElem?_cons_zero, List.getElem?_cons_succ] at c
      have HR := Lib.hid (see7 HSt.out)
      go_wp2_with fail
      refine HR.out.mono ?_
      rintro e w2 ⟨he, hbel, hnx⟩
      cases hb : ruleB vs t s P 7
      · rw [hb] at he
        subst he
        have HCk := Lib.hid (chk_first (by omega) HSt.out.ok hb)
        have HBe := Lib.hid hbel
        clear hnx hb hbel HR HSt HFn c
        go_wp2
        refine bodyPost_ret (v := .tuple #[.pointer (some ⟨w.heap.size + 1 + 1, 0, none⟩), .int .i64 8]) (by simp [results, Tryz.results28, go_sem]) rfl ?_
        exact ⟨_, w.heap.size + 1, by rw [HCk.out]; rfl, HBe.out, fun h => by rw [HCk.out] at h; simp at h⟩
      · rw [hb] at he
        subst he
        have HNx := Lib.hid (hnx hb)
        clear hnx hb hbel HR HSt HFn c
        go_wp2
        go_roundw
        case rel => exact ⟨8, by omega, by go_num, HNx.out⟩
        case measure => simp [intOf]
    · have c := HFn.out 8
      simp only [fnC, List.getElem?_toArray, List.getElem?_cons_zero, List.getElem?_cons_succ] at c
      have HR := Lib.hid (see8 HSt.out)
      go_wp2_with fail
      refine HR.out.mono ?_
      rintro e w2 ⟨he, hbel, hnx⟩
      cases hb : ruleB vs t s P 8
      · rw [hb] at he
        subst he
        have HCk := Lib.hid (chk_first (by omega) HSt.out.ok hb)
        have HBe := Lib.hid hbel
        clear hnx hb hbel HR HSt HFn c
        go_wp2
        refine bodyPost_ret (v := .tuple #[.pointer (some ⟨w.heap.size + 1 + 1, 0, none⟩), .int .i64 9]) (by simp [results, Tryz.results28, go_sem]) rfl ?_
        exact ⟨_, w.heap.size + 1, by rw [HCk.out]; rfl, HBe.out, fun h => by rw [HCk.out] at h; simp at h⟩
      · rw [hb] at he
        subst he
        have HNx := Lib.hid (hnx hb)
        clear hnx hb hbel HR HSt HFn c
        go_wp2
        go_roundw
        case rel => exact ⟨9, by omega, by go_num, HNx.out⟩
        case measure => simp [intOf]
    · have c := HFn.out 9
      simp only [fnC, List.getElem?_toArray, List.getElem?_cons_zero, List.getElem?_cons_succ] at c
      have HR := Lib.hid (see9 HSt.out)
      go_wp2_with fail
      refine HR.out.mono ?_
      rintro e w2 ⟨he, hbel, hnx⟩
      cases hb : ruleB vs t s P 9
      · rw [hb] at he
        subst he
        have HCk := Lib.hid (chk_first (by omega) HSt.out.ok hb)
        have HBe := Lib.hid hbel
        clear hnx hb hbel HR HSt HFn c
        go_wp2
        refine bodyPost_ret (v := .tuple #[.pointer (some ⟨w.heap.size + 1 + 1, 0, none⟩), .int .i64 10]) (by simp [results, Tryz.results28, go_sem]) rfl ?_
        exact ⟨_, w.heap.size + 1, by rw [HCk.out]; rfl, HBe.out, fun h => by rw [HCk.out] at h; simp at h⟩
      · rw [hb] at he
        subst he
        have HNx := Lib.hid (hnx hb)
        clear hnx hb hbel HR HSt HFn c
        go_wp2
        go_roundw
        case rel => exact ⟨10, by omega, by go_num, HNx.out⟩
        case measure => simp [intOf]
    · have HCk := Lib.hid (chk_all HSt.out.ok)
      have HBe := Lib.hid HSt.out.bel
      have HAt := Lib.hid (HSt.out.at (by omega))
      clear HSt HFn
      go_wp2
      refine bodyPost_ret (v := .tuple #[.pointer (some ⟨w.heap.size + 1 + 1, 0, none⟩), .int .i64 0]) (by simp [results, Tryz.results28, go_sem]) rfl ?_
      refine ⟨_, w.heap.size + 1, by rw [HCk.out], HBe.out, fun _ => ?_⟩
      obtain ⟨g, a1, a2⟩ := HAt.out
      exact ⟨g, _, a1, a2⟩
end
end Go.Proofs.YtkhanbedcmmlcaaGreatDoor
