/- the document's audit: tiles, apart, feet. -/
import Derived.Test.YtcicmljnjdhkjaaGreatAudF
namespace Go.Proofs.YtcicmljnjdhkjaaGreat
open Go.RowKit

def tilesN (vs : List Int) (t : Int) (l : List Int) : Nat → Option Nat
  | 0 => some 0
  | q + 1 => match tilesN vs t l q with
    | none => none
    | some n => if l[n]? = some (q : Int) then some (n + 1) else if gv vs t (q : Int) 0 = 0 then some n else none
def tilesF (vs : List Int) (t p : Int) : Bool := (startsF (fun q => gv vs t q 0) p).2 && (tilesN vs t (startsF (fun q => gv vs t q 0) p).1 p.toNat).isSome
theorem tilesN_no {vs : List Int} {t : Int} {l : List Int} {k N : Nat} (hk : k ≤ N) (h : tilesN vs t l k = none) : tilesN vs t l N = none := by
  induction N with
  | zero => obtain rfl : k = 0 := by omega
            exact h
  | succ N ih =>
    by_cases e : k = N + 1
    · subst e; exact h
    · unfold tilesN; rw [ih (by omega)]

theorem startsL_mem {g : Int → Int} {p : Int} : ∀ (f : Nat) (a : Int) (out : List Int), 0 ≤ a → (∀ x ∈ out, 0 ≤ x ∧ x < p) → (∀ x ∈ (startsL g p f a out).1, 0 ≤ x ∧ x < p) ∧ (out ≠ [] → (startsL g p f a out).2 = true → (startsL g p f a out).1 ≠ []) ∧ ((out.length : Int) ≤ a → (out.length : Int) ≤ p → ((startsL g p f a out).1.length : Int) ≤ p) := by
  intro f
  induction f with
  | zero => intro a out _ h; exact ⟨h, fun h _ => h, fun _ h => h⟩
  | succ f ih =>
    intro a out ha h
    unfold startsL
    by_cases h1 : a < p
    · rw [if_pos h1]
      by_cases h2 : okI (g a) = false ∨ iK (g a) = 0
      · rw [if_pos h2]
        exact ⟨by simp, by simp, by simp; omega⟩
      · rw [if_neg h2]
        have b := inf_bd (g a)
        have h3 : 1 ≤ iL (g a) := (b.2.2.2.2.2.2.1 (fun e => h2 (Or.inr e))).2
        obtain ⟨i1, i2, i3⟩ := ih (a + iL (g a)) (out ++ [a]) (by omega) (by
          intro x hx
          simp at hx
          rcases hx with hx | rfl
          · exact h x hx
          · exact ⟨ha, h1⟩)
        exact ⟨i1, fun _ => i2 (by simp), fun h4 h5 => i3 (by simp; omega) (by simp; omega)⟩
    · rw [if_neg h1]
      exact ⟨h, fun h _ => h, fun _ h => h⟩
theorem startsF_mem {g : Int → Int} {p : Int} (hp : 0 < p) : (∀ x ∈ (startsF g p).1, 0 ≤ x ∧ x < p) ∧ ((startsF g p).2 = true → (startsF g p).1 ≠ []) ∧ ((startsF g p).1.length : Int) ≤ p := by
  obtain ⟨h1, h2, h3⟩ := startsL_mem (g := g) (p := p) (p.toNat + 1) 0 [] (by omega) (by simp)
  refine ⟨h1, fun h => ?_, h3 (by simp) (by simp; omega)⟩
  unfold startsF at h ⊢
  unfold startsL at h ⊢
  rw [if_pos hp] at h ⊢
  by_cases h4 : okI (g 0) = false ∨ iK (g 0) = 0
  · rw [if_pos h4] at h; simp at h
  · rw [if_neg h4] at h ⊢
    have b := inf_bd (g 0)
    exact (startsL_mem _ _ _ (by omega) (by simp; omega)).2.1 (by simp) h

theorem RowP.cell {w w' : World} {l : List Int} {a : Option Addr} {m c : Nat} (h : RowP w l (.slice a m c) w') {k : Nat} (hk : k < l.length) :
    ∃ g, a = some ⟨g, 0, none⟩ ∧ w'.cell? ⟨g, k, none⟩ = some (.int .i64 (l.getD k 0)) := by
  obtain ⟨g, cap, e⟩ := Joins.ownsRow_form h.1 (by omega)
  simp only [Value.slice.injEq] at e
  obtain ⟨rfl, rfl, rfl⟩ := e
  refine ⟨g, rfl, ?_⟩
  rw [h.1.cellAt k (by omega)]
  simp [ints, hk]

theorem fieldInfo0 (x y z : Value) (w : World) : (Instr.field 111 (.agg #[x, y, z]) 0).run Tryz.prog w = .ok x w := by
  simp [Instr.field, asAgg, go_sem]
theorem fieldInfo1 (x y z : Value) (w : World) : (Instr.field 111 (.agg #[x, y, z]) 1).run Tryz.prog w = .ok y w := by
  simp [Instr.field, asAgg, go_sem]

section
variable {t p s : Int} {ad : Addr} {n c : Nat} {vs : List Int}

def TileRel (vs : List Int) (t p : Int) (l : List Int) (W0 : World) (v5 v6 : Value) (wr : World) : Prop := ∃ q m : Nat, (q : Int) ≤ p ∧ v6 = .int .i64 q ∧ v5 = .int .i64 m ∧ m ≤ q ∧ tilesN vs t l q = some m ∧ Below W0.heap.size W0 wr

set_option maxHeartbeats 1000000 in
set_option maxRecDepth 100000 in
theorem tiles_any (c : Nat) (w : World) (h : XV w t p s ad n vs) :
    Calls Tryz.prog 59 #[.agg #[.int .i64 t, .int .i64 p, .int .i64 s, .slice (some ad) n c]] w fun e w' => e = .returned (.bool (tilesF vs t p)) ∧ Below w.heap.size w w' := by
  have X0 := h.boxed c
  have bd : 4 ≤ p ∧ p ≤ 64 := by have := h.bd; omega
  have HS := Lib.hid (fun (w : World) (h : XV w t p s ad n vs) => starts_any c w h)
  have HX : ∀ q, 0 ≤ q → q < p → ∃ k : Nat, k < n ∧ (∀ w, Calls Tryz.prog 133 #[.agg #[.int .i64 t, .int .i64 p, .int .i64 s], .int .i64 q] w fun e w' => e = .returned (.int .i64 k) ∧ Below w.heap.size w w') ∧ w.cell? (ad.add k) = some (.int .u32 (gv vs t q 0)) := by
    intro q h0 h1
    obtain ⟨hx1, hx2⟩ := h.cx h0 h1 (part := 0) (by omega) (by omega)
    refine ⟨cix t q 0, hx1, fun w => ?_, h.cells _ hx1⟩
    have := rinfo_any t p s q w
    rwa [hx2] at this
  have HXX := Lib.hid HX
  have hlen := (startsF_mem (g := fun q => gv vs t q 0) (p := p) (by omega)).2.2
  have HLen := Lib.hid hlen
  generalize hr : tilesF vs t p = r
  have hr2 : ((startsF (fun q => gv vs t q 0) p).2 && (tilesN vs t (startsF (fun q => gv vs t q 0) p).1 p.toNat).isSome) = r := hr
  have HR := Lib.hid hr2
  clear h hr hr2 HX hlen
  generalize startsF (fun q => gv vs t q 0) p = st at *
  obtain ⟨l, lb⟩ := st
  go_enter Tryz.func59, Tryz.ntmps59
  go_wp2_with fail
  refine (HS.out _ X0.xv).mono ?_
  rintro e w1 ⟨lv, rfl, hlv⟩
  have X1 := X0.keep hlv.2.2
  obtain ⟨la, lc, rfl⟩ := hlv.row
  have HL := Lib.hid hlv
  clear hlv X0
  cases lb
  · have hres : r = false := by rw [← HR.out]; rfl
    subst hres
    go_wp2
    go_ret
    exact ⟨rfl, X1.bel⟩
  · have hr3 : (tilesN vs t l p.toNat).isSome = r := by rw [← HR.out]; rfl
    have HR3 := Lib.hid hr3
    obtain ⟨x0, x1, x2, x3⟩ := X1.cells
    clear HR hr3
    go_wp2_with fail
    go_loopw [5, 6] (fun v5 v6 wr => TileRel vs t p l w1 v5 v6 wr) (fun _ v6 _ => p.toNat - (intOf v6).toNat)
    case atStart => exact ⟨0, 0, by omega, rfl, rfl, by omega, rfl, Below.refl _ _⟩
    case round =>
      obtain ⟨q, m, hq, rfl, rfl, hmq, htn, hbq⟩ := hrel
      have X3 := X1.keep hbq
      have HT := Lib.hid htn
      have HB := Lib.hid hbq
      clear htn hbq x0 x1 x2 x3
      obtain ⟨x0, x1, x2, x3⟩ := X3.cells
      have HLen2 := HLen.out
      by_cases hqp : (q : Int) < p
      · have hstep : tilesN vs t l (q + 1) = if l[m]? = some (q : Int) then some (m + 1) else if gv vs t (q : Int) 0 = 0 then some m else none := by
          show (match tilesN vs t l q with
            | none => none
            | some n => if l[n]? = some (q : Int) then some (n + 1) else if gv vs t (q : Int) 0 = 0 then some n else none) = _
          rw [HT.out]
        by_cases hl : m < l.length
        · obtain ⟨g, rfl, hc0⟩ := HL.out.cell hl
          have hc1 := (HB.out.cell (World.block_lt_of_cell? _ _ hc0)).trans hc0
          have hget : l[m]? = some (l.getD m 0) := by simp [hl]
          rw [hget] at hstep
          generalize l.getD m 0 = y at *
          by_cases hy : y = (q : Int)
          · have hb : (y == (q : Int)) = true := by simp [hy]
            rw [if_pos (by rw [hy])] at hstep
            have HS2 := Lib.hid hstep
            clear hstep hget hy hc0
            go_wp2_with fail
            go_roundw
            case rel => exact ⟨q + 1, m + 1, by omega, by go_num, by go_num, by omega, HS2.out, HB.out⟩
            case measure => simp [intOf]; omega
          · have hb : (y == (q : Int)) = false := by simp [hy]
            rw [if_neg (by simpa using hy)] at hstep
            obtain ⟨k, hkn, hI, hd0⟩ := HXX.out q (by omega) hqp
            have hd1 := X3.xv.cells
            have hd2 := (BS.mk X3.bel (by simp) : BS w [] wr).old hd0
            have HI := Lib.hid hI
            have HBox := Lib.hid X3.box
            have hxl := X3.lt
            clear hget hy hc0 hI hd0 hd1
            generalize gv vs t (q : Int) 0 = u at *
            by_cases hu : u = 0
            · have hub : (u != 0) = false := by simp [hu]
              rw [if_pos hu] at hstep
              have HS2 := Lib.hid hstep
              clear hstep hu
              go_wp2_with fail
              refine wp_region_noPanic ?_
              refine wp_region_held_drew (S := fun w' => BS wr ([] : List Nat) w' ∧ (∀ o : Nat, w'.cell? ⟨w.heap.size, o, none⟩ = (#[.int .i64 t, .int .i64 p, .int .i64 s, .slice (some ad) n c] : Array Value)[o]?) ∧ w'.cell? (ad.add k) = some (.int .u32 u)) (by kernel_rfl) ?_ (fun hHeld => ?_)
              · exact ⟨(BS.start wr).drew, HBox.out, hd2⟩
              refine wpAnyH_take (i := 0) (oi := _) (v := ?_) rfl (by kernel_rfl) (by kernel_rfl) (by kernel_rfl) (fun _ _ _ h => h) (Or.inl ⟨by rfl, ?_⟩) (by assumption) ?_
              rotate_left
              · intro w hSw; (try dsimp only at hSw); go_simp; try with_reducible rfl
              try simp only [Act.put, List.getElem_toArray, List.getElem_cons_zero, List.setIfInBounds_toArray, List.set_cons_zero, List.set_cons_succ]
              refine wpAnyH_take (i := 1) (oi := _) (v := ?_) rfl (by kernel_rfl) (by kernel_rfl) (by kernel_rfl) (fun _ _ _ h => h) (Or.inl ⟨by rfl, ?_⟩) (by assumption) ?_
              rotate_left
              · intro w hSw; (try dsimp only at hSw); go_simp; try with_reducible rfl
              try simp only [Act.put, List.getElem_toArray, List.getElem_cons_zero, List.getElem_cons_succ, List.setIfInBounds_toArray, List.set_cons_zero, List.set_cons_succ]
              refine wpAnyH_take (i := 2) (oi := _) (v := ?_) rfl (by kernel_rfl) (by kernel_rfl) (by kernel_rfl) (fun _ _ _ h => h) (Or.inl ⟨by rfl, ?_⟩) (by assumption) ?_
              rotate_left
              · intro w hSw; (try dsimp only at hSw); go_simp; try with_reducible rfl
              try simp only [Act.put, List.getElem_toArray, List.getElem_cons_zero, List.getElem_cons_succ, List.setIfInBounds_toArray, List.set_cons_zero, List.set_cons_succ]
              refine wpAnyH_take (i := 3) (oi := _) (v := ?_) rfl (by kernel_rfl) (by kernel_rfl) (by kernel_rfl) (fun _ _ _ h => h) (Or.inl ⟨by rfl, ?_⟩) (by assumption) ?_
              rotate_left
              · intro w hSw; (try dsimp only at hSw); go_simp; try with_reducible rfl
              try simp only [Act.put, List.getElem_toArray, List.getElem_cons_zero, List.getElem_cons_succ, List.setIfInBounds_toArray, List.set_cons_zero, List.set_cons_succ]
              refine wpAnyH_take (i := 4) (oi := _) (v := ?_) rfl (by kernel_rfl) (by kernel_rfl) (by kernel_rfl) (fun _ _ _ h => h) (Or.inl ⟨by rfl, ?_⟩) (by assumption) ?_
              rotate_left
              · intro w hSw; (try dsimp only at hSw); go_simp; try with_reducible rfl
              try simp only [Act.put, List.getElem_toArray, List.getElem_cons_zero, List.getElem_cons_succ, List.setIfInBounds_toArray, List.set_cons_zero, List.set_cons_succ]
              refine wpAnyH_ready (rs := [5]) (by kernel_rfl) (by simp) ?_
              refine AllReadyH.cons (o := _) rfl (fun K hK => ?_) AllReadyH.nil
              go_simp
              refine (calls_b hHeld.1 (HI.out _)).mono ?_
              rintro e wr1 ⟨rfl, hV, hVl⟩
              dsimp only
              refine hK.out _ _ ?_ (fun hHeld2 => ?_)
              · exact ⟨hV, hV.oldbox HBox.out hxl, hV.old hd2⟩
              clear hK K hV hVl hHeld
              have hHeld := hHeld2
              clear hHeld2
              try simp only [Act.put, List.getElem_toArray, List.getElem_cons_zero, List.getElem_cons_succ, List.setIfInBounds_toArray, List.set_cons_zero, List.set_cons_succ]
              refine wpAnyH_take (i := 6) (oi := _) (v := ?_) rfl (by kernel_rfl) (by kernel_rfl) (by kernel_rfl) (fun _ _ _ h => h) (Or.inl ⟨by rfl, ?_⟩) (by assumption) ?_
              rotate_left
              · intro w hSw; (try dsimp only at hSw); go_simp; try with_reducible rfl
              try simp only [Act.put, List.getElem_toArray, List.getElem_cons_zero, List.getElem_cons_succ, List.setIfInBounds_toArray, List.set_cons_zero, List.set_cons_succ]
              refine wpAnyH_take (i := 7) (oi := _) (v := ?_) rfl (by kernel_rfl) (by kernel_rfl) (by kernel_rfl) (fun _ _ _ h => h) (Or.inl ⟨by rfl, ?_⟩) (by assumption) ?_
              rotate_left
              · intro w hSw; (try dsimp only at hSw); go_simp; try with_reducible rfl
              try simp only [Act.put, List.getElem_toArray, List.getElem_cons_zero, List.getElem_cons_succ, List.setIfInBounds_toArray, List.set_cons_zero, List.set_cons_succ]
              refine wpAnyH_take (i := 8) (oi := _) (v := ?_) rfl (by kernel_rfl) (by kernel_rfl) (by kernel_rfl) (fun _ _ _ h => h) (Or.inl ⟨by rfl, ?_⟩) (by assumption) ?_
              rotate_left
              · intro w hSw; (try dsimp only at hSw); go_simp; try with_reducible rfl
              try simp only [Act.put, List.getElem_toArray, List.getElem_cons_zero, List.getElem_cons_succ, List.setIfInBounds_toArray, List.set_cons_zero, List.set_cons_succ]
              refine wpAnyH_done (by kernel_rfl) ?_ _
              refine NoPanic.normal ?_
              refine world_gen ?_
              intro wz hwz
              rw [← hwz] at hHeld
              clear hwz
              have hbz := HB.out.trans (hHeld.1.bel.mono HB.out.size)
              clear hHeld
              go_wp2_with fail
              go_roundw
              case rel => exact ⟨q + 1, m, by omega, by go_num, rfl, by omega, HS2.out, hbz⟩
              case measure => simp [intOf]; omega
            · have hub : (u != 0) = true := by simp [hu]
              rw [if_neg hu] at hstep
              have hres : r = false := by rw [← HR3.out, tilesN_no (k := q + 1) (by omega) hstep]; rfl
              subst hres
              clear hstep hu
              go_wp2_with fail
              refine wp_region_noPanic ?_
              refine wp_region_held_drew (S := fun w' => BS wr ([] : List Nat) w' ∧ (∀ o : Nat, w'.cell? ⟨w.heap.size, o, none⟩ = (#[.int .i64 t, .int .i64 p, .int .i64 s, .slice (some ad) n c] : Array Value)[o]?) ∧ w'.cell? (ad.add k) = some (.int .u32 u)) (by kernel_rfl) ?_ (fun hHeld => ?_)
              · exact ⟨(BS.start wr).drew, HBox.out, hd2⟩
              refine wpAnyH_take (i := 0) (oi := _) (v := ?_) rfl (by kernel_rfl) (by kernel_rfl) (by kernel_rfl) (fun _ _ _ h => h) (Or.inl ⟨by rfl, ?_⟩) (by assumption) ?_
              rotate_left
              · intro w hSw; (try dsimp only at hSw); go_simp; try with_reducible rfl
              try simp only [Act.put, List.getElem_toArray, List.getElem_cons_zero, List.setIfInBounds_toArray, List.set_cons_zero, List.set_cons_succ]
              refine wpAnyH_take (i := 1) (oi := _) (v := ?_) rfl (by kernel_rfl) (by kernel_rfl) (by kernel_rfl) (fun _ _ _ h => h) (Or.inl ⟨by rfl, ?_⟩) (by assumption) ?_
              rotate_left
              · intro w hSw; (try dsimp only at hSw); go_simp; try with_reducible rfl
              try simp only [Act.put, List.getElem_toArray, List.getElem_cons_zero, List.getElem_cons_succ, List.setIfInBounds_toArray, List.set_cons_zero, List.set_cons_succ]
              refine wpAnyH_take (i := 2) (oi := _) (v := ?_) rfl (by kernel_rfl) (by kernel_rfl) (by kernel_rfl) (fun _ _ _ h => h) (Or.inl ⟨by rfl, ?_⟩) (by assumption) ?_
              rotate_left
              · intro w hSw; (try dsimp only at hSw); go_simp; try with_reducible rfl
              try simp only [Act.put, List.getElem_toArray, List.getElem_cons_zero, List.getElem_cons_succ, List.setIfInBounds_toArray, List.set_cons_zero, List.set_cons_succ]
              refine wpAnyH_take (i := 3) (oi := _) (v := ?_) rfl (by kernel_rfl) (by kernel_rfl) (by kernel_rfl) (fun _ _ _ h => h) (Or.inl ⟨by rfl, ?_⟩) (by assumption) ?_
              rotate_left
              · intro w hSw; (try dsimp only at hSw); go_simp; try with_reducible rfl
              try simp only [Act.put, List.getElem_toArray, List.getElem_cons_zero, List.getElem_cons_succ, List.setIfInBounds_toArray, List.set_cons_zero, List.set_cons_succ]
              refine wpAnyH_take (i := 4) (oi := _) (v := ?_) rfl (by kernel_rfl) (by kernel_rfl) (by kernel_rfl) (fun _ _ _ h => h) (Or.inl ⟨by rfl, ?_⟩) (by assumption) ?_
              rotate_left
              · intro w hSw; (try dsimp only at hSw); go_simp; try with_reducible rfl
              try simp only [Act.put, List.getElem_toArray, List.getElem_cons_zero, List.getElem_cons_succ, List.setIfInBounds_toArray, List.set_cons_zero, List.set_cons_succ]
              refine wpAnyH_ready (rs := [5]) (by kernel_rfl) (by simp) ?_
              refine AllReadyH.cons (o := _) rfl (fun K hK => ?_) AllReadyH.nil
              go_simp
              refine (calls_b hHeld.1 (HI.out _)).mono ?_
              rintro e wr1 ⟨rfl, hV, hVl⟩
              dsimp only
              refine hK.out _ _ ?_ (fun hHeld2 => ?_)
              · exact ⟨hV, hV.oldbox HBox.out hxl, hV.old hd2⟩
              clear hK K hV hVl hHeld
              have hHeld := hHeld2
              clear hHeld2
              try simp only [Act.put, List.getElem_toArray, List.getElem_cons_zero, List.getElem_cons_succ, List.setIfInBounds_toArray, List.set_cons_zero, List.set_cons_succ]
              refine wpAnyH_take (i := 6) (oi := _) (v := ?_) rfl (by kernel_rfl) (by kernel_rfl) (by kernel_rfl) (fun _ _ _ h => h) (Or.inl ⟨by rfl, ?_⟩) (by assumption) ?_
              rotate_left
              · intro w hSw; (try dsimp only at hSw); go_simp; try with_reducible rfl
              try simp only [Act.put, List.getElem_toArray, List.getElem_cons_zero, List.getElem_cons_succ, List.setIfInBounds_toArray, List.set_cons_zero, List.set_cons_succ]
              refine wpAnyH_take (i := 7) (oi := _) (v := ?_) rfl (by kernel_rfl) (by kernel_rfl) (by kernel_rfl) (fun _ _ _ h => h) (Or.inl ⟨by rfl, ?_⟩) (by assumption) ?_
              rotate_left
              · intro w hSw; (try dsimp only at hSw); go_simp; try with_reducible rfl
              try simp only [Act.put, List.getElem_toArray, List.getElem_cons_zero, List.getElem_cons_succ, List.setIfInBounds_toArray, List.set_cons_zero, List.set_cons_succ]
              refine wpAnyH_take (i := 8) (oi := _) (v := ?_) rfl (by kernel_rfl) (by kernel_rfl) (by kernel_rfl) (fun _ _ _ h => h) (Or.inl ⟨by rfl, ?_⟩) (by assumption) ?_
              rotate_left
              · intro w hSw; (try dsimp only at hSw); go_simp; try with_reducible rfl
              try simp only [Act.put, List.getElem_toArray, List.getElem_cons_zero, List.getElem_cons_succ, List.setIfInBounds_toArray, List.set_cons_zero, List.set_cons_succ]
              refine wpAnyH_done (by kernel_rfl) ?_ _
              refine NoPanic.normal ?_
              refine world_gen ?_
              intro wz hwz
              rw [← hwz] at hHeld
              clear hwz
              have hbz := X3.keep hHeld.1.bel
              clear hHeld
              go_wp2
              go_ret
              exact ⟨rfl, hbz.bel⟩
        · have hgn : l[m]? = none := List.getElem?_eq_none (by omega)
          rw [hgn, if_neg (by simp)] at hstep
          obtain ⟨k, hkn, hI, hd0⟩ := HXX.out q (by omega) hqp
          have hd2 := (BS.mk X3.bel (by simp) : BS w [] wr).old hd0
          have HI := Lib.hid hI
          have HBox := Lib.hid X3.box
          have hxl := X3.lt
          clear hI hd0
          generalize gv vs t (q : Int) 0 = u at *
          by_cases hu : u = 0
          · have hub : (u != 0) = false := by simp [hu]
            rw [if_pos hu] at hstep
            have HS2 := Lib.hid hstep
            clear hstep hu
            go_wp2_with fail
            refine wp_region_noPanic ?_
            refine wp_region_held_drew (S := fun w' => BS wr ([] : List Nat) w' ∧ (∀ o : Nat, w'.cell? ⟨w.heap.size, o, none⟩ = (#[.int .i64 t, .int .i64 p, .int .i64 s, .slice (some ad) n c] : Array Value)[o]?) ∧ w'.cell? (ad.add k) = some (.int .u32 u)) (by kernel_rfl) ?_ (fun hHeld => ?_)
            · exact ⟨(BS.start wr).drew, HBox.out, hd2⟩
            refine wpAnyH_take (i := 0) (oi := _) (v := ?_) rfl (by kernel_rfl) (by kernel_rfl) (by kernel_rfl) (fun _ _ _ h => h) (Or.inl ⟨by rfl, ?_⟩) (by assumption) ?_
            rotate_left
            · intro w hSw; (try dsimp only at hSw); go_simp; try with_reducible rfl
            try simp only [Act.put, List.getElem_toArray, List.getElem_cons_zero, List.setIfInBounds_toArray, List.set_cons_zero, List.set_cons_succ]
            refine wpAnyH_take (i := 1) (oi := _) (v := ?_) rfl (by kernel_rfl) (by kernel_rfl) (by kernel_rfl) (fun _ _ _ h => h) (Or.inl ⟨by rfl, ?_⟩) (by assumption) ?_
            rotate_left
            · intro w hSw; (try dsimp only at hSw); go_simp; try with_reducible rfl
            try simp only [Act.put, List.getElem_toArray, List.getElem_cons_zero, List.getElem_cons_succ, List.setIfInBounds_toArray, List.set_cons_zero, List.set_cons_succ]
            refine wpAnyH_take (i := 2) (oi := _) (v := ?_) rfl (by kernel_rfl) (by kernel_rfl) (by kernel_rfl) (fun _ _ _ h => h) (Or.inl ⟨by rfl, ?_⟩) (by assumption) ?_
            rotate_left
            · intro w hSw; (try dsimp only at hSw); go_simp; try with_reducible rfl
            try simp only [Act.put, List.getElem_toArray, List.getElem_cons_zero, List.getElem_cons_succ, List.setIfInBounds_toArray, List.set_cons_zero, List.set_cons_succ]
            refine wpAnyH_take (i := 3) (oi := _) (v := ?_) rfl (by kernel_rfl) (by kernel_rfl) (by kernel_rfl) (fun _ _ _ h => h) (Or.inl ⟨by rfl, ?_⟩) (by assumption) ?_
            rotate_left
            · intro w hSw; (try dsimp only at hSw); go_simp; try with_reducible rfl
            try simp only [Act.put, List.getElem_toArray, List.getElem_cons_zero, List.getElem_cons_succ, List.setIfInBounds_toArray, List.set_cons_zero, List.set_cons_succ]
            refine wpAnyH_take (i := 4) (oi := _) (v := ?_) rfl (by kernel_rfl) (by kernel_rfl) (by kernel_rfl) (fun _ _ _ h => h) (Or.inl ⟨by rfl, ?_⟩) (by assumption) ?_
            rotate_left
            · intro w hSw; (try dsimp only at hSw); go_simp; try with_reducible rfl
            try simp only [Act.put, List.getElem_toArray, List.getElem_cons_zero, List.getElem_cons_succ, List.setIfInBounds_toArray, List.set_cons_zero, List.set_cons_succ]
            refine wpAnyH_ready (rs := [5]) (by kernel_rfl) (by simp) ?_
            refine AllReadyH.cons (o := _) rfl (fun K hK => ?_) AllReadyH.nil
            go_simp
            refine (calls_b hHeld.1 (HI.out _)).mono ?_
            rintro e wr1 ⟨rfl, hV, hVl⟩
            dsimp only
            refine hK.out _ _ ?_ (fun hHeld2 => ?_)
            · exact ⟨hV, hV.oldbox HBox.out hxl, hV.old hd2⟩
            clear hK K hV hVl hHeld
            have hHeld := hHeld2
            clear hHeld2
            try simp only [Act.put, List.getElem_toArray, List.getElem_cons_zero, List.getElem_cons_succ, List.setIfInBounds_toArray, List.set_cons_zero, List.set_cons_succ]
            refine wpAnyH_take (i := 6) (oi := _) (v := ?_) rfl (by kernel_rfl) (by kernel_rfl) (by kernel_rfl) (fun _ _ _ h => h) (Or.inl ⟨by rfl, ?_⟩) (by assumption) ?_
            rotate_left
            · intro w hSw; (try dsimp only at hSw); go_simp; try with_reducible rfl
            try simp only [Act.put, List.getElem_toArray, List.getElem_cons_zero, List.getElem_cons_succ, List.setIfInBounds_toArray, List.set_cons_zero, List.set_cons_succ]
            refine wpAnyH_take (i := 7) (oi := _) (v := ?_) rfl (by kernel_rfl) (by kernel_rfl) (by kernel_rfl) (fun _ _ _ h => h) (Or.inl ⟨by rfl, ?_⟩) (by assumption) ?_
            rotate_left
            · intro w hSw; (try dsimp only at hSw); go_simp; try with_reducible rfl
            try simp only [Act.put, List.getElem_toArray, List.getElem_cons_zero, List.getElem_cons_succ, List.setIfInBounds_toArray, List.set_cons_zero, List.set_cons_succ]
            refine wpAnyH_take (i := 8) (oi := _) (v := ?_) rfl (by kernel_rfl) (by kernel_rfl) (by kernel_rfl) (fun _ _ _ h => h) (Or.inl ⟨by rfl, ?_⟩) (by assumption) ?_
            rotate_left
            · intro w hSw; (try dsimp only at hSw); go_simp; try with_reducible rfl
            try simp only [Act.put, List.getElem_toArray, List.getElem_cons_zero, List.getElem_cons_succ, List.setIfInBounds_toArray, List.set_cons_zero, List.set_cons_succ]
            refine wpAnyH_done (by kernel_rfl) ?_ _
            refine NoPanic.normal ?_
            refine world_gen ?_
            intro wz hwz
            rw [← hwz] at hHeld
            clear hwz
            have hbz := HB.out.trans (hHeld.1.bel.mono HB.out.size)
            clear hHeld
            go_wp2_with fail
            go_roundw
            case rel => exact ⟨q + 1, m, by omega, by go_num, rfl, by omega, HS2.out, hbz⟩
            case measure => simp [intOf]; omega
          · have hub : (u != 0) = true := by simp [hu]
            rw [if_neg hu] at hstep
            have hres : r = false := by rw [← HR3.out, tilesN_no (k := q + 1) (by omega) hstep]; rfl
            subst hres
            clear hstep hu
            go_wp2_with fail
            refine wp_region_noPanic ?_
            refine wp_region_held_drew (S := fun w' => BS wr ([] : List Nat) w' ∧ (∀ o : Nat, w'.cell? ⟨w.heap.size, o, none⟩ = (#[.int .i64 t, .int .i64 p, .int .i64 s, .slice (some ad) n c] : Array Value)[o]?) ∧ w'.cell? (ad.add k) = some (.int .u32 u)) (by kernel_rfl) ?_ (fun hHeld => ?_)
            · exact ⟨(BS.start wr).drew, HBox.out, hd2⟩
            refine wpAnyH_take (i := 0) (oi := _) (v := ?_) rfl (by kernel_rfl) (by kernel_rfl) (by kernel_rfl) (fun _ _ _ h => h) (Or.inl ⟨by rfl, ?_⟩) (by assumption) ?_
            rotate_left
            · intro w hSw; (try dsimp only at hSw); go_simp; try with_reducible rfl
            try simp only [Act.put, List.getElem_toArray, List.getElem_cons_zero, List.setIfInBounds_toArray, List.set_cons_zero, List.set_cons_succ]
            refine wpAnyH_take (i := 1) (oi := _) (v := ?_) rfl (by kernel_rfl) (by kernel_rfl) (by kernel_rfl) (fun _ _ _ h => h) (Or.inl ⟨by rfl, ?_⟩) (by assumption) ?_
            rotate_left
            · intro w hSw; (try dsimp only at hSw); go_simp; try with_reducible rfl
            try simp only [Act.put, List.getElem_toArray, List.getElem_cons_zero, List.getElem_cons_succ, List.setIfInBounds_toArray, List.set_cons_zero, List.set_cons_succ]
            refine wpAnyH_take (i := 2) (oi := _) (v := ?_) rfl (by kernel_rfl) (by kernel_rfl) (by kernel_rfl) (fun _ _ _ h => h) (Or.inl ⟨by rfl, ?_⟩) (by assumption) ?_
            rotate_left
            · intro w hSw; (try dsimp only at hSw); go_simp; try with_reducible rfl
            try simp only [Act.put, List.getElem_toArray, List.getElem_cons_zero, List.getElem_cons_succ, List.setIfInBounds_toArray, List.set_cons_zero, List.set_cons_succ]
            refine wpAnyH_take (i := 3) (oi := _) (v := ?_) rfl (by kernel_rfl) (by kernel_rfl) (by kernel_rfl) (fun _ _ _ h => h) (Or.inl ⟨by rfl, ?_⟩) (by assumption) ?_
            rotate_left
            · intro w hSw; (try dsimp only at hSw); go_simp; try with_reducible rfl
            try simp only [Act.put, List.getElem_toArray, List.getElem_cons_zero, List.getElem_cons_succ, List.setIfInBounds_toArray, List.set_cons_zero, List.set_cons_succ]
            refine wpAnyH_take (i := 4) (oi := _) (v := ?_) rfl (by kernel_rfl) (by kernel_rfl) (by kernel_rfl) (fun _ _ _ h => h) (Or.inl ⟨by rfl, ?_⟩) (by assumption) ?_
            rotate_left
            · intro w hSw; (try dsimp only at hSw); go_simp; try with_reducible rfl
            try simp only [Act.put, List.getElem_toArray, List.getElem_cons_zero, List.getElem_cons_succ, List.setIfInBounds_toArray, List.set_cons_zero, List.set_cons_succ]
            refine wpAnyH_ready (rs := [5]) (by kernel_rfl) (by simp) ?_
            refine AllReadyH.cons (o := _) rfl (fun K hK => ?_) AllReadyH.nil
            go_simp
            refine (calls_b hHeld.1 (HI.out _)).mono ?_
            rintro e wr1 ⟨rfl, hV, hVl⟩
            dsimp only
            refine hK.out _ _ ?_ (fun hHeld2 => ?_)
            · exact ⟨hV, hV.oldbox HBox.out hxl, hV.old hd2⟩
            clear hK K hV hVl hHeld
            have hHeld := hHeld2
            clear hHeld2
            try simp only [Act.put, List.getElem_toArray, List.getElem_cons_zero, List.getElem_cons_succ, List.setIfInBounds_toArray, List.set_cons_zero, List.set_cons_succ]
            refine wpAnyH_take (i := 6) (oi := _) (v := ?_) rfl (by kernel_rfl) (by kernel_rfl) (by kernel_rfl) (fun _ _ _ h => h) (Or.inl ⟨by rfl, ?_⟩) (by assumption) ?_
            rotate_left
            · intro w hSw; (try dsimp only at hSw); go_simp; try with_reducible rfl
            try simp only [Act.put, List.getElem_toArray, List.getElem_cons_zero, List.getElem_cons_succ, List.setIfInBounds_toArray, List.set_cons_zero, List.set_cons_succ]
            refine wpAnyH_take (i := 7) (oi := _) (v := ?_) rfl (by kernel_rfl) (by kernel_rfl) (by kernel_rfl) (fun _ _ _ h => h) (Or.inl ⟨by rfl, ?_⟩) (by assumption) ?_
            rotate_left
            · intro w hSw; (try dsimp only at hSw); go_simp; try with_reducible rfl
            try simp only [Act.put, List.getElem_toArray, List.getElem_cons_zero, List.getElem_cons_succ, List.setIfInBounds_toArray, List.set_cons_zero, List.set_cons_succ]
            refine wpAnyH_take (i := 8) (oi := _) (v := ?_) rfl (by kernel_rfl) (by kernel_rfl) (by kernel_rfl) (fun _ _ _ h => h) (Or.inl ⟨by rfl, ?_⟩) (by assumption) ?_
            rotate_left
            · intro w hSw; (try dsimp only at hSw); go_simp; try with_reducible rfl
            try simp only [Act.put, List.getElem_toArray, List.getElem_cons_zero, List.getElem_cons_succ, List.setIfInBounds_toArray, List.set_cons_zero, List.set_cons_succ]
            refine wpAnyH_done (by kernel_rfl) ?_ _
            refine NoPanic.normal ?_
            refine world_gen ?_
            intro wz hwz
            rw [← hwz] at hHeld
            clear hwz
            have hbz := X3.keep hHeld.1.bel
            clear hHeld
            go_wp2
            go_ret
            exact ⟨rfl, hbz.bel⟩
      · obtain rfl : q = p.toNat := by omega
        have hres : r = true := by rw [← HR3.out, HT.out]; rfl
        subst hres
        go_wp2
        go_ret
        exact ⟨rfl, X3.bel⟩

end
end Go.Proofs.YtcicmljnjdhkjaaGreat
