/- conf: what Check answers of every configuration. -/
import Derived.Test.YtcicmljnjdhkjaaGreatRows
import Derived.Test.YtcicmljnjdhkjaaGreatBase
namespace Go.Proofs.YtcicmljnjdhkjaaGreat
open Go.RowKit

def outB (n lo hi : Int) : Bool := decide (n < lo) || decide (hi < n)

/-- conf.Check$1 on a triple. -/
theorem check1_any (n lo hi : Int) (w : World) :
    Calls Tryz.prog 203 #[.agg #[.int .i64 n, .int .i64 lo, .int .i64 hi]] w fun e w' => e = .returned (.bool (outB n lo hi)) ∧ Below w.heap.size w w' := by
  go_enter Tryz.func203, Tryz.ntmps203
  go_wp2
  all_goals
    go_ret
    have h : w.heap.size ≤ w.heap.size := Nat.le_refl _
    refine ⟨by simp [outB, *], (Below.refl _ _).alloc h _⟩

def cfgV (t p s : Int) : Value := .agg #[.int .i64 t, .int .i64 p, .int .i64 s]
def bndCells (t p s : Int) : Array Value := #[.int .i64 t, .int .i64 1, .int .i64 16, .int .i64 p, .int .i64 4, .int .i64 1024, .int .i64 s, .int .i64 10, .int .i64 20]

theorem bounds_any (t p s : Int) (w : World) :
    Calls Tryz.prog 174 #[.agg #[.int .i64 t, .int .i64 p, .int .i64 s]] w fun e w' => e = .returned (.slice (some ⟨w.heap.size + 1, 0, none⟩) 3 3) ∧ Below w.heap.size w w' ∧ w'.heap[w.heap.size + 1]? = some (.cells (bndCells t p s) 177) ∧ w'.heap.size = w.heap.size + 2 := by
  go_enter Tryz.func174, Tryz.ntmps174
  go_wp2
  exact bodyPost_ret (v := .slice (some ⟨w.heap.size + 1, 0, none⟩) 3 3) (by simp [results, Tryz.results174, go_sem]) rfl ⟨rfl, ((Below.refl _ _).alloc (Nat.le_refl _) _).alloc (by simp) _, by rw [← World.size_alloc w (.cells #[.int .i64 t, .int .i64 p, .int .i64 s] 23)]; exact heap_alloc_new (w.alloc _) _, by simp⟩

def rightB (t p s : Int) : Bool := !(outB t 1 16 || outB p 4 1024 || outB s 10 20)

def idxOf (t p s : Int) : Int := if outB t 1 16 then 0 else if outB p 4 1024 then 1 else if outB s 10 20 then 2 else -1

def IdxRel (t p s : Int) (w : World) (i : Value) (wr : World) : Prop := ∃ k : Nat, k ≤ 3 ∧ i = .int .i64 k ∧ (0 < k → outB t 1 16 = false) ∧ (1 < k → outB p 4 1024 = false) ∧ (2 < k → outB s 10 20 = false) ∧ Below w.heap.size w wr

theorem idx_any (t p s : Int) (g : Nat) (w : World) (h : w.heap[g]? = some (.cells (bndCells t p s) 177)) :
    Calls Tryz.prog 217 #[.slice (some ⟨g, 0, none⟩) 3 3, .func (.func 203) #[] #[]] w fun e w' => e = .returned (.int .i64 (idxOf t p s)) ∧ Below w.heap.size w w' := by
  have hlt : g < w.heap.size := (Array.getElem?_eq_some_iff.1 h).1
  have hcell : ∀ wr : World, Below w.heap.size w wr → ∀ o, wr.cell? ⟨g, o, none⟩ = (bndCells t p s)[o]? := by
    intro wr hb o
    rw [hb.cell (p := ⟨g, o, none⟩) hlt]
    simp [World.cell?, h]
  go_enter Tryz.func217, Tryz.ntmps217
  go_wp2
  go_loopw [5, 8] (fun _ i wr => IdxRel t p s w i wr) (fun _ i _ => 3 - (intOf i).toNat)
  case atStart => exact ⟨0, by omega, rfl, by omega, by omega, by omega, Below.refl _ _⟩
  case round =>
    obtain ⟨k, hk, rfl, h0, h1, h2, hb⟩ := hrel
    have hc := hcell _ hb
    clear hcell
    rcases (by omega : k = 0 ∨ k = 1 ∨ k = 2 ∨ k = 3) with rfl | rfl | rfl | rfl
    · have c0 := hc 0
      have c1 := hc 1
      have c2 := hc 2
      clear hc h0 h1 h2
      simp [bndCells] at c0 c1 c2
      cases hx : outB t 1 16
      · go_wp2_with (go_at_call 203; refine (check1_any _ _ _ _).mono ?_; rintro e w' ⟨rfl, hb'⟩)
        go_roundw
        case rel => exact ⟨1, by omega, rfl, fun _ => hx, by omega, by omega, hb.trans (hb'.mono hb.size)⟩
        case measure => simp [intOf]
      · go_wp2_with (go_at_call 203; refine (check1_any _ _ _ _).mono ?_; rintro e w' ⟨rfl, hb'⟩)
        go_ret
        exact ⟨by simp [idxOf, hx], hb.trans (hb'.mono hb.size)⟩
    · have c0 := hc 3
      have c1 := hc 4
      have c2 := hc 5
      have g0 := h0 (by omega)
      clear hc h0 h1 h2
      simp [bndCells] at c0 c1 c2
      cases hx : outB p 4 1024
      · go_wp2_with (go_at_call 203; refine (check1_any _ _ _ _).mono ?_; rintro e w' ⟨rfl, hb'⟩)
        go_roundw
        case rel => exact ⟨2, by omega, rfl, fun _ => g0, fun _ => hx, by omega, hb.trans (hb'.mono hb.size)⟩
        case measure => simp [intOf]
      · go_wp2_with (go_at_call 203; refine (check1_any _ _ _ _).mono ?_; rintro e w' ⟨rfl, hb'⟩)
        go_ret
        exact ⟨by simp [idxOf, hx, g0], hb.trans (hb'.mono hb.size)⟩
    · have c0 := hc 6
      have c1 := hc 7
      have c2 := hc 8
      have g0 := h0 (by omega)
      have g1 := h1 (by omega)
      clear hc h0 h1 h2
      simp [bndCells] at c0 c1 c2
      cases hx : outB s 10 20
      · go_wp2_with (go_at_call 203; refine (check1_any _ _ _ _).mono ?_; rintro e w' ⟨rfl, hb'⟩)
        go_roundw
        case rel => exact ⟨3, by omega, rfl, fun _ => g0, fun _ => g1, fun _ => hx, hb.trans (hb'.mono hb.size)⟩
        case measure => simp [intOf]
      · go_wp2_with (go_at_call 203; refine (check1_any _ _ _ _).mono ?_; rintro e w' ⟨rfl, hb'⟩)
        go_ret
        exact ⟨by simp [idxOf, hx, g0, g1], hb.trans (hb'.mono hb.size)⟩
    · have g0 := h0 (by omega)
      have g1 := h1 (by omega)
      have g2 := h2 (by omega)
      clear hc h0 h1 h2
      go_wp2
      go_ret
      exact ⟨by simp [idxOf, g0, g1, g2], hb⟩

theorem contains_any (t p s : Int) (g : Nat) (w : World) (h : w.heap[g]? = some (.cells (bndCells t p s) 177)) :
    Calls Tryz.prog 202 #[.slice (some ⟨g, 0, none⟩) 3 3, .func (.func 203) #[] #[]] w fun e w' => e = .returned (.bool (!rightB t p s)) ∧ Below w.heap.size w w' := by
  have hx : decide (0 ≤ idxOf t p s) = (!rightB t p s) := by
    unfold rightB idxOf
    cases outB t 1 16 <;> cases outB p 4 1024 <;> cases outB s 10 20 <;> rfl
  have H := idx_any t p s g w h
  generalize idxOf t p s = i at hx H
  rw [← hx]
  clear hx
  have HH := Lib.hid H; clear H
  go_enter Tryz.func202, Tryz.ntmps202
  go_wp2_with (go_at_call 217; refine (HH.out).mono ?_; rintro e w' ⟨rfl, hb⟩)
  go_ret
  exact ⟨rfl, hb⟩

theorem check_right (t p s : Int) (w : World) (hr : rightB t p s = true) :
    Calls Tryz.prog 166 #[.agg #[.int .i64 t, .int .i64 p, .int .i64 s]] w fun e w' => e = .returned (.int .i64 0) ∧ Below w.heap.size w w' := by
  go_enter Tryz.func166, Tryz.ntmps166
  go_wp2_with fail
  refine (bounds_any _ _ _ _).mono ?_
  rintro e w1 ⟨rfl, hb, hg, hs⟩
  go_wp2_with fail
  refine (contains_any t p s _ _ (by rw [World.size_alloc] at hg; exact hg)).mono ?_
  rintro e w2 ⟨rfl, hb2⟩
  go_wp2
  go_ret
  exact ⟨rfl, (((Below.refl _ _).alloc (Nat.le_refl _) _).trans (hb.mono (by simp))).trans (hb2.mono (by rw [hs]; simp; omega))⟩

theorem check_wrong (t p s : Int) (w : World) (hr : rightB t p s = false) :
    Calls Tryz.prog 166 #[.agg #[.int .i64 t, .int .i64 p, .int .i64 s]] w fun e w' => e = .returned (.int .i64 1) ∧ Below w.heap.size w w' := by
  go_enter Tryz.func166, Tryz.ntmps166
  go_wp2_with fail
  refine (bounds_any _ _ _ _).mono ?_
  rintro e w1 ⟨rfl, hb, hg, hs⟩
  go_wp2_with fail
  refine (contains_any t p s _ _ (by rw [World.size_alloc] at hg; exact hg)).mono ?_
  rintro e w2 ⟨rfl, hb2⟩
  go_wp2
  go_ret
  exact ⟨rfl, (((Below.refl _ _).alloc (Nat.le_refl _) _).trans (hb.mono (by simp))).trans (hb2.mono (by rw [hs]; simp; omega))⟩

end Go.Proofs.YtcicmljnjdhkjaaGreat
