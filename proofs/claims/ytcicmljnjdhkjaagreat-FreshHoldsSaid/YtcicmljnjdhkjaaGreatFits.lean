/- the document's pockets: All of empty ones. -/
import Derived.Test.YtcicmljnjdhkjaaGreatHold
import Derived.Laws.AppendOwnNone
namespace Go.Proofs.YtcicmljnjdhkjaaGreat
open Go.RowKit

/-- pockets of T threads, all empty. -/
def PkB (w : World) (g T : Nat) : Prop := g < w.heap.size ∧ ∀ j, j < T * 9 → w.cell? ⟨g, j, none⟩ = some (.slice none 0 0)
theorem PkB.keep {w w' : World} {g T : Nat} (h : PkB w g T) (hb : Below w.heap.size w w') : PkB w' g T :=
  ⟨Nat.lt_of_lt_of_le h.1 hb.size, fun j hj => (hb.cell (p := ⟨g, j, none⟩) h.1).trans (h.2 j hj)⟩
def AllRelP (T : Nat) (w : World) (g2 : Nat) (a i : Value) (wr : World) : Prop := ∃ k : Nat, k ≤ T ∧ i = .int .i64 k ∧ a = .slice (some ⟨g2, 0, none⟩) 0 0 ∧ wr.ownsRow 0 2 1 (.slice (some ⟨g2, 0, none⟩) 0 0) 0 [] ∧ Below w.heap.size w wr
theorem infoI64 : (Tryz.prog.info? 2).map (fun i => (i.zero, i.size, i.bytes)) = some (some (.int .i64 0), 1, 8) := by kernel_rfl
theorem rall_any (T k g : Nat) (w : World) (hk : k < 9) (hT : T ≤ 16) (h : PkB w g T) :
    Calls Tryz.prog 54 #[.slice (some ⟨g, 0, none⟩) T T, .int .i64 k] w fun e w' => (∃ a c, e = .returned (.slice a 0 c)) ∧ Below w.heap.size w w' := by
  have hmu : T * 9 ≤ 144 := by omega
  obtain ⟨i0, hi0, hi1, hi2, hi3⟩ := info_parts infoI64
  go_enter Tryz.func54, Tryz.ntmps54
  go_wp2
  go_loopw [5, 6] (fun a i wr => AllRelP T w w.heap.size a i wr) (fun _ i _ => T - (intOf i).toNat)
  case atStart => exact ⟨0, by omega, rfl, rfl, row_empty w _ _, (Below.refl _ _).alloc (Nat.le_refl _) _⟩
  case round =>
    obtain ⟨j, hj, rfl, rfl, hR, hb⟩ := hrel
    have HX := Lib.hid hb
    have H0 := h.keep hb
    by_cases hlt : j < T
    · have c0 := H0.2 (j * 9 + k) (by omega)
      have hap := run_append_owned_none (P := Tryz.prog) (w := wr) 0 49 49 2 i0 1 Tryz.underlying49 hi0 (.slice (some ⟨w.heap.size, 0, none⟩) 0 0) 0 [] hR
      have HRw := Lib.hid hR
      clear hb H0 h hR
      go_wp2
      go_roundw
      case rel => exact ⟨j + 1, by omega, by go_num, rfl, HRw.out, HX.out⟩
      case measure => simp [intOf]; omega
    · clear H0 h
      go_wp2
      go_ret
      exact ⟨⟨_, _, rfl⟩, hb⟩

theorem eq_zero8 (W : World) : (Op.equalIn 10000 31 (.agg #[.int .i64 0, .int .i64 0, .int .i64 0, .int .i64 0, .int .i64 0, .int .i64 0, .int .i64 0, .int .i64 0]) (.agg #[.int .i64 0, .int .i64 0, .int .i64 0, .int .i64 0, .int .i64 0, .int .i64 0, .int .i64 0, .int .i64 0])).run Tryz.prog W = .ok true W := by
  kernel_rfl
def SmRel (a : Option Addr) (c : Nat) (w : World) (i : Value) (wr : World) : Prop := i = .int .i64 0 ∧ wr.cell? ⟨w.heap.size, 0, none⟩ = some (.slice a 0 c) ∧ Below w.heap.size w wr
set_option maxRecDepth 100000 in
theorem rsame_zero (a : Option Addr) (c : Nat) (w : World) :
    Calls Tryz.prog 17 #[.agg #[.slice a 0 c, .int .i64 0, .int .i64 0, .int .i64 0, .int .i64 0, .int .i64 0, .int .i64 0, .int .i64 0, .int .i64 0], .agg #[.slice none 0 0, .int .i64 0, .int .i64 0, .int .i64 0, .int .i64 0, .int .i64 0, .int .i64 0, .int .i64 0, .int .i64 0]] w fun e w' => e = .returned (.bool true) ∧ Below w.heap.size w w' := by
  have hq := eq_zero8
  go_enter Tryz.func17, Tryz.ntmps17
  go_wp2
  clear hq
  go_loopw [5] (fun i wr => SmRel a c w i wr) (fun _ _ => 0)
  case atStart =>
    refine ⟨rfl, ?_, ?_⟩
    · simp
    · exact ((Below.refl _ _).alloc (Nat.le_refl _) _).alloc (by simp) _
  case round =>
    obtain ⟨rfl, c0, hb⟩ := hrel
    go_wp2
    go_ret
    exact ⟨rfl, hb⟩

section
variable {t p s : Int} {ad : Addr} {n c : Nat} {vs : List Int}
/-- Fits of a heap of one free span, and of empty pockets. -/
def FiRelO (w : World) (T g : Nat) (pv : Value) (a z : Int) (m k : Value) (wr : World) : Prop := ∃ q : Nat, q ≤ 9 ∧ k = .int .i64 q ∧ m = .int .i64 0 ∧ PkB wr g T ∧ wr.ownsRow 0 82 3 pv 1 (partCells [(1, a, z)]) ∧ Below w.heap.size w wr
def FiRelI (w : World) (T g M : Nat) (pv : Value) (a z : Int) (k : Value) (wr : World) : Prop := ∃ q : Nat, q ≤ M ∧ k = .int .i64 q ∧ PkB wr g T ∧ wr.ownsRow 0 82 3 pv 1 (partCells [(1, a, z)]) ∧ Below w.heap.size w wr
set_option maxHeartbeats 2000000 in
set_option maxRecDepth 100000 in
theorem rfits_any (T g : Nat) (a z : Int) (c : Nat) (w : World) (h : XV w T p s ad n vs) (hs : (chkF vs T p s).2 = true) (hp : partsF vs T p s = [(1, a, z)]) (hk : PkB w g T) :
    Calls Tryz.prog 18 #[.agg #[.int .i64 T, .int .i64 p, .int .i64 s], .slice (some ad) n c, .slice (some ⟨g, 0, none⟩) T T] w fun e w' => e = .returned (.bool true) ∧ Below w.heap.size w w' := by
  have hT16 : T ≤ 16 := by have := h.bd; omega
  have H := Lib.hid (fun w (h : XV w T p s ad n vs) => rsound_any c w h)
  rw [hs] at H
  have HP := Lib.hid (fun w (h : XV w T p s ad n vs) => rparts_any c w h hs)
  rw [hp] at HP
  have HA := Lib.hid (fun (k : Nat) w (hk : k < 9) (h : PkB w g T) => rall_any T k g w hk hT16 h)
  have c0 := loc_alloc w #[.int .i64 T, .int .i64 p, .int .i64 s] 23
  have S0 := ((BS.start w).alloc (.cells #[.int .i64 T, .int .i64 p, .int .i64 s] 23))
  have HV2 := Lib.hid (h.keep S0.bel)
  have HV := Lib.hid h
  clear h hs hp
  go_enter Tryz.func18, Tryz.ntmps18
  go_wp2_with fail
  refine (calls_b S0 (H.out _ HV2.out)).mono ?_
  rintro e w1 ⟨rfl, S1, S1l⟩
  have c1 := loc_step S1l (by simp) c0
  clear S1l
  have HVa := Lib.hid (HV.out.keep S1.bel)
  have HKa := Lib.hid (hk.keep S1.bel)
  clear S0 c0 HV2
  go_wp2_with fail
  refine (HP.out _ HVa.out).mono ?_
  rintro e w2 ⟨v, rfl, hr, hf, hb⟩
  obtain ⟨gp, cp, rfl⟩ := Joins.ownsRow_form hr (by simp)
  have HBel := Lib.hid (S1.bel.trans (hb.mono S1.bel.size))
  have HR : FiRelO w T g (.slice (some ⟨gp, 0, none⟩) 1 cp) a z (.int .i64 0) (.int .i64 0) w2 := ⟨0, by omega, rfl, rfl, HKa.out.keep hb, hr, HBel.out⟩
  clear hr hf hb S1 c1 HP H hk
  go_wp2
  go_loopw [8, 9] (fun m k wr => FiRelO w T g (.slice (some ⟨gp, 0, none⟩) 1 cp) a z m k wr) (fun _ k _ => 9 - (intOf k).toNat)
  case atStart => exact HR
  case round =>
    clear HR HBel HVa HKa
    obtain ⟨q, hq, rfl, rfl, hPk, hrow, hbel⟩ := hrel
    have HX := Lib.hid (And.intro hPk (And.intro hrow hbel))
    clear hPk hrow hbel
    by_cases hlt : q < 9
    · have hq9 : (q : Int) < 9 := by omega
      go_wp2
      go_loopw [10] (fun k wr => FiRelI w T g T (.slice (some ⟨gp, 0, none⟩) 1 cp) a z k wr) (fun k _ => T - (intOf k).toNat)
      case atStart => exact ⟨0, by omega, rfl, HX.out⟩
      case round =>
        clear HX
        obtain ⟨j, hj, rfl, hx⟩ := hrel
        have HX := Lib.hid hx
        by_cases hlt2 : j < T
        · have q0 := hx.1.2 (j * 9 + q) (by omega)
          clear hx
          go_wp2
          go_roundw
          case rel => exact ⟨j + 1, by omega, by go_num, HX.out⟩
          case measure => simp [intOf]; omega
        · clear hx
          go_wp2_with fail
          refine (HA.out q _ hlt HX.out.1).mono ?_
          rintro e w3 ⟨⟨a3, c3, rfl⟩, b3⟩
          have HX3 := Lib.hid (And.intro (HX.out.1.keep b3) (And.intro (((BS.start _).below b3).row HX.out.2.1) (HX.out.2.2.trans (b3.mono HX.out.2.2.size))))
          clear HX b3
          go_wp2
          go_loopw [8, 12] (fun m k wr => m = .int .i64 0 ∧ FiRelI w T g 1 (.slice (some ⟨gp, 0, none⟩) 1 cp) a z k wr) (fun _ k _ => 1 - (intOf k).toNat)
          case atStart => exact ⟨rfl, 0, by omega, rfl, HX3.out⟩
          case round =>
            clear HX3
            obtain ⟨rfl, i, hi, rfl, hx⟩ := hrel
            have HX := Lib.hid hx
            by_cases hlt3 : i < 1
            · obtain rfl : i = 0 := by omega
              have q1 := hx.2.1.cellAt 0 (by simp)
              simp [partCells] at q1
              clear hx
              go_wp2_with fail
              refine wp_region_noPanic ?_
              refine wp_region_held_drew (S := fun w' => w'.cell? ⟨gp, 0, none⟩ = some (.int .i64 1)) (by kernel_rfl) ?_ (fun hHeld => ?_)
              · exact q1
              refine wpAnyH_take (i := 0) (oi := _) (v := ?_) rfl (by kernel_rfl) (by kernel_rfl) (by kernel_rfl) (fun _ _ _ h => h) (Or.inl ⟨by rfl, ?_⟩) (by assumption) ?_
              rotate_left
              · intro w hSw; (try dsimp only at hSw); go_simp; try with_reducible rfl
              try simp only [Act.put, List.getElem_toArray, List.getElem_cons_zero, List.setIfInBounds_toArray, List.set_cons_zero, List.set_cons_succ]
              refine wpAnyH_take (i := 1) (oi := _) (v := ?_) rfl (by kernel_rfl) (by kernel_rfl) (by kernel_rfl) (fun _ _ _ h => h) (Or.inl ⟨by rfl, ?_⟩) (by assumption) ?_
              rotate_left
              · intro w hSw; (try dsimp only at hSw); go_simp; try with_reducible rfl
              try simp only [Act.put, List.getElem_toArray, List.getElem_cons_zero, List.getElem_cons_succ, List.setIfInBounds_toArray, List.set_cons_zero, List.set_cons_succ]
              refine wpAnyH_take (i := 2) (oi := _) (v := ?_) rfl (by kernel_rfl) (by kernel_rfl) (by kernel_rfl) (fun _ _ _ h => h) (Or.inl ⟨by rfl, ?_⟩) (by assumption) ?_
              rotate_left
              · intro w hSw; (try dsimp only at hSw); go_simp; try with_reducible rfl
              try simp only [Act.put, List.getElem_toArray, List.getElem_cons_zero, List.getElem_cons_succ, List.setIfInBounds_toArray, List.set_cons_zero, List.set_cons_succ]
              refine wpAnyH_take (i := 3) (oi := _) (v := ?_) rfl (by kernel_rfl) (by kernel_rfl) (by kernel_rfl) (fun _ _ _ h => h) (Or.inl ⟨by rfl, ?_⟩) (by assumption) ?_
              rotate_left
              · intro w hSw; (try dsimp only at hSw); go_simp; try with_reducible rfl
              try simp only [Act.put, List.getElem_toArray, List.getElem_cons_zero, List.getElem_cons_succ, List.setIfInBounds_toArray, List.set_cons_zero, List.set_cons_succ]
              refine wpAnyH_take (i := 4) (oi := _) (v := ?_) rfl (by kernel_rfl) (by kernel_rfl) (by kernel_rfl) (fun _ _ _ h => h) (Or.inl ⟨by rfl, ?_⟩) (by assumption) ?_
              rotate_left
              · intro w hSw; (try dsimp only at hSw); go_simp; try with_reducible rfl
              try simp only [Act.put, List.getElem_toArray, List.getElem_cons_zero, List.getElem_cons_succ, List.setIfInBounds_toArray, List.set_cons_zero, List.set_cons_succ]
              refine wpAnyH_take (i := 5) (oi := _) (v := ?_) rfl (by kernel_rfl) (by kernel_rfl) (by kernel_rfl) (fun _ _ _ h => h) (Or.inl ⟨by rfl, ?_⟩) (by assumption) ?_
              rotate_left
              · intro w hSw; (try dsimp only at hSw); go_simp; try with_reducible rfl
              try simp only [Act.put, List.getElem_toArray, List.getElem_cons_zero, List.getElem_cons_succ, List.setIfInBounds_toArray, List.set_cons_zero, List.set_cons_succ]
              refine wpAnyH_take (i := 6) (oi := _) (v := ?_) rfl (by kernel_rfl) (by kernel_rfl) (by kernel_rfl) (fun _ _ _ h => h) (Or.inl ⟨by rfl, ?_⟩) (by assumption) ?_
              rotate_left
              · intro w hSw; (try dsimp only at hSw); go_simp; try with_reducible rfl
              try simp only [Act.put, List.getElem_toArray, List.getElem_cons_zero, List.getElem_cons_succ, List.setIfInBounds_toArray, List.set_cons_zero, List.set_cons_succ]
              refine wpAnyH_take (i := 7) (oi := _) (v := undef) rfl (by kernel_rfl) (by kernel_rfl) (by kernel_rfl) (fun _ _ _ h => h) (Or.inr ⟨by rfl, rfl⟩) (by assumption) ?_
              try simp only [Act.put, List.getElem_toArray, List.getElem_cons_zero, List.getElem_cons_succ, List.setIfInBounds_toArray, List.set_cons_zero, List.set_cons_succ]
              refine wpAnyH_take (i := 8) (oi := _) (v := undef) rfl (by kernel_rfl) (by kernel_rfl) (by kernel_rfl) (fun _ _ _ h => h) (Or.inr ⟨by rfl, rfl⟩) (by assumption) ?_
              try simp only [Act.put, List.getElem_toArray, List.getElem_cons_zero, List.getElem_cons_succ, List.setIfInBounds_toArray, List.set_cons_zero, List.set_cons_succ]
              refine wpAnyH_take (i := 9) (oi := _) (v := undef) rfl (by kernel_rfl) (by kernel_rfl) (by kernel_rfl) (fun _ _ _ h => h) (Or.inr ⟨by rfl, rfl⟩) (by assumption) ?_
              try simp only [Act.put, List.getElem_toArray, List.getElem_cons_zero, List.getElem_cons_succ, List.setIfInBounds_toArray, List.set_cons_zero, List.set_cons_succ]
              refine wpAnyH_take (i := 10) (oi := _) (v := undef) rfl (by kernel_rfl) (by kernel_rfl) (by kernel_rfl) (fun _ _ _ h => h) (Or.inr ⟨by rfl, rfl⟩) (by assumption) ?_
              try simp only [Act.put, List.getElem_toArray, List.getElem_cons_zero, List.getElem_cons_succ, List.setIfInBounds_toArray, List.set_cons_zero, List.set_cons_succ]
              refine wpAnyH_take (i := 11) (oi := _) (v := undef) rfl (by kernel_rfl) (by kernel_rfl) (by kernel_rfl) (fun _ _ _ h => h) (Or.inr ⟨by rfl, rfl⟩) (by assumption) ?_
              try simp only [Act.put, List.getElem_toArray, List.getElem_cons_zero, List.getElem_cons_succ, List.setIfInBounds_toArray, List.set_cons_zero, List.set_cons_succ]
              refine wpAnyH_take (i := 12) (oi := _) (v := undef) rfl (by kernel_rfl) (by kernel_rfl) (by kernel_rfl) (fun _ _ _ h => h) (Or.inr ⟨by rfl, rfl⟩) (by assumption) ?_
              try simp only [Act.put, List.getElem_toArray, List.getElem_cons_zero, List.getElem_cons_succ, List.setIfInBounds_toArray, List.set_cons_zero, List.set_cons_succ]
              refine wpAnyH_take (i := 13) (oi := _) (v := undef) rfl (by kernel_rfl) (by kernel_rfl) (by kernel_rfl) (fun _ _ _ h => h) (Or.inr ⟨by rfl, rfl⟩) (by assumption) ?_
              try simp only [Act.put, List.getElem_toArray, List.getElem_cons_zero, List.getElem_cons_succ, List.setIfInBounds_toArray, List.set_cons_zero, List.set_cons_succ]
              refine wpAnyH_take (i := 14) (oi := _) (v := undef) rfl (by kernel_rfl) (by kernel_rfl) (by kernel_rfl) (fun _ _ _ h => h) (Or.inr ⟨by rfl, rfl⟩) (by assumption) ?_
              try simp only [Act.put, List.getElem_toArray, List.getElem_cons_zero, List.getElem_cons_succ, List.setIfInBounds_toArray, List.set_cons_zero, List.set_cons_succ]
              refine wpAnyH_take (i := 15) (oi := _) (v := undef) rfl (by kernel_rfl) (by kernel_rfl) (by kernel_rfl) (fun _ _ _ h => h) (Or.inr ⟨by rfl, rfl⟩) (by assumption) ?_
              try simp only [Act.put, List.getElem_toArray, List.getElem_cons_zero, List.getElem_cons_succ, List.setIfInBounds_toArray, List.set_cons_zero, List.set_cons_succ]
              refine wpAnyH_take (i := 16) (oi := _) (v := undef) rfl (by kernel_rfl) (by kernel_rfl) (by kernel_rfl) (fun _ _ _ h => h) (Or.inr ⟨by rfl, rfl⟩) (by assumption) ?_
              try simp only [Act.put, List.getElem_toArray, List.getElem_cons_zero, List.getElem_cons_succ, List.setIfInBounds_toArray, List.set_cons_zero, List.set_cons_succ]
              refine wpAnyH_take (i := 17) (oi := _) (v := ?_) rfl (by kernel_rfl) (by kernel_rfl) (by kernel_rfl) (fun _ _ _ h => h) (Or.inl ⟨by rfl, ?_⟩) (by assumption) ?_
              rotate_left
              · intro w hSw; (try dsimp only at hSw); go_simp; try with_reducible rfl
              try simp only [Act.put, List.getElem_toArray, List.getElem_cons_zero, List.getElem_cons_succ, List.setIfInBounds_toArray, List.set_cons_zero, List.set_cons_succ]
              refine wpAnyH_done (by kernel_rfl) ?_ _
              refine NoPanic.normal ?_
              go_wp2
              go_roundw
              case rel => exact ⟨rfl, 1, by omega, by go_num, ⟨HX.out.1.1, HX.out.1.2⟩, ownsRow_block (w' := wr.drew) HX.out.2.1 (fun _ _ => rfl), HX.out.2.2.drew⟩
              case measure => simp [intOf]
            · clear hx
              go_wp2
              go_roundw
              case rel => exact ⟨q + 1, by omega, by go_num, rfl, HX.out⟩
              case measure => simp [intOf]; omega
    · obtain rfl : q = 9 := by omega
      go_wp2
      go_ret
      exact ⟨rfl, HX.out.2.2⟩
end

theorem infoPk : (Tryz.prog.info? 51).map (fun i => (i.zero, i.size, i.bytes)) = some (some (.agg #[.slice none 0 0, .slice none 0 0, .slice none 0 0, .slice none 0 0, .slice none 0 0, .slice none 0 0, .slice none 0 0, .slice none 0 0, .slice none 0 0]), 9, 216) := by kernel_rfl
theorem make_pk (T : Nat) (hT : T ≤ 16) (w : World) : (Instr.makeSlice 39 (.int .i64 (T : Int)) (.int .i64 (T : Int))).run Tryz.prog w = .ok (.slice (some ⟨w.heap.size, 0, none⟩) T T) (w.alloc (.cells (madeCells #[.slice none 0 0, .slice none 0 0, .slice none 0 0, .slice none 0 0, .slice none 0 0, .slice none 0 0, .slice none 0 0, .slice none 0 0, .slice none 0 0] (T * 9)) 51)) := by
  obtain ⟨i, hi, hzz⟩ := Option.map_eq_some_iff.1 infoPk
  simp only [Prod.mk.injEq] at hzz
  obtain ⟨hz, hs, hb⟩ := hzz
  have hr := run_make (P := Tryz.prog) w 39 51 i _ Tryz.underlying39 hi hz .i64 .i64 T T (by omega) (Int.le_refl _) (by rw [hb]; omega) (by omega)
  simp only [Int.toNat_natCast, hs] at hr
  exact hr
theorem made_pk (T : Nat) (w : World) : PkB (w.alloc (.cells (madeCells #[.slice none 0 0, .slice none 0 0, .slice none 0 0, .slice none 0 0, .slice none 0 0, .slice none 0 0, .slice none 0 0, .slice none 0 0, .slice none 0 0] (T * 9)) 51)) w.heap.size T := by
  refine ⟨by simp, fun j hj => ?_⟩
  rw [cell?_of_heap (heap_alloc_new w _)]
  unfold madeCells
  simp only [Array.getElem?_map, Array.getElem?_range, hj, if_true, Option.map_some]
  congr 1
  show (#[.slice none 0 0, .slice none 0 0, .slice none 0 0, .slice none 0 0, .slice none 0 0, .slice none 0 0, .slice none 0 0, .slice none 0 0, .slice none 0 0] : Array Value)[j % 9]! = .slice none 0 0
  have : j % 9 < 9 := Nat.mod_lt _ (by omega)
  generalize j % 9 = r at *
  rcases (by omega : r = 0 ∨ r = 1 ∨ r = 2 ∨ r = 3 ∨ r = 4 ∨ r = 5 ∨ r = 6 ∨ r = 7 ∨ r = 8) with rfl | rfl | rfl | rfl | rfl | rfl | rfl | rfl | rfl <;> rfl
end Go.Proofs.YtcicmljnjdhkjaaGreat
