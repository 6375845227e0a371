/- fresh: the program's Words. -/
import Derived.Test.YtcicmljnjdhkjaaGreatFreshW
import Derived.Test.YtcicmljnjdhkjaaGreatHeadR
import Derived.Laws.CopyOwn
namespace Go.Proofs.YtcicmljnjdhkjaaGreat
open Go.RowKit

def fillA (l src : List Int) (off : Nat) : Nat → List Int
  | 0 => l
  | k + 1 => (fillA l src off k).set (off + k) (src.getD k 0)
theorem fillA_len (l src : List Int) (off : Nat) : ∀ k, (fillA l src off k).length = l.length
  | 0 => rfl
  | k + 1 => by simp [fillA, fillA_len l src off k]
theorem fillA_get (l src : List Int) (off : Nat) : ∀ k j, (fillA l src off k)[j]? = if off ≤ j ∧ j < off + k ∧ j < l.length then some (src.getD (j - off) 0) else l[j]?
  | 0, j => by rw [if_neg (by omega)]; rfl
  | k + 1, j => by
    unfold fillA
    by_cases h : off + k = j
    · subst h
      by_cases h2 : off + k < l.length
      · rw [List.getElem?_set_self (by rw [fillA_len]; exact h2), if_pos (by omega), show off + k - off = k by omega]
      · rw [List.getElem?_eq_none (by rw [List.length_set, fillA_len]; omega), if_neg (by omega), List.getElem?_eq_none (by omega)]
    · rw [List.getElem?_set_ne h, fillA_get l src off k j]
      by_cases h3 : off ≤ j ∧ j < off + k ∧ j < l.length
      · rw [if_pos h3, if_pos (by omega)]
      · rw [if_neg h3, if_neg (by omega)]
def wordsL (N : Nat) (h v : List Int) : List Int := fillA ((fillA (List.replicate N 0) h 0 8).set 8 4294967296) v 16 v.length
theorem wordsL_len (N : Nat) (h v : List Int) : (wordsL N h v).length = N := by simp [wordsL, fillA_len]
theorem copied (N : Nat) (h : List Int) (hh : h.length = 8) (hN : 8 ≤ N) : h ++ (List.replicate N (0 : Int)).drop 8 = fillA (List.replicate N 0) h 0 8 := by
  apply List.ext_getElem?
  intro j
  rw [fillA_get, List.getElem?_append]
  by_cases hj : j < 8
  · rw [if_pos (by omega), if_pos (by simp; omega)]
    simp [hh, hj]
  · rw [if_neg (by omega), if_neg (by omega), List.getElem?_drop]
    congr 1
    omega
theorem uset (l : List Int) (i : Nat) (v : Int) : (ulongs l).set i (.int .u64 v) = ulongs (l.set i v) := by simp [ulongs, List.map_set]
theorem row_at {w : World} {g n : Nat} {l : List Int} (hg : w.heap[g]? = some (.cells (ulongs l).toArray 72)) (hn : l.length = n) (h : n ≤ 1000000) : w.ownsRow 0 72 1 (.slice (some ⟨g, 0, none⟩) n n) n (ulongs l) := by
  refine ⟨by simpa [ulongs] using hn, Or.inr ⟨g, n, (ulongs l).toArray, rfl, Nat.zero_le _, hg, Nat.le_refl _, by unfold maxLen; omega, by simpa [ulongs] using hn, ?_⟩⟩
  have : (ulongs l).length = n := by simpa [ulongs] using hn
  simp [← this]
theorem lcell {w : World} {g c n : Nat} {l : List Int} (h : w.ownsRow 0 72 1 (.slice (some ⟨g, 0, none⟩) n c) n (ulongs l)) {i : Nat} (hi : i < n) : ∃ z, w.cell? ⟨g, i, none⟩ = some z := by
  refine ⟨_, (h.cellAt i (by omega)).trans (List.getElem?_eq_getElem ?_)⟩
  have := h.1
  omega
theorem setRow_at (w : World) (g : Nat) (cs new : Array Value) (T : TypeId) (h : w.heap[g]? = some (.cells cs T (0, 0))) : (w.setRow g new).heap[g]? = some (.cells new T (0, 0)) := by
  unfold World.setRow
  simp [Array.getElem?_modify, h]
theorem info64 : (Tryz.prog.info? 72).map (·.size) = some 1 := by kernel_rfl
theorem made_rep64 (N : Nat) : madeCells #[.int .u64 0] N = (ulongs (List.replicate N 0)).toArray := by
  apply Array.ext'
  simp [madeCells, ulongs, Nat.mod_one]
  exact List.eq_replicate_iff.2 ⟨by simp, by simp⟩

/-- what the program's Vals is, of a configuration that is right. -/
theorem vals_prog (t p s : Int) (hr : rightB t p s = true) : ∃ l : List Int, (l.length : Int) = cellsN t p ∧ (∀ x ∈ l, 0 ≤ x ∧ x < 4294967296) ∧ (∀ w, Calls Tryz.prog 11 #[.agg #[.int .i64 t, .int .i64 p, .int .i64 s]] w (ValsP w l)) := by
  obtain ⟨b1, b2, b3, b4, b5, b6⟩ := right_bd hr
  obtain ⟨P, rfl⟩ : ∃ P : Nat, p = P := ⟨p.toNat, by omega⟩
  obtain ⟨N, hN⟩ : ∃ N : Nat, cellsN t P = N := ⟨(cellsN t P).toNat, by unfold cellsN; omega⟩
  obtain ⟨i0, h0⟩ : ∃ i : Nat, ofF t P s 0 0 = i := ⟨(30 + 4 * t).toNat, by simp [ofF, hr]; omega⟩
  obtain ⟨i1, h1⟩ : ∃ i : Nat, ofF t P s ((P : Int) - 1) 1 = i := ⟨(30 + 4 * t + 6 * ((P : Int) - 1) + 1).toNat, by simp [ofF, hr]; omega⟩
  obtain ⟨K, hK⟩ : ∃ K : Nat, logF P = K := ⟨bitsN P - 1, by have := (log_bd P (by omega) (by omega)).2; simp [logF]; omega⟩
  have hK2 : K < 11 := by have := (log_bd P (by omega) (by omega)).1; simp [logF] at hK; omega
  have e0 : (i0 : Int) = 30 + 4 * t := by rw [← h0]; simp [ofF, hr]; omega
  have e1 : (i1 : Int) = 30 + 4 * t + 6 * (P - 1) + 1 := by rw [← h1]; simp [ofF, hr]; omega
  have eN : (N : Int) = 30 + 4 * t + 6 * P := by rw [← hN]; rfl
  have hl := fresh_law hr hN h0 h1 hK hK2
  refine ⟨refL N i0 i1 K P, by rw [hN]; simp [refL], ?_, fun w => ?_⟩
  · intro x hx
    unfold refL at hx
    rcases List.mem_or_eq_of_mem_set hx with hx | rfl
    · rcases List.mem_or_eq_of_mem_set hx with hx | rfl
      · rcases List.mem_or_eq_of_mem_set hx with hx | rfl
        · rcases List.mem_or_eq_of_mem_set hx with hx | rfl
          · have := List.eq_of_mem_replicate hx
            omega
          · omega
        · omega
      · omega
    · omega
  rw [← hl]
  exact fresh_right t P s w hr

def FwRel (w : World) (t p s : Int) (N C : Nat) (l l2 : List Int) (g1 gv cv : Nat) (i : Value) (wr : World) : Prop :=
  ∃ k : Nat, k ≤ C ∧ i = .int .i64 k ∧ wr.ownsRow 0 72 1 (.slice (some ⟨g1, 0, none⟩) N N) N (ulongs (fillA l2 l 16 k)) ∧ wr.ownsRow 0 37 1 (.slice (some ⟨gv, 0, none⟩) C cv) C (uints l) ∧
    (∀ o : Nat, wr.cell? ⟨w.heap.size, o, none⟩ = (#[.int .i64 t, .int .i64 p, .int .i64 s] : Array Value)[o]?) ∧ BS w [gv, g1, w.heap.size] wr
set_option maxHeartbeats 1000000 in
set_option maxRecDepth 100000 in
theorem fwords_right (t p s x : Nat) (N C : Nat) (l : List Int) (w : World) (hr : rightB t p s = true) (hx : t + p * 65536 + s * 4294967296 = x) (hn : wordsN t p = (N : Int)) (hc : cellsN t p = (C : Int)) (hl : l.length = C) (hu : ∀ x ∈ l, 0 ≤ x ∧ x < 4294967296)
    (hV : ∀ w, Calls Tryz.prog 11 #[.agg #[.int .i64 t, .int .i64 p, .int .i64 s]] w (ValsP w l)) :
    Calls Tryz.prog 13 #[.agg #[.int .i64 t, .int .i64 p, .int .i64 s]] w (WordsP w (wordsL N (headL x N) l)) := by
  obtain ⟨b1, b2, b3, b4, b5, b6⟩ := right_bd hr
  have HW := Lib.hid (fun w => words_any t p s w)
  have hwf : wordsF t p s = wordsN t p := by simp [wordsF, hr]
  rw [hwf, hn] at HW
  have HC := Lib.hid (fun w => cells_any t p s w)
  have hcf : cellsF t p s = cellsN t p := by simp [cellsF, hr]
  rw [hcf, hc] at HC
  have HE := Lib.hid (fun w => encode_right t p s x N w hr hx hn)
  have HV := Lib.hid hV
  have HT := Lib.hid mtip_any
  have HP := Lib.hid (fun (c : Nat) w (h : c < C) => pword_any t p s c w hr (by omega) (by rw [hc]; omega))
  have HM := Lib.hid (fun v w (h : 0 ≤ v ∧ v < 4294967296) => mcell_any v w h.1 h.2)
  have HU := Lib.hid hu
  have hNC : C + 16 ≤ N ∧ N ≤ 100000 := by unfold wordsN makersN at hn; unfold cellsN at hn hc; omega
  have hC : 0 < C := by unfold cellsN at hc; omega
  have hhl : (headL x N).length = 8 := rfl
  have hcp := copied N (headL x N) hhl (by omega)
  have hWL : wordsL N (headL x N) l = fillA ((fillA (List.replicate N 0) (headL x N) 0 8).set 8 4294967296) l 16 C := by rw [← hl]; rfl
  rw [hWL]
  generalize hHd : headL x (N : Int) = hd at *
  generalize hL1 : fillA (List.replicate N 0) hd 0 8 = l1 at *
  have hl1 : l1.length = N := by rw [← hL1, fillA_len]; simp
  have hmk : ∀ w : World, (Instr.makeSlice 27 (.int .i64 (N : Int)) (.int .i64 (N : Int))).run Tryz.prog w = .ok (.slice (some ⟨w.heap.size, 0, none⟩) N N) (w.alloc (.cells (madeCells #[.int .u64 0] N) 72)) := run_make_row' (P := Tryz.prog) 27 72 (.int .u64 0) 8 Tryz.underlying27 infoU64 rfl .i64 .i64 N (by omega) (by omega)
  have hnb : ((N : Int) == 0) = false := by simp; omega
  have c0 := loc_alloc w #[.int .i64 t, .int .i64 p, .int .i64 s] 23
  have S0 := ((BS.start w).alloc (.cells #[.int .i64 t, .int .i64 p, .int .i64 s] 23))
  clear hV hwf hcf hr hx hn hc hu hWL hHd hL1
  go_enter Tryz.func13, Tryz.ntmps13
  go_wp2_with fail
  refine (calls_b S0 (HW.out _)).mono ?_
  rintro e w1 ⟨rfl, S1, S1l⟩
  have c1 := loc_step S1l (by simp) c0
  clear S1l
  have l1' := (S1.ls w.heap.size (by simp)).1
  have g1 : (w1.alloc (.cells (madeCells #[.int .u64 0] N) 72)).heap[w1.heap.size]? = some (.cells (ulongs (List.replicate N 0)).toArray 72) := by rw [made_rep64]; exact heap_alloc_new w1 _
  have S1a := S1.alloc (.cells (madeCells #[.int .u64 0] N) 72)
  have c1a := loc_old (.cells (madeCells #[.int .u64 0] N) 72) (S1.ls w.heap.size (by simp)).1 c1
  go_wp2_with fail
  refine (HE.out _).mono ?_
  rintro e w2 ⟨v, rfl, R, hf, b2⟩
  rw [hhl] at R
  obtain ⟨gh, ch, rfl⟩ := Joins.ownsRow_form R (by omega)
  have g2 := (b2.block w1.heap.size (by simp)).trans g1
  have S2 := S1a.below b2
  have c2 := ((BS.start _).below b2).oldbox c1a (S1a.ls w.heap.size (by simp)).1
  have hm8 : Nat.min 8 N = 8 := Nat.min_eq_left (by omega)
  have q1 : (ulongs hd).length = Nat.min 8 N := by have := R.1; rw [hm8]; simpa [ulongs] using hhl
  have q2 := R.cells (g := gh) rfl
  have q3 : 0 + (ulongs hd).length ≤ (ulongs (List.replicate N 0)).toArray.size := by rw [q1, hm8]; simp [ulongs]; omega
  have q4 : ∀ v ∈ ulongs hd, v.oneCell' = true := by intro v hv; obtain ⟨z, -, rfl⟩ := List.mem_map.1 hv; rfl
  have q5 : ((ulongs (List.replicate N 0)).toArray.toList.take 0 ++ ulongs hd ++ (ulongs (List.replicate N 0)).toArray.toList.drop (0 + (ulongs hd).length)).toArray = (ulongs l1).toArray := by
    rw [← hcp, q1, hm8]
    simp [ulongs]
  have hcopy := run_copy_row (P := Tryz.prog) w2 27 27 3 72 w1.heap.size 0 N N ⟨gh, 0, none⟩ 8 ch (ulongs (List.replicate N 0)).toArray 72 (ulongs hd) Tryz.underlying27 info64 g2 q1 q2 q3 q4
  rw [q5] at hcopy
  obtain ⟨wm, hwm⟩ : ∃ wm, wm = w2.setRow w1.heap.size (ulongs l1).toArray := ⟨_, rfl⟩
  rw [← hwm] at hcopy
  have gm : wm.heap[w1.heap.size]? = some (.cells (ulongs l1).toArray 72) := by rw [hwm]; exact setRow_at _ _ _ _ _ g2
  have Sm : BS w [w1.heap.size, w.heap.size] wm := by
    rw [hwm]
    refine ⟨below_setRow S2.bel (S2.ls w1.heap.size (by simp)).2 _, fun L hL => ?_⟩
    have := S2.ls L hL
    exact ⟨by simpa [World.setRow] using this.1, this.2⟩
  have cm : ∀ o : Nat, wm.cell? ⟨w.heap.size, o, none⟩ = (#[.int .i64 t, .int .i64 p, .int .i64 s] : Array Value)[o]? := by
    intro o
    rw [← c2 o, hwm]
    exact World.cell?_of_block (a := ⟨w.heap.size, o, none⟩) (setRow_other w2 w1.heap.size w.heap.size _ (by omega))
  have Rm := row_at gm hl1 (by omega)
  clear q1 q2 q3 q4 q5 R hf g1 S0 S1 S1a c0 c1 c1a HW HE gm hwm S2 c2 b2
  go_wp2_with fail
  refine (HT.out _).mono ?_
  rintro e w3 ⟨rfl, b3⟩
  have S3 := Sm.below b3
  have R3 := ((BS.start _).below b3).row Rm
  have c3 := ((BS.start _).below b3).oldbox cm (Sm.ls w.heap.size (by simp)).1
  obtain ⟨z3, q3⟩ := lcell R3 (i := 8) (by omega)
  have f3 := R3.frozenAt 8
  have S4 := S3.setCell (L := w1.heap.size) (by simp) 8 (.int .u64 4294967296)
  have R4 := (R3.stored 8 (.int .u64 4294967296)).1
  rw [uset] at R4
  have c4 : ∀ o : Nat, (w3.setCell ⟨w1.heap.size, 8, none⟩ (.int .u64 4294967296)).cell? ⟨w.heap.size, o, none⟩ = (#[.int .i64 t, .int .i64 p, .int .i64 s] : Array Value)[o]? := fun o => (World.cell?_of_block (a := ⟨w.heap.size, o, none⟩) (heap_setCell_other (L := w1.heap.size) (M := w.heap.size) (by omega))).trans (c3 o)
  clear Sm Rm cm b3 hcopy
  go_wp2_with fail
  clear q3 f3 S3 R3 c3
  refine (HV.out _).mono ?_
  rintro e w6 ⟨v, rfl, RV, hfv, b6⟩
  rw [hl] at RV
  obtain ⟨gv, cv, rfl⟩ := Joins.ownsRow_form RV (by omega)
  have S6 := S4.below b6
  have R6 := ((BS.start _).below b6).row R4
  have c6 := ((BS.start _).below b6).oldbox c4 (S4.ls w.heap.size (by simp)).1
  have hgv : w1.heap.size < gv := by have := hfv gv rfl; have := (S4.ls w1.heap.size (by simp)).1; omega
  have S7 : BS w [gv, w1.heap.size, w.heap.size] w6 := ⟨S6.bel, fun L hL => by
    simp at hL
    rcases hL with rfl | rfl | rfl
    · exact ⟨ownsRow_lt RV rfl, by have := S4.bel.size; have := hfv _ rfl; omega⟩
    · exact S6.ls _ (by simp)
    · exact S6.ls _ (by simp)⟩
  clear S4 S6 R4 c4 b6 HV HT hfv
  go_wp2_with fail
  refine (calls_b S7 (HC.out _)).mono ?_
  rintro e w8 ⟨rfl, S8, S8l⟩
  have c8 := loc_step S8l (by simp) c6
  have R8 := row_step S8l (fun k hk => by simp [Value.ownBlock] at hk; simp [hk]) R6
  have RV8 := row_step S8l (fun k hk => by simp [Value.ownBlock] at hk; simp [hk]) RV
  clear S8l
  have HR : FwRel w t p s N C l (l1.set 8 4294967296) w1.heap.size gv cv (.int .i64 0) w8 := ⟨0, by omega, rfl, R8, RV8, c8, S8⟩
  have hgw : gv ≠ w1.heap.size := by omega
  have hgw2 : gv ≠ w.heap.size := by omega
  have hll : (l1.set 8 4294967296).length = N := by simp [hl1]
  generalize l1.set 8 4294967296 = l2 at *
  generalize w1.heap.size = g1 at *
  clear R8 RV8 c8 S8 R6 RV c6 S7 HC hgv
  go_wp2
  go_loopw [27] (fun i wr => FwRel w t p s N C l l2 g1 gv cv i wr) (fun i _ => C - (intOf i).toNat)
  case atStart => exact HR
  case round =>
    clear HR
    obtain ⟨k, hk, rfl, R8, RV8, c8, S8⟩ := hrel
    by_cases hlt : k < C
    · have hkc : (k : Int) < C := by omega
      have hy := HU.out (l.getD k 0) (by rw [List.getD_eq_getElem?_getD, List.getElem?_eq_getElem (by omega)]; exact List.getElem_mem _)
      have v8 : wr.cell? ⟨gv, k, none⟩ = some (.int .u32 (l.getD k 0)) := by
        rw [RV8.cellAt k (by omega)]
        simp [uints, hl, hlt]
      have hfk : fillA l2 l 16 (k + 1) = (fillA l2 l 16 k).set (16 + k) (l.getD k 0) := rfl
      have HFk := Lib.hid hfk
      have HLe := Lib.hid (fillA_len l2 l 16 k)
      have HYy := Lib.hid hy
      have hk16 : (16 : Int) + k = ((16 + k : Nat) : Int) := by omega
      have HPk := Lib.hid (fun w => HP.out k w hlt)
      rw [hk16] at HPk
      have hkN : 16 + k < N := by omega
      have hkN2 : ((16 + k : Nat) : Int) < N := by omega
      clear hfk hy hk16 HP HU
      generalize l.getD k 0 = y at *
      generalize fillA l2 l 16 k = f1 at *
      generalize 16 + k = k2 at *
      go_wp2_with fail
      refine wp_region_noPanic ?_
      refine wp_region_held_drew (S := fun w' => (∀ o : Nat, w'.cell? ⟨w.heap.size, o, none⟩ = (#[.int .i64 t, .int .i64 p, .int .i64 s] : Array Value)[o]?) ∧ w'.cell? ⟨gv, k, none⟩ = some (.int .u32 y)) (by kernel_rfl) ?_ (fun hHeld => ?_)
      · exact ⟨c8, v8⟩
      refine wpAnyH_take (i := 0) (oi := _) (v := ?_) rfl (by kernel_rfl) (by kernel_rfl) (by kernel_rfl) (fun _ _ _ h => h) (Or.inl ⟨by rfl, ?_⟩) (by assumption) ?_
      rotate_left
      · intro w hSw; (try dsimp only at hSw); go_simp; try with_reducible rfl
      try simp only [Act.put, List.getElem_toArray, List.getElem_cons_zero, List.setIfInBounds_toArray, List.set_cons_zero, List.set_cons_succ]
      refine wpAnyH_take (i := 1) (oi := _) (v := ?_) rfl (by kernel_rfl) (by kernel_rfl) (by kernel_rfl) (fun _ _ _ h => h) (Or.inl ⟨by rfl, ?_⟩) (by assumption) ?_
      rotate_left
      · intro w hSw; (try dsimp only at hSw); go_simp; try with_reducible rfl
      try simp only [Act.put, List.getElem_toArray, List.getElem_cons_zero, List.getElem_cons_succ, List.setIfInBounds_toArray, List.set_cons_zero, List.set_cons_succ]
      refine wpAnyH_take (i := 2) (oi := _) (v := ?_) rfl (by kernel_rfl) (by kernel_rfl) (by kernel_rfl) (fun _ _ _ h => h) (Or.inl ⟨by rfl, ?_⟩) (by assumption) ?_
      rotate_left
      · intro w hSw; (try dsimp only at hSw); go_simp; try with_reducible rfl
      try simp only [Act.put, List.getElem_toArray, List.getElem_cons_zero, List.getElem_cons_succ, List.setIfInBounds_toArray, List.set_cons_zero, List.set_cons_succ]
      refine wpAnyH_take (i := 4) (oi := _) (v := ?_) rfl (by kernel_rfl) (by kernel_rfl) (by kernel_rfl) (fun _ _ _ h => h) (Or.inl ⟨by rfl, ?_⟩) (by assumption) ?_
      rotate_left
      · intro w hSw; (try dsimp only at hSw); go_simp; try with_reducible rfl
      try simp only [Act.put, List.getElem_toArray, List.getElem_cons_zero, List.getElem_cons_succ, List.setIfInBounds_toArray, List.set_cons_zero, List.set_cons_succ]
      refine wpAnyH_take (i := 5) (oi := _) (v := ?_) rfl (by kernel_rfl) (by kernel_rfl) (by kernel_rfl) (fun _ _ _ h => h) (Or.inl ⟨by rfl, ?_⟩) (by assumption) ?_
      rotate_left
      · intro w hSw; (try dsimp only at hSw); go_simp; try with_reducible rfl
      try simp only [Act.put, List.getElem_toArray, List.getElem_cons_zero, List.getElem_cons_succ, List.setIfInBounds_toArray, List.set_cons_zero, List.set_cons_succ]
      refine wpAnyH_take (i := 6) (oi := _) (v := ?_) rfl (by kernel_rfl) (by kernel_rfl) (by kernel_rfl) (fun _ _ _ h => h) (Or.inl ⟨by rfl, ?_⟩) (by assumption) ?_
      rotate_left
      · intro w hSw; (try dsimp only at hSw); go_simp; try with_reducible rfl
      try simp only [Act.put, List.getElem_toArray, List.getElem_cons_zero, List.getElem_cons_succ, List.setIfInBounds_toArray, List.set_cons_zero, List.set_cons_succ]
      refine wpAnyH_take (i := 7) (oi := _) (v := ?_) rfl (by kernel_rfl) (by kernel_rfl) (by kernel_rfl) (fun _ _ _ h => h) (Or.inl ⟨by rfl, ?_⟩) (by assumption) ?_
      rotate_left
      · intro w hSw; (try dsimp only at hSw); go_simp; try with_reducible rfl
      try simp only [Act.put, List.getElem_toArray, List.getElem_cons_zero, List.getElem_cons_succ, List.setIfInBounds_toArray, List.set_cons_zero, List.set_cons_succ]
      refine wpAnyH_ready (rs := [3]) (by kernel_rfl) (by simp) ?_
      refine AllReadyH.cons (o := _) rfl (fun K hK => ?_) AllReadyH.nil
      go_simp
      refine (calls_b S8.drew (HPk.out _)).mono ?_
      rintro e w9 ⟨rfl, S9, S9l⟩
      have c9 := loc_step S9l (by simp) hHeld.1
      have v9 := (World.cell?_of_block (a := ⟨gv, k, none⟩) (S9l gv (by simp))).trans hHeld.2
      have R9 := row_step S9l (fun k hk => by simp [Value.ownBlock] at hk; simp [hk]) (ownsRow_block (w' := wr.drew) R8 (fun _ _ => rfl))
      have RV9 := row_step S9l (fun k hk => by simp [Value.ownBlock] at hk; simp [hk]) (ownsRow_block (w' := wr.drew) RV8 (fun _ _ => rfl))
      clear S9l
      dsimp only
      refine hK.out _ _ ?_ (fun hHeld => ?_)
      · exact ⟨c9, v9⟩
      clear hK K
      try simp only [Act.put, List.getElem_toArray, List.getElem_cons_zero, List.getElem_cons_succ, List.setIfInBounds_toArray, List.set_cons_zero, List.set_cons_succ]
      refine wpAnyH_ready (rs := [8]) (by kernel_rfl) (by simp) ?_
      refine AllReadyH.cons (o := _) rfl (fun K hK => ?_) AllReadyH.nil
      go_simp
      refine (calls_b S9 (HM.out y _ HYy.out)).mono ?_
      rintro e w10 ⟨rfl, S10, S10l⟩
      have c10 := loc_step S10l (by simp) hHeld.1
      have v10 := (World.cell?_of_block (a := ⟨gv, k, none⟩) (S10l gv (by simp))).trans hHeld.2
      have R10 := row_step S10l (fun k hk => by simp [Value.ownBlock] at hk; simp [hk]) R9
      have RV10 := row_step S10l (fun k hk => by simp [Value.ownBlock] at hk; simp [hk]) RV9
      clear S10l
      dsimp only
      refine hK.out _ _ ?_ (fun hHeld => ?_)
      · exact ⟨c10, v10⟩
      clear hK K
      try simp only [Act.put, List.getElem_toArray, List.getElem_cons_zero, List.getElem_cons_succ, List.setIfInBounds_toArray, List.set_cons_zero, List.set_cons_succ]
      refine wpAnyH_take (i := 9) (oi := _) (v := ?_) rfl (by kernel_rfl) (by kernel_rfl) (by kernel_rfl) (fun _ _ _ h => h) (Or.inl ⟨by rfl, ?_⟩) (by assumption) ?_
      rotate_left
      · intro w hSw; (try dsimp only at hSw); go_simp; try with_reducible rfl
      try simp only [Act.put, List.getElem_toArray, List.getElem_cons_zero, List.getElem_cons_succ, List.setIfInBounds_toArray, List.set_cons_zero, List.set_cons_succ]
      refine wpAnyH_ready (rs := [10]) (by kernel_rfl) (by simp) ?_
      refine AllReadyH.cons (o := _) rfl (fun K hK => ?_) AllReadyH.nil
      obtain ⟨z10, q10⟩ := lcell R10 hkN
      have f10 := R10.frozenAt k2
      go_simp
      have c11 : ∀ o : Nat, (w10.setCell ⟨g1, k2, none⟩ (.int .u64 y)).cell? ⟨w.heap.size, o, none⟩ = (#[.int .i64 t, .int .i64 p, .int .i64 s] : Array Value)[o]? := fun o => (World.cell?_of_block (a := ⟨w.heap.size, o, none⟩) (heap_setCell_other (L := g1) (M := w.heap.size) (by omega))).trans (c10 o)
      have v11 : (w10.setCell ⟨g1, k2, none⟩ (.int .u64 y)).cell? ⟨gv, k, none⟩ = some (.int .u32 y) := (World.cell?_of_block (a := ⟨gv, k, none⟩) (heap_setCell_other (L := g1) (M := gv) (by omega))).trans v10
      refine hK.out _ _ ?_ (fun hHeld => ?_)
      · exact ⟨c11, v11⟩
      clear hK K
      try simp only [Act.put, List.getElem_toArray, List.getElem_cons_zero, List.getElem_cons_succ, List.setIfInBounds_toArray, List.set_cons_zero, List.set_cons_succ]
      refine wpAnyH_done (by kernel_rfl) ?_ _
      refine NoPanic.normal ?_
      have R11 := (R10.stored k2 (.int .u64 y)).1
      rw [uset] at R11
      have S11 := S10.setCell (L := g1) (by simp) k2 (.int .u64 y)
      have RV11 := ownsRow_block (w' := w10.setCell ⟨g1, k2, none⟩ (.int .u64 y)) RV10 (fun b hb => by simp [Value.ownBlock] at hb; subst hb; exact heap_setCell_other (L := g1) (by omega))
      go_wp2
      go_roundw
      case rel => exact ⟨k + 1, by omega, by go_num, by rw [HFk.out]; exact R11, RV11, c11, S11⟩
      case measure => simp [intOf]; omega
    · obtain rfl : k = C := by omega
      go_wp2
      go_ret
      refine ⟨_, rfl, ?_, fun k hk => ?_, S8.bel⟩
      · have : (fillA l2 l 16 k).length = N := by rw [fillA_len]; exact hll
        rw [this]
        exact R8
      · simp [Value.ownBlock] at hk
        subst hk
        exact (S8.ls g1 (by simp)).2
theorem fwords_wrong (t p s : Int) (w : World) (hr : rightB t p s = false) :
    Calls Tryz.prog 13 #[.agg #[.int .i64 t, .int .i64 p, .int .i64 s]] w (WordsP w []) := by
  have H1 := fun w => words_any t p s w
  have hcf : wordsF t p s = 0 := by simp [wordsF, hr]
  rw [hcf] at H1
  have HH1 := Lib.hid H1
  clear H1 hcf hr
  go_enter Tryz.func13, Tryz.ntmps13
  go_wp2_with fail
  refine (HH1.out _).mono ?_
  rintro e w1 ⟨rfl, ha⟩
  obtain ⟨hac, haf⟩ := bcell ha
  go_wp2
  go_ret
  refine ⟨_, rfl, World.ownsRow_nil _ _ _ _, by simp [Value.ownBlock], ?_⟩
  (repeat (first | exact Below.refl _ _ | assumption | refine Below.setCell ?_ (by first | omega | (simp; done) | (simp; omega)) _ | refine Below.alloc ?_ (by first | omega | (simp; done) | (simp; omega)) _ | refine Below.drew ?_ | refine Below.trans ?_ (Below.mono ‹Below _ _ _› (by first | omega | (simp; done) | (simp; omega)))))
/-- the program's Words: how many there are. -/
theorem fwords_len (t p s : Int) : ∃ l : List Int, (l.length : Int) = wordsF t p s ∧ ∀ w, Calls Tryz.prog 13 #[.agg #[.int .i64 t, .int .i64 p, .int .i64 s]] w (WordsP w l) := by
  cases hr : rightB t p s
  · exact ⟨[], by simp [wordsF, hr], fun w => fwords_wrong t p s w hr⟩
  · obtain ⟨b1, b2, b3, b4, b5, b6⟩ := right_bd hr
    obtain ⟨l, hl, hu, hV⟩ := vals_prog t p s hr
    obtain ⟨T, rfl⟩ : ∃ T : Nat, t = T := ⟨t.toNat, by omega⟩
    obtain ⟨P, rfl⟩ : ∃ P : Nat, p = P := ⟨p.toNat, by omega⟩
    obtain ⟨S, rfl⟩ : ∃ S : Nat, s = S := ⟨s.toNat, by omega⟩
    obtain ⟨C, hC⟩ : ∃ C : Nat, cellsN T P = C := ⟨(cellsN T P).toNat, by unfold cellsN; omega⟩
    obtain ⟨N, hN⟩ : ∃ N : Nat, wordsN T P = N := ⟨(wordsN T P).toNat, by unfold wordsN makersN cellsN; omega⟩
    refine ⟨wordsL N (headL _ N) l, ?_, fun w => fwords_right T P S _ N C l w hr rfl hN hC (by omega) hu hV⟩
    rw [wordsL_len]
    simp only [wordsF, hr]
    exact hN.symm
end Go.Proofs.YtcicmljnjdhkjaaGreat
