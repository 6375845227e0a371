/- FreshHolds: the law's walk. -/
import Derived.Test.YtcicmljnjdhkjaaGreatFits
import Derived.Test.YtcicmljnjdhkjaaGreatHoldL
import Derived.Test.YtcicmljnjdhkjaaGreatFreshX
import Derived.Test.YtcicmljnjdhkjaaGreatFreshS
namespace Go.Proofs.YtcicmljnjdhkjaaGreat
open Go.RowKit

theorem few_any (t p s : Int) (w : World) :
    Calls Tryz.prog 15 #[.agg #[.int .i64 t, .int .i64 p, .int .i64 s]] w fun e w' => e = .returned (.bool (decide (p ≤ 64))) ∧ Below w.heap.size w w' := by
  go_enter Tryz.func15, Tryz.ntmps15
  go_wp2
  go_ret
  refine ⟨rfl, ?_⟩
  (repeat (first | exact Below.refl _ _ | assumption | refine Below.setCell ?_ (by first | omega | (simp; done) | (simp; omega)) _ | refine Below.alloc ?_ (by first | omega | (simp; done) | (simp; omega)) _ | refine Below.drew ?_ | refine Below.trans ?_ (Below.mono ‹Below _ _ _› (by first | omega | (simp; done) | (simp; omega)))))
/-- the program's Vals is a heap that holds nothing. -/
theorem vals_hold (t p s : Int) (hr : rightB t p s = true) : ∃ (P K N : Nat) (l : List Int), p = P ∧ FV l t P K ∧ l.length = N ∧ (N : Int) = cellsN t p ∧ (∀ x ∈ l, VS.U32 x) ∧ (∀ w, Calls Tryz.prog 11 #[.agg #[.int .i64 t, .int .i64 p, .int .i64 s]] w (ValsP w l)) := by
  obtain ⟨b1, b2, b3, b4, b5, b6⟩ := right_bd hr
  obtain ⟨P, rfl⟩ : ∃ P : Nat, p = P := ⟨p.toNat, by omega⟩
  obtain ⟨N, hN⟩ : ∃ N : Nat, cellsN t P = N := ⟨(cellsN t P).toNat, by unfold cellsN; omega⟩
  obtain ⟨i0, h0⟩ : ∃ i : Nat, ofF t P s 0 0 = i := ⟨(30 + 4 * t).toNat, by simp [ofF, hr]; omega⟩
  obtain ⟨i1, h1⟩ : ∃ i : Nat, ofF t P s ((P : Int) - 1) 1 = i := ⟨(30 + 4 * t + 6 * ((P : Int) - 1) + 1).toNat, by simp [ofF, hr]; omega⟩
  obtain ⟨K, hK⟩ : ∃ K : Nat, logF P = K := ⟨bitsN P - 1, by have := (log_bd P (by omega) (by omega)).2; simp [logF]; omega⟩
  have hK2 : K < 11 := by have := (log_bd P (by omega) (by omega)).1; simp [logF] at hK; omega
  have e0 : (i0 : Int) = 30 + 4 * t := by rw [← h0]; simp [ofF, hr]; omega
  have e1 : (i1 : Int) = 30 + 4 * t + 6 * (P - 1) + 1 := by rw [← h1]; simp [ofF, hr]; omega
  have eN : (N : Int) = 30 + 4 * t + 6 * P := by rw [← hN]; rfl
  have hl := fresh_law hr hN h0 h1 hK hK2
  refine ⟨P, K, N, refL N i0 i1 K P, rfl, fresh_FV b1 (by omega) (by omega) eN e0 e1 hK hK2, by simp [refL], hN.symm, ?_, fun w => ?_⟩
  · intro x hx
    have : 0 ≤ x ∧ x < 4294967296 := by
      unfold refL at hx
      rcases List.mem_or_eq_of_mem_set hx with hx | rfl
      · rcases List.mem_or_eq_of_mem_set hx with hx | rfl
        · rcases List.mem_or_eq_of_mem_set hx with hx | rfl
          · rcases List.mem_or_eq_of_mem_set hx with hx | rfl
            · have := List.eq_of_mem_replicate hx
              omega
            · omega
          · omega
        · omega
      · omega
    unfold VS.U32
    omega
  rw [← hl]
  exact fresh_right t P s w hr

theorem fholds_wrong (t p s : Int) (w : World) (hr : rightB t p s = false) :
    Calls Tryz.prog 3 #[.agg #[.int .i64 t, .int .i64 p, .int .i64 s]] w fun e w' => e = .returned (.bool true) ∧ Below w.heap.size w w' := by
  have HV := Lib.hid (fun w => fresh_wrong t p s w hr)
  have HW := Lib.hid (fun w => fwords_wrong t p s w hr)
  have HC := Lib.hid (fun w => rright_any t p s w)
  rw [hr] at HC
  have HL := Lib.hid flive_any
  have c0 := loc_alloc w #[.int .i64 t, .int .i64 p, .int .i64 s] 23
  have S0 := ((BS.start w).alloc (.cells #[.int .i64 t, .int .i64 p, .int .i64 s] 23))
  clear hr
  go_enter Tryz.func3, Tryz.ntmps3
  go_wp2_with fail
  refine (HV.out _).mono ?_
  rintro e w1 ⟨v, rfl, ho, -, b1⟩
  obtain ⟨va, vc, rfl⟩ := row_shape ho
  have S1 := S0.below b1
  have c1 := ((BS.start _).below b1).oldbox c0 (S0.ls w.heap.size (by simp)).1
  clear S0 c0 b1 ho HV
  go_wp2_with fail
  refine (calls_b S1 (HC.out _)).mono ?_
  rintro e w2 ⟨rfl, S2, S2l⟩
  have c2 := loc_step S2l (by simp) c1
  clear S2l
  go_wp2_with fail
  refine (HW.out _).mono ?_
  rintro e w3 ⟨v, rfl, ho, -, b3⟩
  obtain ⟨va3, vc3, rfl⟩ := row_shape ho
  have S3 := S2.below b3
  have c3 := ((BS.start _).below b3).oldbox c2 (S2.ls w.heap.size (by simp)).1
  clear S1 c1 S2 c2 b3 ho HW HC
  go_wp2_with fail
  refine (calls_b S3 (HL.out _)).mono ?_
  rintro e w4 ⟨rfl, S4, S4l⟩
  have c4 := loc_step S4l (by simp) c3
  clear S4l
  go_wp2
  go_ret
  exact ⟨rfl, S4.bel⟩
theorem fholds_many (t p s : Int) (w : World) (hr : rightB t p s = true) (hp : 64 < p) :
    Calls Tryz.prog 3 #[.agg #[.int .i64 t, .int .i64 p, .int .i64 s]] w fun e w' => e = .returned (.bool true) ∧ Below w.heap.size w w' := by
  obtain ⟨P, K, N, l, -, -, -, -, -, hV⟩ := vals_hold t p s hr
  have HV := Lib.hid hV
  have HC := Lib.hid (fun w => rright_any t p s w)
  rw [hr] at HC
  have HF := Lib.hid (fun w => few_any t p s w)
  rw [show decide (p ≤ 64) = false by simp; omega] at HF
  have HL := Lib.hid flive_any
  have c0 := loc_alloc w #[.int .i64 t, .int .i64 p, .int .i64 s] 23
  have S0 := ((BS.start w).alloc (.cells #[.int .i64 t, .int .i64 p, .int .i64 s] 23))
  clear hr hp hV
  go_enter Tryz.func3, Tryz.ntmps3
  go_wp2_with fail
  refine (HV.out _).mono ?_
  rintro e w1 ⟨v, rfl, ho, -, b1⟩
  obtain ⟨va, vc, rfl⟩ := row_shape ho
  have S1 := S0.below b1
  have c1 := ((BS.start _).below b1).oldbox c0 (S0.ls w.heap.size (by simp)).1
  clear S0 c0 b1 ho HV
  go_wp2_with fail
  refine (calls_b S1 (HC.out _)).mono ?_
  rintro e w2 ⟨rfl, S2, S2l⟩
  have c2 := loc_step S2l (by simp) c1
  clear S2l
  go_wp2_with fail
  refine (calls_b S2 (HF.out _)).mono ?_
  rintro e w3 ⟨rfl, S3, S3l⟩
  have c3 := loc_step S3l (by simp) c2
  clear S3l
  go_wp2_with fail
  refine (calls_b S3 (HL.out _)).mono ?_
  rintro e w4 ⟨rfl, S4, S4l⟩
  have c4 := loc_step S4l (by simp) c3
  clear S4l
  go_wp2
  go_ret
  exact ⟨rfl, S4.bel⟩

/-- a row of values, as a heap's. -/
theorem XV.of_row {w : World} {t p s : Int} {g N c : Nat} {l : List Int} (h : w.ownsRow 0 37 1 (.slice (some ⟨g, 0, none⟩) N c) N (uints l)) (hr : rightB t p s = true) (hp : p ≤ 64) (hl : l.length = N) (hN : (N : Int) = cellsN t p) (hu : ∀ x ∈ l, VS.U32 x) : XV w t p s ⟨g, 0, none⟩ N l := by
  refine ⟨hr, hp, hl, by rw [hN]; rfl, hu, fun k hk => ?_⟩
  have e : (⟨g, 0, none⟩ : Addr).add k = ⟨g, k, none⟩ := by unfold Addr.add; split <;> simp_all
  rw [e, h.cellAt k (by omega)]
  simp [uints, hl, hk]
theorem held3 {w w' : World} {L1 L2 g : Nat} {c1 c2 : Array Value} {u : Value} (hb : Below w.heap.size w w') (h1 : L1 < w.heap.size) (h2 : L2 < w.heap.size) (h3 : g < w.heap.size)
    (h : (∀ o : Nat, w.cell? ⟨L1, o, none⟩ = c1[o]?) ∧ (∀ o : Nat, w.cell? ⟨L2, o, none⟩ = c2[o]?) ∧ w.cell? ⟨g, 0, none⟩ = some u) :
    (∀ o : Nat, w'.cell? ⟨L1, o, none⟩ = c1[o]?) ∧ (∀ o : Nat, w'.cell? ⟨L2, o, none⟩ = c2[o]?) ∧ w'.cell? ⟨g, 0, none⟩ = some u :=
  ⟨fun o => (hb.cell (p := ⟨L1, o, none⟩) h1).trans (h.1 o), fun o => (hb.cell (p := ⟨L2, o, none⟩) h2).trans (h.2.1 o), (hb.cell (p := ⟨g, 0, none⟩) h3).trans h.2.2⟩
set_option maxHeartbeats 2000000 in
set_option maxRecDepth 100000 in
theorem fholds_main (t p s : Int) (w : World) (hr : rightB t p s = true) (hp : p ≤ 64) :
    Calls Tryz.prog 3 #[.agg #[.int .i64 t, .int .i64 p, .int .i64 s]] w fun e w' => e = .returned (.bool true) ∧ Below w.heap.size w w' := by
  obtain ⟨P, K, N, l, rfl, hFV, hl, hN, hu, hV⟩ := vals_hold t p s hr
  obtain ⟨ws, hws, hW⟩ := fwords_len t P s
  obtain ⟨b1, b2, b3, b4, b5, b6⟩ := right_bd hr
  obtain ⟨T, rfl⟩ : ∃ T : Nat, t = T := ⟨t.toNat, by omega⟩
  have hN0 : 0 < N := by rw [show cellsN (T : Int) P = 30 + 4 * T + 6 * P from rfl] at hN; omega
  have h8 : ((ws.length : Int)).tmod 8 = 0 := by rw [Int.tmod_eq_emod_of_nonneg (by omega), hws]; simp only [wordsF, hr]; simp [wordsN, makersN]; omega
  have hc0 : l.getD 0 0 = P := hFV.c0
  have hck : (chkF l T P s).2 = true := by rw [hFV.check]
  have hpa := hFV.parts (s := s)
  have hbl := hFV.blocks (s := s)
  have hro : ∀ i, rootV l 8 i = .int .i64 0 := by
    intro i
    unfold rootV
    split
    · rename_i h; rw [hFV.roots i h]
    · rfl
  have hst : ∀ v, stateC v l 8 = #[v, .int .i64 0, .int .i64 0, .int .i64 0, .int .i64 0, .int .i64 0, .int .i64 0, .int .i64 0, .int .i64 0] := by
    intro v; simp only [stateC, hro]
  have HV := Lib.hid hV
  have HW := Lib.hid hW
  have HC := Lib.hid (fun w => rright_any T P s w)
  rw [hr] at HC
  have HF := Lib.hid (fun w => few_any T P s w)
  rw [show decide ((P : Int) ≤ 64) = true by simp; omega] at HF
  have HL := Lib.hid flive_any
  have HX := Lib.hid (fun (w : World) (g c : Nat) (h : w.ownsRow 0 37 1 (.slice (some ⟨g, 0, none⟩) N c) N (uints l)) => XV.of_row (t := T) (p := P) (s := s) h hr hp hl hN hu)
  have HS := Lib.hid (fun (ad : Addr) (c : Nat) (w : World) (h : XV w T P s ad N l) => rstate_any c w h hck)
  rw [hbl] at HS
  simp only [hst] at HS
  have HFi := Lib.hid (fun (ad : Addr) (g c : Nat) (w : World) (h : XV w T P s ad N l) (hk : PkB w g T) => rfits_any T g _ _ c w h hck hpa hk)
  have hwP : IntKind.i64.wrap (P : Int) = P := wrap_in _ (by omega)
  have c0 := loc_alloc w #[.int .i64 T, .int .i64 P, .int .i64 s] 23
  have S0 := ((BS.start w).alloc (.cells #[.int .i64 T, .int .i64 P, .int .i64 s] 23))
  have hc1 : (uints l)[0]? = some (.int .u32 P) := by rw [← hc0]; simp [uints, hl, hN0]
  clear hr hp hV hFV hbl hpa hck hro hst hN hu hW hws hc0
  go_enter Tryz.func3, Tryz.ntmps3
  go_wp2_with fail
  refine (HV.out _).mono ?_
  rintro e w1 ⟨v, rfl, ho, hfv, hb1⟩
  rw [hl] at ho
  obtain ⟨gv, cv, rfl⟩ := Joins.ownsRow_form ho hN0
  have S1 := S0.below hb1
  have c1 := ((BS.start _).below hb1).oldbox c0 (S0.ls w.heap.size (by simp)).1
  have hgw : w.heap.size + 1 ≤ gv := by have := hfv gv rfl; simpa using this
  have S1b : BS w [w.heap.size, gv] w1 := ⟨S1.bel, fun L hL => by
    simp at hL
    rcases hL with rfl | rfl
    · exact S1.ls _ (by simp)
    · exact ⟨ownsRow_lt ho rfl, by omega⟩⟩
  clear S0 c0 hb1 HV S1 hfv
  go_wp2_with fail
  refine (calls_b S1b (HC.out _)).mono ?_
  rintro e w2 ⟨rfl, S2, S2l⟩
  have c2 := loc_step S2l (by simp) c1
  have ho2 := row_step S2l (fun k hk => by simp [Value.ownBlock] at hk; simp [hk]) ho
  clear S2l
  go_wp2_with fail
  refine (calls_b S2 (HF.out _)).mono ?_
  rintro e w3 ⟨rfl, S3, S3l⟩
  have c3 := loc_step S3l (by simp) c2
  have ho3 := row_step S3l (fun k hk => by simp [Value.ownBlock] at hk; simp [hk]) ho2
  clear S3l
  go_wp2_with fail
  refine (HS.out _ _ _ (HX.out _ _ _ ho3)).mono ?_
  rintro e w4 ⟨v, rfl, hrow4, hf4, hb4⟩
  obtain ⟨va, vc, rfl⟩ := row_shape hrow4
  have S4 := S3.below hb4
  have c4 := ((BS.start _).below hb4).oldbox c3 (S3.ls w.heap.size (by simp)).1
  have ho4 := ((BS.start _).below hb4).row ho3
  have v4 := (ho4.cellAt 0 (by omega)).trans hc1
  have S5 := S4.alloc (.cells #[.slice va 0 vc, .int .i64 0, .int .i64 0, .int .i64 0, .int .i64 0, .int .i64 0, .int .i64 0, .int .i64 0, .int .i64 0] 33)
  have c5 := loc_old (.cells #[.slice va 0 vc, .int .i64 0, .int .i64 0, .int .i64 0, .int .i64 0, .int .i64 0, .int .i64 0, .int .i64 0, .int .i64 0] 33) (S4.ls w.heap.size (by simp)).1 c4
  have s5 := loc_alloc w4 #[.slice va 0 vc, .int .i64 0, .int .i64 0, .int .i64 0, .int .i64 0, .int .i64 0, .int .i64 0, .int .i64 0, .int .i64 0] 33
  have v5 : (w4.alloc (.cells #[.slice va 0 vc, .int .i64 0, .int .i64 0, .int .i64 0, .int .i64 0, .int .i64 0, .int .i64 0, .int .i64 0, .int .i64 0] 33)).cell? ⟨gv, 0, none⟩ = some (.int .u32 P) := (World.cell?_of_block (a := ⟨gv, 0, none⟩) (heap_alloc_old _ _ (S4.ls gv (by simp)).1)).trans v4
  have ho5 := ho4.alloc (.cells #[.slice va 0 vc, .int .i64 0, .int .i64 0, .int .i64 0, .int .i64 0, .int .i64 0, .int .i64 0, .int .i64 0, .int .i64 0] 33)
  have hls := S5.ls
  simp only [List.mem_cons, List.mem_nil_iff, or_false, forall_eq_or_imp, forall_eq] at hls
  clear hrow4 hf4 hb4 S4 S3 c3 c4 ho3 ho4 v4 HS HF HC S1b S2 c1 c2 ho ho2
  have hmk := make_pk T (by omega)
  go_wp2_with fail
  refine wp_region_noPanic ?_
  refine wp_region_held_drew (S := fun w' => (∀ o : Nat, w'.cell? ⟨w.heap.size, o, none⟩ = (#[.int .i64 T, .int .i64 P, .int .i64 s] : Array Value)[o]?) ∧ (∀ o : Nat, w'.cell? ⟨w4.heap.size, o, none⟩ = (#[.slice va 0 vc, .int .i64 0, .int .i64 0, .int .i64 0, .int .i64 0, .int .i64 0, .int .i64 0, .int .i64 0, .int .i64 0] : Array Value)[o]?) ∧ w'.cell? ⟨gv, 0, none⟩ = some (.int .u32 P)) (by kernel_rfl) ?_ (fun hHeld => ?_)
  · exact ⟨c5, s5, v5⟩
  refine wpAnyH_take (i := 0) (oi := _) (v := ?_) rfl (by kernel_rfl) (by kernel_rfl) (by kernel_rfl) (fun _ _ _ h => h) (Or.inl ⟨by rfl, ?_⟩) (by assumption) ?_
  rotate_left
  · intro w hSw; (try dsimp only at hSw); go_simp; try with_reducible rfl
  try simp only [Act.put, List.getElem_toArray, List.getElem_cons_zero, List.setIfInBounds_toArray, List.set_cons_zero, List.set_cons_succ]
  refine wpAnyH_take (i := 1) (oi := _) (v := ?_) rfl (by kernel_rfl) (by kernel_rfl) (by kernel_rfl) (fun _ _ _ h => h) (Or.inl ⟨by rfl, ?_⟩) (by assumption) ?_
  rotate_left
  · intro w hSw; (try dsimp only at hSw); go_simp; try with_reducible rfl
  try simp only [Act.put, List.getElem_toArray, List.getElem_cons_zero, List.getElem_cons_succ, List.setIfInBounds_toArray, List.set_cons_zero, List.set_cons_succ]
  refine wpAnyH_take (i := 2) (oi := _) (v := ?_) rfl (by kernel_rfl) (by kernel_rfl) (by kernel_rfl) (fun _ _ _ h => h) (Or.inl ⟨by rfl, ?_⟩) (by assumption) ?_
  rotate_left
  · intro w hSw; (try dsimp only at hSw); go_simp; try with_reducible rfl
  try simp only [Act.put, List.getElem_toArray, List.getElem_cons_zero, List.getElem_cons_succ, List.setIfInBounds_toArray, List.set_cons_zero, List.set_cons_succ]
  refine wpAnyH_take (i := 3) (oi := _) (v := ?_) rfl (by kernel_rfl) (by kernel_rfl) (by kernel_rfl) (fun _ _ _ h => h) (Or.inl ⟨by rfl, ?_⟩) (by assumption) ?_
  rotate_left
  · intro w hSw; (try dsimp only at hSw); go_simp; try with_reducible rfl
  try simp only [Act.put, List.getElem_toArray, List.getElem_cons_zero, List.getElem_cons_succ, List.setIfInBounds_toArray, List.set_cons_zero, List.set_cons_succ]
  refine wpAnyH_ready (rs := [4]) (by kernel_rfl) (by simp) ?_
  refine AllReadyH.cons (o := _) rfl (fun K hK => ?_) AllReadyH.nil
  go_simp
  refine (rsame_zero va vc _).mono ?_
  rintro e w6 ⟨rfl, b6⟩
  have S6 := S5.drew.below b6
  have k6 := held3 b6 (S5.drew.ls w.heap.size (by simp)).1 (S5.drew.ls w4.heap.size (by simp)).1 (S5.drew.ls gv (by simp)).1 hHeld
  have ho6 := ((BS.start _).below b6).row (ownsRow_block (w' := (w4.alloc (.cells #[.slice va 0 vc, .int .i64 0, .int .i64 0, .int .i64 0, .int .i64 0, .int .i64 0, .int .i64 0, .int .i64 0, .int .i64 0] 33)).drew) ho5 (fun _ _ => rfl))
  refine hK.out _ _ ?_ (fun hHeld => ?_)
  · exact k6
  clear hK K
  try simp only [Act.put, List.getElem_toArray, List.getElem_cons_zero, List.getElem_cons_succ, List.setIfInBounds_toArray, List.set_cons_zero, List.set_cons_succ]
  refine wpAnyH_take (i := 5) (oi := _) (v := ?_) rfl (by kernel_rfl) (by kernel_rfl) (by kernel_rfl) (fun _ _ _ h => h) (Or.inl ⟨by rfl, ?_⟩) (by assumption) ?_
  rotate_left
  · intro w hSw; (try dsimp only at hSw); go_simp; try with_reducible rfl
  try simp only [Act.put, List.getElem_toArray, List.getElem_cons_zero, List.getElem_cons_succ, List.setIfInBounds_toArray, List.set_cons_zero, List.set_cons_succ]
  refine wpAnyH_take (i := 6) (oi := _) (v := ?_) rfl (by kernel_rfl) (by kernel_rfl) (by kernel_rfl) (fun _ _ _ h => h) (Or.inl ⟨by rfl, ?_⟩) (by assumption) ?_
  rotate_left
  · intro w hSw; (try dsimp only at hSw); go_simp; try with_reducible rfl
  try simp only [Act.put, List.getElem_toArray, List.getElem_cons_zero, List.getElem_cons_succ, List.setIfInBounds_toArray, List.set_cons_zero, List.set_cons_succ]
  refine wpAnyH_take (i := 7) (oi := _) (v := ?_) rfl (by kernel_rfl) (by kernel_rfl) (by kernel_rfl) (fun _ _ _ h => h) (Or.inl ⟨by rfl, ?_⟩) (by assumption) ?_
  rotate_left
  · intro w hSw; (try dsimp only at hSw); go_simp; try with_reducible rfl
  try simp only [Act.put, List.getElem_toArray, List.getElem_cons_zero, List.getElem_cons_succ, List.setIfInBounds_toArray, List.set_cons_zero, List.set_cons_succ]
  refine wpAnyH_take (i := 8) (oi := _) (v := ?_) rfl (by kernel_rfl) (by kernel_rfl) (by kernel_rfl) (fun _ _ _ h => h) (Or.inl ⟨by rfl, ?_⟩) (by assumption) ?_
  rotate_left
  · intro w hSw; (try dsimp only at hSw); go_simp; try with_reducible rfl
  try simp only [Act.put, List.getElem_toArray, List.getElem_cons_zero, List.getElem_cons_succ, List.setIfInBounds_toArray, List.set_cons_zero, List.set_cons_succ]
  refine wpAnyH_take (i := 9) (oi := _) (v := ?_) rfl (by kernel_rfl) (by kernel_rfl) (by kernel_rfl) (fun _ _ _ h => h) (Or.inl ⟨by rfl, ?_⟩) (by assumption) ?_
  rotate_left
  · intro w hSw; (try dsimp only at hSw); go_simp; try with_reducible rfl
  try simp only [Act.put, List.getElem_toArray, List.getElem_cons_zero, List.getElem_cons_succ, List.setIfInBounds_toArray, List.set_cons_zero, List.set_cons_succ]
  refine wpAnyH_take (i := 10) (oi := _) (v := ?_) rfl (by kernel_rfl) (by kernel_rfl) (by kernel_rfl) (fun _ _ _ h => h) (Or.inl ⟨by rfl, ?_⟩) (by assumption) ?_
  rotate_left
  · intro w hSw; (try dsimp only at hSw); go_simp; try with_reducible rfl
  try simp only [Act.put, List.getElem_toArray, List.getElem_cons_zero, List.getElem_cons_succ, List.setIfInBounds_toArray, List.set_cons_zero, List.set_cons_succ]
  refine wpAnyH_take (i := 11) (oi := _) (v := ?_) rfl (by kernel_rfl) (by kernel_rfl) (by kernel_rfl) (fun _ _ _ h => h) (Or.inl ⟨by rfl, ?_⟩) (by assumption) ?_
  rotate_left
  · intro w hSw; (try dsimp only at hSw); go_simp; try with_reducible rfl
  try simp only [Act.put, List.getElem_toArray, List.getElem_cons_zero, List.getElem_cons_succ, List.setIfInBounds_toArray, List.set_cons_zero, List.set_cons_succ]
  refine wpAnyH_take (i := 12) (oi := _) (v := ?_) rfl (by kernel_rfl) (by kernel_rfl) (by kernel_rfl) (fun _ _ _ h => h) (Or.inl ⟨by rfl, ?_⟩) (by assumption) ?_
  rotate_left
  · intro w hSw; (try dsimp only at hSw); go_simp; try with_reducible rfl
  try simp only [Act.put, List.getElem_toArray, List.getElem_cons_zero, List.getElem_cons_succ, List.setIfInBounds_toArray, List.set_cons_zero, List.set_cons_succ]
  refine wpAnyH_take (i := 13) (oi := _) (v := ?_) rfl (by kernel_rfl) (by kernel_rfl) (by kernel_rfl) (fun _ _ _ h => h) (Or.inl ⟨by rfl, ?_⟩) (by assumption) ?_
  rotate_left
  · intro w hSw; (try dsimp only at hSw); go_simp; try with_reducible rfl
  try simp only [Act.put, List.getElem_toArray, List.getElem_cons_zero, List.getElem_cons_succ, List.setIfInBounds_toArray, List.set_cons_zero, List.set_cons_succ]
  refine wpAnyH_take (i := 14) (oi := _) (v := ?_) rfl (by kernel_rfl) (by kernel_rfl) (by kernel_rfl) (fun _ _ _ h => h) (Or.inl ⟨by rfl, ?_⟩) (by assumption) ?_
  rotate_left
  · intro w hSw; (try dsimp only at hSw); go_simp; try with_reducible rfl
  try simp only [Act.put, List.getElem_toArray, List.getElem_cons_zero, List.getElem_cons_succ, List.setIfInBounds_toArray, List.set_cons_zero, List.set_cons_succ]
  refine wpAnyH_take (i := 15) (oi := _) (v := ?_) rfl (by kernel_rfl) (by kernel_rfl) (by kernel_rfl) (fun _ _ _ h => h) (Or.inl ⟨by rfl, ?_⟩) (by assumption) ?_
  rotate_left
  · intro w hSw; (try dsimp only at hSw); go_simp; try with_reducible rfl
  try simp only [Act.put, List.getElem_toArray, List.getElem_cons_zero, List.getElem_cons_succ, List.setIfInBounds_toArray, List.set_cons_zero, List.set_cons_succ]
  refine wpAnyH_take (i := 16) (oi := _) (v := ?_) rfl (by kernel_rfl) (by kernel_rfl) (by kernel_rfl) (fun _ _ _ h => h) (Or.inl ⟨by rfl, ?_⟩) (by assumption) ?_
  rotate_left
  · intro w hSw; (try dsimp only at hSw); go_simp; try with_reducible rfl
  try simp only [Act.put, List.getElem_toArray, List.getElem_cons_zero, List.getElem_cons_succ, List.setIfInBounds_toArray, List.set_cons_zero, List.set_cons_succ]
  refine wpAnyH_take (i := 17) (oi := _) (v := ?_) rfl (by kernel_rfl) (by kernel_rfl) (by kernel_rfl) (fun _ _ _ h => h) (Or.inl ⟨by rfl, ?_⟩) (by assumption) ?_
  rotate_left
  · intro w hSw; (try dsimp only at hSw); go_simp; try with_reducible rfl
  try simp only [Act.put, List.getElem_toArray, List.getElem_cons_zero, List.getElem_cons_succ, List.setIfInBounds_toArray, List.set_cons_zero, List.set_cons_succ]
  refine wpAnyH_take (i := 18) (oi := _) (v := ?_) rfl (by kernel_rfl) (by kernel_rfl) (by kernel_rfl) (fun _ _ _ h => h) (Or.inl ⟨by rfl, ?_⟩) (by assumption) ?_
  rotate_left
  · intro w hSw; (try dsimp only at hSw); go_simp; try with_reducible rfl
  try simp only [Act.put, List.getElem_toArray, List.getElem_cons_zero, List.getElem_cons_succ, List.setIfInBounds_toArray, List.set_cons_zero, List.set_cons_succ]
  refine wpAnyH_take (i := 19) (oi := _) (v := ?_) rfl (by kernel_rfl) (by kernel_rfl) (by kernel_rfl) (fun _ _ _ h => h) (Or.inl ⟨by rfl, ?_⟩) (by assumption) ?_
  rotate_left
  · intro w hSw; (try dsimp only at hSw); go_simp; try with_reducible rfl
  try simp only [Act.put, List.getElem_toArray, List.getElem_cons_zero, List.getElem_cons_succ, List.setIfInBounds_toArray, List.set_cons_zero, List.set_cons_succ]
  refine wpAnyH_ready (rs := [20]) (by kernel_rfl) (by simp) ?_
  refine AllReadyH.cons (o := _) rfl (fun K hK => ?_) AllReadyH.nil
  go_simp
  have S7 := S6.alloc (.cells (madeCells #[.slice none 0 0, .slice none 0 0, .slice none 0 0, .slice none 0 0, .slice none 0 0, .slice none 0 0, .slice none 0 0, .slice none 0 0, .slice none 0 0] (T * 9)) 51)
  have k7 := held3 ((Below.refl _ _).alloc (Nat.le_refl _) (.cells (madeCells #[.slice none 0 0, .slice none 0 0, .slice none 0 0, .slice none 0 0, .slice none 0 0, .slice none 0 0, .slice none 0 0, .slice none 0 0, .slice none 0 0] (T * 9)) 51)) (S6.ls w.heap.size (by simp)).1 (S6.ls w4.heap.size (by simp)).1 (S6.ls gv (by simp)).1 hHeld
  have ho7 := ho6.alloc (.cells (madeCells #[.slice none 0 0, .slice none 0 0, .slice none 0 0, .slice none 0 0, .slice none 0 0, .slice none 0 0, .slice none 0 0, .slice none 0 0, .slice none 0 0] (T * 9)) 51)
  have pk7 := made_pk T w6
  refine hK.out _ _ ?_ (fun hHeld => ?_)
  · exact k7
  clear hK K
  try simp only [Act.put, List.getElem_toArray, List.getElem_cons_zero, List.getElem_cons_succ, List.setIfInBounds_toArray, List.set_cons_zero, List.set_cons_succ]
  refine wpAnyH_ready (rs := [21]) (by kernel_rfl) (by simp) ?_
  refine AllReadyH.cons (o := _) rfl (fun K hK => ?_) AllReadyH.nil
  go_simp
  refine (HFi.out _ _ _ _ (HX.out _ _ _ ho7) pk7).mono ?_
  rintro e w8 ⟨rfl, b8⟩
  have S8 := S7.below b8
  have k8 := held3 b8 (S7.ls w.heap.size (by simp)).1 (S7.ls w4.heap.size (by simp)).1 (S7.ls gv (by simp)).1 hHeld
  refine hK.out _ _ ?_ (fun hHeld => ?_)
  · exact k8
  clear hK K
  try simp only [Act.put, List.getElem_toArray, List.getElem_cons_zero, List.getElem_cons_succ, List.setIfInBounds_toArray, List.set_cons_zero, List.set_cons_succ]
  refine wpAnyH_take (i := 22) (oi := _) (v := ?_) rfl (by kernel_rfl) (by kernel_rfl) (by kernel_rfl) (fun _ _ _ h => h) (Or.inl ⟨by rfl, ?_⟩) (by assumption) ?_
  rotate_left
  · intro w hSw; (try dsimp only at hSw); go_simp; try with_reducible rfl
  try simp only [Act.put, List.getElem_toArray, List.getElem_cons_zero, List.getElem_cons_succ, List.setIfInBounds_toArray, List.set_cons_zero, List.set_cons_succ]
  refine wpAnyH_take (i := 23) (oi := _) (v := ?_) rfl (by kernel_rfl) (by kernel_rfl) (by kernel_rfl) (fun _ _ _ h => h) (Or.inl ⟨by rfl, ?_⟩) (by assumption) ?_
  rotate_left
  · intro w hSw; (try dsimp only at hSw); go_simp; try with_reducible rfl
  try simp only [Act.put, List.getElem_toArray, List.getElem_cons_zero, List.getElem_cons_succ, List.setIfInBounds_toArray, List.set_cons_zero, List.set_cons_succ]
  refine wpAnyH_take (i := 24) (oi := _) (v := ?_) rfl (by kernel_rfl) (by kernel_rfl) (by kernel_rfl) (fun _ _ _ h => h) (Or.inl ⟨by rfl, ?_⟩) (by assumption) ?_
  rotate_left
  · intro w hSw; (try dsimp only at hSw); go_simp; try with_reducible rfl
  try simp only [Act.put, List.getElem_toArray, List.getElem_cons_zero, List.getElem_cons_succ, List.setIfInBounds_toArray, List.set_cons_zero, List.set_cons_succ]
  refine wpAnyH_ready (rs := [25]) (by kernel_rfl) (by simp) ?_
  refine AllReadyH.cons (o := _) rfl (fun K hK => ?_) AllReadyH.nil
  go_simp
  refine (HW.out _).mono ?_
  rintro e w9 ⟨v9, rfl, r9, -, b9⟩
  obtain ⟨a9, c9, rfl⟩ := row_shape r9
  have S9 := S8.below b9
  have k9 := held3 b9 (S8.ls w.heap.size (by simp)).1 (S8.ls w4.heap.size (by simp)).1 (S8.ls gv (by simp)).1 hHeld
  refine hK.out _ _ ?_ (fun hHeld => ?_)
  · exact k9
  clear hK K
  try simp only [Act.put, List.getElem_toArray, List.getElem_cons_zero, List.getElem_cons_succ, List.setIfInBounds_toArray, List.set_cons_zero, List.set_cons_succ]
  refine wpAnyH_take (i := 26) (oi := _) (v := ?_) rfl (by kernel_rfl) (by kernel_rfl) (by kernel_rfl) (fun _ _ _ h => h) (Or.inl ⟨by rfl, ?_⟩) (by assumption) ?_
  rotate_left
  · intro w hSw; (try dsimp only at hSw); go_simp; try with_reducible rfl
  try simp only [Act.put, List.getElem_toArray, List.getElem_cons_zero, List.getElem_cons_succ, List.setIfInBounds_toArray, List.set_cons_zero, List.set_cons_succ]
  refine wpAnyH_take (i := 27) (oi := _) (v := ?_) rfl (by kernel_rfl) (by kernel_rfl) (by kernel_rfl) (fun _ _ _ h => h) (Or.inl ⟨by rfl, ?_⟩) (by assumption) ?_
  rotate_left
  · intro w hSw; (try dsimp only at hSw); go_simp; try with_reducible rfl
  try simp only [Act.put, List.getElem_toArray, List.getElem_cons_zero, List.getElem_cons_succ, List.setIfInBounds_toArray, List.set_cons_zero, List.set_cons_succ]
  refine wpAnyH_take (i := 28) (oi := _) (v := ?_) rfl (by kernel_rfl) (by kernel_rfl) (by kernel_rfl) (fun _ _ _ h => h) (Or.inl ⟨by rfl, ?_⟩) (by assumption) ?_
  rotate_left
  · intro w hSw; (try dsimp only at hSw); go_simp; try with_reducible rfl
  try simp only [Act.put, List.getElem_toArray, List.getElem_cons_zero, List.getElem_cons_succ, List.setIfInBounds_toArray, List.set_cons_zero, List.set_cons_succ]
  refine wpAnyH_take (i := 29) (oi := _) (v := ?_) rfl (by kernel_rfl) (by kernel_rfl) (by kernel_rfl) (fun _ _ _ h => h) (Or.inl ⟨by rfl, ?_⟩) (by assumption) ?_
  rotate_left
  · intro w hSw; (try dsimp only at hSw); go_simp; try with_reducible rfl
  try simp only [Act.put, List.getElem_toArray, List.getElem_cons_zero, List.getElem_cons_succ, List.setIfInBounds_toArray, List.set_cons_zero, List.set_cons_succ]
  refine wpAnyH_take (i := 30) (oi := _) (v := ?_) rfl (by kernel_rfl) (by kernel_rfl) (by kernel_rfl) (fun _ _ _ h => h) (Or.inl ⟨by rfl, ?_⟩) (by assumption) ?_
  rotate_left
  · intro w hSw; (try dsimp only at hSw); go_simp; try with_reducible rfl
  try simp only [Act.put, List.getElem_toArray, List.getElem_cons_zero, List.getElem_cons_succ, List.setIfInBounds_toArray, List.set_cons_zero, List.set_cons_succ]
  refine wpAnyH_ready (rs := [31]) (by kernel_rfl) (by simp) ?_
  refine AllReadyH.cons (o := _) rfl (fun K hK => ?_) AllReadyH.nil
  go_simp
  refine (HL.out _).mono ?_
  rintro e w10 ⟨rfl, b10⟩
  have S10 := S9.below b10
  have k10 := held3 b10 (S9.ls w.heap.size (by simp)).1 (S9.ls w4.heap.size (by simp)).1 (S9.ls gv (by simp)).1 hHeld
  refine hK.out _ _ ?_ (fun hHeld => ?_)
  · exact k10
  clear hK K
  try simp only [Act.put, List.getElem_toArray, List.getElem_cons_zero, List.getElem_cons_succ, List.setIfInBounds_toArray, List.set_cons_zero, List.set_cons_succ]
  refine wpAnyH_take (i := 32) (oi := _) (v := ?_) rfl (by kernel_rfl) (by kernel_rfl) (by kernel_rfl) (fun _ _ _ h => h) (Or.inl ⟨by rfl, ?_⟩) (by assumption) ?_
  rotate_left
  · intro w hSw; (try dsimp only at hSw); go_simp; try with_reducible rfl
  try simp only [Act.put, List.getElem_toArray, List.getElem_cons_zero, List.getElem_cons_succ, List.setIfInBounds_toArray, List.set_cons_zero, List.set_cons_succ]
  refine wpAnyH_take (i := 33) (oi := _) (v := ?_) rfl (by kernel_rfl) (by kernel_rfl) (by kernel_rfl) (fun _ _ _ h => h) (Or.inl ⟨by rfl, ?_⟩) (by assumption) ?_
  rotate_left
  · intro w hSw; (try dsimp only at hSw); go_simp; try with_reducible rfl
  try simp only [Act.put, List.getElem_toArray, List.getElem_cons_zero, List.getElem_cons_succ, List.setIfInBounds_toArray, List.set_cons_zero, List.set_cons_succ]
  refine wpAnyH_done (by kernel_rfl) ?_ _
  refine NoPanic.normal ?_
  go_wp2
  go_ret
  exact ⟨rfl, S10.bel⟩
theorem freshholds_any (t p s : Int) (w : World) : Calls Tryz.prog 3 #[.agg #[.int .i64 t, .int .i64 p, .int .i64 s]] w fun e w' => e = .returned (.bool true) ∧ Below w.heap.size w w' := by
  cases hr : rightB t p s
  · exact fholds_wrong t p s w hr
  · by_cases hp : p ≤ 64
    · exact fholds_main t p s w hr hp
    · exact fholds_many t p s w hr (by omega)
end Go.Proofs.YtcicmljnjdhkjaaGreat
