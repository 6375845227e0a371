/- lines: the document's Text. -/
import Derived.Test.YtloilknkhloegaaDoorLinPD
import Derived.Test.YtloilknkhloegaaDoorTellRE
set_option linter.unusedSimpArgs false
set_option linter.unusedVariables false
namespace Go.Proofs.YtloilknkhloegaaDoor
open Go.RowKit

theorem rop_word (o : Int) : ∃ ov, ∀ w, Calls Tryd.prog 34 #[.string (bs (wordB o))] w fun e w' => e = .returned (.tuple #[.int .i64 ov, .int .i64 (usesB o)]) ∧ Below w.heap.size w w' := by
  rcases word_cases o with ⟨h1, h2⟩ | ⟨h1, h2⟩
  · rw [h1, h2]
    exact ⟨0, fun w => rop0_lit [] (by intro k h1 h2; have := kinds k; rcases this with rfl | rfl | rfl | rfl | rfl | rfl | rfl | rfl | rfl | h3 <;> first | decide | omega) _ rfl w⟩
  · exact ⟨o, fun w => rop1_any o w h1⟩
set_option maxHeartbeats 2000000 in
set_option maxRecDepth 100000 in
theorem rtext_10 (t u p a b n m : Int) (w : World) (h : (PEn.mk 1 t u ⟨p, a, b⟩ n m).ok) (hu : usesB p = 0) :
    Calls Tryd.prog 27 #[.agg #[.int .i64 1, .int .i64 t, .int .i64 u, .int .i64 p, .int .i64 a, .int .i64 b, .int .i64 n, .int .i64 m]] w (TextP w ⟨1, t, u, ⟨p, a, b⟩, n, m⟩) := by
  have ho := h.2.2.2.1
  have lt := nm_len h.2.1
  have lu := nm_len h.2.2.1
  have la := nm_len ho.2.1
  have lb := nm_len ho.2.2
  have ln := nm_len h.2.2.2.2.1
  have lm := nm_len h.2.2.2.2.2
  simp only [] at lt lu la lb ln lm
  have lt2 : (Lib.itoa t).length ≤ 21 := by simpa [nm] using lt
  have lu2 : (Lib.itoa u).length ≤ 21 := by simpa [nm] using lu
  have la2 : (Lib.itoa a).length ≤ 21 := by simpa [nm] using la
  have lb2 : (Lib.itoa b).length ≤ 21 := by simpa [nm] using lb
  have ln2 : (Lib.itoa n).length ≤ 21 := by simpa [nm] using ln
  have lm2 : (Lib.itoa m).length ≤ 21 := by simpa [nm] using lm
  have HT := Lib.hid (fun w => digits_any t w h.2.1)
  have HU := Lib.hid (fun w => digits_any u w h.2.2.1)
  have HN := Lib.hid (fun w => digits_any n w h.2.2.2.2.1)
  have HA := Lib.hid (fun w => digits_any a w ho.2.1)
  have HB := Lib.hid (fun w => digits_any b w ho.2.2)
  have HM := Lib.hid (fun w => digits_any m w h.2.2.2.2.2)
  have HW := Lib.hid (fun w => rword1_any p w)
  have hwl := word_len p
  have n1 := cat_run [32] (Lib.itoa t) (nm t) rfl (by simp) (by omega)
  have n2 := cat_run [32] (Lib.itoa u) (nm u) rfl (by simp) (by omega)
  have n3 := cat_run [32] (Lib.itoa n) (nm n) rfl (by simp) (by omega)
  obtain ⟨ov, hov⟩ := rop_word p
  have HO := Lib.hid hov
  rw [hu] at HO
  clear hov
  have HHu := Lib.hid hu
  obtain ⟨M1, hM1⟩ : ∃ x, x = wordB p ++ nm t := ⟨_, rfl⟩
  have lM1 : M1.length ≤ 40 := by rw [hM1]; simp [nm]; omega
  obtain ⟨S, hS⟩ : ∃ x, x = M1 ++ nm u := ⟨_, rfl⟩
  have lS : S.length ≤ 80 := by rw [hS]; simp [nm]; omega
  have c0 := cat_run (wordB p) (nm t) M1 hM1 (by first | omega | (simp; omega) | simp) (by first | omega | (simp; omega) | simp)
  have c1 := cat_run M1 (nm u) S hS (by first | omega | (simp; omega) | simp) (by first | omega | (simp; omega) | simp)
  have HC : Hid (textF ⟨1, t, u, ⟨p, a, b⟩, n, m⟩ = checkF S ⟨1, t, u, ⟨p, a, b⟩, n, m⟩) := Lib.hid (by
    rw [← check_cand]
    congr 1
    rw [hS, hM1]; simp [candD, hu, nm])
  have HP := Lib.hid (fun w => rparse_any S w (by omega))
  clear hM1 hS h ho
  go_enter Tryd.func27, Tryd.ntmps27
  go_wp2_with fail
  have hS0 := startB w #[.int .i64 1, .int .i64 t, .int .i64 u, .int .i64 p, .int .i64 a, .int .i64 b, .int .i64 n, .int .i64 m] 54
  go_region_held3 (fun w' => (∀ o : Nat, w'.cell? ⟨w.heap.size, o, none⟩ = (#[.int .i64 1, .int .i64 t, .int .i64 u, .int .i64 p, .int .i64 a, .int .i64 b, .int .i64 n, .int .i64 m] : Array Value)[o]?) ∧ w.heap.size < w'.heap.size ∧ Below w.heap.size w w') (first | assumption | exact keepB ((Below.refl _ _).alloc (Nat.le_refl _) _) (by assumption) | exact keepD (by assumption)) (first | (go_at_call 30; go_must (first | (with_reducible refine (HT.out _).mono ?_) | (with_reducible refine (HU.out _).mono ?_) | (with_reducible refine (HN.out _).mono ?_)); go_must (rintro e w' ⟨rfl, hb⟩); go_must (have hS := keepB (b := w.heap.size) (cs := #[.int .i64 1, .int .i64 t, .int .i64 u, .int .i64 p, .int .i64 a, .int .i64 b, .int .i64 n, .int .i64 m]) (w0 := w) hb (by assumption))))
  all_goals
    obtain ⟨hc, hz, hB⟩ := hS
    go_wp2_with fail
    refine (HW.out _).mono ?_
    rintro en w5 ⟨rfl, b5⟩
    obtain ⟨hc, hz, hB⟩ := keepB (b := w.heap.size) (cs := #[.int .i64 1, .int .i64 t, .int .i64 u, .int .i64 p, .int .i64 a, .int .i64 b, .int .i64 n, .int .i64 m]) (w0 := w) b5 ⟨hc, hz, hB⟩
    clear b5
    go_wp2_with fail
    refine (HW.out _).mono ?_
    rintro en w5 ⟨rfl, b5⟩
    obtain ⟨hc, hz, hB⟩ := keepB (b := w.heap.size) (cs := #[.int .i64 1, .int .i64 t, .int .i64 u, .int .i64 p, .int .i64 a, .int .i64 b, .int .i64 n, .int .i64 m]) (w0 := w) b5 ⟨hc, hz, hB⟩
    clear b5
    go_wp2_with fail
    refine (HO.out _).mono ?_
    rintro en w5 ⟨rfl, b5⟩
    obtain ⟨hc, hz, hB⟩ := keepB (b := w.heap.size) (cs := #[.int .i64 1, .int .i64 t, .int .i64 u, .int .i64 p, .int .i64 a, .int .i64 b, .int .i64 n, .int .i64 m]) (w0 := w) b5 ⟨hc, hz, hB⟩
    clear b5
    go_wp2_with fail
    refine (HP.out _).mono ?_
    rintro en W2 (⟨x, hx, rfl, b2⟩ | ⟨hx, rfl, b2⟩)
    · obtain ⟨hc2, hz2, hB2⟩ := keepB (b := w.heap.size) (cs := #[.int .i64 1, .int .i64 t, .int .i64 u, .int .i64 p, .int .i64 a, .int .i64 b, .int .i64 n, .int .i64 m]) (w0 := w) b2 ⟨hc, hz, hB⟩
      have d0 := hc2 0
      have d1 := hc2 1
      have d2 := hc2 2
      have d3 := hc2 3
      have d4 := hc2 4
      have d5 := hc2 5
      have d6 := hc2 6
      have d7 := hc2 7
      simp at d0 d1 d2 d3 d4 d5 d6 d7
      clear hc2 hc hz hB b2
      obtain ⟨q, hq⟩ : ∃ q, eqEn x ⟨1, t, u, ⟨p, a, b⟩, n, m⟩ = q := ⟨_, rfl⟩
      have hEq : ∀ W, (Op.equalIn 10000 54 (.agg #[.int .i64 x.k, .int .i64 x.t, .int .i64 x.u, .int .i64 x.op.k, .int .i64 x.op.a, .int .i64 x.op.b, .int .i64 x.n, .int .i64 x.m]) (.agg #[.int .i64 1, .int .i64 t, .int .i64 u, .int .i64 p, .int .i64 a, .int .i64 b, .int .i64 n, .int .i64 m])).run Tryd.prog W = .ok q W := fun W => by rw [← hq]; exact eq_entry x ⟨1, t, u, ⟨p, a, b⟩, n, m⟩ W
      have HQ : Hid (textF ⟨1, t, u, ⟨p, a, b⟩, n, m⟩ = if q = true then some S else none) := Lib.hid (by rw [HC.out]; unfold checkF; rw [hx]; simp only []; rw [hq])
      have HBel2 := Lib.hid hB2
      unfold enV
      clear hx hq hB2 HC HP
      cases q
      · go_wp2
        go_ret2
        refine Or.inr ⟨by rw [HQ.out]; simp, rfl, ?_⟩
        exact HBel2.out.alloc HBel2.out.size _
      · go_wp2
        go_ret2
        refine Or.inl ⟨S, by rw [HQ.out]; simp, rfl, ?_⟩
        exact HBel2.out.alloc HBel2.out.size _
    · have HQ : Hid (textF ⟨1, t, u, ⟨p, a, b⟩, n, m⟩ = none) := Lib.hid (by rw [HC.out]; unfold checkF; rw [hx])
      have HBel2 := Lib.hid (hB.trans (b2.mono hB.size))
      unfold enV PEn.none
      clear hx b2 HC HP
      go_wp2
      go_ret2
      exact Or.inr ⟨HQ.out, rfl, HBel2.out.alloc HBel2.out.size _⟩
set_option maxHeartbeats 2000000 in
set_option maxRecDepth 100000 in
theorem rtext_11 (t u p a b n m : Int) (w : World) (h : (PEn.mk 1 t u ⟨p, a, b⟩ n m).ok) (hu : usesB p = 1) :
    Calls Tryd.prog 27 #[.agg #[.int .i64 1, .int .i64 t, .int .i64 u, .int .i64 p, .int .i64 a, .int .i64 b, .int .i64 n, .int .i64 m]] w (TextP w ⟨1, t, u, ⟨p, a, b⟩, n, m⟩) := by
  have ho := h.2.2.2.1
  have lt := nm_len h.2.1
  have lu := nm_len h.2.2.1
  have la := nm_len ho.2.1
  have lb := nm_len ho.2.2
  have ln := nm_len h.2.2.2.2.1
  have lm := nm_len h.2.2.2.2.2
  simp only [] at lt lu la lb ln lm
  have lt2 : (Lib.itoa t).length ≤ 21 := by simpa [nm] using lt
  have lu2 : (Lib.itoa u).length ≤ 21 := by simpa [nm] using lu
  have la2 : (Lib.itoa a).length ≤ 21 := by simpa [nm] using la
  have lb2 : (Lib.itoa b).length ≤ 21 := by simpa [nm] using lb
  have ln2 : (Lib.itoa n).length ≤ 21 := by simpa [nm] using ln
  have lm2 : (Lib.itoa m).length ≤ 21 := by simpa [nm] using lm
  have HT := Lib.hid (fun w => digits_any t w h.2.1)
  have HU := Lib.hid (fun w => digits_any u w h.2.2.1)
  have HN := Lib.hid (fun w => digits_any n w h.2.2.2.2.1)
  have HA := Lib.hid (fun w => digits_any a w ho.2.1)
  have HB := Lib.hid (fun w => digits_any b w ho.2.2)
  have HM := Lib.hid (fun w => digits_any m w h.2.2.2.2.2)
  have HW := Lib.hid (fun w => rword1_any p w)
  have hwl := word_len p
  have n1 := cat_run [32] (Lib.itoa t) (nm t) rfl (by simp) (by omega)
  have n2 := cat_run [32] (Lib.itoa u) (nm u) rfl (by simp) (by omega)
  have n3 := cat_run [32] (Lib.itoa n) (nm n) rfl (by simp) (by omega)
  obtain ⟨ov, hov⟩ := rop_word p
  have HO := Lib.hid hov
  rw [hu] at HO
  clear hov
  have HHu := Lib.hid hu
  obtain ⟨M1, hM1⟩ : ∃ x, x = wordB p ++ nm t := ⟨_, rfl⟩
  have lM1 : M1.length ≤ 40 := by rw [hM1]; simp [nm]; omega
  obtain ⟨M2, hM2⟩ : ∃ x, x = M1 ++ nm u := ⟨_, rfl⟩
  have lM2 : M2.length ≤ 80 := by rw [hM2]; simp [nm]; omega
  obtain ⟨M3, hM3⟩ : ∃ x, x = M2 ++ [32] := ⟨_, rfl⟩
  have lM3 : M3.length ≤ 90 := by rw [hM3]; simp [nm]; omega
  obtain ⟨S, hS⟩ : ∃ x, x = M3 ++ Lib.itoa a := ⟨_, rfl⟩
  have lS : S.length ≤ 120 := by rw [hS]; simp [nm]; omega
  have c0 := cat_run (wordB p) (nm t) M1 hM1 (by first | omega | (simp; omega) | simp) (by first | omega | (simp; omega) | simp)
  have c1 := cat_run M1 (nm u) M2 hM2 (by first | omega | (simp; omega) | simp) (by first | omega | (simp; omega) | simp)
  have c2 := cat_run M2 [32] M3 hM3 (by first | omega | (simp; omega) | simp) (by first | omega | (simp; omega) | simp)
  have c3 := cat_run M3 (Lib.itoa a) S hS (by first | omega | (simp; omega) | simp) (by first | omega | (simp; omega) | simp)
  have HC : Hid (textF ⟨1, t, u, ⟨p, a, b⟩, n, m⟩ = checkF S ⟨1, t, u, ⟨p, a, b⟩, n, m⟩) := Lib.hid (by
    rw [← check_cand]
    congr 1
    rw [hS, hM3, hM2, hM1]; simp [candD, hu, nm])
  have HP := Lib.hid (fun w => rparse_any S w (by omega))
  clear hM1 hM2 hM3 hS h ho
  go_enter Tryd.func27, Tryd.ntmps27
  go_wp2_with fail
  have hS0 := startB w #[.int .i64 1, .int .i64 t, .int .i64 u, .int .i64 p, .int .i64 a, .int .i64 b, .int .i64 n, .int .i64 m] 54
  go_region_held3 (fun w' => (∀ o : Nat, w'.cell? ⟨w.heap.size, o, none⟩ = (#[.int .i64 1, .int .i64 t, .int .i64 u, .int .i64 p, .int .i64 a, .int .i64 b, .int .i64 n, .int .i64 m] : Array Value)[o]?) ∧ w.heap.size < w'.heap.size ∧ Below w.heap.size w w') (first | assumption | exact keepB ((Below.refl _ _).alloc (Nat.le_refl _) _) (by assumption) | exact keepD (by assumption)) (first | (go_at_call 30; go_must (first | (with_reducible refine (HT.out _).mono ?_) | (with_reducible refine (HU.out _).mono ?_) | (with_reducible refine (HN.out _).mono ?_)); go_must (rintro e w' ⟨rfl, hb⟩); go_must (have hS := keepB (b := w.heap.size) (cs := #[.int .i64 1, .int .i64 t, .int .i64 u, .int .i64 p, .int .i64 a, .int .i64 b, .int .i64 n, .int .i64 m]) (w0 := w) hb (by assumption))))
  all_goals
    obtain ⟨hc, hz, hB⟩ := hS
    go_wp2_with fail
    refine (HW.out _).mono ?_
    rintro en w5 ⟨rfl, b5⟩
    obtain ⟨hc, hz, hB⟩ := keepB (b := w.heap.size) (cs := #[.int .i64 1, .int .i64 t, .int .i64 u, .int .i64 p, .int .i64 a, .int .i64 b, .int .i64 n, .int .i64 m]) (w0 := w) b5 ⟨hc, hz, hB⟩
    clear b5
    go_wp2_with fail
    refine (HW.out _).mono ?_
    rintro en w5 ⟨rfl, b5⟩
    obtain ⟨hc, hz, hB⟩ := keepB (b := w.heap.size) (cs := #[.int .i64 1, .int .i64 t, .int .i64 u, .int .i64 p, .int .i64 a, .int .i64 b, .int .i64 n, .int .i64 m]) (w0 := w) b5 ⟨hc, hz, hB⟩
    clear b5
    go_wp2_with fail
    refine (HO.out _).mono ?_
    rintro en w5 ⟨rfl, b5⟩
    obtain ⟨hc, hz, hB⟩ := keepB (b := w.heap.size) (cs := #[.int .i64 1, .int .i64 t, .int .i64 u, .int .i64 p, .int .i64 a, .int .i64 b, .int .i64 n, .int .i64 m]) (w0 := w) b5 ⟨hc, hz, hB⟩
    clear b5
    go_wp2_with fail
    refine (HA.out _).mono ?_
    rintro en w5 ⟨rfl, b5⟩
    obtain ⟨hc, hz, hB⟩ := keepB (b := w.heap.size) (cs := #[.int .i64 1, .int .i64 t, .int .i64 u, .int .i64 p, .int .i64 a, .int .i64 b, .int .i64 n, .int .i64 m]) (w0 := w) b5 ⟨hc, hz, hB⟩
    clear b5
    go_wp2_with fail
    refine (HP.out _).mono ?_
    rintro en W2 (⟨x, hx, rfl, b2⟩ | ⟨hx, rfl, b2⟩)
    · obtain ⟨hc2, hz2, hB2⟩ := keepB (b := w.heap.size) (cs := #[.int .i64 1, .int .i64 t, .int .i64 u, .int .i64 p, .int .i64 a, .int .i64 b, .int .i64 n, .int .i64 m]) (w0 := w) b2 ⟨hc, hz, hB⟩
      have d0 := hc2 0
      have d1 := hc2 1
      have d2 := hc2 2
      have d3 := hc2 3
      have d4 := hc2 4
      have d5 := hc2 5
      have d6 := hc2 6
      have d7 := hc2 7
      simp at d0 d1 d2 d3 d4 d5 d6 d7
      clear hc2 hc hz hB b2
      obtain ⟨q, hq⟩ : ∃ q, eqEn x ⟨1, t, u, ⟨p, a, b⟩, n, m⟩ = q := ⟨_, rfl⟩
      have hEq : ∀ W, (Op.equalIn 10000 54 (.agg #[.int .i64 x.k, .int .i64 x.t, .int .i64 x.u, .int .i64 x.op.k, .int .i64 x.op.a, .int .i64 x.op.b, .int .i64 x.n, .int .i64 x.m]) (.agg #[.int .i64 1, .int .i64 t, .int .i64 u, .int .i64 p, .int .i64 a, .int .i64 b, .int .i64 n, .int .i64 m])).run Tryd.prog W = .ok q W := fun W => by rw [← hq]; exact eq_entry x ⟨1, t, u, ⟨p, a, b⟩, n, m⟩ W
      have HQ : Hid (textF ⟨1, t, u, ⟨p, a, b⟩, n, m⟩ = if q = true then some S else none) := Lib.hid (by rw [HC.out]; unfold checkF; rw [hx]; simp only []; rw [hq])
      have HBel2 := Lib.hid hB2
      unfold enV
      clear hx hq hB2 HC HP
      cases q
      · go_wp2
        go_ret2
        refine Or.inr ⟨by rw [HQ.out]; simp, rfl, ?_⟩
        exact HBel2.out.alloc HBel2.out.size _
      · go_wp2
        go_ret2
        refine Or.inl ⟨S, by rw [HQ.out]; simp, rfl, ?_⟩
        exact HBel2.out.alloc HBel2.out.size _
    · have HQ : Hid (textF ⟨1, t, u, ⟨p, a, b⟩, n, m⟩ = none) := Lib.hid (by rw [HC.out]; unfold checkF; rw [hx])
      have HBel2 := Lib.hid (hB.trans (b2.mono hB.size))
      unfold enV PEn.none
      clear hx b2 HC HP
      go_wp2
      go_ret2
      exact Or.inr ⟨HQ.out, rfl, HBel2.out.alloc HBel2.out.size _⟩
set_option maxHeartbeats 2000000 in
set_option maxRecDepth 100000 in
theorem rtext_12 (t u p a b n m : Int) (w : World) (h : (PEn.mk 1 t u ⟨p, a, b⟩ n m).ok) (hu : usesB p = 2) :
    Calls Tryd.prog 27 #[.agg #[.int .i64 1, .int .i64 t, .int .i64 u, .int .i64 p, .int .i64 a, .int .i64 b, .int .i64 n, .int .i64 m]] w (TextP w ⟨1, t, u, ⟨p, a, b⟩, n, m⟩) := by
  have ho := h.2.2.2.1
  have lt := nm_len h.2.1
  have lu := nm_len h.2.2.1
  have la := nm_len ho.2.1
  have lb := nm_len ho.2.2
  have ln := nm_len h.2.2.2.2.1
  have lm := nm_len h.2.2.2.2.2
  simp only [] at lt lu la lb ln lm
  have lt2 : (Lib.itoa t).length ≤ 21 := by simpa [nm] using lt
  have lu2 : (Lib.itoa u).length ≤ 21 := by simpa [nm] using lu
  have la2 : (Lib.itoa a).length ≤ 21 := by simpa [nm] using la
  have lb2 : (Lib.itoa b).length ≤ 21 := by simpa [nm] using lb
  have ln2 : (Lib.itoa n).length ≤ 21 := by simpa [nm] using ln
  have lm2 : (Lib.itoa m).length ≤ 21 := by simpa [nm] using lm
  have HT := Lib.hid (fun w => digits_any t w h.2.1)
  have HU := Lib.hid (fun w => digits_any u w h.2.2.1)
  have HN := Lib.hid (fun w => digits_any n w h.2.2.2.2.1)
  have HA := Lib.hid (fun w => digits_any a w ho.2.1)
  have HB := Lib.hid (fun w => digits_any b w ho.2.2)
  have HM := Lib.hid (fun w => digits_any m w h.2.2.2.2.2)
  have HW := Lib.hid (fun w => rword1_any p w)
  have hwl := word_len p
  have n1 := cat_run [32] (Lib.itoa t) (nm t) rfl (by simp) (by omega)
  have n2 := cat_run [32] (Lib.itoa u) (nm u) rfl (by simp) (by omega)
  have n3 := cat_run [32] (Lib.itoa n) (nm n) rfl (by simp) (by omega)
  obtain ⟨ov, hov⟩ := rop_word p
  have HO := Lib.hid hov
  rw [hu] at HO
  clear hov
  have HHu := Lib.hid hu
  obtain ⟨M1, hM1⟩ : ∃ x, x = wordB p ++ nm t := ⟨_, rfl⟩
  have lM1 : M1.length ≤ 40 := by rw [hM1]; simp [nm]; omega
  obtain ⟨M2, hM2⟩ : ∃ x, x = M1 ++ nm u := ⟨_, rfl⟩
  have lM2 : M2.length ≤ 80 := by rw [hM2]; simp [nm]; omega
  obtain ⟨M3, hM3⟩ : ∃ x, x = M2 ++ [32] := ⟨_, rfl⟩
  have lM3 : M3.length ≤ 90 := by rw [hM3]; simp [nm]; omega
  obtain ⟨M4, hM4⟩ : ∃ x, x = M3 ++ Lib.itoa a := ⟨_, rfl⟩
  have lM4 : M4.length ≤ 120 := by rw [hM4]; simp [nm]; omega
  obtain ⟨M5, hM5⟩ : ∃ x, x = M4 ++ [32] := ⟨_, rfl⟩
  have lM5 : M5.length ≤ 130 := by rw [hM5]; simp [nm]; omega
  obtain ⟨S, hS⟩ : ∃ x, x = M5 ++ Lib.itoa b := ⟨_, rfl⟩
  have lS : S.length ≤ 160 := by rw [hS]; simp [nm]; omega
  have c0 := cat_run (wordB p) (nm t) M1 hM1 (by first | omega | (simp; omega) | simp) (by first | omega | (simp; omega) | simp)
  have c1 := cat_run M1 (nm u) M2 hM2 (by first | omega | (simp; omega) | simp) (by first | omega | (simp; omega) | simp)
  have c2 := cat_run M2 [32] M3 hM3 (by first | omega | (simp; omega) | simp) (by first | omega | (simp; omega) | simp)
  have c3 := cat_run M3 (Lib.itoa a) M4 hM4 (by first | omega | (simp; omega) | simp) (by first | omega | (simp; omega) | simp)
  have c4 := cat_run M4 [32] M5 hM5 (by first | omega | (simp; omega) | simp) (by first | omega | (simp; omega) | simp)
  have c5 := cat_run M5 (Lib.itoa b) S hS (by first | omega | (simp; omega) | simp) (by first | omega | (simp; omega) | simp)
  have HC : Hid (textF ⟨1, t, u, ⟨p, a, b⟩, n, m⟩ = checkF S ⟨1, t, u, ⟨p, a, b⟩, n, m⟩) := Lib.hid (by
    rw [← check_cand]
    congr 1
    rw [hS, hM5, hM4, hM3, hM2, hM1]; simp [candD, hu, nm])
  have HP := Lib.hid (fun w => rparse_any S w (by omega))
  clear hM1 hM2 hM3 hM4 hM5 hS h ho
  go_enter Tryd.func27, Tryd.ntmps27
  go_wp2_with fail
  have hS0 := startB w #[.int .i64 1, .int .i64 t, .int .i64 u, .int .i64 p, .int .i64 a, .int .i64 b, .int .i64 n, .int .i64 m] 54
  go_region_held3 (fun w' => (∀ o : Nat, w'.cell? ⟨w.heap.size, o, none⟩ = (#[.int .i64 1, .int .i64 t, .int .i64 u, .int .i64 p, .int .i64 a, .int .i64 b, .int .i64 n, .int .i64 m] : Array Value)[o]?) ∧ w.heap.size < w'.heap.size ∧ Below w.heap.size w w') (first | assumption | exact keepB ((Below.refl _ _).alloc (Nat.le_refl _) _) (by assumption) | exact keepD (by assumption)) (first | (go_at_call 30; go_must (first | (with_reducible refine (HT.out _).mono ?_) | (with_reducible refine (HU.out _).mono ?_) | (with_reducible refine (HN.out _).mono ?_)); go_must (rintro e w' ⟨rfl, hb⟩); go_must (have hS := keepB (b := w.heap.size) (cs := #[.int .i64 1, .int .i64 t, .int .i64 u, .int .i64 p, .int .i64 a, .int .i64 b, .int .i64 n, .int .i64 m]) (w0 := w) hb (by assumption))))
  all_goals
    obtain ⟨hc, hz, hB⟩ := hS
    go_wp2_with fail
    refine (HW.out _).mono ?_
    rintro en w5 ⟨rfl, b5⟩
    obtain ⟨hc, hz, hB⟩ := keepB (b := w.heap.size) (cs := #[.int .i64 1, .int .i64 t, .int .i64 u, .int .i64 p, .int .i64 a, .int .i64 b, .int .i64 n, .int .i64 m]) (w0 := w) b5 ⟨hc, hz, hB⟩
    clear b5
    go_wp2_with fail
    refine (HW.out _).mono ?_
    rintro en w5 ⟨rfl, b5⟩
    obtain ⟨hc, hz, hB⟩ := keepB (b := w.heap.size) (cs := #[.int .i64 1, .int .i64 t, .int .i64 u, .int .i64 p, .int .i64 a, .int .i64 b, .int .i64 n, .int .i64 m]) (w0 := w) b5 ⟨hc, hz, hB⟩
    clear b5
    go_wp2_with fail
    refine (HO.out _).mono ?_
    rintro en w5 ⟨rfl, b5⟩
    obtain ⟨hc, hz, hB⟩ := keepB (b := w.heap.size) (cs := #[.int .i64 1, .int .i64 t, .int .i64 u, .int .i64 p, .int .i64 a, .int .i64 b, .int .i64 n, .int .i64 m]) (w0 := w) b5 ⟨hc, hz, hB⟩
    clear b5
    go_wp2_with fail
    refine (HA.out _).mono ?_
    rintro en w5 ⟨rfl, b5⟩
    obtain ⟨hc, hz, hB⟩ := keepB (b := w.heap.size) (cs := #[.int .i64 1, .int .i64 t, .int .i64 u, .int .i64 p, .int .i64 a, .int .i64 b, .int .i64 n, .int .i64 m]) (w0 := w) b5 ⟨hc, hz, hB⟩
    clear b5
    go_wp2_with fail
    refine (HB.out _).mono ?_
    rintro en w5 ⟨rfl, b5⟩
    obtain ⟨hc, hz, hB⟩ := keepB (b := w.heap.size) (cs := #[.int .i64 1, .int .i64 t, .int .i64 u, .int .i64 p, .int .i64 a, .int .i64 b, .int .i64 n, .int .i64 m]) (w0 := w) b5 ⟨hc, hz, hB⟩
    clear b5
    go_wp2_with fail
    refine (HP.out _).mono ?_
    rintro en W2 (⟨x, hx, rfl, b2⟩ | ⟨hx, rfl, b2⟩)
    · obtain ⟨hc2, hz2, hB2⟩ := keepB (b := w.heap.size) (cs := #[.int .i64 1, .int .i64 t, .int .i64 u, .int .i64 p, .int .i64 a, .int .i64 b, .int .i64 n, .int .i64 m]) (w0 := w) b2 ⟨hc, hz, hB⟩
      have d0 := hc2 0
      have d1 := hc2 1
      have d2 := hc2 2
      have d3 := hc2 3
      have d4 := hc2 4
      have d5 := hc2 5
      have d6 := hc2 6
      have d7 := hc2 7
      simp at d0 d1 d2 d3 d4 d5 d6 d7
      clear hc2 hc hz hB b2
      obtain ⟨q, hq⟩ : ∃ q, eqEn x ⟨1, t, u, ⟨p, a, b⟩, n, m⟩ = q := ⟨_, rfl⟩
      have hEq : ∀ W, (Op.equalIn 10000 54 (.agg #[.int .i64 x.k, .int .i64 x.t, .int .i64 x.u, .int .i64 x.op.k, .int .i64 x.op.a, .int .i64 x.op.b, .int .i64 x.n, .int .i64 x.m]) (.agg #[.int .i64 1, .int .i64 t, .int .i64 u, .int .i64 p, .int .i64 a, .int .i64 b, .int .i64 n, .int .i64 m])).run Tryd.prog W = .ok q W := fun W => by rw [← hq]; exact eq_entry x ⟨1, t, u, ⟨p, a, b⟩, n, m⟩ W
      have HQ : Hid (textF ⟨1, t, u, ⟨p, a, b⟩, n, m⟩ = if q = true then some S else none) := Lib.hid (by rw [HC.out]; unfold checkF; rw [hx]; simp only []; rw [hq])
      have HBel2 := Lib.hid hB2
      unfold enV
      clear hx hq hB2 HC HP
      cases q
      · go_wp2
        go_ret2
        refine Or.inr ⟨by rw [HQ.out]; simp, rfl, ?_⟩
        exact HBel2.out.alloc HBel2.out.size _
      · go_wp2
        go_ret2
        refine Or.inl ⟨S, by rw [HQ.out]; simp, rfl, ?_⟩
        exact HBel2.out.alloc HBel2.out.size _
    · have HQ : Hid (textF ⟨1, t, u, ⟨p, a, b⟩, n, m⟩ = none) := Lib.hid (by rw [HC.out]; unfold checkF; rw [hx])
      have HBel2 := Lib.hid (hB.trans (b2.mono hB.size))
      unfold enV PEn.none
      clear hx b2 HC HP
      go_wp2
      go_ret2
      exact Or.inr ⟨HQ.out, rfl, HBel2.out.alloc HBel2.out.size _⟩
set_option maxHeartbeats 2000000 in
set_option maxRecDepth 100000 in
theorem rtext_2 (t u p a b n m : Int) (w : World) (h : (PEn.mk 2 t u ⟨p, a, b⟩ n m).ok) :
    Calls Tryd.prog 27 #[.agg #[.int .i64 2, .int .i64 t, .int .i64 u, .int .i64 p, .int .i64 a, .int .i64 b, .int .i64 n, .int .i64 m]] w (TextP w ⟨2, t, u, ⟨p, a, b⟩, n, m⟩) := by
  have ho := h.2.2.2.1
  have lt := nm_len h.2.1
  have lu := nm_len h.2.2.1
  have la := nm_len ho.2.1
  have lb := nm_len ho.2.2
  have ln := nm_len h.2.2.2.2.1
  have lm := nm_len h.2.2.2.2.2
  simp only [] at lt lu la lb ln lm
  have lt2 : (Lib.itoa t).length ≤ 21 := by simpa [nm] using lt
  have lu2 : (Lib.itoa u).length ≤ 21 := by simpa [nm] using lu
  have la2 : (Lib.itoa a).length ≤ 21 := by simpa [nm] using la
  have lb2 : (Lib.itoa b).length ≤ 21 := by simpa [nm] using lb
  have ln2 : (Lib.itoa n).length ≤ 21 := by simpa [nm] using ln
  have lm2 : (Lib.itoa m).length ≤ 21 := by simpa [nm] using lm
  have HT := Lib.hid (fun w => digits_any t w h.2.1)
  have HU := Lib.hid (fun w => digits_any u w h.2.2.1)
  have HN := Lib.hid (fun w => digits_any n w h.2.2.2.2.1)
  have HA := Lib.hid (fun w => digits_any a w ho.2.1)
  have HB := Lib.hid (fun w => digits_any b w ho.2.2)
  have HM := Lib.hid (fun w => digits_any m w h.2.2.2.2.2)
  have HW := Lib.hid (fun w => rword1_any p w)
  have hwl := word_len p
  have n1 := cat_run [32] (Lib.itoa t) (nm t) rfl (by simp) (by omega)
  have n2 := cat_run [32] (Lib.itoa u) (nm u) rfl (by simp) (by omega)
  have n3 := cat_run [32] (Lib.itoa n) (nm n) rfl (by simp) (by omega)
  obtain ⟨M0, hM0⟩ : ∃ x, x = [115, 116, 101, 112] ++ nm t := ⟨_, rfl⟩
  have lM0 : M0.length ≤ 50 := by rw [hM0]; simp [nm]; omega
  obtain ⟨S, hS⟩ : ∃ x, x = M0 ++ nm n := ⟨_, rfl⟩
  have lS : S.length ≤ 80 := by rw [hS]; simp [nm]; omega
  have c0 := cat_run [115, 116, 101, 112] (nm t) M0 hM0 (by first | omega | (simp; omega) | simp) (by first | omega | (simp; omega) | simp)
  have c1 := cat_run M0 (nm n) S hS (by first | omega | (simp; omega) | simp) (by first | omega | (simp; omega) | simp)
  have HC : Hid (textF ⟨2, t, u, ⟨p, a, b⟩, n, m⟩ = checkF S ⟨2, t, u, ⟨p, a, b⟩, n, m⟩) := Lib.hid (by
    rw [← check_cand]
    congr 1
    rw [hS, hM0]; simp [candD, nm])
  have HP := Lib.hid (fun w => rparse_any S w (by omega))
  clear hM0 hS h ho
  go_enter Tryd.func27, Tryd.ntmps27
  go_wp2_with fail
  have hS0 := startB w #[.int .i64 2, .int .i64 t, .int .i64 u, .int .i64 p, .int .i64 a, .int .i64 b, .int .i64 n, .int .i64 m] 54
  go_region_held3 (fun w' => (∀ o : Nat, w'.cell? ⟨w.heap.size, o, none⟩ = (#[.int .i64 2, .int .i64 t, .int .i64 u, .int .i64 p, .int .i64 a, .int .i64 b, .int .i64 n, .int .i64 m] : Array Value)[o]?) ∧ w.heap.size < w'.heap.size ∧ Below w.heap.size w w') (first | assumption | exact keepB ((Below.refl _ _).alloc (Nat.le_refl _) _) (by assumption) | exact keepD (by assumption)) (first | (go_at_call 30; go_must (first | (with_reducible refine (HT.out _).mono ?_) | (with_reducible refine (HU.out _).mono ?_) | (with_reducible refine (HN.out _).mono ?_)); go_must (rintro e w' ⟨rfl, hb⟩); go_must (have hS := keepB (b := w.heap.size) (cs := #[.int .i64 2, .int .i64 t, .int .i64 u, .int .i64 p, .int .i64 a, .int .i64 b, .int .i64 n, .int .i64 m]) (w0 := w) hb (by assumption))))
  all_goals
    obtain ⟨hc, hz, hB⟩ := hS
    go_wp2_with fail
    refine (HP.out _).mono ?_
    rintro en W2 (⟨x, hx, rfl, b2⟩ | ⟨hx, rfl, b2⟩)
    · obtain ⟨hc2, hz2, hB2⟩ := keepB (b := w.heap.size) (cs := #[.int .i64 2, .int .i64 t, .int .i64 u, .int .i64 p, .int .i64 a, .int .i64 b, .int .i64 n, .int .i64 m]) (w0 := w) b2 ⟨hc, hz, hB⟩
      have d0 := hc2 0
      have d1 := hc2 1
      have d2 := hc2 2
      have d3 := hc2 3
      have d4 := hc2 4
      have d5 := hc2 5
      have d6 := hc2 6
      have d7 := hc2 7
      simp at d0 d1 d2 d3 d4 d5 d6 d7
      clear hc2 hc hz hB b2
      obtain ⟨q, hq⟩ : ∃ q, eqEn x ⟨2, t, u, ⟨p, a, b⟩, n, m⟩ = q := ⟨_, rfl⟩
      have hEq : ∀ W, (Op.equalIn 10000 54 (.agg #[.int .i64 x.k, .int .i64 x.t, .int .i64 x.u, .int .i64 x.op.k, .int .i64 x.op.a, .int .i64 x.op.b, .int .i64 x.n, .int .i64 x.m]) (.agg #[.int .i64 2, .int .i64 t, .int .i64 u, .int .i64 p, .int .i64 a, .int .i64 b, .int .i64 n, .int .i64 m])).run Tryd.prog W = .ok q W := fun W => by rw [← hq]; exact eq_entry x ⟨2, t, u, ⟨p, a, b⟩, n, m⟩ W
      have HQ : Hid (textF ⟨2, t, u, ⟨p, a, b⟩, n, m⟩ = if q = true then some S else none) := Lib.hid (by rw [HC.out]; unfold checkF; rw [hx]; simp only []; rw [hq])
      have HBel2 := Lib.hid hB2
      unfold enV
      clear hx hq hB2 HC HP
      cases q
      · go_wp2
        go_ret2
        refine Or.inr ⟨by rw [HQ.out]; simp, rfl, ?_⟩
        exact HBel2.out.alloc HBel2.out.size _
      · go_wp2
        go_ret2
        refine Or.inl ⟨S, by rw [HQ.out]; simp, rfl, ?_⟩
        exact HBel2.out.alloc HBel2.out.size _
    · have HQ : Hid (textF ⟨2, t, u, ⟨p, a, b⟩, n, m⟩ = none) := Lib.hid (by rw [HC.out]; unfold checkF; rw [hx])
      have HBel2 := Lib.hid (hB.trans (b2.mono hB.size))
      unfold enV PEn.none
      clear hx b2 HC HP
      go_wp2
      go_ret2
      exact Or.inr ⟨HQ.out, rfl, HBel2.out.alloc HBel2.out.size _⟩
set_option maxHeartbeats 2000000 in
set_option maxRecDepth 100000 in
theorem rtext_3 (t u p a b n m : Int) (w : World) (h : (PEn.mk 3 t u ⟨p, a, b⟩ n m).ok) :
    Calls Tryd.prog 27 #[.agg #[.int .i64 3, .int .i64 t, .int .i64 u, .int .i64 p, .int .i64 a, .int .i64 b, .int .i64 n, .int .i64 m]] w (TextP w ⟨3, t, u, ⟨p, a, b⟩, n, m⟩) := by
  have ho := h.2.2.2.1
  have lt := nm_len h.2.1
  have lu := nm_len h.2.2.1
  have la := nm_len ho.2.1
  have lb := nm_len ho.2.2
  have ln := nm_len h.2.2.2.2.1
  have lm := nm_len h.2.2.2.2.2
  simp only [] at lt lu la lb ln lm
  have lt2 : (Lib.itoa t).length ≤ 21 := by simpa [nm] using lt
  have lu2 : (Lib.itoa u).length ≤ 21 := by simpa [nm] using lu
  have la2 : (Lib.itoa a).length ≤ 21 := by simpa [nm] using la
  have lb2 : (Lib.itoa b).length ≤ 21 := by simpa [nm] using lb
  have ln2 : (Lib.itoa n).length ≤ 21 := by simpa [nm] using ln
  have lm2 : (Lib.itoa m).length ≤ 21 := by simpa [nm] using lm
  have HT := Lib.hid (fun w => digits_any t w h.2.1)
  have HU := Lib.hid (fun w => digits_any u w h.2.2.1)
  have HN := Lib.hid (fun w => digits_any n w h.2.2.2.2.1)
  have HA := Lib.hid (fun w => digits_any a w ho.2.1)
  have HB := Lib.hid (fun w => digits_any b w ho.2.2)
  have HM := Lib.hid (fun w => digits_any m w h.2.2.2.2.2)
  have HW := Lib.hid (fun w => rword1_any p w)
  have hwl := word_len p
  have n1 := cat_run [32] (Lib.itoa t) (nm t) rfl (by simp) (by omega)
  have n2 := cat_run [32] (Lib.itoa u) (nm u) rfl (by simp) (by omega)
  have n3 := cat_run [32] (Lib.itoa n) (nm n) rfl (by simp) (by omega)
  obtain ⟨M0, hM0⟩ : ∃ x, x = [101, 118, 105, 99, 116] ++ nm n := ⟨_, rfl⟩
  have lM0 : M0.length ≤ 50 := by rw [hM0]; simp [nm]; omega
  obtain ⟨M1, hM1⟩ : ∃ x, x = M0 ++ [32] := ⟨_, rfl⟩
  have lM1 : M1.length ≤ 80 := by rw [hM1]; simp [nm]; omega
  obtain ⟨S, hS⟩ : ∃ x, x = M1 ++ Lib.itoa m := ⟨_, rfl⟩
  have lS : S.length ≤ 110 := by rw [hS]; simp [nm]; omega
  have c0 := cat_run [101, 118, 105, 99, 116] (nm n) M0 hM0 (by first | omega | (simp; omega) | simp) (by first | omega | (simp; omega) | simp)
  have c1 := cat_run M0 ([32]) M1 hM1 (by first | omega | (simp; omega) | simp) (by first | omega | (simp; omega) | simp)
  have c2 := cat_run M1 (Lib.itoa m) S hS (by first | omega | (simp; omega) | simp) (by first | omega | (simp; omega) | simp)
  have HC : Hid (textF ⟨3, t, u, ⟨p, a, b⟩, n, m⟩ = checkF S ⟨3, t, u, ⟨p, a, b⟩, n, m⟩) := Lib.hid (by
    rw [← check_cand]
    congr 1
    rw [hS, hM1, hM0]; simp [candD, nm])
  have HP := Lib.hid (fun w => rparse_any S w (by omega))
  clear hM0 hM1 hS h ho
  go_enter Tryd.func27, Tryd.ntmps27
  go_wp2_with fail
  have hS0 := startB w #[.int .i64 3, .int .i64 t, .int .i64 u, .int .i64 p, .int .i64 a, .int .i64 b, .int .i64 n, .int .i64 m] 54
  go_region_held3 (fun w' => (∀ o : Nat, w'.cell? ⟨w.heap.size, o, none⟩ = (#[.int .i64 3, .int .i64 t, .int .i64 u, .int .i64 p, .int .i64 a, .int .i64 b, .int .i64 n, .int .i64 m] : Array Value)[o]?) ∧ w.heap.size < w'.heap.size ∧ Below w.heap.size w w') (first | assumption | exact keepB ((Below.refl _ _).alloc (Nat.le_refl _) _) (by assumption) | exact keepD (by assumption)) (first | (go_at_call 30; go_must (first | (with_reducible refine (HT.out _).mono ?_) | (with_reducible refine (HU.out _).mono ?_) | (with_reducible refine (HN.out _).mono ?_)); go_must (rintro e w' ⟨rfl, hb⟩); go_must (have hS := keepB (b := w.heap.size) (cs := #[.int .i64 3, .int .i64 t, .int .i64 u, .int .i64 p, .int .i64 a, .int .i64 b, .int .i64 n, .int .i64 m]) (w0 := w) hb (by assumption))))
  all_goals
    obtain ⟨hc, hz, hB⟩ := hS
    go_wp2_with fail
    refine (HM.out _).mono ?_
    rintro en w5 ⟨rfl, b5⟩
    obtain ⟨hc, hz, hB⟩ := keepB (b := w.heap.size) (cs := #[.int .i64 3, .int .i64 t, .int .i64 u, .int .i64 p, .int .i64 a, .int .i64 b, .int .i64 n, .int .i64 m]) (w0 := w) b5 ⟨hc, hz, hB⟩
    clear b5
    go_wp2_with fail
    refine (HP.out _).mono ?_
    rintro en W2 (⟨x, hx, rfl, b2⟩ | ⟨hx, rfl, b2⟩)
    · obtain ⟨hc2, hz2, hB2⟩ := keepB (b := w.heap.size) (cs := #[.int .i64 3, .int .i64 t, .int .i64 u, .int .i64 p, .int .i64 a, .int .i64 b, .int .i64 n, .int .i64 m]) (w0 := w) b2 ⟨hc, hz, hB⟩
      have d0 := hc2 0
      have d1 := hc2 1
      have d2 := hc2 2
      have d3 := hc2 3
      have d4 := hc2 4
      have d5 := hc2 5
      have d6 := hc2 6
      have d7 := hc2 7
      simp at d0 d1 d2 d3 d4 d5 d6 d7
      clear hc2 hc hz hB b2
      obtain ⟨q, hq⟩ : ∃ q, eqEn x ⟨3, t, u, ⟨p, a, b⟩, n, m⟩ = q := ⟨_, rfl⟩
      have hEq : ∀ W, (Op.equalIn 10000 54 (.agg #[.int .i64 x.k, .int .i64 x.t, .int .i64 x.u, .int .i64 x.op.k, .int .i64 x.op.a, .int .i64 x.op.b, .int .i64 x.n, .int .i64 x.m]) (.agg #[.int .i64 3, .int .i64 t, .int .i64 u, .int .i64 p, .int .i64 a, .int .i64 b, .int .i64 n, .int .i64 m])).run Tryd.prog W = .ok q W := fun W => by rw [← hq]; exact eq_entry x ⟨3, t, u, ⟨p, a, b⟩, n, m⟩ W
      have HQ : Hid (textF ⟨3, t, u, ⟨p, a, b⟩, n, m⟩ = if q = true then some S else none) := Lib.hid (by rw [HC.out]; unfold checkF; rw [hx]; simp only []; rw [hq])
      have HBel2 := Lib.hid hB2
      unfold enV
      clear hx hq hB2 HC HP
      cases q
      · go_wp2
        go_ret2
        refine Or.inr ⟨by rw [HQ.out]; simp, rfl, ?_⟩
        exact HBel2.out.alloc HBel2.out.size _
      · go_wp2
        go_ret2
        refine Or.inl ⟨S, by rw [HQ.out]; simp, rfl, ?_⟩
        exact HBel2.out.alloc HBel2.out.size _
    · have HQ : Hid (textF ⟨3, t, u, ⟨p, a, b⟩, n, m⟩ = none) := Lib.hid (by rw [HC.out]; unfold checkF; rw [hx])
      have HBel2 := Lib.hid (hB.trans (b2.mono hB.size))
      unfold enV PEn.none
      clear hx b2 HC HP
      go_wp2
      go_ret2
      exact Or.inr ⟨HQ.out, rfl, HBel2.out.alloc HBel2.out.size _⟩
set_option maxHeartbeats 2000000 in
set_option maxRecDepth 100000 in
theorem rtext_4 (t u p a b n m : Int) (w : World) (h : (PEn.mk 4 t u ⟨p, a, b⟩ n m).ok) :
    Calls Tryd.prog 27 #[.agg #[.int .i64 4, .int .i64 t, .int .i64 u, .int .i64 p, .int .i64 a, .int .i64 b, .int .i64 n, .int .i64 m]] w (TextP w ⟨4, t, u, ⟨p, a, b⟩, n, m⟩) := by
  have ho := h.2.2.2.1
  have lt := nm_len h.2.1
  have lu := nm_len h.2.2.1
  have la := nm_len ho.2.1
  have lb := nm_len ho.2.2
  have ln := nm_len h.2.2.2.2.1
  have lm := nm_len h.2.2.2.2.2
  simp only [] at lt lu la lb ln lm
  have lt2 : (Lib.itoa t).length ≤ 21 := by simpa [nm] using lt
  have lu2 : (Lib.itoa u).length ≤ 21 := by simpa [nm] using lu
  have la2 : (Lib.itoa a).length ≤ 21 := by simpa [nm] using la
  have lb2 : (Lib.itoa b).length ≤ 21 := by simpa [nm] using lb
  have ln2 : (Lib.itoa n).length ≤ 21 := by simpa [nm] using ln
  have lm2 : (Lib.itoa m).length ≤ 21 := by simpa [nm] using lm
  have HT := Lib.hid (fun w => digits_any t w h.2.1)
  have HU := Lib.hid (fun w => digits_any u w h.2.2.1)
  have HN := Lib.hid (fun w => digits_any n w h.2.2.2.2.1)
  have HA := Lib.hid (fun w => digits_any a w ho.2.1)
  have HB := Lib.hid (fun w => digits_any b w ho.2.2)
  have HM := Lib.hid (fun w => digits_any m w h.2.2.2.2.2)
  have HW := Lib.hid (fun w => rword1_any p w)
  have hwl := word_len p
  have n1 := cat_run [32] (Lib.itoa t) (nm t) rfl (by simp) (by omega)
  have n2 := cat_run [32] (Lib.itoa u) (nm u) rfl (by simp) (by omega)
  have n3 := cat_run [32] (Lib.itoa n) (nm n) rfl (by simp) (by omega)
  have HC : Hid (textF ⟨4, t, u, ⟨p, a, b⟩, n, m⟩ = checkF [99, 114, 97, 115, 104] ⟨4, t, u, ⟨p, a, b⟩, n, m⟩) := Lib.hid (by
    rw [← check_cand]
    congr 1
    all_goals simp [candD])
  have HP := Lib.hid (fun w => rparse_any [99, 114, 97, 115, 104] w (by simp))
  clear h ho
  go_enter Tryd.func27, Tryd.ntmps27
  go_wp2_with fail
  have hS0 := startB w #[.int .i64 4, .int .i64 t, .int .i64 u, .int .i64 p, .int .i64 a, .int .i64 b, .int .i64 n, .int .i64 m] 54
  go_region_held3 (fun w' => (∀ o : Nat, w'.cell? ⟨w.heap.size, o, none⟩ = (#[.int .i64 4, .int .i64 t, .int .i64 u, .int .i64 p, .int .i64 a, .int .i64 b, .int .i64 n, .int .i64 m] : Array Value)[o]?) ∧ w.heap.size < w'.heap.size ∧ Below w.heap.size w w') (first | assumption | exact keepB ((Below.refl _ _).alloc (Nat.le_refl _) _) (by assumption) | exact keepD (by assumption)) (first | (go_at_call 30; go_must (first | (with_reducible refine (HT.out _).mono ?_) | (with_reducible refine (HU.out _).mono ?_) | (with_reducible refine (HN.out _).mono ?_)); go_must (rintro e w' ⟨rfl, hb⟩); go_must (have hS := keepB (b := w.heap.size) (cs := #[.int .i64 4, .int .i64 t, .int .i64 u, .int .i64 p, .int .i64 a, .int .i64 b, .int .i64 n, .int .i64 m]) (w0 := w) hb (by assumption))))
  all_goals
    obtain ⟨hc, hz, hB⟩ := hS
    go_wp2_with fail
    refine (HP.out _).mono ?_
    rintro en W2 (⟨x, hx, rfl, b2⟩ | ⟨hx, rfl, b2⟩)
    · obtain ⟨hc2, hz2, hB2⟩ := keepB (b := w.heap.size) (cs := #[.int .i64 4, .int .i64 t, .int .i64 u, .int .i64 p, .int .i64 a, .int .i64 b, .int .i64 n, .int .i64 m]) (w0 := w) b2 ⟨hc, hz, hB⟩
      have d0 := hc2 0
      have d1 := hc2 1
      have d2 := hc2 2
      have d3 := hc2 3
      have d4 := hc2 4
      have d5 := hc2 5
      have d6 := hc2 6
      have d7 := hc2 7
      simp at d0 d1 d2 d3 d4 d5 d6 d7
      clear hc2 hc hz hB b2
      obtain ⟨q, hq⟩ : ∃ q, eqEn x ⟨4, t, u, ⟨p, a, b⟩, n, m⟩ = q := ⟨_, rfl⟩
      have hEq : ∀ W, (Op.equalIn 10000 54 (.agg #[.int .i64 x.k, .int .i64 x.t, .int .i64 x.u, .int .i64 x.op.k, .int .i64 x.op.a, .int .i64 x.op.b, .int .i64 x.n, .int .i64 x.m]) (.agg #[.int .i64 4, .int .i64 t, .int .i64 u, .int .i64 p, .int .i64 a, .int .i64 b, .int .i64 n, .int .i64 m])).run Tryd.prog W = .ok q W := fun W => by rw [← hq]; exact eq_entry x ⟨4, t, u, ⟨p, a, b⟩, n, m⟩ W
      have HQ : Hid (textF ⟨4, t, u, ⟨p, a, b⟩, n, m⟩ = if q = true then some [99, 114, 97, 115, 104] else none) := Lib.hid (by rw [HC.out]; unfold checkF; rw [hx]; simp only []; rw [hq])
      have HBel2 := Lib.hid hB2
      unfold enV
      clear hx hq hB2 HC HP
      cases q
      · go_wp2
        go_ret2
        refine Or.inr ⟨by rw [HQ.out]; simp, rfl, ?_⟩
        exact HBel2.out.alloc HBel2.out.size _
      · go_wp2
        go_ret2
        refine Or.inl ⟨[99, 114, 97, 115, 104], by rw [HQ.out]; simp, rfl, ?_⟩
        exact HBel2.out.alloc HBel2.out.size _
    · have HQ : Hid (textF ⟨4, t, u, ⟨p, a, b⟩, n, m⟩ = none) := Lib.hid (by rw [HC.out]; unfold checkF; rw [hx])
      have HBel2 := Lib.hid (hB.trans (b2.mono hB.size))
      unfold enV PEn.none
      clear hx b2 HC HP
      go_wp2
      go_ret2
      exact Or.inr ⟨HQ.out, rfl, HBel2.out.alloc HBel2.out.size _⟩
set_option maxHeartbeats 2000000 in
set_option maxRecDepth 100000 in
theorem rtext_0 (k t u p a b n m : Int) (w : World) (h : (PEn.mk k t u ⟨p, a, b⟩ n m).ok) (h1 : k ≠ 1) (h2 : k ≠ 2) (h3 : k ≠ 3) (h4 : k ≠ 4) (h5 : k ≠ 5) (h6 : k ≠ 6) :
    Calls Tryd.prog 27 #[.agg #[.int .i64 k, .int .i64 t, .int .i64 u, .int .i64 p, .int .i64 a, .int .i64 b, .int .i64 n, .int .i64 m]] w (TextP w ⟨k, t, u, ⟨p, a, b⟩, n, m⟩) := by
  have ho := h.2.2.2.1
  have lt := nm_len h.2.1
  have lu := nm_len h.2.2.1
  have la := nm_len ho.2.1
  have lb := nm_len ho.2.2
  have ln := nm_len h.2.2.2.2.1
  have lm := nm_len h.2.2.2.2.2
  simp only [] at lt lu la lb ln lm
  have lt2 : (Lib.itoa t).length ≤ 21 := by simpa [nm] using lt
  have lu2 : (Lib.itoa u).length ≤ 21 := by simpa [nm] using lu
  have la2 : (Lib.itoa a).length ≤ 21 := by simpa [nm] using la
  have lb2 : (Lib.itoa b).length ≤ 21 := by simpa [nm] using lb
  have ln2 : (Lib.itoa n).length ≤ 21 := by simpa [nm] using ln
  have lm2 : (Lib.itoa m).length ≤ 21 := by simpa [nm] using lm
  have HT := Lib.hid (fun w => digits_any t w h.2.1)
  have HU := Lib.hid (fun w => digits_any u w h.2.2.1)
  have HN := Lib.hid (fun w => digits_any n w h.2.2.2.2.1)
  have HA := Lib.hid (fun w => digits_any a w ho.2.1)
  have HB := Lib.hid (fun w => digits_any b w ho.2.2)
  have HM := Lib.hid (fun w => digits_any m w h.2.2.2.2.2)
  have HW := Lib.hid (fun w => rword1_any p w)
  have hwl := word_len p
  have n1 := cat_run [32] (Lib.itoa t) (nm t) rfl (by simp) (by omega)
  have n2 := cat_run [32] (Lib.itoa u) (nm u) rfl (by simp) (by omega)
  have n3 := cat_run [32] (Lib.itoa n) (nm n) rfl (by simp) (by omega)
  have e1 : (k == 1) = false := by simpa using h1
  have e2 : (k == 2) = false := by simpa using h2
  have e3 : (k == 3) = false := by simpa using h3
  have e4 : (k == 4) = false := by simpa using h4
  have e5 : (k == 5) = false := by simpa using h5
  have e6 : (k == 6) = false := by simpa using h6
  have HC : Hid (textF ⟨k, t, u, ⟨p, a, b⟩, n, m⟩ = checkF [] ⟨k, t, u, ⟨p, a, b⟩, n, m⟩) := Lib.hid (by
    rw [← check_cand]
    congr 1
    all_goals simp [candD, h1, h2, h3, h4, h5, h6])
  have HP := Lib.hid (fun w => rparse_any [] w (by simp))
  clear h ho
  go_enter Tryd.func27, Tryd.ntmps27
  go_wp2_with fail
  have hS0 := startB w #[.int .i64 k, .int .i64 t, .int .i64 u, .int .i64 p, .int .i64 a, .int .i64 b, .int .i64 n, .int .i64 m] 54
  go_region_held3 (fun w' => (∀ o : Nat, w'.cell? ⟨w.heap.size, o, none⟩ = (#[.int .i64 k, .int .i64 t, .int .i64 u, .int .i64 p, .int .i64 a, .int .i64 b, .int .i64 n, .int .i64 m] : Array Value)[o]?) ∧ w.heap.size < w'.heap.size ∧ Below w.heap.size w w') (first | assumption | exact keepB ((Below.refl _ _).alloc (Nat.le_refl _) _) (by assumption) | exact keepD (by assumption)) (first | (go_at_call 30; go_must (first | (with_reducible refine (HT.out _).mono ?_) | (with_reducible refine (HU.out _).mono ?_) | (with_reducible refine (HN.out _).mono ?_)); go_must (rintro e w' ⟨rfl, hb⟩); go_must (have hS := keepB (b := w.heap.size) (cs := #[.int .i64 k, .int .i64 t, .int .i64 u, .int .i64 p, .int .i64 a, .int .i64 b, .int .i64 n, .int .i64 m]) (w0 := w) hb (by assumption))))
  all_goals
    obtain ⟨hc, hz, hB⟩ := hS
    go_wp2_with fail
    refine (HP.out _).mono ?_
    rintro en W2 (⟨x, hx, rfl, b2⟩ | ⟨hx, rfl, b2⟩)
    · obtain ⟨hc2, hz2, hB2⟩ := keepB (b := w.heap.size) (cs := #[.int .i64 k, .int .i64 t, .int .i64 u, .int .i64 p, .int .i64 a, .int .i64 b, .int .i64 n, .int .i64 m]) (w0 := w) b2 ⟨hc, hz, hB⟩
      have d0 := hc2 0
      have d1 := hc2 1
      have d2 := hc2 2
      have d3 := hc2 3
      have d4 := hc2 4
      have d5 := hc2 5
      have d6 := hc2 6
      have d7 := hc2 7
      simp at d0 d1 d2 d3 d4 d5 d6 d7
      clear hc2 hc hz hB b2
      obtain ⟨q, hq⟩ : ∃ q, eqEn x ⟨k, t, u, ⟨p, a, b⟩, n, m⟩ = q := ⟨_, rfl⟩
      have hEq : ∀ W, (Op.equalIn 10000 54 (.agg #[.int .i64 x.k, .int .i64 x.t, .int .i64 x.u, .int .i64 x.op.k, .int .i64 x.op.a, .int .i64 x.op.b, .int .i64 x.n, .int .i64 x.m]) (.agg #[.int .i64 k, .int .i64 t, .int .i64 u, .int .i64 p, .int .i64 a, .int .i64 b, .int .i64 n, .int .i64 m])).run Tryd.prog W = .ok q W := fun W => by rw [← hq]; exact eq_entry x ⟨k, t, u, ⟨p, a, b⟩, n, m⟩ W
      have HQ : Hid (textF ⟨k, t, u, ⟨p, a, b⟩, n, m⟩ = if q = true then some [] else none) := Lib.hid (by rw [HC.out]; unfold checkF; rw [hx]; simp only []; rw [hq])
      have HBel2 := Lib.hid hB2
      unfold enV
      clear hx hq hB2 HC HP
      cases q
      · go_wp2
        go_ret2
        refine Or.inr ⟨by rw [HQ.out]; simp, rfl, ?_⟩
        exact HBel2.out.alloc HBel2.out.size _
      · go_wp2
        go_ret2
        refine Or.inl ⟨[], by rw [HQ.out]; simp, rfl, ?_⟩
        exact HBel2.out.alloc HBel2.out.size _
    · have HQ : Hid (textF ⟨k, t, u, ⟨p, a, b⟩, n, m⟩ = none) := Lib.hid (by rw [HC.out]; unfold checkF; rw [hx])
      have HBel2 := Lib.hid (hB.trans (b2.mono hB.size))
      unfold enV PEn.none
      clear hx b2 HC HP
      go_wp2
      go_ret2
      exact Or.inr ⟨HQ.out, rfl, HBel2.out.alloc HBel2.out.size _⟩
set_option maxHeartbeats 2000000 in
set_option maxRecDepth 100000 in
theorem rtext_5 (t u p a b n m : Int) (w : World) (h : (PEn.mk 5 t u ⟨p, a, b⟩ n m).ok) :
    Calls Tryd.prog 27 #[.agg #[.int .i64 5, .int .i64 t, .int .i64 u, .int .i64 p, .int .i64 a, .int .i64 b, .int .i64 n, .int .i64 m]] w (TextP w ⟨5, t, u, ⟨p, a, b⟩, n, m⟩) := by
  have ho := h.2.2.2.1
  have lt := nm_len h.2.1
  have lu := nm_len h.2.2.1
  have la := nm_len ho.2.1
  have lb := nm_len ho.2.2
  have ln := nm_len h.2.2.2.2.1
  have lm := nm_len h.2.2.2.2.2
  simp only [] at lt lu la lb ln lm
  have lt2 : (Lib.itoa t).length ≤ 21 := by simpa [nm] using lt
  have lu2 : (Lib.itoa u).length ≤ 21 := by simpa [nm] using lu
  have la2 : (Lib.itoa a).length ≤ 21 := by simpa [nm] using la
  have lb2 : (Lib.itoa b).length ≤ 21 := by simpa [nm] using lb
  have ln2 : (Lib.itoa n).length ≤ 21 := by simpa [nm] using ln
  have lm2 : (Lib.itoa m).length ≤ 21 := by simpa [nm] using lm
  have HT := Lib.hid (fun w => digits_any t w h.2.1)
  have HU := Lib.hid (fun w => digits_any u w h.2.2.1)
  have HN := Lib.hid (fun w => digits_any n w h.2.2.2.2.1)
  have HA := Lib.hid (fun w => digits_any a w ho.2.1)
  have HB := Lib.hid (fun w => digits_any b w ho.2.2)
  have HM := Lib.hid (fun w => digits_any m w h.2.2.2.2.2)
  have HW := Lib.hid (fun w => rword1_any p w)
  have hwl := word_len p
  have n1 := cat_run [32] (Lib.itoa t) (nm t) rfl (by simp) (by omega)
  have n2 := cat_run [32] (Lib.itoa u) (nm u) rfl (by simp) (by omega)
  have n3 := cat_run [32] (Lib.itoa n) (nm n) rfl (by simp) (by omega)
  obtain ⟨S, hS⟩ : ∃ x, x = [109, 101, 110, 100] ++ nm n := ⟨_, rfl⟩
  have lS : S.length ≤ 50 := by rw [hS]; simp [nm]; omega
  have c0 := cat_run [109, 101, 110, 100] (nm n) S hS (by first | omega | (simp; omega) | simp) (by first | omega | (simp; omega) | simp)
  have HC : Hid (textF ⟨5, t, u, ⟨p, a, b⟩, n, m⟩ = checkF S ⟨5, t, u, ⟨p, a, b⟩, n, m⟩) := Lib.hid (by
    rw [← check_cand]
    congr 1
    rw [hS]; simp [candD, nm])
  have HP := Lib.hid (fun w => rparse_any S w (by omega))
  clear hS h ho
  go_enter Tryd.func27, Tryd.ntmps27
  go_wp2_with fail
  have hS0 := startB w #[.int .i64 5, .int .i64 t, .int .i64 u, .int .i64 p, .int .i64 a, .int .i64 b, .int .i64 n, .int .i64 m] 54
  go_region_held3 (fun w' => (∀ o : Nat, w'.cell? ⟨w.heap.size, o, none⟩ = (#[.int .i64 5, .int .i64 t, .int .i64 u, .int .i64 p, .int .i64 a, .int .i64 b, .int .i64 n, .int .i64 m] : Array Value)[o]?) ∧ w.heap.size < w'.heap.size ∧ Below w.heap.size w w') (first | assumption | exact keepB ((Below.refl _ _).alloc (Nat.le_refl _) _) (by assumption) | exact keepD (by assumption)) (first | (go_at_call 30; go_must (first | (with_reducible refine (HT.out _).mono ?_) | (with_reducible refine (HU.out _).mono ?_) | (with_reducible refine (HN.out _).mono ?_)); go_must (rintro e w' ⟨rfl, hb⟩); go_must (have hS := keepB (b := w.heap.size) (cs := #[.int .i64 5, .int .i64 t, .int .i64 u, .int .i64 p, .int .i64 a, .int .i64 b, .int .i64 n, .int .i64 m]) (w0 := w) hb (by assumption))))
  all_goals
    obtain ⟨hc, hz, hB⟩ := hS
    go_wp2_with fail
    refine (HP.out _).mono ?_
    rintro en W2 (⟨x, hx, rfl, b2⟩ | ⟨hx, rfl, b2⟩)
    · obtain ⟨hc2, hz2, hB2⟩ := keepB (b := w.heap.size) (cs := #[.int .i64 5, .int .i64 t, .int .i64 u, .int .i64 p, .int .i64 a, .int .i64 b, .int .i64 n, .int .i64 m]) (w0 := w) b2 ⟨hc, hz, hB⟩
      have d0 := hc2 0
      have d1 := hc2 1
      have d2 := hc2 2
      have d3 := hc2 3
      have d4 := hc2 4
      have d5 := hc2 5
      have d6 := hc2 6
      have d7 := hc2 7
      simp at d0 d1 d2 d3 d4 d5 d6 d7
      clear hc2 hc hz hB b2
      obtain ⟨q, hq⟩ : ∃ q, eqEn x ⟨5, t, u, ⟨p, a, b⟩, n, m⟩ = q := ⟨_, rfl⟩
      have hEq : ∀ W, (Op.equalIn 10000 54 (.agg #[.int .i64 x.k, .int .i64 x.t, .int .i64 x.u, .int .i64 x.op.k, .int .i64 x.op.a, .int .i64 x.op.b, .int .i64 x.n, .int .i64 x.m]) (.agg #[.int .i64 5, .int .i64 t, .int .i64 u, .int .i64 p, .int .i64 a, .int .i64 b, .int .i64 n, .int .i64 m])).run Tryd.prog W = .ok q W := fun W => by rw [← hq]; exact eq_entry x ⟨5, t, u, ⟨p, a, b⟩, n, m⟩ W
      have HQ : Hid (textF ⟨5, t, u, ⟨p, a, b⟩, n, m⟩ = if q = true then some S else none) := Lib.hid (by rw [HC.out]; unfold checkF; rw [hx]; simp only []; rw [hq])
      have HBel2 := Lib.hid hB2
      unfold enV
      clear hx hq hB2 HC HP
      cases q
      · go_wp2
        go_ret2
        refine Or.inr ⟨by rw [HQ.out]; simp, rfl, ?_⟩
        exact HBel2.out.alloc HBel2.out.size _
      · go_wp2
        go_ret2
        refine Or.inl ⟨S, by rw [HQ.out]; simp, rfl, ?_⟩
        exact HBel2.out.alloc HBel2.out.size _
    · have HQ : Hid (textF ⟨5, t, u, ⟨p, a, b⟩, n, m⟩ = none) := Lib.hid (by rw [HC.out]; unfold checkF; rw [hx])
      have HBel2 := Lib.hid (hB.trans (b2.mono hB.size))
      unfold enV PEn.none
      clear hx b2 HC HP
      go_wp2
      go_ret2
      exact Or.inr ⟨HQ.out, rfl, HBel2.out.alloc HBel2.out.size _⟩
set_option maxHeartbeats 2000000 in
set_option maxRecDepth 100000 in
theorem rtext_6 (t u p a b n m : Int) (w : World) (h : (PEn.mk 6 t u ⟨p, a, b⟩ n m).ok) :
    Calls Tryd.prog 27 #[.agg #[.int .i64 6, .int .i64 t, .int .i64 u, .int .i64 p, .int .i64 a, .int .i64 b, .int .i64 n, .int .i64 m]] w (TextP w ⟨6, t, u, ⟨p, a, b⟩, n, m⟩) := by
  have ho := h.2.2.2.1
  have lt := nm_len h.2.1
  have lu := nm_len h.2.2.1
  have la := nm_len ho.2.1
  have lb := nm_len ho.2.2
  have ln := nm_len h.2.2.2.2.1
  have lm := nm_len h.2.2.2.2.2
  simp only [] at lt lu la lb ln lm
  have lt2 : (Lib.itoa t).length ≤ 21 := by simpa [nm] using lt
  have lu2 : (Lib.itoa u).length ≤ 21 := by simpa [nm] using lu
  have la2 : (Lib.itoa a).length ≤ 21 := by simpa [nm] using la
  have lb2 : (Lib.itoa b).length ≤ 21 := by simpa [nm] using lb
  have ln2 : (Lib.itoa n).length ≤ 21 := by simpa [nm] using ln
  have lm2 : (Lib.itoa m).length ≤ 21 := by simpa [nm] using lm
  have HT := Lib.hid (fun w => digits_any t w h.2.1)
  have HU := Lib.hid (fun w => digits_any u w h.2.2.1)
  have HN := Lib.hid (fun w => digits_any n w h.2.2.2.2.1)
  have HA := Lib.hid (fun w => digits_any a w ho.2.1)
  have HB := Lib.hid (fun w => digits_any b w ho.2.2)
  have HM := Lib.hid (fun w => digits_any m w h.2.2.2.2.2)
  have HW := Lib.hid (fun w => rword1_any p w)
  have hwl := word_len p
  have n1 := cat_run [32] (Lib.itoa t) (nm t) rfl (by simp) (by omega)
  have n2 := cat_run [32] (Lib.itoa u) (nm u) rfl (by simp) (by omega)
  have n3 := cat_run [32] (Lib.itoa n) (nm n) rfl (by simp) (by omega)
  obtain ⟨M0, hM0⟩ : ∃ x, x = [114, 101, 115, 111, 108, 118, 101] ++ nm t := ⟨_, rfl⟩
  have lM0 : M0.length ≤ 50 := by rw [hM0]; simp [nm]; omega
  obtain ⟨S, hS⟩ : ∃ x, x = M0 ++ nm u := ⟨_, rfl⟩
  have lS : S.length ≤ 80 := by rw [hS]; simp [nm]; omega
  have c0 := cat_run [114, 101, 115, 111, 108, 118, 101] (nm t) M0 hM0 (by first | omega | (simp; omega) | simp) (by first | omega | (simp; omega) | simp)
  have c1 := cat_run M0 (nm u) S hS (by first | omega | (simp; omega) | simp) (by first | omega | (simp; omega) | simp)
  have HC : Hid (textF ⟨6, t, u, ⟨p, a, b⟩, n, m⟩ = checkF S ⟨6, t, u, ⟨p, a, b⟩, n, m⟩) := Lib.hid (by
    rw [← check_cand]
    congr 1
    rw [hS, hM0]; simp [candD, nm])
  have HP := Lib.hid (fun w => rparse_any S w (by omega))
  clear hM0 hS h ho
  go_enter Tryd.func27, Tryd.ntmps27
  go_wp2_with fail
  have hS0 := startB w #[.int .i64 6, .int .i64 t, .int .i64 u, .int .i64 p, .int .i64 a, .int .i64 b, .int .i64 n, .int .i64 m] 54
  go_region_held3 (fun w' => (∀ o : Nat, w'.cell? ⟨w.heap.size, o, none⟩ = (#[.int .i64 6, .int .i64 t, .int .i64 u, .int .i64 p, .int .i64 a, .int .i64 b, .int .i64 n, .int .i64 m] : Array Value)[o]?) ∧ w.heap.size < w'.heap.size ∧ Below w.heap.size w w') (first | assumption | exact keepB ((Below.refl _ _).alloc (Nat.le_refl _) _) (by assumption) | exact keepD (by assumption)) (first | (go_at_call 30; go_must (first | (with_reducible refine (HT.out _).mono ?_) | (with_reducible refine (HU.out _).mono ?_) | (with_reducible refine (HN.out _).mono ?_)); go_must (rintro e w' ⟨rfl, hb⟩); go_must (have hS := keepB (b := w.heap.size) (cs := #[.int .i64 6, .int .i64 t, .int .i64 u, .int .i64 p, .int .i64 a, .int .i64 b, .int .i64 n, .int .i64 m]) (w0 := w) hb (by assumption))))
  all_goals
    obtain ⟨hc, hz, hB⟩ := hS
    go_wp2_with fail
    refine (HP.out _).mono ?_
    rintro en W2 (⟨x, hx, rfl, b2⟩ | ⟨hx, rfl, b2⟩)
    · obtain ⟨hc2, hz2, hB2⟩ := keepB (b := w.heap.size) (cs := #[.int .i64 6, .int .i64 t, .int .i64 u, .int .i64 p, .int .i64 a, .int .i64 b, .int .i64 n, .int .i64 m]) (w0 := w) b2 ⟨hc, hz, hB⟩
      have d0 := hc2 0
      have d1 := hc2 1
      have d2 := hc2 2
      have d3 := hc2 3
      have d4 := hc2 4
      have d5 := hc2 5
      have d6 := hc2 6
      have d7 := hc2 7
      simp at d0 d1 d2 d3 d4 d5 d6 d7
      clear hc2 hc hz hB b2
      obtain ⟨q, hq⟩ : ∃ q, eqEn x ⟨6, t, u, ⟨p, a, b⟩, n, m⟩ = q := ⟨_, rfl⟩
      have hEq : ∀ W, (Op.equalIn 10000 54 (.agg #[.int .i64 x.k, .int .i64 x.t, .int .i64 x.u, .int .i64 x.op.k, .int .i64 x.op.a, .int .i64 x.op.b, .int .i64 x.n, .int .i64 x.m]) (.agg #[.int .i64 6, .int .i64 t, .int .i64 u, .int .i64 p, .int .i64 a, .int .i64 b, .int .i64 n, .int .i64 m])).run Tryd.prog W = .ok q W := fun W => by rw [← hq]; exact eq_entry x ⟨6, t, u, ⟨p, a, b⟩, n, m⟩ W
      have HQ : Hid (textF ⟨6, t, u, ⟨p, a, b⟩, n, m⟩ = if q = true then some S else none) := Lib.hid (by rw [HC.out]; unfold checkF; rw [hx]; simp only []; rw [hq])
      have HBel2 := Lib.hid hB2
      unfold enV
      clear hx hq hB2 HC HP
      cases q
      · go_wp2
        go_ret2
        refine Or.inr ⟨by rw [HQ.out]; simp, rfl, ?_⟩
        exact HBel2.out.alloc HBel2.out.size _
      · go_wp2
        go_ret2
        refine Or.inl ⟨S, by rw [HQ.out]; simp, rfl, ?_⟩
        exact HBel2.out.alloc HBel2.out.size _
    · have HQ : Hid (textF ⟨6, t, u, ⟨p, a, b⟩, n, m⟩ = none) := Lib.hid (by rw [HC.out]; unfold checkF; rw [hx])
      have HBel2 := Lib.hid (hB.trans (b2.mono hB.size))
      unfold enV PEn.none
      clear hx b2 HC HP
      go_wp2
      go_ret2
      exact Or.inr ⟨HQ.out, rfl, HBel2.out.alloc HBel2.out.size _⟩
theorem rtext_any (e : PEn) (w : World) (h : e.ok) :
    Calls Tryd.prog 27 #[enV e] w (TextP w e) := by
  obtain ⟨k, t, u, ⟨p, a, b⟩, n, m⟩ := e
  show Calls Tryd.prog 27 #[.agg #[.int .i64 k, .int .i64 t, .int .i64 u, .int .i64 p, .int .i64 a, .int .i64 b, .int .i64 n, .int .i64 m]] w _
  by_cases h1 : k = 1
  · subst h1
    have hu : usesB p = 0 ∨ usesB p = 1 ∨ usesB p = 2 := by
      rcases word_cases p with ⟨-, h2⟩ | ⟨-, h2⟩
      · exact Or.inl h2
      · exact h2
    rcases hu with hu | hu | hu
    · exact rtext_10 t u p a b n m w h hu
    · exact rtext_11 t u p a b n m w h hu
    · exact rtext_12 t u p a b n m w h hu
  by_cases h2 : k = 2
  · subst h2
    exact rtext_2 t u p a b n m w h
  by_cases h3 : k = 3
  · subst h3
    exact rtext_3 t u p a b n m w h
  by_cases h4 : k = 4
  · subst h4
    exact rtext_4 t u p a b n m w h
  by_cases h5 : k = 5
  · subst h5
    exact rtext_5 t u p a b n m w h
  by_cases h6 : k = 6
  · subst h6
    exact rtext_6 t u p a b n m w h
  exact rtext_0 k t u p a b n m w h h1 h2 h3 h4 h5 h6
end Go.Proofs.YtloilknkhloegaaDoor
