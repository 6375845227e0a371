/- tell: the document's operations, results, events and marks. -/
import Derived.Test.YtloilknkhloegaaDoorTellD
set_option linter.unusedSimpArgs false
set_option linter.unusedVariables false
namespace Go.Proofs.YtloilknkhloegaaDoor
open Go.RowKit

theorem TabOk.held2 {w0 W : World} {b : Nat} {cs : Array Value} (h : TabOk w0) (hh : (∀ o : Nat, W.cell? ⟨b, o, none⟩ = cs[o]?) ∧ b < W.heap.size ∧ Below w0.heap.size w0 W) : TabOk W := h.step hh.2.2
theorem cat_run (a b c : List UInt8) (h : c = a ++ b) (ha : a.length ≤ 10000) (hb : b.length ≤ 10000) : ∀ w : World, (Op.stringOp .add (bs a) (bs b)).run Tryd.prog w = .ok (.string (bs c)) w := fun w => by
  subst h
  exact run_string_add_lists w a b (by omega) (by omega)
set_option maxHeartbeats 4000000 in
set_option maxRecDepth 100000 in
theorem rword1_any (k : Int) (w : World) :
    Calls Tryd.prog 33 #[.int .i64 k] w fun e w' => e = .returned (.string (bs (wordB k))) ∧ Below w.heap.size w w' := by
  rcases kinds k with rfl | rfl | rfl | rfl | rfl | rfl | rfl | rfl | rfl | h
  · go_enter Tryd.func33, Tryd.ntmps33
    go_wp2
    go_ret
    refine ⟨rfl, ?_⟩
    (repeat (first | exact Below.refl _ _ | assumption | refine Below.setCell ?_ (by first | omega | (simp; done) | (simp; omega)) _ | refine Below.alloc ?_ (by first | omega | (simp; done) | (simp; omega)) _ | refine Below.drew ?_ | refine Below.trans ?_ (Below.mono ‹Below _ _ _› (by first | omega | (simp; done) | (simp; omega)))))
  · go_enter Tryd.func33, Tryd.ntmps33
    go_wp2
    go_ret
    refine ⟨rfl, ?_⟩
    (repeat (first | exact Below.refl _ _ | assumption | refine Below.setCell ?_ (by first | omega | (simp; done) | (simp; omega)) _ | refine Below.alloc ?_ (by first | omega | (simp; done) | (simp; omega)) _ | refine Below.drew ?_ | refine Below.trans ?_ (Below.mono ‹Below _ _ _› (by first | omega | (simp; done) | (simp; omega)))))
  · go_enter Tryd.func33, Tryd.ntmps33
    go_wp2
    go_ret
    refine ⟨rfl, ?_⟩
    (repeat (first | exact Below.refl _ _ | assumption | refine Below.setCell ?_ (by first | omega | (simp; done) | (simp; omega)) _ | refine Below.alloc ?_ (by first | omega | (simp; done) | (simp; omega)) _ | refine Below.drew ?_ | refine Below.trans ?_ (Below.mono ‹Below _ _ _› (by first | omega | (simp; done) | (simp; omega)))))
  · go_enter Tryd.func33, Tryd.ntmps33
    go_wp2
    go_ret
    refine ⟨rfl, ?_⟩
    (repeat (first | exact Below.refl _ _ | assumption | refine Below.setCell ?_ (by first | omega | (simp; done) | (simp; omega)) _ | refine Below.alloc ?_ (by first | omega | (simp; done) | (simp; omega)) _ | refine Below.drew ?_ | refine Below.trans ?_ (Below.mono ‹Below _ _ _› (by first | omega | (simp; done) | (simp; omega)))))
  · go_enter Tryd.func33, Tryd.ntmps33
    go_wp2
    go_ret
    refine ⟨rfl, ?_⟩
    (repeat (first | exact Below.refl _ _ | assumption | refine Below.setCell ?_ (by first | omega | (simp; done) | (simp; omega)) _ | refine Below.alloc ?_ (by first | omega | (simp; done) | (simp; omega)) _ | refine Below.drew ?_ | refine Below.trans ?_ (Below.mono ‹Below _ _ _› (by first | omega | (simp; done) | (simp; omega)))))
  · go_enter Tryd.func33, Tryd.ntmps33
    go_wp2
    go_ret
    refine ⟨rfl, ?_⟩
    (repeat (first | exact Below.refl _ _ | assumption | refine Below.setCell ?_ (by first | omega | (simp; done) | (simp; omega)) _ | refine Below.alloc ?_ (by first | omega | (simp; done) | (simp; omega)) _ | refine Below.drew ?_ | refine Below.trans ?_ (Below.mono ‹Below _ _ _› (by first | omega | (simp; done) | (simp; omega)))))
  · go_enter Tryd.func33, Tryd.ntmps33
    go_wp2
    go_ret
    refine ⟨rfl, ?_⟩
    (repeat (first | exact Below.refl _ _ | assumption | refine Below.setCell ?_ (by first | omega | (simp; done) | (simp; omega)) _ | refine Below.alloc ?_ (by first | omega | (simp; done) | (simp; omega)) _ | refine Below.drew ?_ | refine Below.trans ?_ (Below.mono ‹Below _ _ _› (by first | omega | (simp; done) | (simp; omega)))))
  · go_enter Tryd.func33, Tryd.ntmps33
    go_wp2
    go_ret
    refine ⟨rfl, ?_⟩
    (repeat (first | exact Below.refl _ _ | assumption | refine Below.setCell ?_ (by first | omega | (simp; done) | (simp; omega)) _ | refine Below.alloc ?_ (by first | omega | (simp; done) | (simp; omega)) _ | refine Below.drew ?_ | refine Below.trans ?_ (Below.mono ‹Below _ _ _› (by first | omega | (simp; done) | (simp; omega)))))
  · go_enter Tryd.func33, Tryd.ntmps33
    go_wp2
    go_ret
    refine ⟨rfl, ?_⟩
    (repeat (first | exact Below.refl _ _ | assumption | refine Below.setCell ?_ (by first | omega | (simp; done) | (simp; omega)) _ | refine Below.alloc ?_ (by first | omega | (simp; done) | (simp; omega)) _ | refine Below.drew ?_ | refine Below.trans ?_ (Below.mono ‹Below _ _ _› (by first | omega | (simp; done) | (simp; omega)))))
  · rw [(wordB_no h).1]
    by_cases h1 : k < 1
    · go_enter Tryd.func33, Tryd.ntmps33
      go_wp2
      go_ret
      refine ⟨rfl, ?_⟩
      (repeat (first | exact Below.refl _ _ | assumption | refine Below.setCell ?_ (by first | omega | (simp; done) | (simp; omega)) _ | refine Below.alloc ?_ (by first | omega | (simp; done) | (simp; omega)) _ | refine Below.drew ?_ | refine Below.trans ?_ (Below.mono ‹Below _ _ _› (by first | omega | (simp; done) | (simp; omega)))))
    · have h9 : 9 < k := by omega
      go_enter Tryd.func33, Tryd.ntmps33
      go_wp2
      go_ret
      refine ⟨rfl, ?_⟩
      (repeat (first | exact Below.refl _ _ | assumption | refine Below.setCell ?_ (by first | omega | (simp; done) | (simp; omega)) _ | refine Below.alloc ?_ (by first | omega | (simp; done) | (simp; omega)) _ | refine Below.drew ?_ | refine Below.trans ?_ (Below.mono ‹Below _ _ _› (by first | omega | (simp; done) | (simp; omega)))))
set_option maxHeartbeats 4000000 in
set_option maxRecDepth 100000 in
theorem rop1_any (k : Int) (w : World) (h : wordB k ≠ []) :
    Calls Tryd.prog 34 #[.string (bs (wordB k))] w fun e w' => e = .returned (.tuple #[.int .i64 k, .int .i64 (usesB k)]) ∧ Below w.heap.size w w' := by
  rcases kinds k with rfl | rfl | rfl | rfl | rfl | rfl | rfl | rfl | rfl | h2
  · show Calls Tryd.prog 34 #[.string ⟨#[97, 108, 108, 111, 99]⟩] w _
    go_enter Tryd.func34, Tryd.ntmps34
    go_wp2
    go_ret2
    exact ⟨rfl, Below.refl _ _⟩
  · show Calls Tryd.prog 34 #[.string ⟨#[102, 114, 101, 101]⟩] w _
    go_enter Tryd.func34, Tryd.ntmps34
    go_wp2
    go_ret2
    exact ⟨rfl, Below.refl _ _⟩
  · show Calls Tryd.prog 34 #[.string ⟨#[114, 101, 97, 108, 108, 111, 99]⟩] w _
    go_enter Tryd.func34, Tryd.ntmps34
    go_wp2
    go_ret2
    exact ⟨rfl, Below.refl _ _⟩
  · show Calls Tryd.prog 34 #[.string ⟨#[97, 108, 108, 111, 99, 114, 111, 111, 116]⟩] w _
    go_enter Tryd.func34, Tryd.ntmps34
    go_wp2
    go_ret2
    exact ⟨rfl, Below.refl _ _⟩
  · show Calls Tryd.prog 34 #[.string ⟨#[115, 101, 116, 114, 111, 111, 116]⟩] w _
    go_enter Tryd.func34, Tryd.ntmps34
    go_wp2
    go_ret2
    exact ⟨rfl, Below.refl _ _⟩
  · show Calls Tryd.prog 34 #[.string ⟨#[103, 101, 116, 114, 111, 111, 116]⟩] w _
    go_enter Tryd.func34, Tryd.ntmps34
    go_wp2
    go_ret2
    exact ⟨rfl, Below.refl _ _⟩
  · show Calls Tryd.prog 34 #[.string ⟨#[117, 115, 97, 98, 108, 101]⟩] w _
    go_enter Tryd.func34, Tryd.ntmps34
    go_wp2
    go_ret2
    exact ⟨rfl, Below.refl _ _⟩
  · show Calls Tryd.prog 34 #[.string ⟨#[115, 116, 97, 116, 115]⟩] w _
    go_enter Tryd.func34, Tryd.ntmps34
    go_wp2
    go_ret2
    exact ⟨rfl, Below.refl _ _⟩
  · show Calls Tryd.prog 34 #[.string ⟨#[102, 108, 117, 115, 104]⟩] w _
    go_enter Tryd.func34, Tryd.ntmps34
    go_wp2
    go_ret2
    exact ⟨rfl, Below.refl _ _⟩
  · exact absurd (wordB_no h2).1 h
set_option maxHeartbeats 4000000 in
set_option maxRecDepth 100000 in
theorem rresult_any (e y x : Int) (w : World) (h : (PRes.mk e y x).ok) :
    Calls Tryd.prog 13 #[.agg #[.int .i64 e, .int .i64 y, .int .i64 x]] w fun en w' => en = .returned (.string (bs (resB ⟨e, y, x⟩))) ∧ Below w.heap.size w w' := by
  have l1 := nm_len h.1
  have l2 := nm_len h.2.1
  have l3 := nm_len h.2.2
  have H1 := Lib.hid (fun w => num_any e w h.1)
  have H2 := Lib.hid (fun w => num_any y w h.2.1)
  have H3 := Lib.hid (fun w => num_any x w h.2.2)
  have HD : Hid (resB ⟨e, y, x⟩ = if e = 0 then [111, 107] ++ nm y ++ nm x else [101, 114, 114, 111, 114] ++ nm e) := Lib.hid rfl
  clear h
  simp only [] at l1 l2 l3
  generalize resB ⟨e, y, x⟩ = R at HD ⊢
  by_cases h0 : e = 0
  · subst h0
    generalize nm y = L2 at H2 HD l2
    generalize nm x = L3 at H3 HD l3
    obtain ⟨M, hM⟩ : ∃ M, M = [111, 107] ++ L2 := ⟨_, rfl⟩
    have a1 := cat_run [111, 107] L2 M hM (by simp) (by omega)
    have a2 := cat_run M L3 R (by rw [HD.out, hM]; rfl) (by rw [hM]; simp; omega) (by omega)
    clear hM HD l1 l2 l3
    go_enter Tryd.func13, Tryd.ntmps13
    go_wp2_with fail
    have hS0 := startB w #[.int .i64 0, .int .i64 y, .int .i64 x] 26
    go_region_held3 (fun w' => (∀ o : Nat, w'.cell? ⟨w.heap.size, o, none⟩ = (#[.int .i64 0, .int .i64 y, .int .i64 x] : Array Value)[o]?) ∧ w.heap.size < w'.heap.size ∧ Below w.heap.size w w') (first | assumption | exact keepB ((Below.refl _ _).alloc (Nat.le_refl _) _) (by assumption) | exact keepD (by assumption)) (first | (go_at_call 31; go_must (first | (with_reducible refine (H2.out _).mono ?_) | (with_reducible refine (H3.out _).mono ?_)); go_must (rintro e w' ⟨rfl, hb⟩); go_must (have hS := keepB (b := w.heap.size) (cs := #[.int .i64 0, .int .i64 y, .int .i64 x]) (w0 := w) hb (by assumption))))
    all_goals
      go_wp2
      go_ret
      exact ⟨rfl, hS.2.2⟩
  · have hne : (e != 0) = true := by simpa using h0
    generalize nm e = L1 at H1 HD l1
    have a1 := cat_run [101, 114, 114, 111, 114] L1 R (by rw [HD.out, if_neg h0]) (by simp) (by omega)
    clear HD l1 l2 l3 h0
    go_enter Tryd.func13, Tryd.ntmps13
    go_wp2_with fail
    refine (H1.out _).mono ?_
    rintro en w1 ⟨rfl, b1⟩
    go_wp2
    go_ret
    refine ⟨rfl, ?_⟩
    (repeat (first | exact Below.refl _ _ | assumption | refine Below.setCell ?_ (by first | omega | (simp; done) | (simp; omega)) _ | refine Below.alloc ?_ (by first | omega | (simp; done) | (simp; omega)) _ | refine Below.drew ?_ | refine Below.trans ?_ (Below.mono ‹Below _ _ _› (by first | omega | (simp; done) | (simp; omega)))))
set_option maxHeartbeats 4000000 in
set_option maxRecDepth 100000 in
theorem rop_any (k a b : Int) (w : World) (h : (POp.mk k a b).ok) :
    Calls Tryd.prog 11 #[.agg #[.int .i64 k, .int .i64 a, .int .i64 b]] w fun en w' => en = .returned (.string (bs (opB ⟨k, a, b⟩))) ∧ Below w.heap.size w w' := by
  have l1 := nm_len h.1
  have l2 := nm_len h.2.1
  have l3 := nm_len h.2.2
  have H1 := Lib.hid (fun w => num_any k w h.1)
  have H2 := Lib.hid (fun w => num_any a w h.2.1)
  have H3 := Lib.hid (fun w => num_any b w h.2.2)
  have HW := Lib.hid (fun w => rword1_any k w)
  have HO := Lib.hid (fun w h => rop1_any k w h)
  have hwl := word_len k
  have hc := word_cases k
  have HD : Hid (opB ⟨k, a, b⟩ = if wordB k = [] then [111, 112] ++ nm k ++ nm a ++ nm b else wordB k ++ (if 0 < usesB k then nm a else []) ++ (if 1 < usesB k then nm b else [])) := Lib.hid rfl
  clear h
  simp only [] at l1 l2 l3
  generalize opB ⟨k, a, b⟩ = R at HD ⊢
  generalize wordB k = wd at HW HO HD hwl hc
  generalize usesB k = u at HO HD hc
  generalize nm k = L1 at H1 HD l1
  generalize nm a = L2 at H2 HD l2
  generalize nm b = L3 at H3 HD l3
  rcases hc with ⟨h1, h2⟩ | ⟨h1, h2⟩
  · subst h1 h2
    obtain ⟨M1, hM1⟩ : ∃ M, M = [111, 112] ++ L1 := ⟨_, rfl⟩
    obtain ⟨M2, hM2⟩ : ∃ M, M = M1 ++ L2 := ⟨_, rfl⟩
    have m1 : M1.length ≤ 50 := by rw [hM1]; simp; omega
    have m2 : M2.length ≤ 100 := by rw [hM2]; simp; omega
    have a1 := cat_run [111, 112] L1 M1 hM1 (by simp) (by omega)
    have a2 := cat_run M1 L2 M2 hM2 (by omega) (by omega)
    have a3 := cat_run M2 L3 R (by rw [HD.out, hM2, hM1]; rfl) (by omega) (by omega)
    clear hM1 hM2 m1 m2 HD l1 l2 l3 hwl
    go_enter Tryd.func11, Tryd.ntmps11
    go_wp2_with fail
    refine (HW.out _).mono ?_
    rintro en w1 ⟨rfl, b1⟩
    have hS0 := keepB (b := w.heap.size) (cs := #[.int .i64 k, .int .i64 a, .int .i64 b]) (w0 := w) b1 (startB w #[.int .i64 k, .int .i64 a, .int .i64 b] 23)
    clear b1
    go_wp2_with fail
    go_region_held3 (fun w' => (∀ o : Nat, w'.cell? ⟨w.heap.size, o, none⟩ = (#[.int .i64 k, .int .i64 a, .int .i64 b] : Array Value)[o]?) ∧ w.heap.size < w'.heap.size ∧ Below w.heap.size w w') (first | assumption | exact keepB ((Below.refl _ _).alloc (Nat.le_refl _) _) (by assumption) | exact keepD (by assumption)) (first | (go_at_call 31; go_must (first | (with_reducible refine (H1.out _).mono ?_) | (with_reducible refine (H2.out _).mono ?_) | (with_reducible refine (H3.out _).mono ?_)); go_must (rintro e w' ⟨rfl, hb⟩); go_must (have hS := keepB (b := w.heap.size) (cs := #[.int .i64 k, .int .i64 a, .int .i64 b]) (w0 := w) hb (by assumption))))
    all_goals
      go_wp2
      go_ret
      exact ⟨rfl, hS.2.2⟩
  · have he : ((wd : List UInt8) == []) = false := by simpa using h1
    have hd : wd.isEmpty = false := by cases wd; exact absurd rfl h1; rfl
    have HO2 := Lib.hid (fun w => HO.out w h1)
    have HN := Lib.hid h1
    obtain ⟨M, hM⟩ : ∃ M, M = wd ++ L2 := ⟨_, rfl⟩
    have m1 : M.length ≤ 50 := by rw [hM]; simp; omega
    have a1 := cat_run wd L2 M hM (by omega) (by omega)
    have a2 := cat_run M L3 (M ++ L3) rfl (by omega) (by omega)
    have HM := Lib.hid hM
    clear hM HO h1
    rcases h2 with rfl | rfl | rfl
    · have HR : Hid (R = wd) := Lib.hid (by rw [HD.out, if_neg HN.out]; simp)
      clear HD
      go_enter Tryd.func11, Tryd.ntmps11
      go_wp2_with fail
      refine (HW.out _).mono ?_
      rintro en w1 ⟨rfl, b1⟩
      obtain ⟨hc1, z1, B1⟩ := keepB (b := w.heap.size) (cs := #[.int .i64 k, .int .i64 a, .int .i64 b]) (w0 := w) b1 (startB w #[.int .i64 k, .int .i64 a, .int .i64 b] 23)
      clear b1
      go_wp2_with fail
      refine (HO2.out _).mono ?_
      rintro en w2 ⟨rfl, b2⟩
      obtain ⟨hc2, z2, B2⟩ := keepB (b := w.heap.size) (cs := #[.int .i64 k, .int .i64 a, .int .i64 b]) (w0 := w) b2 ⟨hc1, z1, B1⟩
      have q1 := hc2 1
      simp at q1
      clear b2 hc1 z1 B1
      go_wp2
      go_ret
      exact ⟨by rw [HR.out]; rfl, B2⟩
    · have HR : Hid (R = wd ++ L2) := Lib.hid (by rw [HD.out, if_neg HN.out]; simp)
      clear HD
      go_enter Tryd.func11, Tryd.ntmps11
      go_wp2_with fail
      refine (HW.out _).mono ?_
      rintro en w1 ⟨rfl, b1⟩
      obtain ⟨hc1, z1, B1⟩ := keepB (b := w.heap.size) (cs := #[.int .i64 k, .int .i64 a, .int .i64 b]) (w0 := w) b1 (startB w #[.int .i64 k, .int .i64 a, .int .i64 b] 23)
      clear b1
      go_wp2_with fail
      refine (HO2.out _).mono ?_
      rintro en w2 ⟨rfl, b2⟩
      obtain ⟨hc2, z2, B2⟩ := keepB (b := w.heap.size) (cs := #[.int .i64 k, .int .i64 a, .int .i64 b]) (w0 := w) b2 ⟨hc1, z1, B1⟩
      have q1 := hc2 1
      simp at q1
      clear b2 hc1 z1 B1
      go_wp2_with fail
      refine (H2.out _).mono ?_
      rintro en w3 ⟨rfl, b3⟩
      obtain ⟨hc3, z3, B3⟩ := keepB (b := w.heap.size) (cs := #[.int .i64 k, .int .i64 a, .int .i64 b]) (w0 := w) b3 ⟨hc2, z2, B2⟩
      have q2 := hc3 2
      simp at q2
      clear b3 hc2 z2 B2
      go_wp2
      go_ret
      exact ⟨ret_str (by rw [HR.out, ← HM.out]), B3⟩
    · have HR : Hid (R = M ++ L3) := Lib.hid (by rw [HD.out, if_neg HN.out, HM.out]; simp)
      clear HD
      go_enter Tryd.func11, Tryd.ntmps11
      go_wp2_with fail
      refine (HW.out _).mono ?_
      rintro en w1 ⟨rfl, b1⟩
      obtain ⟨hc1, z1, B1⟩ := keepB (b := w.heap.size) (cs := #[.int .i64 k, .int .i64 a, .int .i64 b]) (w0 := w) b1 (startB w #[.int .i64 k, .int .i64 a, .int .i64 b] 23)
      clear b1
      go_wp2_with fail
      refine (HO2.out _).mono ?_
      rintro en w2 ⟨rfl, b2⟩
      obtain ⟨hc2, z2, B2⟩ := keepB (b := w.heap.size) (cs := #[.int .i64 k, .int .i64 a, .int .i64 b]) (w0 := w) b2 ⟨hc1, z1, B1⟩
      have q1 := hc2 1
      simp at q1
      clear b2 hc1 z1 B1
      go_wp2_with fail
      refine (H2.out _).mono ?_
      rintro en w3 ⟨rfl, b3⟩
      obtain ⟨hc3, z3, B3⟩ := keepB (b := w.heap.size) (cs := #[.int .i64 k, .int .i64 a, .int .i64 b]) (w0 := w) b3 ⟨hc2, z2, B2⟩
      have q2 := hc3 2
      simp at q2
      clear b3 hc2 z2 B2
      go_wp2_with fail
      refine (H3.out _).mono ?_
      rintro en w4 ⟨rfl, b4⟩
      go_wp2
      go_ret
      exact ⟨by rw [HR.out]; rfl, B3.trans (b4.mono B3.size)⟩
set_option maxHeartbeats 4000000 in
set_option maxRecDepth 100000 in
theorem rmark_any (ep s t n : Int) (w : World) (h : (PMark.mk ep s t n).ok) :
    Calls Tryd.prog 15 #[.agg #[.int .i64 ep, .int .u32 s, .int .i64 t, .int .i64 n]] w fun en w' => en = .returned (.string (bs (markB ⟨ep, s, t, n⟩))) ∧ Below w.heap.size w w' := by
  have l0 := itoa_len h.1
  have l1 := nm_len (PMark.st h)
  have l2 := nm_len h.2.2.1
  have l3 := nm_len h.2.2.2
  have H0 := Lib.hid (fun w => digits_any ep w h.1)
  have H1 := Lib.hid (fun w => num_any s w (PMark.st h))
  have H2 := Lib.hid (fun w => num_any t w h.2.2.1)
  have H3 := Lib.hid (fun w => num_any n w h.2.2.2)
  have hs0 : 0 ≤ s := h.2.1.1
  have hs1 : s ≤ 4294967295 := h.2.1.2
  have hw : IntKind.i64.wrap s = s := wrap_in _ (by omega)
  have HD : Hid (markB ⟨ep, s, t, n⟩ = Lib.itoa ep ++ nm s ++ nm t ++ nm n) := Lib.hid rfl
  clear h
  simp only [] at l0 l1 l2 l3
  generalize markB ⟨ep, s, t, n⟩ = R at HD ⊢
  generalize Lib.itoa ep = L0 at H0 HD l0
  generalize nm s = L1 at H1 HD l1
  generalize nm t = L2 at H2 HD l2
  generalize nm n = L3 at H3 HD l3
  obtain ⟨M1, hM1⟩ : ∃ M, M = L0 ++ L1 := ⟨_, rfl⟩
  obtain ⟨M2, hM2⟩ : ∃ M, M = M1 ++ L2 := ⟨_, rfl⟩
  have m1 : M1.length ≤ 50 := by rw [hM1]; simp; omega
  have m2 : M2.length ≤ 100 := by rw [hM2]; simp; omega
  have a1 := cat_run L0 L1 M1 hM1 (by omega) (by omega)
  have a2 := cat_run M1 L2 M2 hM2 (by omega) (by omega)
  have a3 := cat_run M2 L3 R (by rw [HD.out, hM2, hM1]) (by omega) (by omega)
  clear hM1 hM2 m1 m2 HD l0 l1 l2 l3
  go_enter Tryd.func15, Tryd.ntmps15
  go_wp2_with fail
  have hS0 := startB w #[.int .i64 ep, .int .u32 s, .int .i64 t, .int .i64 n] 33
  go_region_held3 (fun w' => (∀ o : Nat, w'.cell? ⟨w.heap.size, o, none⟩ = (#[.int .i64 ep, .int .u32 s, .int .i64 t, .int .i64 n] : Array Value)[o]?) ∧ w.heap.size < w'.heap.size ∧ Below w.heap.size w w') (first | assumption | exact keepB ((Below.refl _ _).alloc (Nat.le_refl _) _) (by assumption) | exact keepD (by assumption)) (first | (go_at_call 30; go_must (refine (H0.out _).mono ?_); go_must (rintro e w' ⟨rfl, hb⟩); go_must (have hS := keepB (b := w.heap.size) (cs := #[.int .i64 ep, .int .u32 s, .int .i64 t, .int .i64 n]) (w0 := w) hb (by assumption))) | (go_at_call 31; go_must (first | (with_reducible refine (H1.out _).mono ?_) | (with_reducible refine (H2.out _).mono ?_) | (with_reducible refine (H3.out _).mono ?_)); go_must (rintro e w' ⟨rfl, hb⟩); go_must (have hS := keepB (b := w.heap.size) (cs := #[.int .i64 ep, .int .u32 s, .int .i64 t, .int .i64 n]) (w0 := w) hb (by assumption))))
  all_goals
    go_wp2
    go_ret
    exact ⟨rfl, hS.2.2⟩
end Go.Proofs.YtloilknkhloegaaDoor
