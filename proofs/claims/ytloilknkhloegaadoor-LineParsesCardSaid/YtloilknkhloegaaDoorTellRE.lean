/- tell: the document's events. -/
import Derived.Test.YtloilknkhloegaaDoorTellR
set_option linter.unusedSimpArgs false
set_option linter.unusedVariables false
namespace Go.Proofs.YtloilknkhloegaaDoor
open Go.RowKit

set_option maxHeartbeats 4000000 in
set_option maxRecDepth 100000 in
theorem revent_c0 (ep tt nn o1 o2 o3 r1 r2 r3 ak a1 a2 a3 s1 s2 s3 : Int) (w : World) (h : (PEv.mk 1 ep tt nn ⟨o1, o2, o3⟩ ⟨r1, r2, r3⟩ ⟨ak, ⟨a1, a2, a3⟩, ⟨s1, s2, s3⟩⟩).ok) :
    Calls Tryd.prog 9 #[.agg #[.int .i64 1, .int .i64 ep, .int .i64 tt, .int .i64 nn, .int .i64 o1, .int .i64 o2, .int .i64 o3, .int .i64 r1, .int .i64 r2, .int .i64 r3, .int .i64 ak, .int .i64 a1, .int .i64 a2, .int .i64 a3, .int .i64 s1, .int .i64 s2, .int .i64 s3]] w fun en w' => en = .returned (.string (bs (evB (PEv.mk 1 ep tt nn ⟨o1, o2, o3⟩ ⟨r1, r2, r3⟩ ⟨ak, ⟨a1, a2, a3⟩, ⟨s1, s2, s3⟩⟩)))) ∧ Below w.heap.size w w' := by
  have l0 := itoa_len h.2.1
  have l1 := nm_len h.2.2.1
  have l2 := nm_len h.2.2.2.1
  have H0 := Lib.hid (fun w => digits_any ep w h.2.1)
  have H1 := Lib.hid (fun w => num_any tt w h.2.2.1)
  have H2 := Lib.hid (fun w => num_any nn w h.2.2.2.1)
  have l3 := op_len h.2.2.2.2.1
  have H3 := Lib.hid (fun w => rop_any o1 o2 o3 w h.2.2.2.2.1)
  have HD : Hid (evB (PEv.mk 1 ep tt nn ⟨o1, o2, o3⟩ ⟨r1, r2, r3⟩ ⟨ak, ⟨a1, a2, a3⟩, ⟨s1, s2, s3⟩⟩) = (Lib.itoa ep ++ nm tt ++ nm nn) ++ [32, 98, 101, 103, 105, 110, 115, 32] ++ opB ⟨o1, o2, o3⟩) := Lib.hid (by simp [evB, whoB, ansB])
  clear h
  simp only [] at l0 l1 l2 l3
  generalize evB (PEv.mk 1 ep tt nn ⟨o1, o2, o3⟩ ⟨r1, r2, r3⟩ ⟨ak, ⟨a1, a2, a3⟩, ⟨s1, s2, s3⟩⟩) = R at HD ⊢
  generalize Lib.itoa ep = L0 at H0 HD l0
  generalize nm tt = L1 at H1 HD l1
  generalize nm nn = L2 at H2 HD l2
  generalize opB ⟨o1, o2, o3⟩ = L3 at H3 HD l3
  obtain ⟨M1, hM1⟩ : ∃ M, M = L0 ++ L1 := ⟨_, rfl⟩
  obtain ⟨M2, hM2⟩ : ∃ M, M = M1 ++ L2 := ⟨_, rfl⟩
  have m1 : M1.length ≤ 50 := by rw [hM1]; simp; omega
  have m2 : M2.length ≤ 100 := by rw [hM2]; simp; omega
  have f1 := cat_run L0 L1 M1 hM1 (by omega) (by omega)
  have f2 := cat_run M1 L2 M2 hM2 (by omega) (by omega)
  obtain ⟨M3, hM3⟩ : ∃ M, M = M2 ++ [32, 98, 101, 103, 105, 110, 115, 32] := ⟨_, rfl⟩
  have m3 : M3.length ≤ 120 := by rw [hM3]; simp; omega
  have f3 := cat_run M2 [32, 98, 101, 103, 105, 110, 115, 32] M3 hM3 (by omega) (by simp)
  have f4 := cat_run M3 L3 R (by rw [HD.out, hM3, hM2, hM1]) (by omega) (by omega)
  clear hM1 hM2 m1 m2 HD l0 l1 l2 l3 hM3 m3
  go_enter Tryd.func9, Tryd.ntmps9
  go_wp2_with fail
  refine (H0.out _).mono ?_
  rintro en w1 ⟨rfl, b1⟩
  have hS0 := keepB (b := w.heap.size) (cs := #[.int .i64 1, .int .i64 ep, .int .i64 tt, .int .i64 nn, .int .i64 o1, .int .i64 o2, .int .i64 o3, .int .i64 r1, .int .i64 r2, .int .i64 r3, .int .i64 ak, .int .i64 a1, .int .i64 a2, .int .i64 a3, .int .i64 s1, .int .i64 s2, .int .i64 s3]) (w0 := w) b1 (startB w #[.int .i64 1, .int .i64 ep, .int .i64 tt, .int .i64 nn, .int .i64 o1, .int .i64 o2, .int .i64 o3, .int .i64 r1, .int .i64 r2, .int .i64 r3, .int .i64 ak, .int .i64 a1, .int .i64 a2, .int .i64 a3, .int .i64 s1, .int .i64 s2, .int .i64 s3] 30)
  clear b1
  go_wp2_with fail
  go_region_held3 (fun w' => (∀ o : Nat, w'.cell? ⟨w.heap.size, o, none⟩ = (#[.int .i64 1, .int .i64 ep, .int .i64 tt, .int .i64 nn, .int .i64 o1, .int .i64 o2, .int .i64 o3, .int .i64 r1, .int .i64 r2, .int .i64 r3, .int .i64 ak, .int .i64 a1, .int .i64 a2, .int .i64 a3, .int .i64 s1, .int .i64 s2, .int .i64 s3] : Array Value)[o]?) ∧ w.heap.size < w'.heap.size ∧ Below w.heap.size w w') (first | assumption | exact keepB ((Below.refl _ _).alloc (Nat.le_refl _) _) (by assumption) | exact keepD (by assumption)) (first | (go_at_call 31; go_must (first | (with_reducible refine (H1.out _).mono ?_) | (with_reducible refine (H2.out _).mono ?_)); go_must (rintro e w' ⟨rfl, hb⟩); go_must (have hS := keepB (b := w.heap.size) (cs := #[.int .i64 1, .int .i64 ep, .int .i64 tt, .int .i64 nn, .int .i64 o1, .int .i64 o2, .int .i64 o3, .int .i64 r1, .int .i64 r2, .int .i64 r3, .int .i64 ak, .int .i64 a1, .int .i64 a2, .int .i64 a3, .int .i64 s1, .int .i64 s2, .int .i64 s3]) (w0 := w) hb (by assumption))))
  all_goals
    obtain ⟨hc2, z2, B2⟩ := hS
    have q0 := hc2 0
    simp at q0
    have q4 := hc2 4
    have q5 := hc2 5
    have q6 := hc2 6
    simp at q4 q5 q6
    go_wp2_with fail
    refine (H3.out _).mono ?_
    rintro en w3 ⟨rfl, b3⟩
    go_wp2
    go_ret
    exact ⟨rfl, B2.trans (b3.mono B2.size)⟩
set_option maxHeartbeats 4000000 in
set_option maxRecDepth 100000 in
theorem revent_c1 (ep tt nn o1 o2 o3 r1 r2 r3 ak a1 a2 a3 s1 s2 s3 : Int) (w : World) (h : (PEv.mk 2 ep tt nn ⟨o1, o2, o3⟩ ⟨r1, r2, r3⟩ ⟨ak, ⟨a1, a2, a3⟩, ⟨s1, s2, s3⟩⟩).ok) :
    Calls Tryd.prog 9 #[.agg #[.int .i64 2, .int .i64 ep, .int .i64 tt, .int .i64 nn, .int .i64 o1, .int .i64 o2, .int .i64 o3, .int .i64 r1, .int .i64 r2, .int .i64 r3, .int .i64 ak, .int .i64 a1, .int .i64 a2, .int .i64 a3, .int .i64 s1, .int .i64 s2, .int .i64 s3]] w fun en w' => en = .returned (.string (bs (evB (PEv.mk 2 ep tt nn ⟨o1, o2, o3⟩ ⟨r1, r2, r3⟩ ⟨ak, ⟨a1, a2, a3⟩, ⟨s1, s2, s3⟩⟩)))) ∧ Below w.heap.size w w' := by
  have l0 := itoa_len h.2.1
  have l1 := nm_len h.2.2.1
  have l2 := nm_len h.2.2.2.1
  have H0 := Lib.hid (fun w => digits_any ep w h.2.1)
  have H1 := Lib.hid (fun w => num_any tt w h.2.2.1)
  have H2 := Lib.hid (fun w => num_any nn w h.2.2.2.1)
  have l3 := res_len h.2.2.2.2.2.1
  have H3 := Lib.hid (fun w => rresult_any r1 r2 r3 w h.2.2.2.2.2.1)
  have HD : Hid (evB (PEv.mk 2 ep tt nn ⟨o1, o2, o3⟩ ⟨r1, r2, r3⟩ ⟨ak, ⟨a1, a2, a3⟩, ⟨s1, s2, s3⟩⟩) = (Lib.itoa ep ++ nm tt ++ nm nn) ++ [32, 97, 110, 115, 119, 101, 114, 115, 32] ++ resB ⟨r1, r2, r3⟩) := Lib.hid (by simp [evB, whoB, ansB])
  clear h
  simp only [] at l0 l1 l2 l3
  generalize evB (PEv.mk 2 ep tt nn ⟨o1, o2, o3⟩ ⟨r1, r2, r3⟩ ⟨ak, ⟨a1, a2, a3⟩, ⟨s1, s2, s3⟩⟩) = R at HD ⊢
  generalize Lib.itoa ep = L0 at H0 HD l0
  generalize nm tt = L1 at H1 HD l1
  generalize nm nn = L2 at H2 HD l2
  generalize resB ⟨r1, r2, r3⟩ = L3 at H3 HD l3
  obtain ⟨M1, hM1⟩ : ∃ M, M = L0 ++ L1 := ⟨_, rfl⟩
  obtain ⟨M2, hM2⟩ : ∃ M, M = M1 ++ L2 := ⟨_, rfl⟩
  have m1 : M1.length ≤ 50 := by rw [hM1]; simp; omega
  have m2 : M2.length ≤ 100 := by rw [hM2]; simp; omega
  have f1 := cat_run L0 L1 M1 hM1 (by omega) (by omega)
  have f2 := cat_run M1 L2 M2 hM2 (by omega) (by omega)
  obtain ⟨M3, hM3⟩ : ∃ M, M = M2 ++ [32, 97, 110, 115, 119, 101, 114, 115, 32] := ⟨_, rfl⟩
  have m3 : M3.length ≤ 120 := by rw [hM3]; simp; omega
  have f3 := cat_run M2 [32, 97, 110, 115, 119, 101, 114, 115, 32] M3 hM3 (by omega) (by simp)
  have f4 := cat_run M3 L3 R (by rw [HD.out, hM3, hM2, hM1]) (by omega) (by omega)
  clear hM1 hM2 m1 m2 HD l0 l1 l2 l3 hM3 m3
  go_enter Tryd.func9, Tryd.ntmps9
  go_wp2_with fail
  refine (H0.out _).mono ?_
  rintro en w1 ⟨rfl, b1⟩
  have hS0 := keepB (b := w.heap.size) (cs := #[.int .i64 2, .int .i64 ep, .int .i64 tt, .int .i64 nn, .int .i64 o1, .int .i64 o2, .int .i64 o3, .int .i64 r1, .int .i64 r2, .int .i64 r3, .int .i64 ak, .int .i64 a1, .int .i64 a2, .int .i64 a3, .int .i64 s1, .int .i64 s2, .int .i64 s3]) (w0 := w) b1 (startB w #[.int .i64 2, .int .i64 ep, .int .i64 tt, .int .i64 nn, .int .i64 o1, .int .i64 o2, .int .i64 o3, .int .i64 r1, .int .i64 r2, .int .i64 r3, .int .i64 ak, .int .i64 a1, .int .i64 a2, .int .i64 a3, .int .i64 s1, .int .i64 s2, .int .i64 s3] 30)
  clear b1
  go_wp2_with fail
  go_region_held3 (fun w' => (∀ o : Nat, w'.cell? ⟨w.heap.size, o, none⟩ = (#[.int .i64 2, .int .i64 ep, .int .i64 tt, .int .i64 nn, .int .i64 o1, .int .i64 o2, .int .i64 o3, .int .i64 r1, .int .i64 r2, .int .i64 r3, .int .i64 ak, .int .i64 a1, .int .i64 a2, .int .i64 a3, .int .i64 s1, .int .i64 s2, .int .i64 s3] : Array Value)[o]?) ∧ w.heap.size < w'.heap.size ∧ Below w.heap.size w w') (first | assumption | exact keepB ((Below.refl _ _).alloc (Nat.le_refl _) _) (by assumption) | exact keepD (by assumption)) (first | (go_at_call 31; go_must (first | (with_reducible refine (H1.out _).mono ?_) | (with_reducible refine (H2.out _).mono ?_)); go_must (rintro e w' ⟨rfl, hb⟩); go_must (have hS := keepB (b := w.heap.size) (cs := #[.int .i64 2, .int .i64 ep, .int .i64 tt, .int .i64 nn, .int .i64 o1, .int .i64 o2, .int .i64 o3, .int .i64 r1, .int .i64 r2, .int .i64 r3, .int .i64 ak, .int .i64 a1, .int .i64 a2, .int .i64 a3, .int .i64 s1, .int .i64 s2, .int .i64 s3]) (w0 := w) hb (by assumption))))
  all_goals
    obtain ⟨hc2, z2, B2⟩ := hS
    have q0 := hc2 0
    simp at q0
    have q7 := hc2 7
    have q8 := hc2 8
    have q9 := hc2 9
    simp at q7 q8 q9
    go_wp2_with fail
    refine (H3.out _).mono ?_
    rintro en w3 ⟨rfl, b3⟩
    go_wp2
    go_ret
    exact ⟨rfl, B2.trans (b3.mono B2.size)⟩
set_option maxHeartbeats 4000000 in
set_option maxRecDepth 100000 in
theorem revent_c2 (ep tt nn o1 o2 o3 r1 r2 r3 ak a1 a2 a3 s1 s2 s3 : Int) (w : World) (h : (PEv.mk 3 ep tt nn ⟨o1, o2, o3⟩ ⟨r1, r2, r3⟩ ⟨ak, ⟨a1, a2, a3⟩, ⟨s1, s2, s3⟩⟩).ok) :
    Calls Tryd.prog 9 #[.agg #[.int .i64 3, .int .i64 ep, .int .i64 tt, .int .i64 nn, .int .i64 o1, .int .i64 o2, .int .i64 o3, .int .i64 r1, .int .i64 r2, .int .i64 r3, .int .i64 ak, .int .i64 a1, .int .i64 a2, .int .i64 a3, .int .i64 s1, .int .i64 s2, .int .i64 s3]] w fun en w' => en = .returned (.string (bs (evB (PEv.mk 3 ep tt nn ⟨o1, o2, o3⟩ ⟨r1, r2, r3⟩ ⟨ak, ⟨a1, a2, a3⟩, ⟨s1, s2, s3⟩⟩)))) ∧ Below w.heap.size w w' := by
  have l0 := itoa_len h.2.1
  have l1 := nm_len h.2.2.1
  have l2 := nm_len h.2.2.2.1
  have H0 := Lib.hid (fun w => digits_any ep w h.2.1)
  have H1 := Lib.hid (fun w => num_any tt w h.2.2.1)
  have H2 := Lib.hid (fun w => num_any nn w h.2.2.2.1)
  have HD : Hid (evB (PEv.mk 3 ep tt nn ⟨o1, o2, o3⟩ ⟨r1, r2, r3⟩ ⟨ak, ⟨a1, a2, a3⟩, ⟨s1, s2, s3⟩⟩) = (Lib.itoa ep ++ nm tt ++ nm nn) ++ [32, 114, 101, 102, 117, 115, 101, 100]) := Lib.hid (by simp [evB, whoB, ansB])
  clear h
  simp only [] at l0 l1 l2
  generalize evB (PEv.mk 3 ep tt nn ⟨o1, o2, o3⟩ ⟨r1, r2, r3⟩ ⟨ak, ⟨a1, a2, a3⟩, ⟨s1, s2, s3⟩⟩) = R at HD ⊢
  generalize Lib.itoa ep = L0 at H0 HD l0
  generalize nm tt = L1 at H1 HD l1
  generalize nm nn = L2 at H2 HD l2
  obtain ⟨M1, hM1⟩ : ∃ M, M = L0 ++ L1 := ⟨_, rfl⟩
  obtain ⟨M2, hM2⟩ : ∃ M, M = M1 ++ L2 := ⟨_, rfl⟩
  have m1 : M1.length ≤ 50 := by rw [hM1]; simp; omega
  have m2 : M2.length ≤ 100 := by rw [hM2]; simp; omega
  have f1 := cat_run L0 L1 M1 hM1 (by omega) (by omega)
  have f2 := cat_run M1 L2 M2 hM2 (by omega) (by omega)
  have f3 := cat_run M2 [32, 114, 101, 102, 117, 115, 101, 100] R (by rw [HD.out, hM2, hM1]) (by omega) (by simp)
  clear hM1 hM2 m1 m2 HD l0 l1 l2
  go_enter Tryd.func9, Tryd.ntmps9
  go_wp2_with fail
  refine (H0.out _).mono ?_
  rintro en w1 ⟨rfl, b1⟩
  have hS0 := keepB (b := w.heap.size) (cs := #[.int .i64 3, .int .i64 ep, .int .i64 tt, .int .i64 nn, .int .i64 o1, .int .i64 o2, .int .i64 o3, .int .i64 r1, .int .i64 r2, .int .i64 r3, .int .i64 ak, .int .i64 a1, .int .i64 a2, .int .i64 a3, .int .i64 s1, .int .i64 s2, .int .i64 s3]) (w0 := w) b1 (startB w #[.int .i64 3, .int .i64 ep, .int .i64 tt, .int .i64 nn, .int .i64 o1, .int .i64 o2, .int .i64 o3, .int .i64 r1, .int .i64 r2, .int .i64 r3, .int .i64 ak, .int .i64 a1, .int .i64 a2, .int .i64 a3, .int .i64 s1, .int .i64 s2, .int .i64 s3] 30)
  clear b1
  go_wp2_with fail
  go_region_held3 (fun w' => (∀ o : Nat, w'.cell? ⟨w.heap.size, o, none⟩ = (#[.int .i64 3, .int .i64 ep, .int .i64 tt, .int .i64 nn, .int .i64 o1, .int .i64 o2, .int .i64 o3, .int .i64 r1, .int .i64 r2, .int .i64 r3, .int .i64 ak, .int .i64 a1, .int .i64 a2, .int .i64 a3, .int .i64 s1, .int .i64 s2, .int .i64 s3] : Array Value)[o]?) ∧ w.heap.size < w'.heap.size ∧ Below w.heap.size w w') (first | assumption | exact keepB ((Below.refl _ _).alloc (Nat.le_refl _) _) (by assumption) | exact keepD (by assumption)) (first | (go_at_call 31; go_must (first | (with_reducible refine (H1.out _).mono ?_) | (with_reducible refine (H2.out _).mono ?_)); go_must (rintro e w' ⟨rfl, hb⟩); go_must (have hS := keepB (b := w.heap.size) (cs := #[.int .i64 3, .int .i64 ep, .int .i64 tt, .int .i64 nn, .int .i64 o1, .int .i64 o2, .int .i64 o3, .int .i64 r1, .int .i64 r2, .int .i64 r3, .int .i64 ak, .int .i64 a1, .int .i64 a2, .int .i64 a3, .int .i64 s1, .int .i64 s2, .int .i64 s3]) (w0 := w) hb (by assumption))))
  all_goals
    obtain ⟨hc2, z2, B2⟩ := hS
    have q0 := hc2 0
    simp at q0
    go_wp2
    go_ret
    exact ⟨rfl, B2⟩
set_option maxHeartbeats 4000000 in
set_option maxRecDepth 100000 in
theorem revent_c3 (ep tt nn o1 o2 o3 r1 r2 r3 ak a1 a2 a3 s1 s2 s3 : Int) (w : World) (h : (PEv.mk 4 ep tt nn ⟨o1, o2, o3⟩ ⟨r1, r2, r3⟩ ⟨ak, ⟨a1, a2, a3⟩, ⟨s1, s2, s3⟩⟩).ok) :
    Calls Tryd.prog 9 #[.agg #[.int .i64 4, .int .i64 ep, .int .i64 tt, .int .i64 nn, .int .i64 o1, .int .i64 o2, .int .i64 o3, .int .i64 r1, .int .i64 r2, .int .i64 r3, .int .i64 ak, .int .i64 a1, .int .i64 a2, .int .i64 a3, .int .i64 s1, .int .i64 s2, .int .i64 s3]] w fun en w' => en = .returned (.string (bs (evB (PEv.mk 4 ep tt nn ⟨o1, o2, o3⟩ ⟨r1, r2, r3⟩ ⟨ak, ⟨a1, a2, a3⟩, ⟨s1, s2, s3⟩⟩)))) ∧ Below w.heap.size w w' := by
  have l0 := itoa_len h.2.1
  have l1 := nm_len h.2.2.1
  have l2 := nm_len h.2.2.2.1
  have H0 := Lib.hid (fun w => digits_any ep w h.2.1)
  have H1 := Lib.hid (fun w => num_any tt w h.2.2.1)
  have H2 := Lib.hid (fun w => num_any nn w h.2.2.2.1)
  have HD : Hid (evB (PEv.mk 4 ep tt nn ⟨o1, o2, o3⟩ ⟨r1, r2, r3⟩ ⟨ak, ⟨a1, a2, a3⟩, ⟨s1, s2, s3⟩⟩) = Lib.itoa ep ++ [32, 99, 114, 97, 115, 104, 101, 100]) := Lib.hid (by simp [evB, whoB, ansB])
  clear h
  simp only [] at l0 l1 l2
  generalize evB (PEv.mk 4 ep tt nn ⟨o1, o2, o3⟩ ⟨r1, r2, r3⟩ ⟨ak, ⟨a1, a2, a3⟩, ⟨s1, s2, s3⟩⟩) = R at HD ⊢
  generalize Lib.itoa ep = L0 at H0 HD l0
  generalize nm tt = L1 at H1 HD l1
  generalize nm nn = L2 at H2 HD l2
  obtain ⟨M1, hM1⟩ : ∃ M, M = L0 ++ L1 := ⟨_, rfl⟩
  obtain ⟨M2, hM2⟩ : ∃ M, M = M1 ++ L2 := ⟨_, rfl⟩
  have m1 : M1.length ≤ 50 := by rw [hM1]; simp; omega
  have m2 : M2.length ≤ 100 := by rw [hM2]; simp; omega
  have f1 := cat_run L0 L1 M1 hM1 (by omega) (by omega)
  have f2 := cat_run M1 L2 M2 hM2 (by omega) (by omega)
  have f3 := cat_run L0 [32, 99, 114, 97, 115, 104, 101, 100] R (by rw [HD.out]) (by omega) (by simp)
  clear hM1 hM2 m1 m2 HD l0 l1 l2
  go_enter Tryd.func9, Tryd.ntmps9
  go_wp2_with fail
  refine (H0.out _).mono ?_
  rintro en w1 ⟨rfl, b1⟩
  have hS0 := keepB (b := w.heap.size) (cs := #[.int .i64 4, .int .i64 ep, .int .i64 tt, .int .i64 nn, .int .i64 o1, .int .i64 o2, .int .i64 o3, .int .i64 r1, .int .i64 r2, .int .i64 r3, .int .i64 ak, .int .i64 a1, .int .i64 a2, .int .i64 a3, .int .i64 s1, .int .i64 s2, .int .i64 s3]) (w0 := w) b1 (startB w #[.int .i64 4, .int .i64 ep, .int .i64 tt, .int .i64 nn, .int .i64 o1, .int .i64 o2, .int .i64 o3, .int .i64 r1, .int .i64 r2, .int .i64 r3, .int .i64 ak, .int .i64 a1, .int .i64 a2, .int .i64 a3, .int .i64 s1, .int .i64 s2, .int .i64 s3] 30)
  clear b1
  go_wp2_with fail
  go_region_held3 (fun w' => (∀ o : Nat, w'.cell? ⟨w.heap.size, o, none⟩ = (#[.int .i64 4, .int .i64 ep, .int .i64 tt, .int .i64 nn, .int .i64 o1, .int .i64 o2, .int .i64 o3, .int .i64 r1, .int .i64 r2, .int .i64 r3, .int .i64 ak, .int .i64 a1, .int .i64 a2, .int .i64 a3, .int .i64 s1, .int .i64 s2, .int .i64 s3] : Array Value)[o]?) ∧ w.heap.size < w'.heap.size ∧ Below w.heap.size w w') (first | assumption | exact keepB ((Below.refl _ _).alloc (Nat.le_refl _) _) (by assumption) | exact keepD (by assumption)) (first | (go_at_call 31; go_must (first | (with_reducible refine (H1.out _).mono ?_) | (with_reducible refine (H2.out _).mono ?_)); go_must (rintro e w' ⟨rfl, hb⟩); go_must (have hS := keepB (b := w.heap.size) (cs := #[.int .i64 4, .int .i64 ep, .int .i64 tt, .int .i64 nn, .int .i64 o1, .int .i64 o2, .int .i64 o3, .int .i64 r1, .int .i64 r2, .int .i64 r3, .int .i64 ak, .int .i64 a1, .int .i64 a2, .int .i64 a3, .int .i64 s1, .int .i64 s2, .int .i64 s3]) (w0 := w) hb (by assumption))))
  all_goals
    obtain ⟨hc2, z2, B2⟩ := hS
    have q0 := hc2 0
    simp at q0
    go_wp2
    go_ret
    exact ⟨rfl, B2⟩
set_option maxHeartbeats 4000000 in
set_option maxRecDepth 100000 in
theorem revent_c4 (ep tt nn o1 o2 o3 r1 r2 r3 ak a1 a2 a3 s1 s2 s3 : Int) (w : World) (h : (PEv.mk 5 ep tt nn ⟨o1, o2, o3⟩ ⟨r1, r2, r3⟩ ⟨ak, ⟨a1, a2, a3⟩, ⟨s1, s2, s3⟩⟩).ok) :
    Calls Tryd.prog 9 #[.agg #[.int .i64 5, .int .i64 ep, .int .i64 tt, .int .i64 nn, .int .i64 o1, .int .i64 o2, .int .i64 o3, .int .i64 r1, .int .i64 r2, .int .i64 r3, .int .i64 ak, .int .i64 a1, .int .i64 a2, .int .i64 a3, .int .i64 s1, .int .i64 s2, .int .i64 s3]] w fun en w' => en = .returned (.string (bs (evB (PEv.mk 5 ep tt nn ⟨o1, o2, o3⟩ ⟨r1, r2, r3⟩ ⟨ak, ⟨a1, a2, a3⟩, ⟨s1, s2, s3⟩⟩)))) ∧ Below w.heap.size w w' := by
  have l0 := itoa_len h.2.1
  have l1 := nm_len h.2.2.1
  have l2 := nm_len h.2.2.2.1
  have H0 := Lib.hid (fun w => digits_any ep w h.2.1)
  have H1 := Lib.hid (fun w => num_any tt w h.2.2.1)
  have H2 := Lib.hid (fun w => num_any nn w h.2.2.2.1)
  have HD : Hid (evB (PEv.mk 5 ep tt nn ⟨o1, o2, o3⟩ ⟨r1, r2, r3⟩ ⟨ak, ⟨a1, a2, a3⟩, ⟨s1, s2, s3⟩⟩) = Lib.itoa ep ++ [32, 109, 101, 110, 100, 101, 100]) := Lib.hid (by simp [evB, whoB, ansB])
  clear h
  simp only [] at l0 l1 l2
  generalize evB (PEv.mk 5 ep tt nn ⟨o1, o2, o3⟩ ⟨r1, r2, r3⟩ ⟨ak, ⟨a1, a2, a3⟩, ⟨s1, s2, s3⟩⟩) = R at HD ⊢
  generalize Lib.itoa ep = L0 at H0 HD l0
  generalize nm tt = L1 at H1 HD l1
  generalize nm nn = L2 at H2 HD l2
  obtain ⟨M1, hM1⟩ : ∃ M, M = L0 ++ L1 := ⟨_, rfl⟩
  obtain ⟨M2, hM2⟩ : ∃ M, M = M1 ++ L2 := ⟨_, rfl⟩
  have m1 : M1.length ≤ 50 := by rw [hM1]; simp; omega
  have m2 : M2.length ≤ 100 := by rw [hM2]; simp; omega
  have f1 := cat_run L0 L1 M1 hM1 (by omega) (by omega)
  have f2 := cat_run M1 L2 M2 hM2 (by omega) (by omega)
  have f3 := cat_run L0 [32, 109, 101, 110, 100, 101, 100] R (by rw [HD.out]) (by omega) (by simp)
  clear hM1 hM2 m1 m2 HD l0 l1 l2
  go_enter Tryd.func9, Tryd.ntmps9
  go_wp2_with fail
  refine (H0.out _).mono ?_
  rintro en w1 ⟨rfl, b1⟩
  have hS0 := keepB (b := w.heap.size) (cs := #[.int .i64 5, .int .i64 ep, .int .i64 tt, .int .i64 nn, .int .i64 o1, .int .i64 o2, .int .i64 o3, .int .i64 r1, .int .i64 r2, .int .i64 r3, .int .i64 ak, .int .i64 a1, .int .i64 a2, .int .i64 a3, .int .i64 s1, .int .i64 s2, .int .i64 s3]) (w0 := w) b1 (startB w #[.int .i64 5, .int .i64 ep, .int .i64 tt, .int .i64 nn, .int .i64 o1, .int .i64 o2, .int .i64 o3, .int .i64 r1, .int .i64 r2, .int .i64 r3, .int .i64 ak, .int .i64 a1, .int .i64 a2, .int .i64 a3, .int .i64 s1, .int .i64 s2, .int .i64 s3] 30)
  clear b1
  go_wp2_with fail
  go_region_held3 (fun w' => (∀ o : Nat, w'.cell? ⟨w.heap.size, o, none⟩ = (#[.int .i64 5, .int .i64 ep, .int .i64 tt, .int .i64 nn, .int .i64 o1, .int .i64 o2, .int .i64 o3, .int .i64 r1, .int .i64 r2, .int .i64 r3, .int .i64 ak, .int .i64 a1, .int .i64 a2, .int .i64 a3, .int .i64 s1, .int .i64 s2, .int .i64 s3] : Array Value)[o]?) ∧ w.heap.size < w'.heap.size ∧ Below w.heap.size w w') (first | assumption | exact keepB ((Below.refl _ _).alloc (Nat.le_refl _) _) (by assumption) | exact keepD (by assumption)) (first | (go_at_call 31; go_must (first | (with_reducible refine (H1.out _).mono ?_) | (with_reducible refine (H2.out _).mono ?_)); go_must (rintro e w' ⟨rfl, hb⟩); go_must (have hS := keepB (b := w.heap.size) (cs := #[.int .i64 5, .int .i64 ep, .int .i64 tt, .int .i64 nn, .int .i64 o1, .int .i64 o2, .int .i64 o3, .int .i64 r1, .int .i64 r2, .int .i64 r3, .int .i64 ak, .int .i64 a1, .int .i64 a2, .int .i64 a3, .int .i64 s1, .int .i64 s2, .int .i64 s3]) (w0 := w) hb (by assumption))))
  all_goals
    obtain ⟨hc2, z2, B2⟩ := hS
    have q0 := hc2 0
    simp at q0
    go_wp2
    go_ret
    exact ⟨rfl, B2⟩
set_option maxHeartbeats 4000000 in
set_option maxRecDepth 100000 in
theorem revent_c5 (ep tt nn o1 o2 o3 r1 r2 r3 a1 a2 a3 s1 s2 s3 : Int) (w : World) (h : (PEv.mk 6 ep tt nn ⟨o1, o2, o3⟩ ⟨r1, r2, r3⟩ ⟨1, ⟨a1, a2, a3⟩, ⟨s1, s2, s3⟩⟩).ok) :
    Calls Tryd.prog 9 #[.agg #[.int .i64 6, .int .i64 ep, .int .i64 tt, .int .i64 nn, .int .i64 o1, .int .i64 o2, .int .i64 o3, .int .i64 r1, .int .i64 r2, .int .i64 r3, .int .i64 1, .int .i64 a1, .int .i64 a2, .int .i64 a3, .int .i64 s1, .int .i64 s2, .int .i64 s3]] w fun en w' => en = .returned (.string (bs (evB (PEv.mk 6 ep tt nn ⟨o1, o2, o3⟩ ⟨r1, r2, r3⟩ ⟨1, ⟨a1, a2, a3⟩, ⟨s1, s2, s3⟩⟩)))) ∧ Below w.heap.size w w' := by
  have l0 := itoa_len h.2.1
  have l1 := nm_len h.2.2.1
  have l2 := nm_len h.2.2.2.1
  have H0 := Lib.hid (fun w => digits_any ep w h.2.1)
  have H1 := Lib.hid (fun w => num_any tt w h.2.2.1)
  have H2 := Lib.hid (fun w => num_any nn w h.2.2.2.1)
  have l3 := op_len h.2.2.2.2.2.2.2.1
  have H3 := Lib.hid (fun w => rop_any a1 a2 a3 w h.2.2.2.2.2.2.2.1)
  have HD : Hid (evB (PEv.mk 6 ep tt nn ⟨o1, o2, o3⟩ ⟨r1, r2, r3⟩ ⟨1, ⟨a1, a2, a3⟩, ⟨s1, s2, s3⟩⟩) = (Lib.itoa ep ++ nm tt ++ nm nn) ++ [32, 110, 111, 116, 32, 100, 111, 110, 101, 32] ++ opB ⟨a1, a2, a3⟩) := Lib.hid (by simp [evB, whoB, ansB])
  clear h
  simp only [] at l0 l1 l2 l3
  generalize evB (PEv.mk 6 ep tt nn ⟨o1, o2, o3⟩ ⟨r1, r2, r3⟩ ⟨1, ⟨a1, a2, a3⟩, ⟨s1, s2, s3⟩⟩) = R at HD ⊢
  generalize Lib.itoa ep = L0 at H0 HD l0
  generalize nm tt = L1 at H1 HD l1
  generalize nm nn = L2 at H2 HD l2
  generalize opB ⟨a1, a2, a3⟩ = L3 at H3 HD l3
  obtain ⟨M1, hM1⟩ : ∃ M, M = L0 ++ L1 := ⟨_, rfl⟩
  obtain ⟨M2, hM2⟩ : ∃ M, M = M1 ++ L2 := ⟨_, rfl⟩
  have m1 : M1.length ≤ 50 := by rw [hM1]; simp; omega
  have m2 : M2.length ≤ 100 := by rw [hM2]; simp; omega
  have f1 := cat_run L0 L1 M1 hM1 (by omega) (by omega)
  have f2 := cat_run M1 L2 M2 hM2 (by omega) (by omega)
  obtain ⟨M3, hM3⟩ : ∃ M, M = M2 ++ [32, 110, 111, 116, 32, 100, 111, 110, 101, 32] := ⟨_, rfl⟩
  have m3 : M3.length ≤ 120 := by rw [hM3]; simp; omega
  have f3 := cat_run M2 [32, 110, 111, 116, 32, 100, 111, 110, 101, 32] M3 hM3 (by omega) (by simp)
  have f4 := cat_run M3 L3 R (by rw [HD.out, hM3, hM2, hM1]) (by omega) (by omega)
  clear hM1 hM2 m1 m2 HD l0 l1 l2 l3 hM3 m3
  go_enter Tryd.func9, Tryd.ntmps9
  go_wp2_with fail
  refine (H0.out _).mono ?_
  rintro en w1 ⟨rfl, b1⟩
  have hS0 := keepB (b := w.heap.size) (cs := #[.int .i64 6, .int .i64 ep, .int .i64 tt, .int .i64 nn, .int .i64 o1, .int .i64 o2, .int .i64 o3, .int .i64 r1, .int .i64 r2, .int .i64 r3, .int .i64 1, .int .i64 a1, .int .i64 a2, .int .i64 a3, .int .i64 s1, .int .i64 s2, .int .i64 s3]) (w0 := w) b1 (startB w #[.int .i64 6, .int .i64 ep, .int .i64 tt, .int .i64 nn, .int .i64 o1, .int .i64 o2, .int .i64 o3, .int .i64 r1, .int .i64 r2, .int .i64 r3, .int .i64 1, .int .i64 a1, .int .i64 a2, .int .i64 a3, .int .i64 s1, .int .i64 s2, .int .i64 s3] 30)
  clear b1
  go_wp2_with fail
  go_region_held3 (fun w' => (∀ o : Nat, w'.cell? ⟨w.heap.size, o, none⟩ = (#[.int .i64 6, .int .i64 ep, .int .i64 tt, .int .i64 nn, .int .i64 o1, .int .i64 o2, .int .i64 o3, .int .i64 r1, .int .i64 r2, .int .i64 r3, .int .i64 1, .int .i64 a1, .int .i64 a2, .int .i64 a3, .int .i64 s1, .int .i64 s2, .int .i64 s3] : Array Value)[o]?) ∧ w.heap.size < w'.heap.size ∧ Below w.heap.size w w') (first | assumption | exact keepB ((Below.refl _ _).alloc (Nat.le_refl _) _) (by assumption) | exact keepD (by assumption)) (first | (go_at_call 31; go_must (first | (with_reducible refine (H1.out _).mono ?_) | (with_reducible refine (H2.out _).mono ?_)); go_must (rintro e w' ⟨rfl, hb⟩); go_must (have hS := keepB (b := w.heap.size) (cs := #[.int .i64 6, .int .i64 ep, .int .i64 tt, .int .i64 nn, .int .i64 o1, .int .i64 o2, .int .i64 o3, .int .i64 r1, .int .i64 r2, .int .i64 r3, .int .i64 1, .int .i64 a1, .int .i64 a2, .int .i64 a3, .int .i64 s1, .int .i64 s2, .int .i64 s3]) (w0 := w) hb (by assumption))))
  all_goals
    obtain ⟨hc2, z2, B2⟩ := hS
    have q0 := hc2 0
    simp at q0
    have q10 := hc2 10
    have q11 := hc2 11
    have q12 := hc2 12
    have q13 := hc2 13
    simp at q10 q11 q12 q13
    go_wp2_with fail
    refine (H3.out _).mono ?_
    rintro en w3 ⟨rfl, b3⟩
    go_wp2
    go_ret
    exact ⟨rfl, B2.trans (b3.mono B2.size)⟩
set_option maxHeartbeats 4000000 in
set_option maxRecDepth 100000 in
theorem revent_c6 (ep tt nn o1 o2 o3 r1 r2 r3 a1 a2 a3 s1 s2 s3 : Int) (w : World) (h : (PEv.mk 6 ep tt nn ⟨o1, o2, o3⟩ ⟨r1, r2, r3⟩ ⟨2, ⟨a1, a2, a3⟩, ⟨s1, s2, s3⟩⟩).ok) :
    Calls Tryd.prog 9 #[.agg #[.int .i64 6, .int .i64 ep, .int .i64 tt, .int .i64 nn, .int .i64 o1, .int .i64 o2, .int .i64 o3, .int .i64 r1, .int .i64 r2, .int .i64 r3, .int .i64 2, .int .i64 a1, .int .i64 a2, .int .i64 a3, .int .i64 s1, .int .i64 s2, .int .i64 s3]] w fun en w' => en = .returned (.string (bs (evB (PEv.mk 6 ep tt nn ⟨o1, o2, o3⟩ ⟨r1, r2, r3⟩ ⟨2, ⟨a1, a2, a3⟩, ⟨s1, s2, s3⟩⟩)))) ∧ Below w.heap.size w w' := by
  have l0 := itoa_len h.2.1
  have l1 := nm_len h.2.2.1
  have l2 := nm_len h.2.2.2.1
  have H0 := Lib.hid (fun w => digits_any ep w h.2.1)
  have H1 := Lib.hid (fun w => num_any tt w h.2.2.1)
  have H2 := Lib.hid (fun w => num_any nn w h.2.2.2.1)
  have l3 := op_len h.2.2.2.2.2.2.2.1
  have H3 := Lib.hid (fun w => rop_any a1 a2 a3 w h.2.2.2.2.2.2.2.1)
  have l4 := res_len h.2.2.2.2.2.2.2.2
  have H4 := Lib.hid (fun w => rresult_any s1 s2 s3 w h.2.2.2.2.2.2.2.2)
  have HD : Hid (evB (PEv.mk 6 ep tt nn ⟨o1, o2, o3⟩ ⟨r1, r2, r3⟩ ⟨2, ⟨a1, a2, a3⟩, ⟨s1, s2, s3⟩⟩) = (Lib.itoa ep ++ nm tt ++ nm nn) ++ [32, 100, 111, 110, 101, 32] ++ opB ⟨a1, a2, a3⟩ ++ [32] ++ resB ⟨s1, s2, s3⟩) := Lib.hid (by simp [evB, whoB, ansB])
  clear h
  simp only [] at l0 l1 l2 l3 l4
  generalize evB (PEv.mk 6 ep tt nn ⟨o1, o2, o3⟩ ⟨r1, r2, r3⟩ ⟨2, ⟨a1, a2, a3⟩, ⟨s1, s2, s3⟩⟩) = R at HD ⊢
  generalize Lib.itoa ep = L0 at H0 HD l0
  generalize nm tt = L1 at H1 HD l1
  generalize nm nn = L2 at H2 HD l2
  generalize opB ⟨a1, a2, a3⟩ = L3 at H3 HD l3
  generalize resB ⟨s1, s2, s3⟩ = L4 at H4 HD l4
  obtain ⟨M1, hM1⟩ : ∃ M, M = L0 ++ L1 := ⟨_, rfl⟩
  obtain ⟨M2, hM2⟩ : ∃ M, M = M1 ++ L2 := ⟨_, rfl⟩
  have m1 : M1.length ≤ 50 := by rw [hM1]; simp; omega
  have m2 : M2.length ≤ 100 := by rw [hM2]; simp; omega
  have f1 := cat_run L0 L1 M1 hM1 (by omega) (by omega)
  have f2 := cat_run M1 L2 M2 hM2 (by omega) (by omega)
  obtain ⟨M3, hM3⟩ : ∃ M, M = M2 ++ [32, 100, 111, 110, 101, 32] := ⟨_, rfl⟩
  have m3 : M3.length ≤ 120 := by rw [hM3]; simp; omega
  obtain ⟨M4, hM4⟩ : ∃ M, M = M3 ++ L3 := ⟨_, rfl⟩
  have m4 : M4.length ≤ 300 := by rw [hM4]; simp; omega
  obtain ⟨M5, hM5⟩ : ∃ M, M = M4 ++ [32] := ⟨_, rfl⟩
  have m5 : M5.length ≤ 310 := by rw [hM5]; simp; omega
  have f3 := cat_run M2 [32, 100, 111, 110, 101, 32] M3 hM3 (by omega) (by simp)
  have f4 := cat_run M3 L3 M4 hM4 (by omega) (by omega)
  have f5 := cat_run M4 [32] M5 hM5 (by omega) (by simp)
  have f6 := cat_run M5 L4 R (by rw [HD.out, hM5, hM4, hM3, hM2, hM1]) (by omega) (by omega)
  clear hM1 hM2 m1 m2 HD l0 l1 l2 l3 hM3 m3 hM4 m4 hM5 m5 l4
  go_enter Tryd.func9, Tryd.ntmps9
  go_wp2_with fail
  refine (H0.out _).mono ?_
  rintro en w1 ⟨rfl, b1⟩
  have hS0 := keepB (b := w.heap.size) (cs := #[.int .i64 6, .int .i64 ep, .int .i64 tt, .int .i64 nn, .int .i64 o1, .int .i64 o2, .int .i64 o3, .int .i64 r1, .int .i64 r2, .int .i64 r3, .int .i64 2, .int .i64 a1, .int .i64 a2, .int .i64 a3, .int .i64 s1, .int .i64 s2, .int .i64 s3]) (w0 := w) b1 (startB w #[.int .i64 6, .int .i64 ep, .int .i64 tt, .int .i64 nn, .int .i64 o1, .int .i64 o2, .int .i64 o3, .int .i64 r1, .int .i64 r2, .int .i64 r3, .int .i64 2, .int .i64 a1, .int .i64 a2, .int .i64 a3, .int .i64 s1, .int .i64 s2, .int .i64 s3] 30)
  clear b1
  go_wp2_with fail
  go_region_held3 (fun w' => (∀ o : Nat, w'.cell? ⟨w.heap.size, o, none⟩ = (#[.int .i64 6, .int .i64 ep, .int .i64 tt, .int .i64 nn, .int .i64 o1, .int .i64 o2, .int .i64 o3, .int .i64 r1, .int .i64 r2, .int .i64 r3, .int .i64 2, .int .i64 a1, .int .i64 a2, .int .i64 a3, .int .i64 s1, .int .i64 s2, .int .i64 s3] : Array Value)[o]?) ∧ w.heap.size < w'.heap.size ∧ Below w.heap.size w w') (first | assumption | exact keepB ((Below.refl _ _).alloc (Nat.le_refl _) _) (by assumption) | exact keepD (by assumption)) (first | (go_at_call 31; go_must (first | (with_reducible refine (H1.out _).mono ?_) | (with_reducible refine (H2.out _).mono ?_)); go_must (rintro e w' ⟨rfl, hb⟩); go_must (have hS := keepB (b := w.heap.size) (cs := #[.int .i64 6, .int .i64 ep, .int .i64 tt, .int .i64 nn, .int .i64 o1, .int .i64 o2, .int .i64 o3, .int .i64 r1, .int .i64 r2, .int .i64 r3, .int .i64 2, .int .i64 a1, .int .i64 a2, .int .i64 a3, .int .i64 s1, .int .i64 s2, .int .i64 s3]) (w0 := w) hb (by assumption))))
  all_goals
    obtain ⟨hc2, z2, B2⟩ := hS
    have q0 := hc2 0
    simp at q0
    have q10 := hc2 10
    simp at q10
    have hS0 := And.intro hc2 (And.intro z2 B2)
    go_wp2_with fail
    go_region_held3 (fun w' => (∀ o : Nat, w'.cell? ⟨w.heap.size, o, none⟩ = (#[.int .i64 6, .int .i64 ep, .int .i64 tt, .int .i64 nn, .int .i64 o1, .int .i64 o2, .int .i64 o3, .int .i64 r1, .int .i64 r2, .int .i64 r3, .int .i64 2, .int .i64 a1, .int .i64 a2, .int .i64 a3, .int .i64 s1, .int .i64 s2, .int .i64 s3] : Array Value)[o]?) ∧ w.heap.size < w'.heap.size ∧ Below w.heap.size w w') (first | assumption | exact keepB ((Below.refl _ _).alloc (Nat.le_refl _) _) (by assumption) | exact keepD (by assumption)) (first | (go_at_call 11; go_must (refine (H3.out _).mono ?_); go_must (rintro e w' ⟨rfl, hb⟩); go_must (have hS := keepB (b := w.heap.size) (cs := #[.int .i64 6, .int .i64 ep, .int .i64 tt, .int .i64 nn, .int .i64 o1, .int .i64 o2, .int .i64 o3, .int .i64 r1, .int .i64 r2, .int .i64 r3, .int .i64 2, .int .i64 a1, .int .i64 a2, .int .i64 a3, .int .i64 s1, .int .i64 s2, .int .i64 s3]) (w0 := w) hb (by assumption))) | (go_at_call 13; go_must (refine (H4.out _).mono ?_); go_must (rintro e w' ⟨rfl, hb⟩); go_must (have hS := keepB (b := w.heap.size) (cs := #[.int .i64 6, .int .i64 ep, .int .i64 tt, .int .i64 nn, .int .i64 o1, .int .i64 o2, .int .i64 o3, .int .i64 r1, .int .i64 r2, .int .i64 r3, .int .i64 2, .int .i64 a1, .int .i64 a2, .int .i64 a3, .int .i64 s1, .int .i64 s2, .int .i64 s3]) (w0 := w) hb (by assumption))))
    all_goals
      go_wp2
      go_ret
      exact ⟨rfl, hS.2.2⟩
set_option maxHeartbeats 4000000 in
set_option maxRecDepth 100000 in
theorem revent_c7 (ep tt nn o1 o2 o3 r1 r2 r3 ak a1 a2 a3 s1 s2 s3 : Int) (w : World) (h : (PEv.mk 6 ep tt nn ⟨o1, o2, o3⟩ ⟨r1, r2, r3⟩ ⟨ak, ⟨a1, a2, a3⟩, ⟨s1, s2, s3⟩⟩).ok) (g1 : ak ≠ 1) (g2 : ak ≠ 2) :
    Calls Tryd.prog 9 #[.agg #[.int .i64 6, .int .i64 ep, .int .i64 tt, .int .i64 nn, .int .i64 o1, .int .i64 o2, .int .i64 o3, .int .i64 r1, .int .i64 r2, .int .i64 r3, .int .i64 ak, .int .i64 a1, .int .i64 a2, .int .i64 a3, .int .i64 s1, .int .i64 s2, .int .i64 s3]] w fun en w' => en = .returned (.string (bs (evB (PEv.mk 6 ep tt nn ⟨o1, o2, o3⟩ ⟨r1, r2, r3⟩ ⟨ak, ⟨a1, a2, a3⟩, ⟨s1, s2, s3⟩⟩)))) ∧ Below w.heap.size w w' := by
  have l0 := itoa_len h.2.1
  have l1 := nm_len h.2.2.1
  have l2 := nm_len h.2.2.2.1
  have H0 := Lib.hid (fun w => digits_any ep w h.2.1)
  have H1 := Lib.hid (fun w => num_any tt w h.2.2.1)
  have H2 := Lib.hid (fun w => num_any nn w h.2.2.2.1)
  have HD : Hid (evB (PEv.mk 6 ep tt nn ⟨o1, o2, o3⟩ ⟨r1, r2, r3⟩ ⟨ak, ⟨a1, a2, a3⟩, ⟨s1, s2, s3⟩⟩) = (Lib.itoa ep ++ nm tt ++ nm nn) ++ [32, 117, 110, 107, 110, 111, 119, 110]) := Lib.hid (by simp [evB, whoB, ansB, g1, g2])
  have e1 : (ak == 1) = false := by simpa using g1
  have e2 : (ak == 2) = false := by simpa using g2
  clear h g1 g2
  simp only [] at l0 l1 l2
  generalize evB (PEv.mk 6 ep tt nn ⟨o1, o2, o3⟩ ⟨r1, r2, r3⟩ ⟨ak, ⟨a1, a2, a3⟩, ⟨s1, s2, s3⟩⟩) = R at HD ⊢
  generalize Lib.itoa ep = L0 at H0 HD l0
  generalize nm tt = L1 at H1 HD l1
  generalize nm nn = L2 at H2 HD l2
  obtain ⟨M1, hM1⟩ : ∃ M, M = L0 ++ L1 := ⟨_, rfl⟩
  obtain ⟨M2, hM2⟩ : ∃ M, M = M1 ++ L2 := ⟨_, rfl⟩
  have m1 : M1.length ≤ 50 := by rw [hM1]; simp; omega
  have m2 : M2.length ≤ 100 := by rw [hM2]; simp; omega
  have f1 := cat_run L0 L1 M1 hM1 (by omega) (by omega)
  have f2 := cat_run M1 L2 M2 hM2 (by omega) (by omega)
  have f3 := cat_run M2 [32, 117, 110, 107, 110, 111, 119, 110] R (by rw [HD.out, hM2, hM1]) (by omega) (by simp)
  clear hM1 hM2 m1 m2 HD l0 l1 l2
  go_enter Tryd.func9, Tryd.ntmps9
  go_wp2_with fail
  refine (H0.out _).mono ?_
  rintro en w1 ⟨rfl, b1⟩
  have hS0 := keepB (b := w.heap.size) (cs := #[.int .i64 6, .int .i64 ep, .int .i64 tt, .int .i64 nn, .int .i64 o1, .int .i64 o2, .int .i64 o3, .int .i64 r1, .int .i64 r2, .int .i64 r3, .int .i64 ak, .int .i64 a1, .int .i64 a2, .int .i64 a3, .int .i64 s1, .int .i64 s2, .int .i64 s3]) (w0 := w) b1 (startB w #[.int .i64 6, .int .i64 ep, .int .i64 tt, .int .i64 nn, .int .i64 o1, .int .i64 o2, .int .i64 o3, .int .i64 r1, .int .i64 r2, .int .i64 r3, .int .i64 ak, .int .i64 a1, .int .i64 a2, .int .i64 a3, .int .i64 s1, .int .i64 s2, .int .i64 s3] 30)
  clear b1
  go_wp2_with fail
  go_region_held3 (fun w' => (∀ o : Nat, w'.cell? ⟨w.heap.size, o, none⟩ = (#[.int .i64 6, .int .i64 ep, .int .i64 tt, .int .i64 nn, .int .i64 o1, .int .i64 o2, .int .i64 o3, .int .i64 r1, .int .i64 r2, .int .i64 r3, .int .i64 ak, .int .i64 a1, .int .i64 a2, .int .i64 a3, .int .i64 s1, .int .i64 s2, .int .i64 s3] : Array Value)[o]?) ∧ w.heap.size < w'.heap.size ∧ Below w.heap.size w w') (first | assumption | exact keepB ((Below.refl _ _).alloc (Nat.le_refl _) _) (by assumption) | exact keepD (by assumption)) (first | (go_at_call 31; go_must (first | (with_reducible refine (H1.out _).mono ?_) | (with_reducible refine (H2.out _).mono ?_)); go_must (rintro e w' ⟨rfl, hb⟩); go_must (have hS := keepB (b := w.heap.size) (cs := #[.int .i64 6, .int .i64 ep, .int .i64 tt, .int .i64 nn, .int .i64 o1, .int .i64 o2, .int .i64 o3, .int .i64 r1, .int .i64 r2, .int .i64 r3, .int .i64 ak, .int .i64 a1, .int .i64 a2, .int .i64 a3, .int .i64 s1, .int .i64 s2, .int .i64 s3]) (w0 := w) hb (by assumption))))
  all_goals
    obtain ⟨hc2, z2, B2⟩ := hS
    have q0 := hc2 0
    simp at q0
    have q10 := hc2 10
    simp at q10
    go_wp2
    go_ret
    exact ⟨rfl, B2⟩
set_option maxHeartbeats 4000000 in
set_option maxRecDepth 100000 in
theorem revent_c8 (k ep tt nn o1 o2 o3 r1 r2 r3 ak a1 a2 a3 s1 s2 s3 : Int) (w : World) (h : (PEv.mk k ep tt nn ⟨o1, o2, o3⟩ ⟨r1, r2, r3⟩ ⟨ak, ⟨a1, a2, a3⟩, ⟨s1, s2, s3⟩⟩).ok) (n : k ≠ 1 ∧ k ≠ 2 ∧ k ≠ 3 ∧ k ≠ 4 ∧ k ≠ 5 ∧ k ≠ 6) :
    Calls Tryd.prog 9 #[.agg #[.int .i64 k, .int .i64 ep, .int .i64 tt, .int .i64 nn, .int .i64 o1, .int .i64 o2, .int .i64 o3, .int .i64 r1, .int .i64 r2, .int .i64 r3, .int .i64 ak, .int .i64 a1, .int .i64 a2, .int .i64 a3, .int .i64 s1, .int .i64 s2, .int .i64 s3]] w fun en w' => en = .returned (.string (bs (evB (PEv.mk k ep tt nn ⟨o1, o2, o3⟩ ⟨r1, r2, r3⟩ ⟨ak, ⟨a1, a2, a3⟩, ⟨s1, s2, s3⟩⟩)))) ∧ Below w.heap.size w w' := by
  have l0 := itoa_len h.2.1
  have l1 := nm_len h.2.2.1
  have l2 := nm_len h.2.2.2.1
  have H0 := Lib.hid (fun w => digits_any ep w h.2.1)
  have H1 := Lib.hid (fun w => num_any tt w h.2.2.1)
  have H2 := Lib.hid (fun w => num_any nn w h.2.2.2.1)
  have HD : Hid (evB (PEv.mk k ep tt nn ⟨o1, o2, o3⟩ ⟨r1, r2, r3⟩ ⟨ak, ⟨a1, a2, a3⟩, ⟨s1, s2, s3⟩⟩) = Lib.itoa ep ++ [32, 101, 118, 101, 110, 116]) := Lib.hid (by unfold evB; rw [if_neg n.1, if_neg n.2.1, if_neg n.2.2.1, if_neg n.2.2.2.1, if_neg n.2.2.2.2.1, if_neg n.2.2.2.2.2])
  have e1 : (k == 1) = false := by have := n; simp; omega
  have e2 : (k == 2) = false := by have := n; simp; omega
  have e3 : (k == 3) = false := by have := n; simp; omega
  have e4 : (k == 4) = false := by have := n; simp; omega
  have e5 : (k == 5) = false := by have := n; simp; omega
  have e6 : (k == 6) = false := by have := n; simp; omega
  clear h n
  simp only [] at l0 l1 l2
  generalize evB (PEv.mk k ep tt nn ⟨o1, o2, o3⟩ ⟨r1, r2, r3⟩ ⟨ak, ⟨a1, a2, a3⟩, ⟨s1, s2, s3⟩⟩) = R at HD ⊢
  generalize Lib.itoa ep = L0 at H0 HD l0
  generalize nm tt = L1 at H1 HD l1
  generalize nm nn = L2 at H2 HD l2
  obtain ⟨M1, hM1⟩ : ∃ M, M = L0 ++ L1 := ⟨_, rfl⟩
  obtain ⟨M2, hM2⟩ : ∃ M, M = M1 ++ L2 := ⟨_, rfl⟩
  have m1 : M1.length ≤ 50 := by rw [hM1]; simp; omega
  have m2 : M2.length ≤ 100 := by rw [hM2]; simp; omega
  have f1 := cat_run L0 L1 M1 hM1 (by omega) (by omega)
  have f2 := cat_run M1 L2 M2 hM2 (by omega) (by omega)
  have f3 := cat_run L0 [32, 101, 118, 101, 110, 116] R (by rw [HD.out]) (by omega) (by simp)
  clear hM1 hM2 m1 m2 HD l0 l1 l2
  go_enter Tryd.func9, Tryd.ntmps9
  go_wp2_with fail
  refine (H0.out _).mono ?_
  rintro en w1 ⟨rfl, b1⟩
  have hS0 := keepB (b := w.heap.size) (cs := #[.int .i64 k, .int .i64 ep, .int .i64 tt, .int .i64 nn, .int .i64 o1, .int .i64 o2, .int .i64 o3, .int .i64 r1, .int .i64 r2, .int .i64 r3, .int .i64 ak, .int .i64 a1, .int .i64 a2, .int .i64 a3, .int .i64 s1, .int .i64 s2, .int .i64 s3]) (w0 := w) b1 (startB w #[.int .i64 k, .int .i64 ep, .int .i64 tt, .int .i64 nn, .int .i64 o1, .int .i64 o2, .int .i64 o3, .int .i64 r1, .int .i64 r2, .int .i64 r3, .int .i64 ak, .int .i64 a1, .int .i64 a2, .int .i64 a3, .int .i64 s1, .int .i64 s2, .int .i64 s3] 30)
  clear b1
  go_wp2_with fail
  go_region_held3 (fun w' => (∀ o : Nat, w'.cell? ⟨w.heap.size, o, none⟩ = (#[.int .i64 k, .int .i64 ep, .int .i64 tt, .int .i64 nn, .int .i64 o1, .int .i64 o2, .int .i64 o3, .int .i64 r1, .int .i64 r2, .int .i64 r3, .int .i64 ak, .int .i64 a1, .int .i64 a2, .int .i64 a3, .int .i64 s1, .int .i64 s2, .int .i64 s3] : Array Value)[o]?) ∧ w.heap.size < w'.heap.size ∧ Below w.heap.size w w') (first | assumption | exact keepB ((Below.refl _ _).alloc (Nat.le_refl _) _) (by assumption) | exact keepD (by assumption)) (first | (go_at_call 31; go_must (first | (with_reducible refine (H1.out _).mono ?_) | (with_reducible refine (H2.out _).mono ?_)); go_must (rintro e w' ⟨rfl, hb⟩); go_must (have hS := keepB (b := w.heap.size) (cs := #[.int .i64 k, .int .i64 ep, .int .i64 tt, .int .i64 nn, .int .i64 o1, .int .i64 o2, .int .i64 o3, .int .i64 r1, .int .i64 r2, .int .i64 r3, .int .i64 ak, .int .i64 a1, .int .i64 a2, .int .i64 a3, .int .i64 s1, .int .i64 s2, .int .i64 s3]) (w0 := w) hb (by assumption))))
  all_goals
    obtain ⟨hc2, z2, B2⟩ := hS
    have q0 := hc2 0
    simp at q0
    go_wp2
    go_ret
    exact ⟨rfl, B2⟩
theorem revent_any (k ep tt nn o1 o2 o3 r1 r2 r3 ak a1 a2 a3 s1 s2 s3 : Int) (w : World) (h : (PEv.mk k ep tt nn ⟨o1, o2, o3⟩ ⟨r1, r2, r3⟩ ⟨ak, ⟨a1, a2, a3⟩, ⟨s1, s2, s3⟩⟩).ok) :
    Calls Tryd.prog 9 #[.agg #[.int .i64 k, .int .i64 ep, .int .i64 tt, .int .i64 nn, .int .i64 o1, .int .i64 o2, .int .i64 o3, .int .i64 r1, .int .i64 r2, .int .i64 r3, .int .i64 ak, .int .i64 a1, .int .i64 a2, .int .i64 a3, .int .i64 s1, .int .i64 s2, .int .i64 s3]] w fun en w' => en = .returned (.string (bs (evB (PEv.mk k ep tt nn ⟨o1, o2, o3⟩ ⟨r1, r2, r3⟩ ⟨ak, ⟨a1, a2, a3⟩, ⟨s1, s2, s3⟩⟩)))) ∧ Below w.heap.size w w' := by
  rcases (by omega : k = 1 ∨ k = 2 ∨ k = 3 ∨ k = 4 ∨ k = 5 ∨ k = 6 ∨ (k ≠ 1 ∧ k ≠ 2 ∧ k ≠ 3 ∧ k ≠ 4 ∧ k ≠ 5 ∧ k ≠ 6)) with rfl | rfl | rfl | rfl | rfl | rfl | n
  · exact revent_c0 ep tt nn o1 o2 o3 r1 r2 r3 ak a1 a2 a3 s1 s2 s3 w h
  · exact revent_c1 ep tt nn o1 o2 o3 r1 r2 r3 ak a1 a2 a3 s1 s2 s3 w h
  · exact revent_c2 ep tt nn o1 o2 o3 r1 r2 r3 ak a1 a2 a3 s1 s2 s3 w h
  · exact revent_c3 ep tt nn o1 o2 o3 r1 r2 r3 ak a1 a2 a3 s1 s2 s3 w h
  · exact revent_c4 ep tt nn o1 o2 o3 r1 r2 r3 ak a1 a2 a3 s1 s2 s3 w h
  · rcases (by omega : ak = 1 ∨ ak = 2 ∨ (ak ≠ 1 ∧ ak ≠ 2)) with rfl | rfl | ⟨g1, g2⟩
    · exact revent_c5 ep tt nn o1 o2 o3 r1 r2 r3 a1 a2 a3 s1 s2 s3 w h
    · exact revent_c6 ep tt nn o1 o2 o3 r1 r2 r3 a1 a2 a3 s1 s2 s3 w h
    · exact revent_c7 ep tt nn o1 o2 o3 r1 r2 r3 ak a1 a2 a3 s1 s2 s3 w h g1 g2
  · exact revent_c8 k ep tt nn o1 o2 o3 r1 r2 r3 ak a1 a2 a3 s1 s2 s3 w h n
end Go.Proofs.YtloilknkhloegaaDoor
