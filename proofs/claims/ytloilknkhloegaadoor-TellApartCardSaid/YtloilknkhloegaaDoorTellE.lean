/- tell: the program's answers and events. -/
import Derived.Test.YtloilknkhloegaaDoorTellP
set_option linter.unusedSimpArgs false
set_option linter.unusedVariables false
namespace Go.Proofs.YtloilknkhloegaaDoor
open Go.RowKit

set_option maxHeartbeats 2000000 in
set_option maxRecDepth 100000 in
theorem panswer_any (k a1 a2 a3 r1 r2 r3 : Int) (w : World) (h : (PAns.mk k ⟨a1, a2, a3⟩ ⟨r1, r2, r3⟩).ok) (hT : TabOk w) :
    Calls Tryd.prog 29 #[.agg #[.int .i64 k, .int .i64 a1, .int .i64 a2, .int .i64 a3, .int .i64 r1, .int .i64 r2, .int .i64 r3]] w fun en w' => en = .returned (.string (bs (ansB (PAns.mk k ⟨a1, a2, a3⟩ ⟨r1, r2, r3⟩)))) ∧ Below w.heap.size w w' := by
  have HT := Lib.hid hT
  have HO := Lib.hid h.2.1
  have HR := Lib.hid h.2.2
  have HL := Lib.hid (ans_len h)
  have HLR := Lib.hid (res_len h.2.2)
  have HLO := Lib.hid (op_len h.2.1)
  have HP1 := Lib.hid (fun w hT => pop_any a1 a2 a3 w h.2.1 hT)
  have HP2 := Lib.hid (fun w hT => presult_any r1 r2 r3 w h.2.2 hT)
  have HD : Hid (ansB (PAns.mk k ⟨a1, a2, a3⟩ ⟨r1, r2, r3⟩) = if k = 1 then [110, 111, 116, 32, 100, 111, 110, 101, 32] ++ opB ⟨a1, a2, a3⟩ else if k = 2 then [100, 111, 110, 101, 32] ++ opB ⟨a1, a2, a3⟩ ++ [32] ++ resB ⟨r1, r2, r3⟩ else [117, 110, 107, 110, 111, 119, 110]) := Lib.hid rfl
  clear hT h
  generalize opB ⟨a1, a2, a3⟩ = Ob at HP1 HD HLO
  generalize resB ⟨r1, r2, r3⟩ = Rb at HP2 HD HLR
  generalize ansB (PAns.mk k ⟨a1, a2, a3⟩ ⟨r1, r2, r3⟩) = R at HD HL ⊢
  rcases (by omega : k = 1 ∨ k = 2 ∨ (k ≠ 1 ∧ k ≠ 2)) with rfl | rfl | ⟨n1, n2⟩
  · have HR2 : Hid (R = [110, 111, 116, 32, 100, 111, 110, 101, 32] ++ Ob) := Lib.hid (by rw [HD.out]; simp)
    clear HD
    go_enter Tryd.func29, Tryd.ntmps29
    go_wp2_with fail
    refine (HP1.out _ (HT.out.alloc _)).mono ?_
    rintro en w1 ⟨rfl, b1⟩
    have HB := Lib.hid (((Below.refl w.heap.size w).alloc (Nat.le_refl _) (.cells #[.int .i64 1, .int .i64 a1, .int .i64 a2, .int .i64 a3, .int .i64 r1, .int .i64 r2, .int .i64 r3] 28)).trans (b1.mono (by simp)))
    have HT1 := Lib.hid (HT.out.step HB.out)
    clear b1
    go_wp2_with fail
    refine (said_new [(.iface 9 (.string ⟨#[110, 111, 116, 32, 100, 111, 110, 101]⟩), ⟨#[110, 111, 116, 32, 100, 111, 110, 101]⟩), (.iface 9 (.string (bs Ob)), (bs Ob))] R _ _ _ _ _ rfl rfl (by simp) (HT1.out.alloc _) (by simp) (by simp) ⟨pc_s _, pc_s _, trivial⟩ (by rw [HR2.out]; simp [saidF, Lib.join, List.intercalate, nm]) (Nat.le_trans HL.out (by omega))).mono ?_
    rintro en w2 ⟨rfl, b2⟩
    go_wp2
    go_ret
    exact ⟨rfl, (HB.out.alloc HB.out.size _).trans (b2.mono (by have := HB.out.size; simp; omega))⟩
  · have HR2 : Hid (R = [100, 111, 110, 101, 32] ++ Ob ++ [32] ++ Rb) := Lib.hid (by rw [HD.out]; simp)
    clear HD
    go_enter Tryd.func29, Tryd.ntmps29
    go_wp2_with fail
    have hS0 := startB w #[.int .i64 2, .int .i64 a1, .int .i64 a2, .int .i64 a3, .int .i64 r1, .int .i64 r2, .int .i64 r3] 28
    go_region_held3 (fun w' => (∀ o : Nat, w'.cell? ⟨w.heap.size, o, none⟩ = (#[.int .i64 2, .int .i64 a1, .int .i64 a2, .int .i64 a3, .int .i64 r1, .int .i64 r2, .int .i64 r3] : Array Value)[o]?) ∧ w.heap.size < w'.heap.size ∧ Below w.heap.size w w') (first | assumption | exact keepB ((Below.refl _ _).alloc (Nat.le_refl _) _) (by assumption) | exact keepD (by assumption)) (first | (go_at_call 10; go_must (refine (HP1.out _ (HT.out.held (by assumption))).mono ?_); go_must (rintro e w' ⟨rfl, hb⟩); go_must (have hS := keepB (b := w.heap.size) (cs := #[.int .i64 2, .int .i64 a1, .int .i64 a2, .int .i64 a3, .int .i64 r1, .int .i64 r2, .int .i64 r3]) (w0 := w) hb (by assumption))) | (go_at_call 12; go_must (refine (HP2.out _ (HT.out.held (by assumption))).mono ?_); go_must (rintro e w' ⟨rfl, hb⟩); go_must (have hS := keepB (b := w.heap.size) (cs := #[.int .i64 2, .int .i64 a1, .int .i64 a2, .int .i64 a3, .int .i64 r1, .int .i64 r2, .int .i64 r3]) (w0 := w) hb (by assumption))) | (go_at_call 28; go_must (refine (said_new [(.iface 9 (.string ⟨#[100, 111, 110, 101]⟩), ⟨#[100, 111, 110, 101]⟩), (.iface 9 (.string (bs Ob)), (bs Ob)), (.iface 9 (.string (bs Rb)), (bs Rb))] R _ _ _ _ _ rfl rfl rfl (HT.out.held (by assumption)) (by simp) (by simp) ⟨pc_s _, pc_s _, pc_s _, trivial⟩ (by rw [HR2.out]; simp [saidF, Lib.join, List.intercalate, nm]) (Nat.le_trans HL.out (by omega))).mono ?_); go_must (rintro e w' ⟨rfl, hb⟩); go_must (have hS := keepB (b := w.heap.size) (cs := #[.int .i64 2, .int .i64 a1, .int .i64 a2, .int .i64 a3, .int .i64 r1, .int .i64 r2, .int .i64 r3]) (w0 := w) hb (by assumption))))
    all_goals
      go_wp2
      go_ret
      exact ⟨rfl, hS.2.2⟩
  · have HR2 : Hid (R = [117, 110, 107, 110, 111, 119, 110]) := Lib.hid (by rw [HD.out, if_neg n1, if_neg n2])
    have e1 : (k == 1) = false := by simpa using n1
    have e2 : (k == 2) = false := by simpa using n2
    clear HD n1 n2
    go_enter Tryd.func29, Tryd.ntmps29
    go_wp2
    go_ret
    refine ⟨by rw [HR2.out]; rfl, ?_⟩
    (repeat (first | exact Below.refl _ _ | assumption | refine Below.setCell ?_ (by first | omega | (simp; done) | (simp; omega)) _ | refine Below.alloc ?_ (by first | omega | (simp; done) | (simp; omega)) _ | refine Below.drew ?_ | refine Below.trans ?_ (Below.mono ‹Below _ _ _› (by first | omega | (simp; done) | (simp; omega)))))

set_option maxHeartbeats 2000000 in
set_option maxRecDepth 100000 in
theorem pevent_any (k ep tt nn o1 o2 o3 r1 r2 r3 ak a1 a2 a3 s1 s2 s3 : Int) (w : World) (h : (PEv.mk k ep tt nn ⟨o1, o2, o3⟩ ⟨r1, r2, r3⟩ ⟨ak, ⟨a1, a2, a3⟩, ⟨s1, s2, s3⟩⟩).ok) (hT : TabOk w) :
    Calls Tryd.prog 8 #[.agg #[.int .i64 k, .int .i64 ep, .int .i64 tt, .int .i64 nn, .int .i64 o1, .int .i64 o2, .int .i64 o3, .int .i64 r1, .int .i64 r2, .int .i64 r3, .int .i64 ak, .int .i64 a1, .int .i64 a2, .int .i64 a3, .int .i64 s1, .int .i64 s2, .int .i64 s3]] w fun en w' => en = .returned (.string (bs (evB (PEv.mk k ep tt nn ⟨o1, o2, o3⟩ ⟨r1, r2, r3⟩ ⟨ak, ⟨a1, a2, a3⟩, ⟨s1, s2, s3⟩⟩)))) ∧ Below w.heap.size w w' := by
  have HT := Lib.hid hT
  have HE := Lib.hid h.2.1
  have HN1 := Lib.hid h.2.2.1
  have HN2 := Lib.hid h.2.2.2.1
  have HP1 := Lib.hid (fun w hT => pop_any o1 o2 o3 w h.2.2.2.2.1 hT)
  have HP2 := Lib.hid (fun w hT => presult_any r1 r2 r3 w h.2.2.2.2.2.1 hT)
  have HP3 := Lib.hid (fun w hT => panswer_any ak a1 a2 a3 s1 s2 s3 w h.2.2.2.2.2.2 hT)
  have HL := Lib.hid (ev_len h)
  have HD : Hid (evB (PEv.mk k ep tt nn ⟨o1, o2, o3⟩ ⟨r1, r2, r3⟩ ⟨ak, ⟨a1, a2, a3⟩, ⟨s1, s2, s3⟩⟩) = if k = 1 then whoB (PEv.mk k ep tt nn ⟨o1, o2, o3⟩ ⟨r1, r2, r3⟩ ⟨ak, ⟨a1, a2, a3⟩, ⟨s1, s2, s3⟩⟩) ++ [32, 98, 101, 103, 105, 110, 115, 32] ++ opB ⟨o1, o2, o3⟩
    else if k = 2 then whoB (PEv.mk k ep tt nn ⟨o1, o2, o3⟩ ⟨r1, r2, r3⟩ ⟨ak, ⟨a1, a2, a3⟩, ⟨s1, s2, s3⟩⟩) ++ [32, 97, 110, 115, 119, 101, 114, 115, 32] ++ resB ⟨r1, r2, r3⟩
    else if k = 3 then whoB (PEv.mk k ep tt nn ⟨o1, o2, o3⟩ ⟨r1, r2, r3⟩ ⟨ak, ⟨a1, a2, a3⟩, ⟨s1, s2, s3⟩⟩) ++ [32, 114, 101, 102, 117, 115, 101, 100]
    else if k = 4 then Lib.itoa ep ++ [32, 99, 114, 97, 115, 104, 101, 100]
    else if k = 5 then Lib.itoa ep ++ [32, 109, 101, 110, 100, 101, 100]
    else if k = 6 then whoB (PEv.mk k ep tt nn ⟨o1, o2, o3⟩ ⟨r1, r2, r3⟩ ⟨ak, ⟨a1, a2, a3⟩, ⟨s1, s2, s3⟩⟩) ++ [32] ++ ansB ⟨ak, ⟨a1, a2, a3⟩, ⟨s1, s2, s3⟩⟩
    else Lib.itoa ep ++ [32, 101, 118, 101, 110, 116]) := Lib.hid rfl
  clear hT h
  generalize opB ⟨o1, o2, o3⟩ = Ob at HP1 HD
  generalize resB ⟨r1, r2, r3⟩ = Rb at HP2 HD
  generalize ansB ⟨ak, ⟨a1, a2, a3⟩, ⟨s1, s2, s3⟩⟩ = Ab at HP3 HD
  generalize evB (PEv.mk k ep tt nn ⟨o1, o2, o3⟩ ⟨r1, r2, r3⟩ ⟨ak, ⟨a1, a2, a3⟩, ⟨s1, s2, s3⟩⟩) = R at HD HL ⊢
  rcases (by omega : k = 1 ∨ k = 2 ∨ k = 3 ∨ k = 4 ∨ k = 5 ∨ k = 6 ∨ (k ≠ 1 ∧ k ≠ 2 ∧ k ≠ 3 ∧ k ≠ 4 ∧ k ≠ 5 ∧ k ≠ 6)) with rfl | rfl | rfl | rfl | rfl | rfl | ⟨n1, n2, n3, n4, n5, n6⟩
  · have HR2 : Hid (R = whoB (PEv.mk 1 ep tt nn ⟨o1, o2, o3⟩ ⟨r1, r2, r3⟩ ⟨ak, ⟨a1, a2, a3⟩, ⟨s1, s2, s3⟩⟩) ++ [32, 98, 101, 103, 105, 110, 115, 32] ++ Ob) := Lib.hid (by rw [HD.out]; simp)
    clear HD
    go_enter Tryd.func8, Tryd.ntmps8
    go_wp2_with fail
    have hS0 := startB w #[.int .i64 1, .int .i64 ep, .int .i64 tt, .int .i64 nn, .int .i64 o1, .int .i64 o2, .int .i64 o3, .int .i64 r1, .int .i64 r2, .int .i64 r3, .int .i64 ak, .int .i64 a1, .int .i64 a2, .int .i64 a3, .int .i64 s1, .int .i64 s2, .int .i64 s3] 30
    go_region_held3 (fun w' => (∀ o : Nat, w'.cell? ⟨w.heap.size, o, none⟩ = (#[.int .i64 1, .int .i64 ep, .int .i64 tt, .int .i64 nn, .int .i64 o1, .int .i64 o2, .int .i64 o3, .int .i64 r1, .int .i64 r2, .int .i64 r3, .int .i64 ak, .int .i64 a1, .int .i64 a2, .int .i64 a3, .int .i64 s1, .int .i64 s2, .int .i64 s3] : Array Value)[o]?) ∧ w.heap.size < w'.heap.size ∧ Below w.heap.size w w') (first | assumption | exact keepB ((Below.refl _ _).alloc (Nat.le_refl _) _) (by assumption) | exact keepD (by assumption)) (first | (go_at_call 10; go_must (refine (HP1.out _ (HT.out.held (by assumption))).mono ?_); go_must (rintro e w' ⟨rfl, hb⟩); go_must (have hS := keepB (b := w.heap.size) (cs := #[.int .i64 1, .int .i64 ep, .int .i64 tt, .int .i64 nn, .int .i64 o1, .int .i64 o2, .int .i64 o3, .int .i64 r1, .int .i64 r2, .int .i64 r3, .int .i64 ak, .int .i64 a1, .int .i64 a2, .int .i64 a3, .int .i64 s1, .int .i64 s2, .int .i64 s3]) (w0 := w) hb (by assumption))) | (go_at_call 28; go_must (refine (said_new [(.iface 3 (.int .i64 ep), bs (Lib.itoa ep)), (.iface 3 (.int .i64 tt), bs (Lib.itoa tt)), (.iface 3 (.int .i64 nn), bs (Lib.itoa nn)), (.iface 9 (.string ⟨#[98, 101, 103, 105, 110, 115]⟩), ⟨#[98, 101, 103, 105, 110, 115]⟩), (.iface 9 (.string (bs Ob)), (bs Ob))] R _ _ _ _ _ rfl rfl rfl (HT.out.held (by assumption)) (by simp) (by simp) ⟨pc_i HE.out, pc_i HN1.out, pc_i HN2.out, pc_s _, pc_s _, trivial⟩ (by rw [HR2.out]; (try unfold whoB nm); simp [saidF, Lib.join, List.intercalate]) (Nat.le_trans HL.out (by omega))).mono ?_); go_must (rintro e w' ⟨rfl, hb⟩); go_must (have hS := keepB (b := w.heap.size) (cs := #[.int .i64 1, .int .i64 ep, .int .i64 tt, .int .i64 nn, .int .i64 o1, .int .i64 o2, .int .i64 o3, .int .i64 r1, .int .i64 r2, .int .i64 r3, .int .i64 ak, .int .i64 a1, .int .i64 a2, .int .i64 a3, .int .i64 s1, .int .i64 s2, .int .i64 s3]) (w0 := w) hb (by assumption))))
    all_goals
      go_wp2
      go_ret
      exact ⟨rfl, hS.2.2⟩
  · have HR2 : Hid (R = whoB (PEv.mk 2 ep tt nn ⟨o1, o2, o3⟩ ⟨r1, r2, r3⟩ ⟨ak, ⟨a1, a2, a3⟩, ⟨s1, s2, s3⟩⟩) ++ [32, 97, 110, 115, 119, 101, 114, 115, 32] ++ Rb) := Lib.hid (by rw [HD.out]; simp)
    clear HD
    go_enter Tryd.func8, Tryd.ntmps8
    go_wp2_with fail
    have hS0 := startB w #[.int .i64 2, .int .i64 ep, .int .i64 tt, .int .i64 nn, .int .i64 o1, .int .i64 o2, .int .i64 o3, .int .i64 r1, .int .i64 r2, .int .i64 r3, .int .i64 ak, .int .i64 a1, .int .i64 a2, .int .i64 a3, .int .i64 s1, .int .i64 s2, .int .i64 s3] 30
    go_region_held3 (fun w' => (∀ o : Nat, w'.cell? ⟨w.heap.size, o, none⟩ = (#[.int .i64 2, .int .i64 ep, .int .i64 tt, .int .i64 nn, .int .i64 o1, .int .i64 o2, .int .i64 o3, .int .i64 r1, .int .i64 r2, .int .i64 r3, .int .i64 ak, .int .i64 a1, .int .i64 a2, .int .i64 a3, .int .i64 s1, .int .i64 s2, .int .i64 s3] : Array Value)[o]?) ∧ w.heap.size < w'.heap.size ∧ Below w.heap.size w w') (first | assumption | exact keepB ((Below.refl _ _).alloc (Nat.le_refl _) _) (by assumption) | exact keepD (by assumption)) (first | (go_at_call 12; go_must (refine (HP2.out _ (HT.out.held (by assumption))).mono ?_); go_must (rintro e w' ⟨rfl, hb⟩); go_must (have hS := keepB (b := w.heap.size) (cs := #[.int .i64 2, .int .i64 ep, .int .i64 tt, .int .i64 nn, .int .i64 o1, .int .i64 o2, .int .i64 o3, .int .i64 r1, .int .i64 r2, .int .i64 r3, .int .i64 ak, .int .i64 a1, .int .i64 a2, .int .i64 a3, .int .i64 s1, .int .i64 s2, .int .i64 s3]) (w0 := w) hb (by assumption))) | (go_at_call 28; go_must (refine (said_new [(.iface 3 (.int .i64 ep), bs (Lib.itoa ep)), (.iface 3 (.int .i64 tt), bs (Lib.itoa tt)), (.iface 3 (.int .i64 nn), bs (Lib.itoa nn)), (.iface 9 (.string ⟨#[97, 110, 115, 119, 101, 114, 115]⟩), ⟨#[97, 110, 115, 119, 101, 114, 115]⟩), (.iface 9 (.string (bs Rb)), (bs Rb))] R _ _ _ _ _ rfl rfl rfl (HT.out.held (by assumption)) (by simp) (by simp) ⟨pc_i HE.out, pc_i HN1.out, pc_i HN2.out, pc_s _, pc_s _, trivial⟩ (by rw [HR2.out]; (try unfold whoB nm); simp [saidF, Lib.join, List.intercalate]) (Nat.le_trans HL.out (by omega))).mono ?_); go_must (rintro e w' ⟨rfl, hb⟩); go_must (have hS := keepB (b := w.heap.size) (cs := #[.int .i64 2, .int .i64 ep, .int .i64 tt, .int .i64 nn, .int .i64 o1, .int .i64 o2, .int .i64 o3, .int .i64 r1, .int .i64 r2, .int .i64 r3, .int .i64 ak, .int .i64 a1, .int .i64 a2, .int .i64 a3, .int .i64 s1, .int .i64 s2, .int .i64 s3]) (w0 := w) hb (by assumption))))
    all_goals
      go_wp2
      go_ret
      exact ⟨rfl, hS.2.2⟩
  · have HR2 : Hid (R = whoB (PEv.mk 3 ep tt nn ⟨o1, o2, o3⟩ ⟨r1, r2, r3⟩ ⟨ak, ⟨a1, a2, a3⟩, ⟨s1, s2, s3⟩⟩) ++ [32, 114, 101, 102, 117, 115, 101, 100]) := Lib.hid (by rw [HD.out]; simp)
    clear HD
    go_enter Tryd.func8, Tryd.ntmps8
    go_wp2_with fail
    refine (said_new [(.iface 3 (.int .i64 ep), bs (Lib.itoa ep)), (.iface 3 (.int .i64 tt), bs (Lib.itoa tt)), (.iface 3 (.int .i64 nn), bs (Lib.itoa nn)), (.iface 9 (.string ⟨#[114, 101, 102, 117, 115, 101, 100]⟩), ⟨#[114, 101, 102, 117, 115, 101, 100]⟩)] R _ _ _ _ _ rfl rfl (by simp) ((HT.out.alloc _).alloc _) (by simp) (by simp) ⟨pc_i HE.out, pc_i HN1.out, pc_i HN2.out, pc_s _, trivial⟩ (by rw [HR2.out]; (try unfold whoB nm); simp [saidF, Lib.join, List.intercalate]) (Nat.le_trans HL.out (by omega))).mono ?_
    rintro en w2 ⟨rfl, b2⟩
    go_wp2
    go_ret
    refine ⟨rfl, ?_⟩
    (repeat (first | exact Below.refl _ _ | assumption | refine Below.setCell ?_ (by first | omega | (simp; done) | (simp; omega)) _ | refine Below.alloc ?_ (by first | omega | (simp; done) | (simp; omega)) _ | refine Below.drew ?_ | refine Below.trans ?_ (Below.mono ‹Below _ _ _› (by first | omega | (simp; done) | (simp; omega)))))
  · have HR2 : Hid (R = Lib.itoa ep ++ [32, 99, 114, 97, 115, 104, 101, 100]) := Lib.hid (by rw [HD.out]; simp)
    clear HD
    go_enter Tryd.func8, Tryd.ntmps8
    go_wp2_with fail
    refine (said_new [(.iface 3 (.int .i64 ep), bs (Lib.itoa ep)), (.iface 9 (.string ⟨#[99, 114, 97, 115, 104, 101, 100]⟩), ⟨#[99, 114, 97, 115, 104, 101, 100]⟩)] R _ _ _ _ _ rfl rfl (by simp) ((HT.out.alloc _).alloc _) (by simp) (by simp) ⟨pc_i HE.out, pc_s _, trivial⟩ (by rw [HR2.out]; (try unfold whoB nm); simp [saidF, Lib.join, List.intercalate]) (Nat.le_trans HL.out (by omega))).mono ?_
    rintro en w2 ⟨rfl, b2⟩
    go_wp2
    go_ret
    refine ⟨rfl, ?_⟩
    (repeat (first | exact Below.refl _ _ | assumption | refine Below.setCell ?_ (by first | omega | (simp; done) | (simp; omega)) _ | refine Below.alloc ?_ (by first | omega | (simp; done) | (simp; omega)) _ | refine Below.drew ?_ | refine Below.trans ?_ (Below.mono ‹Below _ _ _› (by first | omega | (simp; done) | (simp; omega)))))
  · have HR2 : Hid (R = Lib.itoa ep ++ [32, 109, 101, 110, 100, 101, 100]) := Lib.hid (by rw [HD.out]; simp)
    clear HD
    go_enter Tryd.func8, Tryd.ntmps8
    go_wp2_with fail
    refine (said_new [(.iface 3 (.int .i64 ep), bs (Lib.itoa ep)), (.iface 9 (.string ⟨#[109, 101, 110, 100, 101, 100]⟩), ⟨#[109, 101, 110, 100, 101, 100]⟩)] R _ _ _ _ _ rfl rfl (by simp) ((HT.out.alloc _).alloc _) (by simp) (by simp) ⟨pc_i HE.out, pc_s _, trivial⟩ (by rw [HR2.out]; (try unfold whoB nm); simp [saidF, Lib.join, List.intercalate]) (Nat.le_trans HL.out (by omega))).mono ?_
    rintro en w2 ⟨rfl, b2⟩
    go_wp2
    go_ret
    refine ⟨rfl, ?_⟩
    (repeat (first | exact Below.refl _ _ | assumption | refine Below.setCell ?_ (by first | omega | (simp; done) | (simp; omega)) _ | refine Below.alloc ?_ (by first | omega | (simp; done) | (simp; omega)) _ | refine Below.drew ?_ | refine Below.trans ?_ (Below.mono ‹Below _ _ _› (by first | omega | (simp; done) | (simp; omega)))))
  · have HR2 : Hid (R = whoB (PEv.mk 6 ep tt nn ⟨o1, o2, o3⟩ ⟨r1, r2, r3⟩ ⟨ak, ⟨a1, a2, a3⟩, ⟨s1, s2, s3⟩⟩) ++ [32] ++ Ab) := Lib.hid (by rw [HD.out]; simp)
    clear HD
    go_enter Tryd.func8, Tryd.ntmps8
    go_wp2_with fail
    have hS0 := startB w #[.int .i64 6, .int .i64 ep, .int .i64 tt, .int .i64 nn, .int .i64 o1, .int .i64 o2, .int .i64 o3, .int .i64 r1, .int .i64 r2, .int .i64 r3, .int .i64 ak, .int .i64 a1, .int .i64 a2, .int .i64 a3, .int .i64 s1, .int .i64 s2, .int .i64 s3] 30
    go_region_held3 (fun w' => (∀ o : Nat, w'.cell? ⟨w.heap.size, o, none⟩ = (#[.int .i64 6, .int .i64 ep, .int .i64 tt, .int .i64 nn, .int .i64 o1, .int .i64 o2, .int .i64 o3, .int .i64 r1, .int .i64 r2, .int .i64 r3, .int .i64 ak, .int .i64 a1, .int .i64 a2, .int .i64 a3, .int .i64 s1, .int .i64 s2, .int .i64 s3] : Array Value)[o]?) ∧ w.heap.size < w'.heap.size ∧ Below w.heap.size w w') (first | assumption | exact keepB ((Below.refl _ _).alloc (Nat.le_refl _) _) (by assumption) | exact keepD (by assumption)) (first | (go_at_call 29; go_must (refine (HP3.out _ (HT.out.held (by assumption))).mono ?_); go_must (rintro e w' ⟨rfl, hb⟩); go_must (have hS := keepB (b := w.heap.size) (cs := #[.int .i64 6, .int .i64 ep, .int .i64 tt, .int .i64 nn, .int .i64 o1, .int .i64 o2, .int .i64 o3, .int .i64 r1, .int .i64 r2, .int .i64 r3, .int .i64 ak, .int .i64 a1, .int .i64 a2, .int .i64 a3, .int .i64 s1, .int .i64 s2, .int .i64 s3]) (w0 := w) hb (by assumption))) | (go_at_call 28; go_must (refine (said_new [(.iface 3 (.int .i64 ep), bs (Lib.itoa ep)), (.iface 3 (.int .i64 tt), bs (Lib.itoa tt)), (.iface 3 (.int .i64 nn), bs (Lib.itoa nn)), (.iface 9 (.string (bs Ab)), (bs Ab))] R _ _ _ _ _ rfl rfl rfl (HT.out.held (by assumption)) (by simp) (by simp) ⟨pc_i HE.out, pc_i HN1.out, pc_i HN2.out, pc_s _, trivial⟩ (by rw [HR2.out]; (try unfold whoB nm); simp [saidF, Lib.join, List.intercalate]) (Nat.le_trans HL.out (by omega))).mono ?_); go_must (rintro e w' ⟨rfl, hb⟩); go_must (have hS := keepB (b := w.heap.size) (cs := #[.int .i64 6, .int .i64 ep, .int .i64 tt, .int .i64 nn, .int .i64 o1, .int .i64 o2, .int .i64 o3, .int .i64 r1, .int .i64 r2, .int .i64 r3, .int .i64 ak, .int .i64 a1, .int .i64 a2, .int .i64 a3, .int .i64 s1, .int .i64 s2, .int .i64 s3]) (w0 := w) hb (by assumption))))
    all_goals
      go_wp2
      go_ret
      exact ⟨rfl, hS.2.2⟩
  · have HR2 : Hid (R = Lib.itoa ep ++ [32, 101, 118, 101, 110, 116]) := Lib.hid (by rw [HD.out, if_neg n1, if_neg n2, if_neg n3, if_neg n4, if_neg n5, if_neg n6])
    have e1 : (k == 1) = false := by simpa using n1
    have e2 : (k == 2) = false := by simpa using n2
    have e3 : (k == 3) = false := by simpa using n3
    have e4 : (k == 4) = false := by simpa using n4
    have e5 : (k == 5) = false := by simpa using n5
    have e6 : (k == 6) = false := by simpa using n6
    clear HD n1 n2 n3 n4 n5 n6
    go_enter Tryd.func8, Tryd.ntmps8
    go_wp2_with fail
    refine (said_new [(.iface 3 (.int .i64 ep), bs (Lib.itoa ep)), (.iface 9 (.string ⟨#[101, 118, 101, 110, 116]⟩), ⟨#[101, 118, 101, 110, 116]⟩)] R _ _ _ _ _ rfl rfl (by simp) ((HT.out.alloc _).alloc _) (by simp) (by simp) ⟨pc_i HE.out, pc_s _, trivial⟩ (by rw [HR2.out]; (try unfold whoB nm); simp [saidF, Lib.join, List.intercalate]) (Nat.le_trans HL.out (by omega))).mono ?_
    rintro en w2 ⟨rfl, b2⟩
    go_wp2
    go_ret
    refine ⟨rfl, ?_⟩
    (repeat (first | exact Below.refl _ _ | assumption | refine Below.setCell ?_ (by first | omega | (simp; done) | (simp; omega)) _ | refine Below.alloc ?_ (by first | omega | (simp; done) | (simp; omega)) _ | refine Below.drew ?_ | refine Below.trans ?_ (Below.mono ‹Below _ _ _› (by first | omega | (simp; done) | (simp; omega)))))
end Go.Proofs.YtloilknkhloegaaDoor
