/- parts of the proof, merged by a program. -/
import Derived.Test.YtkhanbedcmmlcaaGreatDoorMtp2
import Derived.Test.YtkhanbedcmmlcaaGreatDoorMtp8
import Derived.Test.YtkhanbedcmmlcaaGreatDoorMtp11
set_option linter.unusedSimpArgs false
set_option linter.unusedVariables false
/- the document's text of a heap's parts. -/
set_option linter.unusedSimpArgs false
set_option linter.unusedVariables false
namespace Go.Proofs.YtkhanbedcmmlcaaGreatDoor
open Go.RowKit
theorem cat_big (a b c : List UInt8) (h : c = a ++ b) (ha : a.length ≤ 8000000) (hb : b.length ≤ 10000) : ∀ w : World, (Op.stringOp .add (bs a) (bs b)).run Tryz.prog w = .ok (.string (bs c)) w := fun w => by
  subst h
  exact run_string_add_lists w a b (by omega) (by omega)
theorem words_at (w2 : World) (T : TypeId) (kd : Nat) (h : 1 ≤ kd ∧ kd ≤ 5) : (w2.alloc (.cells #[.string ⟨#[]⟩, .string ⟨#[102, 114, 101, 101]⟩, .string ⟨#[108, 105, 118, 101]⟩, .string ⟨#[115, 108, 111, 116]⟩, .string ⟨#[112, 111, 99, 107, 101, 116]⟩, .string ⟨#[115, 108, 97, 99, 107]⟩] T)).cell? ⟨w2.heap.size, kd, none⟩ = some (.string (bs (kwordB kd))) := by
  rw [loc_alloc]
  rcases (by omega : kd = 1 ∨ kd = 2 ∨ kd = 3 ∨ kd = 4 ∨ kd = 5) with rfl | rfl | rfl | rfl | rfl <;> rfl
theorem keep4 {W W' : World} {a0 a1 a2 a3 : Addr} {u0 u1 u2 u3 : Value} (h : W.cell? a0 = some u0 ∧ W.cell? a1 = some u1 ∧ W.cell? a2 = some u2 ∧ W.cell? a3 = some u3) (hb : Below W.heap.size W W') : W'.cell? a0 = some u0 ∧ W'.cell? a1 = some u1 ∧ W'.cell? a2 = some u2 ∧ W'.cell? a3 = some u3 := by
  have cc : ∀ {a : Addr} {v : Value}, W.cell? a = some v → W'.cell? a = some v := fun hc => (hb.cell (World.block_lt_of_cell? _ _ hc)).trans hc
  exact ⟨cc h.1, cc h.2.1, cc h.2.2.1, cc h.2.2.2⟩
structure RpRel (w2 : World) (L : List (Int × Int × Int)) (vs vi : Value) (wr : World) (k : Nat) : Prop where
  hi : vi = .int .i64 k
  le : k ≤ L.length
  str : vs = .string (bs (partsB (L.take k)))
  bel : Below w2.heap.size w2 wr
def RpRelE (w2 : World) (L : List (Int × Int × Int)) (vs vi : Value) (wr : World) : Prop := ∃ k, RpRel w2 L vs vi wr k

set_option maxHeartbeats 2000000 in
set_option maxRecDepth 100000 in
theorem rparts_text (t p s : Int) (sa : Option Addr) (m c : Nat) (w : World) (L : List (Int × Int × Int)) (hL : L.length ≤ 33792) (hok : ∀ x ∈ L, PtOk x)
    (HP : ∀ W, Below w.heap.size w W → Calls Tryz.prog 25 #[.agg #[.int .i64 t, .int .i64 p, .int .i64 s], .slice sa m c] W fun e W' => ∃ v, e = .returned v ∧ RowQ W L v W') :
    Calls Tryz.prog 10 #[.agg #[.int .i64 t, .int .i64 p, .int .i64 s], .slice sa m c] w fun e w' => e = .returned (.string (bs (partsB L))) ∧ Below w.heap.size w w' := by
  have HC := Lib.hid HP
  have HOK := Lib.hid hok
  clear HP hok
  go_enter Tryz.func10, Tryz.ntmps10
  go_wp2_with fail
  refine (HC.out _ ((Below.refl _ _).alloc (Nat.le_refl _) _)).mono ?_
  rintro e w2 ⟨v, rfl, hrow, hown, hb2⟩
  obtain ⟨pa, pc, rfl⟩ := row_shape hrow
  have HR := Lib.hid hrow
  have HB2 := Lib.hid (((Below.refl w.heap.size w).alloc (Nat.le_refl _) _).trans (hb2.mono (by simp)))
  clear hrow hown hb2 HC
  have hwd := fun kd hk => words_at w2 9 kd hk
  have hrw := row_below HR.out ((Below.refl w2.heap.size w2).alloc (Nat.le_refl _) (.cells #[.string ⟨#[]⟩, .string ⟨#[102, 114, 101, 101]⟩, .string ⟨#[108, 105, 118, 101]⟩, .string ⟨#[115, 108, 111, 116]⟩, .string ⟨#[112, 111, 99, 107, 101, 116]⟩, .string ⟨#[115, 108, 97, 99, 107]⟩] 9))
  have hbw := HB2.out.alloc HB2.out.size (.cells #[.string ⟨#[]⟩, .string ⟨#[102, 114, 101, 101]⟩, .string ⟨#[108, 105, 118, 101]⟩, .string ⟨#[115, 108, 111, 116]⟩, .string ⟨#[112, 111, 99, 107, 101, 116]⟩, .string ⟨#[115, 108, 97, 99, 107]⟩] 9)
  have hzw : w2.heap.size < (w2.alloc (.cells #[.string ⟨#[]⟩, .string ⟨#[102, 114, 101, 101]⟩, .string ⟨#[108, 105, 118, 101]⟩, .string ⟨#[115, 108, 111, 116]⟩, .string ⟨#[112, 111, 99, 107, 101, 116]⟩, .string ⟨#[115, 108, 97, 99, 107]⟩] 9)).heap.size := by simp
  obtain ⟨W, hW⟩ : ∃ W, W = w2.alloc (.cells #[.string ⟨#[]⟩, .string ⟨#[102, 114, 101, 101]⟩, .string ⟨#[108, 105, 118, 101]⟩, .string ⟨#[115, 108, 111, 116]⟩, .string ⟨#[112, 111, 99, 107, 101, 116]⟩, .string ⟨#[115, 108, 97, 99, 107]⟩] 9) := ⟨_, rfl⟩
  rw [← hW] at hwd hrw hbw hzw
  have HWD := Lib.hid hwd
  have HRW := Lib.hid hrw
  have HBW := Lib.hid hbw
  have HW := Lib.hid hW
  clear hwd hrw hbw hW HR HB2
  go_wp2
  rw [← HW.out]
  go_loopw [7, 8] (fun vs vi wr => RpRelE W L vs vi wr) (fun _ vi _ => L.length - (intOf vi).toNat)
  case atStart => exact ⟨0, rfl, by omega, by simp [partsB], Below.refl _ _⟩
  case round =>
    obtain ⟨k, rfl, hle, rfl, hb⟩ := hrel
    have hrow := row_below HRW.out hb
    have HB := Lib.hid hb
    by_cases hlt : k < L.length
    · have hlti : (k : Int) < L.length := by omega
      obtain ⟨x, hx⟩ : ∃ x, L[k]? = some x := ⟨_, List.getElem?_eq_getElem hlt⟩
      have hpo := HOK.out x (List.mem_of_getElem? hx)
      have htk := partsB_take hx
      have hln := partsB_len (l := L.take k) (fun y hy => HOK.out y (List.mem_of_mem_take hy))
      simp only [List.length_take] at hln
      obtain ⟨y1, y2, y3⟩ := x
      obtain ⟨g, cap, hg⟩ := Joins.ownsRow_form hrow (by omega)
      simp only [Value.slice.injEq, true_and] at hg
      obtain ⟨rfl, rfl⟩ := hg
      obtain ⟨p0, p1, p2⟩ := part_cell hx
      have q0 := (hrow.cellAt (k * 3) (by omega)).trans p0
      have q1 := (hrow.cellAt (k * 3 + 1) (by omega)).trans p1
      have q2 := (hrow.cellAt (k * 3 + 2) (by omega)).trans p2
      simp only at q0 q1 q2
      obtain ⟨hk, ha, hz⟩ := hpo
      simp only at hk ha hz
      obtain ⟨kd, rfl⟩ : ∃ kd : Nat, y1 = kd := ⟨y1.toNat, by omega⟩
      have hkd : 1 ≤ kd ∧ kd ≤ 5 := by omega
      have hk6 : (kd : Int) < 6 := by omega
      have q3 := (hb.cell (p := ⟨w2.heap.size, kd, none⟩) hzw).trans (HWD.out kd hkd)
      have HA := Lib.hid ha
      have HZ := Lib.hid hz
      have HQ := Lib.hid (And.intro q0 (And.intro q1 (And.intro q2 q3)))
      have l1 := itoa_len ha
      have l2 := nm_len hz
      have l3 := kword_len kd
      have hlb : (partsB (L.take k)).length ≤ 3000000 := by omega
      have HTK : Hid (partsB (L.take (k + 1)) = ((((partsB (L.take k) ++ Lib.itoa y2) ++ nm y3) ++ [32]) ++ kwordB kd) ++ [10]) := Lib.hid (by rw [htk]; simp [partB])
      clear htk hln p0 p1 p2 hrow hx ha hz q0 q1 q2 q3 hb
      generalize partsB (L.take k) = acc at *
      have cat1 := cat_big acc (Lib.itoa y2) _ rfl (by omega) (by omega)
      have m1 : (acc ++ Lib.itoa y2).length ≤ 4000000 := by simp; omega
      generalize acc ++ Lib.itoa y2 = M1 at *
      have cat2 := cat_big M1 (nm y3) _ rfl (by omega) (by omega)
      have m2 : (M1 ++ nm y3).length ≤ 5000000 := by simp; omega
      generalize M1 ++ nm y3 = M2 at *
      have cat3 : ∀ w : World, (Op.stringOp .add (bs M2) ⟨#[32]⟩).run Tryz.prog w = .ok (.string (bs (M2 ++ [32]))) w := cat_big M2 [32] _ rfl (by omega) (by simp)
      have m3 : (M2 ++ [32]).length ≤ 6000000 := by simp; omega
      generalize M2 ++ [32] = M3 at *
      have cat4 := cat_big M3 (kwordB kd) _ rfl (by omega) (by omega)
      have m4 : (M3 ++ kwordB kd).length ≤ 7000000 := by simp; omega
      generalize hkw : kwordB kd = kw at *
      generalize M3 ++ kw = M4 at *
      have cat5 : ∀ w : World, (Op.stringOp .add (bs M4) ⟨#[10]⟩).run Tryz.prog w = .ok (.string (bs (M4 ++ [10]))) w := cat_big M4 [10] _ rfl (by omega) (by simp)
      generalize M4 ++ [10] = M5 at *
      have HM := Lib.hid (And.intro m1 (And.intro m2 (And.intro m3 m4)))
      clear m1 m2 m3 m4 l1 l2 l3 hlb hkw
      go_wp2_with fail
      refine wp_region_noPanic ?_
      refine wp_region_held_drew (S := fun w' => w'.cell? ⟨g, k * 3, none⟩ = some (.int .i64 kd) ∧ w'.cell? ⟨g, k * 3 + 1, none⟩ = some (.int .i64 y2) ∧ w'.cell? ⟨g, k * 3 + 2, none⟩ = some (.int .i64 y3) ∧ w'.cell? ⟨w2.heap.size, kd, none⟩ = some (.string (bs kw))) (by kernel_rfl) ?_ (fun hHeld => ?_)
      · exact HQ.out
      refine wT 0 ?_
      refine wT 1 ?_
      refine wT 2 ?_
      refine wT 3 ?_
      refine wT 4 ?_
      refine wT 5 ?_
      refine wT 8 ?_
      refine wT 9 ?_
      refine wT 10 ?_
      refine wT 11 ?_
      refine wT 12 ?_
      refine wT 16 ?_
      refine wT 17 ?_
      refine wT 18 ?_
      refine wT 19 ?_
      refine wT 20 ?_
      refine wT 21 ?_
      refine wT 22 ?_
      refine wT 23 ?_
      refine wR 6 fun K hK => ?_
      go_simp
      refine (digits_any _ _ HA.out).mono ?_
      rintro e wk ⟨rfl, bk⟩
      have hK1 := keep4 hHeld bk
      dsimp only
      refine hK.out _ _ ?_ (fun hHeld => ?_)
      · exact hK1
      clear hK K
      try simp only [Act.put, zA, zB, zC, zD, zE, zF]
      refine wT 7 ?_
      refine wR 13 fun K hK => ?_
      go_simp
      refine (num_any _ _ HZ.out).mono ?_
      rintro e wn ⟨rfl, bn⟩
      have hK2 := keep4 hHeld bn
      dsimp only
      refine hK.out _ _ ?_ (fun hHeld => ?_)
      · exact hK2
      clear hK K
      try simp only [Act.put, zA, zB, zC, zD, zE, zF]
      refine wT 14 ?_
      refine wT 15 ?_
      refine wT 24 ?_
      refine wT 25 ?_
      refine wT 26 ?_
      refine wpAnyH_done (by kernel_rfl) (NoPanic.normal ?_) _
      have HF := Lib.hid ((HB.out.drew.trans (bk.mono HB.out.drew.size)).trans (bn.mono (HB.out.drew.trans (bk.mono HB.out.drew.size)).size))
      clear hHeld
      go_wp2
      go_roundw
      case rel => exact ⟨k + 1, by go_num, by omega, by rw [HTK.out], HF.out⟩
      case measure => simp [intOf]; omega
    · obtain rfl : k = L.length := by omega
      rw [List.take_length]
      clear hb
      go_wp2_with fail
      go_ret
      exact ⟨rfl, HBW.out.trans (HB.out.mono HBW.out.size)⟩
end Go.Proofs.YtkhanbedcmmlcaaGreatDoor
