/- the document's audit: pages' bytes, slots' sizes, addresses. -/
import Derived.Test.YtcicmljnjdhkjaaGreatAudG
namespace Go.Proofs.YtcicmljnjdhkjaaGreat
open Go.RowKit

def pageN : Nat → Int
  | 0 => 1
  | k + 1 => pageN k * 2
def pageF (s : Int) : Int := pageN s.toNat
theorem pageN_bd : ∀ k : Nat, k ≤ 20 → 1 ≤ pageN k ∧ pageN k ≤ 1048576 := by decide
theorem pageF_bd {s : Int} (h : 10 ≤ s ∧ s ≤ 20) : 1024 ≤ pageF s ∧ pageF s ≤ 1048576 := by
  have : ∀ k : Nat, k ≤ 20 → 10 ≤ k → 1024 ≤ pageN k ∧ pageN k ≤ 1048576 := by decide
  exact this _ (by omega) (by omega)

def PgRel (s : Int) (w : World) (W0 : World) (v3 v4 : Value) (wr : World) : Prop := ∃ k : Nat, (k : Int) ≤ s ∧ v4 = .int .i64 k ∧ v3 = .int .i64 (pageN k) ∧ W0 = wr ∧ w = w

theorem rpagesz_any (t p s : Int) (w : World) (hr : rightB t p s = true) :
    Calls Tryz.prog 120 #[.agg #[.int .i64 t, .int .i64 p, .int .i64 s]] w fun e w' => e = .returned (.int .i64 (pageF s)) ∧ Below w.heap.size w w' := by
  obtain ⟨b1, b2, b3, b4, b5, b6⟩ := right_bd hr
  have H := rright_any t p s
  rw [hr] at H
  have HH := Lib.hid H
  have c0 := loc_alloc w #[.int .i64 t, .int .i64 p, .int .i64 s] 23
  generalize hF : pageF s = F
  have HF := Lib.hid hF
  clear H hr hF
  go_enter Tryz.func120, Tryz.ntmps120
  go_wp2_with fail
  refine (HH.out _).mono ?_
  rintro e w1 ⟨rfl, hb⟩
  have c2 := (hb.cell (p := ⟨w.heap.size, 2, none⟩) (by simp)).trans (c0 2)
  simp at c2
  have bel : Below w.heap.size w w1 := ((Below.refl _ _).alloc (Nat.le_refl _) _).trans (hb.mono (by simp))
  clear hb c0
  go_wp2_with fail
  go_loopw [3, 4] (fun v3 v4 wr => PgRel s w w1 v3 v4 wr) (fun _ v4 _ => s.toNat - (intOf v4).toNat)
  case atStart => exact ⟨0, by omega, rfl, rfl, rfl, rfl⟩
  case round =>
    obtain ⟨k, hk, rfl, rfl, rfl, -⟩ := hrel
    have hp := pageN_bd k (by omega)
    by_cases hlt : (k : Int) < s
    · have hs : pageN (k + 1) = pageN k * 2 := rfl
      have HS := Lib.hid hs
      clear hs
      generalize pageN k = pg at *
      go_wp2
      go_roundw
      case rel => exact ⟨k + 1, by omega, by go_num, by rw [HS.out], rfl, rfl⟩
      case measure => simp [intOf]; omega
    · have e : k = s.toNat := by omega
      have hF2 : pageN k = F := by rw [← HF.out, e]; rfl
      have HF2 := Lib.hid hF2
      clear hp hF2 e
      generalize pageN k = pg at *
      go_wp2
      go_ret
      exact ⟨ret_int HF2.out, bel⟩

def sizeF (s k : Int) : Int := if slotsF k = 0 then 0 else pageF s / slotsF k - pageF s / slotsF k % 16
theorem slots_cases (k : Int) : slotsF k = 0 ∨ slotsF k = 32 ∨ slotsF k = 21 ∨ slotsF k = 16 ∨ slotsF k = 10 ∨ slotsF k = 8 ∨ slotsF k = 5 ∨ slotsF k = 4 ∨ slotsF k = 3 ∨ slotsF k = 2 := by
  rcases (by omega : k = 0 ∨ k = 1 ∨ k = 2 ∨ k = 3 ∨ k = 4 ∨ k = 5 ∨ k = 6 ∨ k = 7 ∨ k = 8 ∨ (k < 0 ∨ 8 < k)) with rfl | rfl | rfl | rfl | rfl | rfl | rfl | rfl | rfl | h
  case inr.inr.inr.inr.inr.inr.inr.inr.inr =>
    left
    unfold slotsF
    rw [if_neg (by omega), if_neg (by omega), if_neg (by omega), if_neg (by omega), if_neg (by omega), if_neg (by omega), if_neg (by omega), if_neg (by omega), if_neg (by omega)]
  all_goals decide
theorem size_bd {s k : Int} (h : 10 ≤ s ∧ s ≤ 20) : 0 ≤ sizeF s k ∧ sizeF s k ≤ 1048576 ∧ sizeF s k * slotsF k ≤ pageF s ∧ (slotsF k ≠ 0 → 1 ≤ sizeF s k) ∧ (∀ b : Int, 0 ≤ b → b < slotsF k → 0 ≤ b * sizeF s k ∧ b * sizeF s k + sizeF s k ≤ pageF s) := by
  have hp := pageF_bd h
  unfold sizeF
  generalize pageF s = pg at *
  have key : ∀ N z : Int, 0 ≤ z → N * z ≤ pg → ∀ b : Int, 0 ≤ b → b < N → 0 ≤ b * z ∧ b * z + z ≤ pg := by
    intro N z hz hN b hb hbN
    refine ⟨Int.mul_nonneg hb hz, ?_⟩
    have h1 : (b + 1) * z ≤ N * z := Int.mul_le_mul_of_nonneg_right (by omega) hz
    have h2 : (b + 1) * z = b * z + z := by rw [Int.add_mul, Int.one_mul]
    omega
  rcases slots_cases k with e | e | e | e | e | e | e | e | e | e <;> rw [e]
  · rw [if_pos rfl]
    exact ⟨by omega, by omega, by omega, fun h => absurd rfl h, fun b h1 h2 => absurd h2 (by omega)⟩
  all_goals
    rw [if_neg (by omega)]
    refine ⟨by omega, by omega, by omega, fun _ => by omega, key _ _ (by omega) (by omega)⟩

theorem rsize_any (s k : Int) (w : World) (h : 10 ≤ s ∧ s ≤ 20) :
    Calls Tryz.prog 55 #[.int .i64 s, .int .i64 k] w fun e w' => e = .returned (.int .i64 (sizeF s k)) ∧ Below w.heap.size w w' := by
  have H := Lib.hid (fun w => rpagesz_any 1 4 s w (right_mk (by omega)))
  have hp := pageF_bd h
  have hd : sizeF s k = if slotsF k = 0 then 0 else pageF s / slotsF k - pageF s / slotsF k % 16 := rfl
  have HK := Lib.hid (fun w => rkslots_any k w)
  have hb := slots_bd k
  rw [hd]
  clear hd h
  generalize slotsF k = n at *
  generalize pageF s = pg at *
  by_cases hn : n = 0
  · subst hn
    go_enter Tryz.func55, Tryz.ntmps55
    go_wp2_with fail
    refine (H.out _).mono ?_
    rintro e w1 ⟨rfl, b1⟩
    go_wp2_with fail
    refine (HK.out _).mono ?_
    rintro e w2 ⟨rfl, b2⟩
    go_wp2
    go_ret
    exact ⟨by simp, b1.trans (b2.mono b1.size)⟩
  · rw [if_neg hn]
    have hnb : (n == 0) = false := by simp [hn]
    have hpb : (pg == 0) = false := by simp; omega
    have hq : pg.tdiv n = pg / n := Int.tdiv_eq_ediv_of_nonneg (by omega)
    have hq0 : 0 ≤ pg / n := Int.ediv_nonneg (by omega) (by omega)
    have hq1 : pg / n ≤ pg := Int.ediv_le_self _ (by omega)
    have HQ := Lib.hid hq
    go_enter Tryz.func55, Tryz.ntmps55
    go_wp2_with fail
    refine (H.out _).mono ?_
    rintro e w1 ⟨rfl, b1⟩
    go_wp2_with fail
    refine (HK.out _).mono ?_
    rintro e w2 ⟨rfl, b2⟩
    go_wp2
    go_ret
    exact ⟨rfl, b1.trans (b2.mono b1.size)⟩

/-- an address that is one. -/
def addrF (s q off : Int) : Int := (q + 1) * pageF s + off
theorem rof_any (t p s q off : Int) (w : World) (hr : rightB t p s = true) (h0 : 0 ≤ q) (h1 : q < p) (h2 : 0 ≤ off) (h3 : off < pageF s) :
    Calls Tryz.prog 150 #[.agg #[.int .i64 t, .int .i64 p, .int .i64 s], .int .i64 q, .int .i64 off] w fun e w' => e = .returned (.tuple #[.int .i64 (addrF s q off), .bool true]) ∧ Below w.heap.size w w' := by
  obtain ⟨b1, b2, b3, b4, b5, b6⟩ := right_bd hr
  have H := rright_any t p s
  rw [hr] at H
  have HH := Lib.hid H
  have HP := Lib.hid (fun w => rpagesz_any t p s w hr)
  have hp := pageF_bd (s := s) (by omega)
  have hd : addrF s q off = (q + 1) * pageF s + off := rfl
  rw [hd]
  clear H hr hd
  generalize pageF s = pg at *
  have hm0 : 0 ≤ (q + 1) * pg := Int.mul_nonneg (by omega) (by omega)
  have hm1 : (q + 1) * pg ≤ 1024 * 1048576 := Int.mul_le_mul (by omega) (by omega) (by omega) (by omega)
  have hw1 : IntKind.i64.wrap ((q + 1) * pg) = (q + 1) * pg := wrap_in _ (by omega)
  have hw2 : IntKind.i64.wrap ((q + 1) * pg + off) = (q + 1) * pg + off := wrap_in _ (by omega)
  have c0 := loc_alloc w #[.int .i64 t, .int .i64 p, .int .i64 s] 23
  go_enter Tryz.func150, Tryz.ntmps150
  go_wp2_with fail
  refine (HH.out _).mono ?_
  rintro e w1 ⟨rfl, ha⟩
  obtain ⟨hac, haf⟩ := bcell ha
  have haz0 : w.heap.size < w1.heap.size := by have := ha.size; first | omega | (simp at this; omega)
  go_wp2_with fail
  refine (HP.out _).mono ?_
  rintro e w2 ⟨rfl, hb⟩
  obtain ⟨hbc, hbf⟩ := bcell hb
  have hbz0 : w1.heap.size ≤ w2.heap.size := by have := hb.size; first | omega | (simp at this; omega)
  have hbz1 : w.heap.size < w2.heap.size := by have := hb.size; first | omega | (simp at this; omega)
  go_wp2_with fail
  refine (HP.out _).mono ?_
  rintro e w3 ⟨rfl, hc⟩
  obtain ⟨hcc, hcf⟩ := bcell hc
  go_wp2
  refine bodyPost_ret (v := .tuple #[.int .i64 ((q + 1) * pg + off), .bool true]) (by simp [results, Tryz.results150, go_sem]) rfl ⟨rfl, ?_⟩
  (repeat (first | exact Below.refl _ _ | assumption | refine Below.setCell ?_ (by first | omega | (simp; done) | (simp; omega)) _ | refine Below.alloc ?_ (by first | omega | (simp; done) | (simp; omega)) _ | refine Below.drew ?_ | refine Below.trans ?_ (Below.mono ‹Below _ _ _› (by first | omega | (simp; done) | (simp; omega)))))

theorem rat_any (t p s k q slot : Int) (w : World) (hr : rightB t p s = true) (h0 : 0 ≤ q) (h1 : q < p) (h2 : 0 ≤ slot) (h3 : slot < slotsF k) :
    Calls Tryz.prog 193 #[.agg #[.int .i64 t, .int .i64 p, .int .i64 s], .int .i64 k, .int .i64 q, .int .i64 slot] w fun e w' => e = .returned (.tuple #[.int .i64 (addrF s q (slot * sizeF s k)), .bool true]) ∧ Below w.heap.size w w' := by
  obtain ⟨b1, b2, b3, b4, b5, b6⟩ := right_bd hr
  obtain ⟨s1, s2, s3, s4, s5⟩ := size_bd (s := s) (k := k) (by omega)
  have h5 := s5 slot h2 h3
  have s6 := s4 (by omega)
  have hp := pageF_bd (s := s) (by omega)
  have HO := Lib.hid (fun w => rof_any t p s q (slot * sizeF s k) w hr h0 h1 h5.1 (by omega))
  have HK := Lib.hid (fun w => rkslots_any k w)
  have HZ := Lib.hid (fun w => rsize_any s k w (by omega))
  have hw : IntKind.i64.wrap (slot * sizeF s k) = slot * sizeF s k := wrap_in _ (by omega)
  have hS0 := ((BS.start w).alloc (.cells #[.int .i64 t, .int .i64 p, .int .i64 s] 23))
  generalize addrF s q (slot * sizeF s k) = ar at *
  generalize sizeF s k = z at *
  generalize slotsF k = sl at *
  clear s1 s2 s3 s4 s5 hr
  go_enter Tryz.func193, Tryz.ntmps193
  go_wp2_with fail
  refine (HK.out _).mono ?_
  rintro e w1 ⟨rfl, ha⟩
  obtain ⟨hac, haf⟩ := bcell ha
  have haz0 : w.heap.size < w1.heap.size := by have := ha.size; first | omega | (simp at this; omega)
  have hS1 := hS0.below ha
  have hB1 := fun o => (ha.cell (p := ⟨w.heap.size, o, none⟩) (by simp)).trans (loc_alloc w #[.int .i64 t, .int .i64 p, .int .i64 s] 23 o)
  have HB1 := Lib.hid hB1
  clear hB1
  go_wp2_with fail
  refine wp_region_noPanic ?_
  refine wp_region_held_drew (S := fun w' => BS w [w.heap.size] w' ∧ (∀ o : Nat, w'.cell? ⟨w.heap.size, o, none⟩ = (#[.int .i64 t, .int .i64 p, .int .i64 s] : Array Value)[o]?)) (by kernel_rfl) ?_ (fun hHeld => ?_)
  · exact ⟨hS1.drew, HB1.out⟩
  refine wpAnyH_take (i := 0) (oi := _) (v := ?_) rfl (by kernel_rfl) (by kernel_rfl) (by kernel_rfl) (fun _ _ _ h => h) (Or.inl ⟨by rfl, ?_⟩) (by assumption) ?_
  rotate_left
  · intro w hSw; (try dsimp only at hSw); go_simp; try with_reducible rfl
  try simp only [Act.put, List.getElem_toArray, List.getElem_cons_zero, List.setIfInBounds_toArray, List.set_cons_zero, List.set_cons_succ]
  refine wpAnyH_take (i := 1) (oi := _) (v := ?_) rfl (by kernel_rfl) (by kernel_rfl) (by kernel_rfl) (fun _ _ _ h => h) (Or.inl ⟨by rfl, ?_⟩) (by assumption) ?_
  rotate_left
  · intro w hSw; (try dsimp only at hSw); go_simp; try with_reducible rfl
  try simp only [Act.put, List.getElem_toArray, List.getElem_cons_zero, List.getElem_cons_succ, List.setIfInBounds_toArray, List.set_cons_zero, List.set_cons_succ]
  refine wpAnyH_take (i := 2) (oi := _) (v := ?_) rfl (by kernel_rfl) (by kernel_rfl) (by kernel_rfl) (fun _ _ _ h => h) (Or.inl ⟨by rfl, ?_⟩) (by assumption) ?_
  rotate_left
  · intro w hSw; (try dsimp only at hSw); go_simp; try with_reducible rfl
  try simp only [Act.put, List.getElem_toArray, List.getElem_cons_zero, List.getElem_cons_succ, List.setIfInBounds_toArray, List.set_cons_zero, List.set_cons_succ]
  refine wpAnyH_take (i := 3) (oi := _) (v := ?_) rfl (by kernel_rfl) (by kernel_rfl) (by kernel_rfl) (fun _ _ _ h => h) (Or.inl ⟨by rfl, ?_⟩) (by assumption) ?_
  rotate_left
  · intro w hSw; (try dsimp only at hSw); go_simp; try with_reducible rfl
  try simp only [Act.put, List.getElem_toArray, List.getElem_cons_zero, List.getElem_cons_succ, List.setIfInBounds_toArray, List.set_cons_zero, List.set_cons_succ]
  refine wpAnyH_take (i := 4) (oi := _) (v := ?_) rfl (by kernel_rfl) (by kernel_rfl) (by kernel_rfl) (fun _ _ _ h => h) (Or.inl ⟨by rfl, ?_⟩) (by assumption) ?_
  rotate_left
  · intro w hSw; (try dsimp only at hSw); go_simp; try with_reducible rfl
  try simp only [Act.put, List.getElem_toArray, List.getElem_cons_zero, List.getElem_cons_succ, List.setIfInBounds_toArray, List.set_cons_zero, List.set_cons_succ]
  refine wpAnyH_take (i := 5) (oi := _) (v := ?_) rfl (by kernel_rfl) (by kernel_rfl) (by kernel_rfl) (fun _ _ _ h => h) (Or.inl ⟨by rfl, ?_⟩) (by assumption) ?_
  rotate_left
  · intro w hSw; (try dsimp only at hSw); go_simp; try with_reducible rfl
  try simp only [Act.put, List.getElem_toArray, List.getElem_cons_zero, List.getElem_cons_succ, List.setIfInBounds_toArray, List.set_cons_zero, List.set_cons_succ]
  refine wpAnyH_ready (rs := [6]) (by kernel_rfl) (by simp) ?_
  refine AllReadyH.cons (o := _) rfl (fun K hK => ?_) AllReadyH.nil
  go_simp
  refine (calls_b hHeld.1 (HZ.out _)).mono ?_
  rintro e wr1 ⟨rfl, hV, hVl⟩
  dsimp only
  refine hK.out _ _ ?_ (fun hHeld2 => ?_)
  · exact ⟨hV, loc_step hVl (by simp) hHeld.2⟩
  clear hK K hV hVl hHeld
  have hHeld := hHeld2
  clear hHeld2
  try simp only [Act.put, List.getElem_toArray, List.getElem_cons_zero, List.getElem_cons_succ, List.setIfInBounds_toArray, List.set_cons_zero, List.set_cons_succ]
  refine wpAnyH_take (i := 7) (oi := _) (v := ?_) rfl (by kernel_rfl) (by kernel_rfl) (by kernel_rfl) (fun _ _ _ h => h) (Or.inl ⟨by rfl, ?_⟩) (by assumption) ?_
  rotate_left
  · intro w hSw; (try dsimp only at hSw); go_simp; try with_reducible rfl
  try simp only [Act.put, List.getElem_toArray, List.getElem_cons_zero, List.getElem_cons_succ, List.setIfInBounds_toArray, List.set_cons_zero, List.set_cons_succ]
  refine wpAnyH_ready (rs := [8]) (by kernel_rfl) (by simp) ?_
  refine AllReadyH.cons (o := _) rfl (fun K hK => ?_) AllReadyH.nil
  go_simp
  refine (calls_b hHeld.1 (HO.out _)).mono ?_
  rintro e wr2 ⟨rfl, hV, hVl⟩
  dsimp only
  refine hK.out _ _ ?_ (fun hHeld2 => ?_)
  · exact ⟨hV, loc_step hVl (by simp) hHeld.2⟩
  clear hK K hV hVl hHeld
  have hHeld := hHeld2
  clear hHeld2
  try simp only [Act.put, List.getElem_toArray, List.getElem_cons_zero, List.getElem_cons_succ, List.setIfInBounds_toArray, List.set_cons_zero, List.set_cons_succ]
  refine wpAnyH_take (i := 9) (oi := _) (v := ?_) rfl (by kernel_rfl) (by kernel_rfl) (by kernel_rfl) (fun _ _ _ h => h) (Or.inl ⟨by rfl, ?_⟩) (by assumption) ?_
  rotate_left
  · intro w hSw; (try dsimp only at hSw); go_simp; try with_reducible rfl
  try simp only [Act.put, List.getElem_toArray, List.getElem_cons_zero, List.getElem_cons_succ, List.setIfInBounds_toArray, List.set_cons_zero, List.set_cons_succ]
  refine wpAnyH_take (i := 10) (oi := _) (v := ?_) rfl (by kernel_rfl) (by kernel_rfl) (by kernel_rfl) (fun _ _ _ h => h) (Or.inl ⟨by rfl, ?_⟩) (by assumption) ?_
  rotate_left
  · intro w hSw; (try dsimp only at hSw); go_simp; try with_reducible rfl
  try simp only [Act.put, List.getElem_toArray, List.getElem_cons_zero, List.getElem_cons_succ, List.setIfInBounds_toArray, List.set_cons_zero, List.set_cons_succ]
  refine wpAnyH_take (i := 11) (oi := _) (v := ?_) rfl (by kernel_rfl) (by kernel_rfl) (by kernel_rfl) (fun _ _ _ h => h) (Or.inl ⟨by rfl, ?_⟩) (by assumption) ?_
  rotate_left
  · intro w hSw; (try dsimp only at hSw); go_simp; try with_reducible rfl
  try simp only [Act.put, List.getElem_toArray, List.getElem_cons_zero, List.getElem_cons_succ, List.setIfInBounds_toArray, List.set_cons_zero, List.set_cons_succ]
  refine wpAnyH_take (i := 12) (oi := _) (v := ?_) rfl (by kernel_rfl) (by kernel_rfl) (by kernel_rfl) (fun _ _ _ h => h) (Or.inl ⟨by rfl, ?_⟩) (by assumption) ?_
  rotate_left
  · intro w hSw; (try dsimp only at hSw); go_simp; try with_reducible rfl
  try simp only [Act.put, List.getElem_toArray, List.getElem_cons_zero, List.getElem_cons_succ, List.setIfInBounds_toArray, List.set_cons_zero, List.set_cons_succ]
  refine wpAnyH_done (by kernel_rfl) ?_ _
  refine NoPanic.normal ?_
  refine world_gen ?_
  intro wz hwz
  rw [← hwz] at hHeld
  clear hwz
  have bel := hHeld.1.bel
  clear hHeld
  go_wp2
  exact bodyPost_ret (v := .tuple #[.int .i64 ar, .bool true]) (by simp [results, Tryz.results193, go_sem]) rfl ⟨rfl, bel⟩
end Go.Proofs.YtcicmljnjdhkjaaGreat
