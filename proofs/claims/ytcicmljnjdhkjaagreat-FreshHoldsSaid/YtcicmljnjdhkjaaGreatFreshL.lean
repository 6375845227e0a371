/- fresh: the plain law. -/
import Derived.Test.YtcicmljnjdhkjaaGreatFreshV
import Derived.Test.YtcicmljnjdhkjaaGreatLnkV
namespace Go.Proofs.YtcicmljnjdhkjaaGreat
open Go.RowKit

theorem foldl_out (j : Nat) : ∀ (ws : List (Nat × Int)) (vals : List Int), (∀ x ∈ ws, x.1 ≠ j) → (ws.foldl (fun l x => l.set x.1 x.2) vals)[j]? = vals[j]?
  | [], _, _ => rfl
  | x :: ws, vals, h => by
    simp only [List.foldl_cons]
    rw [foldl_out j ws _ (fun y hy => h y (by simp [hy])), List.getElem?_set_ne (h x (by simp))]
theorem foldl_at (j : Nat) : ∀ (ws : List (Nat × Int)) (vals : List Int), (ws.map (·.1)).Nodup → j < vals.length → (ws.foldl (fun l x => l.set x.1 x.2) vals)[j]? = (wl ws j).or vals[j]?
  | [], vals, _, _ => by simp [wl, wix]
  | x :: ws, vals, hn, hj => by
    simp only [List.map_cons, List.nodup_cons] at hn
    simp only [List.foldl_cons]
    rw [wl_cons]
    by_cases h : x.1 = j
    · rw [if_pos h, foldl_out j ws _ (fun y hy e => hn.1 (List.mem_map.2 ⟨y, hy, by rw [e, h]⟩)), ← h, List.getElem?_set_self (by omega)]
      rfl
    · rw [if_neg h, foldl_at j ws _ hn.2 (by simpa using hj), List.getElem?_set_ne h]
theorem setN_vat {st : VS} {vals : List Int} (hi : st.Inv) (hk : st.known = fun i => vals[i]?) {j : Nat} (hj : j < vals.length) : (setN vals st.writes st.writes.length)[j]? = vat st j := by
  unfold setN vat
  rw [List.take_length, foldl_at j _ _ hi.wnd hj, hk]
  cases wl st.writes j <;> rfl

theorem whole_inv {N : Nat} (h : N ≤ 10000) : (wholeVS (List.replicate N 0)).Inv := by
  refine ⟨by simp [wholeVS]; omega, by simp [wholeVS], by simp [wholeVS], by simp [wholeVS], by simp [wholeVS], ?_, by simp [wholeVS]⟩
  intro i v hv
  have := List.mem_of_getElem? hv
  rw [List.eq_of_mem_replicate this]
  exact VS.u32_zero

set_option maxHeartbeats 1000000 in
theorem fresh_law {t s : Int} {P N i0 i1 K : Nat} (hr : rightB t P s = true) (hN : cellsN t P = N) (h0 : ofF t P s 0 0 = i0) (h1 : ofF t P s ((P : Int) - 1) 1 = i1) (hK : logF P = K) (hK2 : K < 11) :
    freshL t P s = refL N i0 i1 K P := by
  obtain ⟨b1, b2, b3, b4, b5, b6⟩ := right_bd hr
  have e0 : (i0 : Int) = 30 + 4 * t := by rw [← h0]; simp [ofF, hr]; omega
  have e1 : (i1 : Int) = 30 + 4 * t + 6 * (P - 1) + 1 := by rw [← h1]; simp [ofF, hr]; omega
  have eN : (N : Int) = 30 + 4 * t + 6 * P := by rw [← hN]; rfl
  have ew : withinF 2 K 11 = ((2 + K : Nat) : Int) := by unfold withinF; rw [if_neg (by omega)]; omega
  have hfs : freshSt t P s = (addF t P s 0 P (wholeVS (List.replicate N 0))).put 0 P := by unfold freshSt; rw [hN]; rfl
  have hw0 : ∀ j, j < N → vat (wholeVS (List.replicate N 0)) j = some 0 := by
    intro j hj
    show (match wl [] j with | some v => some v | none => (List.replicate N (0 : Int))[j]?) = _
    have : wl [] j = none := rfl
    rw [this]
    simp [hj]
  have hn0 : (wholeVS (List.replicate N (0 : Int))).n = N := by simp [wholeVS]
  have hm0 : (wholeVS (List.replicate N (0 : Int))).miss = none := rfl
  have hi := whole_inv (N := N) (by omega)
  have q0 : (30 + 4 * t + 6 * (0 : Int) + 2) = ((i0 + 2 : Nat) : Int) := by omega
  have o2 : ofF t P s 0 2 = ((i0 + 2 : Nat) : Int) := by simp [ofF, hr]; omega
  have o3 : ofF t P s 0 3 = ((i0 + 3 : Nat) : Int) := by simp [ofF, hr]; omega
  have o1 : ofF t P s (((0 : Nat) : Int) + P - 1) 1 = i1 := by rw [← h1]; congr 1; omega
  have o0 : ofF t P s ((0 : Nat) : Int) 0 = i0 := by rw [← h0]; rfl
  generalize hst0 : wholeVS (List.replicate N (0 : Int)) = st0 at *
  obtain ⟨v1, n1, m1⟩ := vat_put (s := st0) (i := (i0 : Int)) (1 + 16 * P) (by omega) (by omega) hm0
  have I1 := hi.put (i0 : Int) (1 + 16 * P) ⟨by omega, by omega⟩
  generalize hs1 : st0.put (i0 : Int) (1 + 16 * P) = s1 at *
  obtain ⟨v2, n2, m2⟩ := vat_put (s := s1) (i := (i1 : Int)) 1 (by omega) (by omega) m1
  have I2 := I1.put (i1 : Int) 1 ⟨by omega, by omega⟩
  generalize hs2 : s1.put (i1 : Int) 1 = s2 at *
  have hz : vat s2 (2 + K) = some 0 := by rw [v2, if_neg (by omega), v1, if_neg (by omega)]; exact hw0 _ (by omega)
  obtain ⟨g1, v3, n3, m3⟩ := vat_get (s := s2) (i := ((2 + K : Nat) : Int)) (v := 0) (by omega) (by omega) m2 (by rw [Int.toNat_natCast]; exact hz)
  have I3 := I2.get ((2 + K : Nat) : Int)
  generalize hs3 : (s2.get ((2 + K : Nat) : Int)).2 = s3 at *
  obtain ⟨v4, n4, m4⟩ := vat_put (s := s3) (i := ((i0 + 2 : Nat) : Int)) 0 (by omega) (by omega) m3
  have I4 := I3.put ((i0 + 2 : Nat) : Int) 0 VS.u32_zero
  generalize hs4 : s3.put ((i0 + 2 : Nat) : Int) 0 = s4 at *
  obtain ⟨v5, n5, m5⟩ := vat_put (s := s4) (i := ((i0 + 3 : Nat) : Int)) 0 (by omega) (by omega) m4
  have I5 := I4.put ((i0 + 3 : Nat) : Int) 0 VS.u32_zero
  generalize hs5 : s4.put ((i0 + 3 : Nat) : Int) 0 = s5 at *
  obtain ⟨v6, n6, m6⟩ := vat_put (s := s5) (i := ((2 + K : Nat) : Int)) 1 (by omega) (by omega) m5
  have I6 := I5.put ((2 + K : Nat) : Int) 1 ⟨by omega, by omega⟩
  generalize hs6 : s5.put ((2 + K : Nat) : Int) 1 = s6 at *
  obtain ⟨v7, n7, m7⟩ := vat_put (s := s6) (i := (0 : Int)) P (by omega) (by omega) m6
  have I7 := I6.put 0 P ⟨by omega, by omega⟩
  have hadd : addF t P s 0 P st0 = s6 := by
    unfold addF
    rw [hK, ew, o0, o1]
    have hs2' : (st0.put (i0 : Int) (1 + 16 * P)).put (i1 : Int) (((0 : Nat) : Int) + 1) = s2 := by rw [hs1]; exact hs2
    rw [hs2']
    unfold pushF
    rw [if_pos (by simp [pageB]; omega)]
    simp only [g1, hs3, if_true]
    rw [show ((0 : Nat) : Int) = 0 from rfl, o2, o3, hs4, hs5]
    simpa using hs6
  have hfs2 : freshSt t P s = s6.put 0 P := by rw [hfs, hadd]
  have hkn : (freshSt t P s).known = fun i => (List.replicate N (0 : Int))[i]? := by
    rw [hfs]
    simp only [put_nk, add_nk]
    rw [← hst0]; rfl
  apply List.ext_getElem?
  intro j
  by_cases hj : j < N
  · have hI : (freshSt t P s).Inv := by rw [hfs2]; exact I7
    have hv := setN_vat hI hkn (j := j) (by simpa using hj)
    have hfl : freshL t P s = setN (List.replicate N 0) (freshSt t P s).writes (freshSt t P s).writes.length := by unfold freshL; rw [hN]; rfl
    rw [hfl, hv, hfs2, v7, v6, v5, v4, v3, v2, v1, hw0 j hj]
    unfold refL
    simp only [List.getElem?_set, List.length_set, List.length_replicate, List.getElem?_replicate]
    have a0 : ((0 : Int)).toNat = 0 := rfl
    simp only [Int.toNat_natCast, a0]
    have p1 : ∀ (a : Nat) (x y : Option Int), ¬ j = a → (if j = a then x else y) = y := fun a x y h => if_neg h
    have p2 : ∀ (a : Nat) (x y : Option Int), ¬ j = a → (if a = j then x else y) = y := fun a x y h => if_neg (fun e => h e.symm)
    by_cases c0 : j = 0
    · rw [if_pos c0, p2 i1 _ _ (by omega), p2 i0 _ _ (by omega), p2 (2 + K) _ _ (by omega), if_pos c0.symm, if_pos (by omega)]
    · rw [p1 0 _ _ c0]
      by_cases c1 : j = 2 + K
      · rw [if_pos c1, p2 i1 _ _ (by omega), p2 i0 _ _ (by omega), if_pos c1.symm, if_pos (by omega)]
      · rw [p1 (2 + K) _ _ c1]
        by_cases c2 : j = i1
        · rw [p1 (i0 + 3) _ _ (by omega), p1 (i0 + 2) _ _ (by omega), if_pos c2, if_pos c2.symm, if_pos (by omega)]
        · by_cases c3 : j = i0
          · rw [p1 (i0 + 3) _ _ (by omega), p1 (i0 + 2) _ _ (by omega), p1 i1 _ _ c2, if_pos c3, p2 i1 _ _ c2, if_pos c3.symm, if_pos (by omega)]
          · rw [p1 i1 _ _ c2, p1 i0 _ _ c3, p2 i1 _ _ c2, p2 i0 _ _ c3, p2 (2 + K) _ _ c1, p2 0 _ _ c0, if_pos hj]
            simp
  · rw [List.getElem?_eq_none (by unfold freshL; rw [setN_len, List.length_replicate, hN]; simpa using hj), List.getElem?_eq_none (by unfold refL; simpa using hj)]
end Go.Proofs.YtcicmljnjdhkjaaGreat
