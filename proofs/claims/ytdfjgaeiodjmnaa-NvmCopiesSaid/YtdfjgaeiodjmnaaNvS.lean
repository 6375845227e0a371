/- the document's memories: Store, Swap, Flush, Evict. -/
import Derived.Test.YtdfjgaeiodjmnaaNvR
set_option linter.unusedSimpArgs false
set_option linter.unusedVariables false
namespace Go.Proofs.Ytdfjgaeiodjmnaa
open Go.RowKit

theorem RM.same {w : World} {b : Nat} {S : Nat → Prop} {s : NM} (h : RM w b S s) : RM w b (upd S w w) s ∧ Fr S w w := by
  obtain ⟨hi, wv, kv, pv, hv⟩ := h
  exact ⟨⟨hi, wv, kv, pv, hv.up⟩, Fr.refl _ _⟩

theorem flagRow_W (s : NM) (n : Nat) (v : Int) : flagRow { s with W := s.W.set n v } = flagRow s := by
  funext i
  unfold flagRow
  dsimp only
  rw [List.length_set]

theorem rstore_any (b : Nat) (i v : Int) (w : World) (S : Nat → Prop) (s : NM) (h : RM w b S s) (hu : NM.U64 v) :
    Calls Try.prog 34 #[.pointer (some ⟨b, 0, none⟩), .int .i64 i, .int .u64 v] w fun e w' => e = .returned (.bool (s.store i v).1) ∧ (RM w' b (upd S w w') (s.store i v).2 ∧ Fr S w w') := by
  have HS := Lib.hid h
  obtain ⟨hi, wv, kv, pv, hv⟩ := h
  obtain ⟨g, c, rfl⟩ := hv.wform hi.pos
  have h0 := hv.cell0
  have hst := hi.store i hu
  unfold NM.store at hst ⊢
  by_cases h1 : i < 0
  · have ht : s.th i = false := by simp [NM.th]; omega
    rw [ht]
    simp only [Bool.false_eq_true, if_false]
    clear hv hst ht
    go_enter Try.func34, Try.ntmps34
    go_wp2
    go_ret
    exact ⟨rfl, HS.out.same⟩
  · by_cases h2 : (s.W.length : Int) ≤ i
    · have ht : s.th i = false := by simp [NM.th]; omega
      rw [ht]
      simp only [Bool.false_eq_true, if_false]
      clear hv hst ht
      go_enter Try.func34, Try.ntmps34
      go_wp2
      go_ret
      exact ⟨rfl, HS.out.same⟩
    · have ht : s.th i = true := by simp [NM.th]; omega
      rw [ht] at hst ⊢
      obtain ⟨n, rfl⟩ := Int.eq_ofNat_of_zero_le (show 0 ≤ i by omega)
      have hc := (hv.wr.cellAt n (by omega)).trans (u64s_get (by omega))
      have hf := hv.wr.frozenAt n
      have hlt : (n : Int) < s.W.length := by omega
      have hd : decide ((s.W.length : Int) ≤ n) = false := by simp; omega
      simp only [Int.toNat_natCast, if_true] at hst ⊢
      obtain ⟨n1, n2⟩ := hv.storeW n v
      have HN := Lib.hid n1
      have HF := Lib.hid n2
      have HI := Lib.hid hst
      clear hv ht n1 n2 hst
      go_enter Try.func34, Try.ntmps34
      go_wp2
      go_ret
      have hq := HN.out.up (w := w)
      rw [← flagRow_W s n v] at hq
      exact ⟨rfl, ⟨HI.out, _, kv, pv, hq⟩, HF.out⟩

theorem rswap_any (b : Nat) (i o v : Int) (w : World) (S : Nat → Prop) (s : NM) (h : RM w b S s) (hu : NM.U64 v) :
    Calls Try.prog 35 #[.pointer (some ⟨b, 0, none⟩), .int .i64 i, .int .u64 o, .int .u64 v] w fun e w' => e = .returned (.bool (s.swap i o v).1) ∧ (RM w' b (upd S w w') (s.swap i o v).2 ∧ Fr S w w') := by
  have HL := Lib.hid (rload_any b i w S s h)
  have HSt := Lib.hid (rstore_any b i v w S s h hu)
  have HS := Lib.hid h
  clear h
  unfold NM.swap
  cases ht : s.th i
  · have e1 : s.load i = (0, false) := by simp [NM.load, ht]
    rw [e1] at HL
    simp only [Bool.false_eq_true, false_and, if_false]
    clear ht e1
    go_enter Try.func35, Try.ntmps35
    go_wp2_with fail
    refine HL.out.mono ?_
    rintro e w1 ⟨rfl, rfl⟩
    go_wp2
    go_ret
    exact ⟨rfl, HS.out.same⟩
  · have e1 : s.load i = (s.W.getD i.toNat 0, true) := by simp [NM.load, ht]
    have e2 : s.store i v = (true, { s with W := s.W.set i.toNat v }) := by simp [NM.store, ht]
    rw [e1] at HL
    rw [e2] at HSt
    simp only [true_and]
    generalize ({ s with W := s.W.set i.toNat v } : NM) = s2 at *
    generalize s.W.getD i.toNat 0 = x at *
    clear ht e1 e2
    by_cases hx : x = o
    · subst hx
      simp only [if_true]
      have hxx : (x == x) = true := by simp
      go_enter Try.func35, Try.ntmps35
      go_wp2_with fail
      refine HL.out.mono ?_
      rintro e w1 ⟨rfl, rfl⟩
      go_wp2_with fail
      refine HSt.out.mono ?_
      rintro e w1 ⟨rfl, hn⟩
      have HN := Lib.hid hn
      clear hn
      go_wp2
      go_ret
      exact ⟨rfl, HN.out⟩
    · rw [if_neg hx]
      have hx3 : (x == o) = false := by simpa using hx
      clear hx
      go_enter Try.func35, Try.ntmps35
      go_wp2_with fail
      refine HL.out.mono ?_
      rintro e w1 ⟨rfl, rfl⟩
      go_wp2
      go_ret
      exact ⟨rfl, HS.out.same⟩

theorem flagRow_add {s : NM} (who n : Nat) (i : Nat) : flagRow { s with P := NM.addP s.P ((who : Int), (n : Int)) } i = if i = who then (flagRow s who).set n (.bool true) else flagRow s i := by
  unfold flagRow
  dsimp only
  by_cases hi : i = who
  · subst hi
    rw [if_pos rfl]
    symm
    refine rowF_set _ _ _ (by simp [NM.mem_addP]) fun j hj => ?_
    congr 1
    have : ((i : Int), (j : Int)) ≠ ((i : Int), (n : Int)) := fun e => hj (by simp at e; exact_mod_cast e)
    simp [NM.mem_addP, this]
  · rw [if_neg hi]
    congr 1
    funext l
    have : ((i : Int), (l : Int)) ≠ ((who : Int), (n : Int)) := fun e => hi (by simp at e; exact_mod_cast e.1)
    simp [NM.mem_addP, this]
theorem flagRow_del {s : NM} (who n : Nat) (K' : List Int) (i : Nat) : flagRow { s with K := K', P := NM.delP s.P ((who : Int), (n : Int)) } i = if i = who then (flagRow s who).set n (.bool false) else flagRow s i := by
  unfold flagRow
  dsimp only
  by_cases hi : i = who
  · subst hi
    rw [if_pos rfl]
    symm
    refine rowF_set _ _ _ (by simp [NM.mem_delP]) fun j hj => ?_
    congr 1
    have : ((i : Int), (j : Int)) ≠ ((i : Int), (n : Int)) := fun e => hj (by simp at e; exact_mod_cast e)
    simp [NM.mem_delP, this]
  · rw [if_neg hi]
    congr 1
    funext l
    have : ((i : Int), (l : Int)) ≠ ((who : Int), (n : Int)) := fun e => hi (by simp at e; exact_mod_cast e.1)
    simp [NM.mem_delP, this]

theorem rflush_any (b : Nat) (who i : Int) (w : World) (S : Nat → Prop) (s : NM) (h : RM w b S s) :
    Calls Try.prog 36 #[.pointer (some ⟨b, 0, none⟩), .int .i64 who, .int .i64 i] w fun e w' => e = .returned (.bool (s.flush who i).1) ∧ (RM w' b (upd S w w') (s.flush who i).2 ∧ Fr S w w') := by
  have HS := Lib.hid h
  obtain ⟨hi, wv, kv, pv, hv⟩ := h
  obtain ⟨g, c, rfl⟩ := hv.wform hi.pos
  have h0 := hv.cell0
  have hfl := hi.flush who i
  unfold NM.flush at hfl ⊢
  by_cases hok : 0 ≤ who ∧ who ≤ 16 ∧ 0 ≤ i ∧ i < s.W.length
  · obtain ⟨k1, k2, k3, k4⟩ := hok
    have ht : s.th i = true := NM.th_iff.2 ⟨k3, k4⟩
    have hs : NM.som who = true := by simp [NM.som]; omega
    rw [ht, hs] at hfl ⊢
    obtain ⟨u, rfl⟩ := Int.eq_ofNat_of_zero_le k1
    obtain ⟨n, rfl⟩ := Int.eq_ofNat_of_zero_le k3
    have hoct := hi.oct
    have hsm := hi.small
    have hn8 : n / 8 < s.W.length / 8 := by omega
    obtain ⟨gp, cp, hpv⟩ := hv.pform (i := u) (by omega) (by omega)
    have hcp := hv.cellP (i := u) (by omega)
    rw [hpv] at hcp
    have hr := hv.pr u (by omega)
    rw [hpv] at hr
    have hc : w.cell? ⟨gp, n / 8, none⟩ = some (.bool (decide (((u : Int), ((n / 8 : Nat) : Int)) ∈ s.P))) := by
      rw [hr.cellAt (n / 8) (by omega)]
      exact rowF_get _ hn8
    have hf := hr.frozenAt (n / 8)
    obtain ⟨n1, n2⟩ := hv.storeP (i := u) (by omega) hpv (n / 8) true
    have hdv : ((n : Int) / 8) = ((n / 8 : Nat) : Int) := by omega
    rw [hdv] at hfl ⊢
    have e1 : (fun j => if j = u then (flagRow s u).set (n / 8) (.bool true) else flagRow s j) = flagRow { s with P := NM.addP s.P ((u : Int), ((n / 8 : Nat) : Int)) } := by
      funext j
      exact (flagRow_add u (n / 8) j).symm
    rw [e1] at n1
    have HN := Lib.hid n1
    have HF := Lib.hid n2
    simp only [and_self, if_true] at hfl
    have HI := Lib.hid hfl
    have hd1 : decide ((s.W.length : Int) ≤ n) = false := by simp; omega
    have hd2 : decide ((16 : Int) < u) = false := by simp; omega
    have hu17 : (u : Int) < 17 := by omega
    have hlt8 : ((n / 8 : Nat) : Int) < (s.W.length / 8 : Nat) := by omega
    simp only [true_and, if_true]
    clear hv ht hs n1 n2 hfl hr e1 hpv hi
    generalize n / 8 = m at *
    generalize s.W.length / 8 = q at *
    go_enter Try.func36, Try.ntmps36
    go_wp2
    go_ret
    exact ⟨rfl, ⟨HI.out, _, kv, pv, HN.out.up⟩, HF.out⟩
  · have hno : ¬ (s.th i = true ∧ NM.som who = true) := by
      rintro ⟨ht, hs⟩
      obtain ⟨t1, t2⟩ := NM.th_iff.1 ht
      simp [NM.som] at hs
      omega
    rw [if_neg hno]
    clear hv hfl hno
    by_cases a1 : who < 0
    · skip
      go_enter Try.func36, Try.ntmps36
      go_wp2
      go_ret
      exact ⟨rfl, HS.out.same⟩
    · by_cases a2 : 16 < who
      · skip
        go_enter Try.func36, Try.ntmps36
        go_wp2
        go_ret
        exact ⟨rfl, HS.out.same⟩
      · by_cases a3 : i < 0
        · have a2b : who ≤ 16 := by omega
          go_enter Try.func36, Try.ntmps36
          go_wp2
          go_ret
          exact ⟨rfl, HS.out.same⟩
        · have a4 : (s.W.length : Int) ≤ i := by omega
          have a2b : who ≤ 16 := by omega
          go_enter Try.func36, Try.ntmps36
          go_wp2
          go_ret
          exact ⟨rfl, HS.out.same⟩
end Go.Proofs.Ytdfjgaeiodjmnaa
