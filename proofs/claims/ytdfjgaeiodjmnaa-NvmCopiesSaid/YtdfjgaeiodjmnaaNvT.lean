/- the document's memories: Evict, Fence, Pending. -/
import Derived.Test.YtdfjgaeiodjmnaaNvS
set_option linter.unusedSimpArgs false
set_option linter.unusedVariables false
namespace Go.Proofs.Ytdfjgaeiodjmnaa
open Go.RowKit

theorem bit_mod (n k : Nat) : (((n : Int) / 2 ^ k).tmod 2 == 1) = NM.bitB (n : Int) k := by
  have e : ((n : Int) / 2 ^ k) = ((n / 2 ^ k : Nat) : Int) := by simp
  rw [e]
  unfold NM.bitB
  rw [Int.toNat_natCast, Nat.testBit_eq_decide_div_mod_eq]
  generalize n / 2 ^ k = x
  rw [Int.tmod_eq_emod_of_nonneg (by omega)]
  rcases Nat.mod_two_eq_zero_or_one x with h | h
  · have : (x : Int) % 2 = 0 := by omega
    rw [this, h]; rfl
  · have : (x : Int) % 2 = 1 := by omega
    rw [this, h]; rfl
theorem ebit_any (m i : Nat) (w : World) (h : m ≤ 255) (hi : i < 8) :
    Calls Try.prog 42 #[.int .u32 m, .int .i64 i] w fun e w' => e = .returned (.bool (NM.bitB m i)) ∧ w = w' := by
  have hb := bit_mod m i
  generalize NM.bitB (m : Int) i = r at *
  go_enter Try.func42, Try.ntmps42
  go_wp2
  go_ret
  exact ⟨rfl, rfl⟩

structure KqRel (w : World) (b : Nat) (S : Nat → Prop) (s : NM) (l : Nat) (m : Int) (wv kv : Value) (pv : Nat → Value) (vi : Value) (wr : World) (k : Nat) : Prop where
  le : k ≤ 8
  eq : vi = .int .i64 k
  ps : RQ wr b S s.W (NM.keepI s.W l m k s.K) wv kv pv 17 (flagRow s)
  fr : Fr S w wr
def KqRelE (w : World) (b : Nat) (S : Nat → Prop) (s : NM) (l : Nat) (m : Int) (wv kv : Value) (pv : Nat → Value) (vi : Value) (wr : World) : Prop := ∃ k, KqRel w b S s l m wv kv pv vi wr k
theorem u32_small (n : Nat) (h : n ≤ 255) : IntKind.u32.wrap (n : Int) = n := by rw [IntKind.wrap_u32]; omega

set_option maxHeartbeats 1000000 in
theorem revict_yes (b l m : Nat) (w : World) (S : Nat → Prop) (s : NM) (h : RM w b S s) (hl : l < s.W.length / 8) (hm1 : 1 ≤ m) (hm2 : m ≤ 255) :
    Calls Try.prog 38 #[.pointer (some ⟨b, 0, none⟩), .int .i64 l, .int .i64 m] w fun e w' => e = .returned (.bool true) ∧ (RM w' b (upd S w w') { s with K := NM.keepI s.W l m 8 s.K } ∧ Fr S w w') := by
  obtain ⟨hi, wv, kv, pv, hv⟩ := h
  obtain ⟨g, c, rfl⟩ := hv.wform hi.pos
  obtain ⟨gk, ck, rfl⟩ := hv.kform (by rw [hi.kl]; exact hi.pos)
  have h0 := hv.cell0
  have hs := hi.small
  have hkl := hi.kl
  have hku : ∀ v ∈ s.W, NM.U64 v := hi.wu
  have hev := hi.evict (l : Int) (m : Int)
  have hok : s.okE l m = true := by simp [NM.okE]; omega
  unfold NM.evict at hev
  rw [if_pos hok] at hev
  have HI := Lib.hid hev
  have HV := Lib.hid hv
  have hwm := u32_small m hm2
  have hdv : ((s.W.length : Int) / 8) = ((s.W.length / 8 : Nat) : Int) := by omega
  have hlq : (l : Int) < ((s.W.length / 8 : Nat) : Int) := by omega
  have h2m := hm2
  have hm1i : (1 : Int) ≤ m := by omega
  have hm2i : (m : Int) ≤ 255 := by omega
  clear hv hi hev hok
  generalize s.W.length / 8 = q at *
  go_enter Try.func38, Try.ntmps38
  go_wp2
  go_loopw [7] (fun i wr => KqRelE w b S s l m (.slice (some ⟨g, 0, none⟩) s.W.length c) (.slice (some ⟨gk, 0, none⟩) s.K.length ck) pv i wr) (fun i _ => 8 - (intOf i).toNat)
  case atStart => exact ⟨0, by omega, rfl, HV.out, Fr.refl _ _⟩
  case round =>
    obtain ⟨k, hk, rfl, hp, hf⟩ := hrel
    by_cases hlt : k < 8
    · have q0 := hp.cell0
      have q1 := hp.cell1
      have hc := (hp.wr.cellAt (8 * l + k) (by omega)).trans (u64s_get (by omega))
      have hlen : (NM.keepI s.W l m k s.K).length = s.K.length := NM.keepI_len _ _ _ _ _
      have hkr := hp.kr
      rw [hlen] at hkr
      have hc2 := (hkr.cellAt (8 * l + k) (by omega)).trans (u64s_get (by omega))
      have hf2 := hkr.frozenAt (8 * l + k)
      have hw1 : IntKind.i64.wrap (8 * (l : Int)) = ((8 * l : Nat) : Int) := wrap_in _ (by omega)
      have hw2 : IntKind.i64.wrap (((8 * l : Nat) : Int) + k) = ((8 * l + k : Nat) : Int) := wrap_in _ (by omega)
      have hw3 : IntKind.i64.wrap (8 * (l : Int) + k) = ((8 * l + k : Nat) : Int) := wrap_in _ (by omega)
      have hx1 : ((8 * l + k : Nat) : Int) < s.W.length := by omega
      have hx2 : ((8 * l + k : Nat) : Int) < s.K.length := by omega
      have hkl8 : (k : Int) < 8 := by omega
      have hpd := hp.drew
      obtain ⟨x, hx⟩ : ∃ x, s.W.getD (8 * l + k) 0 = x := ⟨_, rfl⟩
      rw [hx] at hc
      generalize (NM.keepI s.W l m k s.K).getD (8 * l + k) 0 = y at *
      have hst : NM.bitB (m : Int) k = true → NM.keepI s.W l m (k + 1) s.K = (NM.keepI s.W l m k s.K).set (8 * l + k) x := fun h => by
        rw [show NM.keepI s.W l m (k + 1) s.K = if NM.bitB (m : Int) k = true then (NM.keepI s.W l m k s.K).set (8 * l + k) (s.W.getD (8 * l + k) 0) else NM.keepI s.W l m k s.K from rfl, if_pos h, hx]
      have hno : NM.bitB (m : Int) k = false → NM.keepI s.W l m (k + 1) s.K = NM.keepI s.W l m k s.K := fun h => by simp [NM.keepI, h]
      have HSt := Lib.hid hst
      have HNo := Lib.hid hno
      have HPd := Lib.hid hpd
      have HP := Lib.hid hp
      have HLn := Lib.hid hlen
      have hfd := Lib.hid hf
      have HB := Lib.hid (fun W => ebit_any m k W h2m hlt)
      obtain ⟨r, hr⟩ : ∃ r, NM.bitB (m : Int) k = r := ⟨_, rfl⟩
      rw [hr] at HB HSt HNo
      clear hst hno hpd hp hx hkr hlen hf hku hr
      cases r
      · have HE := Lib.hid (HNo.out rfl)
        clear HNo HSt
        go_wp2_with fail
        refine (HB.out _).mono ?_
        rintro e w1 ⟨rfl, rfl⟩
        go_wp2
        go_roundw
        case rel => exact ⟨k + 1, by omega, by go_num, by rw [HE.out]; exact HP.out, hfd.out⟩
        case measure => simp [intOf]; omega
      · have HE := Lib.hid (HSt.out rfl)
        clear HNo HSt
        go_wp2_with fail
        refine (HB.out _).mono ?_
        rintro e w1 ⟨rfl, rfl⟩
        go_wp2
        go_region
        have h9 := HPd.out
        rw [← HLn.out] at h9
        obtain ⟨n1, n2⟩ := h9.storeK (8 * l + k) x
        rw [HLn.out] at n1
        have n3 : Fr S w (wr.drew.setCell ⟨gk, 8 * l + k, none⟩ (.int .u64 x)) := hfd.out.drew.trans n2 (fun i hi => Or.inl hi)
        rw [← HE.out] at n1
        have HN1 := Lib.hid n1
        have HN3 := Lib.hid n3
        clear n1 n2 n3 h9
        go_wp2
        go_roundw
        case rel => exact ⟨k + 1, by omega, by go_num, HN1.out, HN3.out⟩
        case measure => simp [intOf]; omega
    · have hke : k = 8 := by omega
      have hp8 := hp
      rw [hke] at hp8
      have hkl8 : ¬ (k : Int) < 8 := by omega
      have HP := Lib.hid hp8
      have HF := Lib.hid hf
      clear hp hf hp8 hke
      go_wp2
      go_ret
      exact ⟨rfl, ⟨HI.out, _, _, pv, HP.out.up⟩, HF.out⟩

theorem revict_any (b : Nat) (l m : Int) (w : World) (S : Nat → Prop) (s : NM) (h : RM w b S s) :
    Calls Try.prog 38 #[.pointer (some ⟨b, 0, none⟩), .int .i64 l, .int .i64 m] w fun e w' => e = .returned (.bool (s.evict l m).1) ∧ (RM w' b (upd S w w') (s.evict l m).2 ∧ Fr S w w') := by
  unfold NM.evict
  cases ht : s.okE l m
  · have hno : l < 0 ∨ ((s.W.length / 8 : Nat) : Int) ≤ l ∨ m < 1 ∨ 255 < m := by
      simp only [NM.okE, Bool.and_eq_false_iff, decide_eq_false_iff_not] at ht
      omega
    have hs := h.1.small
    have hpos := h.1.pos
    have HV := Lib.hid h
    obtain ⟨hi, wv, kv, pv, hv⟩ := h
    obtain ⟨g, c, rfl⟩ := hv.wform hi.pos
    have h0 := hv.cell0
    have hdv : ((s.W.length : Int) / 8) = ((s.W.length / 8 : Nat) : Int) := by omega
    simp only [Bool.false_eq_true, if_false]
    clear hv ht hi
    generalize s.W.length / 8 = q at *
    by_cases h1 : l < 0
    · skip
      go_enter Try.func38, Try.ntmps38
      go_wp2
      go_ret
      exact ⟨rfl, HV.out.same⟩
    · by_cases h2 : (q : Int) ≤ l
      · skip
        go_enter Try.func38, Try.ntmps38
        go_wp2
        go_ret
        exact ⟨rfl, HV.out.same⟩
      · by_cases h3 : m < 1
        · have h2b : l < q := by omega
          go_enter Try.func38, Try.ntmps38
          go_wp2
          go_ret
          exact ⟨rfl, HV.out.same⟩
        · have h4 : 255 < m := by omega
          have h2b : l < q := by omega
          go_enter Try.func38, Try.ntmps38
          go_wp2
          go_ret
          exact ⟨rfl, HV.out.same⟩
  · have hyes : 0 ≤ l ∧ l < ((s.W.length / 8 : Nat) : Int) ∧ 1 ≤ m ∧ m ≤ 255 := by
      simp only [NM.okE, Bool.and_eq_true, decide_eq_true_eq] at ht
      omega
    obtain ⟨y1, y2, y3, y4⟩ := hyes
    obtain ⟨l', rfl⟩ := Int.eq_ofNat_of_zero_le y1
    obtain ⟨m', rfl⟩ := Int.eq_ofNat_of_zero_le (show 0 ≤ m by omega)
    exact revict_yes b l' m' w S s h (by omega) (by omega) (by omega)
end Go.Proofs.Ytdfjgaeiodjmnaa
