/- the program's memories: words of a line are kept. -/
import Derived.Test.YtdfjgaeiodjmnaaNvM
import Derived.BigRegion
set_option linter.unusedSimpArgs false
set_option linter.unusedVariables false
namespace Go.Proofs.Ytdfjgaeiodjmnaa
open Go.RowKit

theorem and1 (n k : Nat) : bits BinOp.and IntKind.i64 ((n : Int) / 2 ^ k) 1 = ((n / 2 ^ k % 2 : Nat) : Int) := by
  have e : ((n : Int) / 2 ^ k) = ((n / 2 ^ k : Nat) : Int) := by simp
  rw [e]
  generalize n / 2 ^ k = x
  show IntKind.i64.wrap ((BitVec.ofInt 64 (x : Int) &&& BitVec.ofInt 64 1).toNat : Int) = _
  have h1 : BitVec.ofInt 64 (x : Int) = BitVec.ofNat 64 x := BitVec.ofInt_natCast ..
  have h2 : BitVec.ofInt 64 1 = BitVec.ofNat 64 1 := by decide
  rw [h1, h2, ← BitVec.ofNat_and, BitVec.toNat_ofNat, Nat.and_one_is_mod, Nat.mod_eq_of_lt (by omega)]
  exact wrap_in _ (by omega)
theorem bit_and (n k : Nat) : (bits BinOp.and IntKind.i64 ((n : Int) / 2 ^ k) 1 == 1) = NM.bitB (n : Int) k := by
  rw [and1]
  unfold NM.bitB
  rw [Int.toNat_natCast, Nat.testBit_eq_decide_div_mod_eq]
  generalize n / 2 ^ k = x
  rcases Nat.mod_two_eq_zero_or_one x with h | h <;> rw [h] <;> rfl

theorem PMs.keepCell {w : World} {b g c pb : Nat} {S : Nat → Prop} {s : NM} {wv : Value} (h : PMs w b S s wv (.slice (some ⟨g, 0, none⟩) s.K.length c) pb) {k : Nat} {v : Int} (hv : NM.U64 v) :
    PMs (w.setCell ⟨g, k, none⟩ (.int .u64 v)) b S { s with K := s.K.set k v } wv (.slice (some ⟨g, 0, none⟩) s.K.length c) pb ∧ Fr S w (w.setCell ⟨g, k, none⟩ (.int .u64 v)) := by
  have F : Fr S w (w.setCell ⟨g, k, none⟩ (.int .u64 v)) := (Fr.refl _ _).setCell _ _ (Or.inl (h.ink g rfl))
  have hw := h.kb_ne
  have hp := h.kp_ne
  have e1 : wv.ownBlock ≠ some g := fun e => h.ne g e rfl
  simp [Value.ownBlock] at hw hp
  have hK := (h.kr.stored k (.int .u64 v)).1
  rw [u64s_set] at hK
  have hi := h.inv
  refine ⟨⟨(heap_setCell_other (fun e => hw e.symm)).trans h.cells, ownsRow_block h.wr fun j x => heap_setCell_other (fun e => e1 (e ▸ x)), ?_, h.mp.block (heap_setCell_other (fun e => hp e.symm)), h.ne, h.inb, h.inp, h.inw, h.ink, fun j x => by simpa using h.lt j x, ⟨by simpa using hi.kl, hi.pos, hi.small, hi.oct, hi.wu, NM.set_u hi.ku _ hv, hi.nd, hi.pb⟩⟩, F⟩
  show (w.setCell ⟨g, k, none⟩ (.int .u64 v)).ownsRow 0 24 1 (.slice (some ⟨g, 0, none⟩) s.K.length c) (s.K.set k v).length (u64s (s.K.set k v))
  rw [List.length_set]
  exact hK
theorem PMs.drew {w : World} {b pb : Nat} {S : Nat → Prop} {s : NM} {wv kv : Value} (h : PMs w b S s wv kv pb) : PMs w.drew b S s wv kv pb :=
  ⟨h.cells, h.wr, h.kr, h.mp, h.ne, h.inb, h.inp, h.inw, h.ink, h.lt, h.inv⟩

/-- a line that is kept word by word. -/
structure KpRel (w : World) (b : Nat) (S : Nat → Prop) (s : NM) (l : Nat) (m : Int) (wv kv : Value) (pb : Nat) (v7 : Value) (wr : World) (k : Nat) : Prop where
  le : k ≤ 8
  eq : v7 = .int .i64 k
  ps : PMs wr b S { s with K := NM.keepI s.W l m k s.K } wv kv pb
  fr : Fr S w wr
def KpRelE (w : World) (b : Nat) (S : Nat → Prop) (s : NM) (l : Nat) (m : Int) (wv kv : Value) (pb : Nat) (v7 : Value) (wr : World) : Prop := ∃ k, KpRel w b S s l m wv kv pb v7 wr k

theorem PMs.up {w w' : World} {b pb : Nat} {S : Nat → Prop} {s : NM} {wv kv : Value} (h : PMs w' b S s wv kv pb) (F : Fr S w w') : PM w' b (upd S w w') s ∧ Fr S w w' :=
  ⟨⟨wv, kv, pb, ⟨h.cells, h.wr, h.kr, h.mp, h.ne, Or.inl h.inb, Or.inl h.inp, fun k x => Or.inl (h.inw k x), fun k x => Or.inl (h.ink k x), fun k x => by rcases x with x | x; exact h.lt k x; exact x.2, h.inv⟩⟩, F⟩

set_option maxHeartbeats 1000000 in
theorem mkeep_any (b l m : Nat) (w : World) (S : Nat → Prop) (s : NM) (h : PM w b S s) (hl : l < s.W.length / 8) (h2 : m ≤ 255) :
    Calls Try.prog 31 #[.pointer (some ⟨b, 0, none⟩), .int .i64 l, .int .i64 m] w fun e w' => e = .returned (.tuple #[]) ∧ (PM w' b (upd S w w') { s with K := NM.keepI s.W l m 8 s.K } ∧ Fr S w w') := by
  obtain ⟨wv, kv, pb, hv⟩ := h
  obtain ⟨g, c, rfl⟩ := hv.wform
  obtain ⟨gk, ck, rfl⟩ := hv.kform
  have hi := hv.inv
  have hs := hi.small
  have hkl := hi.kl
  have hku : ∀ v ∈ s.W, NM.U64 v := hi.wu
  have HV := Lib.hid hv
  clear hv hi
  go_enter Try.func31, Try.ntmps31
  go_wp2
  go_loopw [7] (fun i wr => KpRelE w b S s l m (.slice (some ⟨g, 0, none⟩) s.W.length c) (.slice (some ⟨gk, 0, none⟩) s.K.length ck) pb i wr) (fun i _ => 8 - (intOf i).toNat)
  case atStart => exact ⟨0, by omega, rfl, HV.out, Fr.refl _ _⟩
  case round =>
    obtain ⟨k, hk, rfl, hp, hf⟩ := hrel
    by_cases hlt : k < 8
    · have q0 := hp.cell 0
      have q1 := hp.cell 1
      have hc := (hp.wr.cellAt (l * 8 + k) (by simp; omega)).trans (u64s_get (by simp; omega))
      have hlen : (NM.keepI s.W l m k s.K).length = s.K.length := NM.keepI_len _ _ _ _ _
      have hkr := hp.kr
      dsimp only at hkr
      rw [hlen] at hkr
      have hc2 := (hkr.cellAt (l * 8 + k) (by omega)).trans (u64s_get (by omega))
      have hf2 := hkr.frozenAt (l * 8 + k)
      have hw1 : IntKind.i64.wrap ((l : Int) * 8) = ((l * 8 : Nat) : Int) := wrap_in _ (by omega)
      have hw2 : IntKind.i64.wrap (((l * 8 : Nat) : Int) + k) = ((l * 8 + k : Nat) : Int) := wrap_in _ (by omega)
      have hw3 : IntKind.i64.wrap ((l : Int) * 8 + k) = ((l * 8 + k : Nat) : Int) := wrap_in _ (by omega)
      have hx1 : ((l * 8 + k : Nat) : Int) < s.W.length := by omega
      have hx2 : ((l * 8 + k : Nat) : Int) < s.K.length := by omega
      have hkl8 : (k : Int) < 8 := by omega
      have hb := bit_and m k
      have hpd := hp.drew
      rw [show (⟨s.W, NM.keepI s.W l m k s.K, s.P⟩ : NM).W = s.W from rfl] at hc
      have hu := NM.getD_u hku (l * 8 + k)
      simp at q0 q1
      obtain ⟨x, hx⟩ : ∃ x, s.W.getD (l * 8 + k) 0 = x := ⟨_, rfl⟩
      rw [hx] at hu
      rw [hx] at hc
      generalize (NM.keepI s.W l m k s.K).getD (l * 8 + k) 0 = y at *
      have hst : NM.bitB (m : Int) k = true → NM.keepI s.W l m (k + 1) s.K = (NM.keepI s.W l m k s.K).set (l * 8 + k) x := fun h => by
        rw [show NM.keepI s.W l m (k + 1) s.K = if NM.bitB (m : Int) k = true then (NM.keepI s.W l m k s.K).set (8 * l + k) (s.W.getD (8 * l + k) 0) else NM.keepI s.W l m k s.K from rfl, if_pos h, Nat.mul_comm 8 l, hx]
      have hno : NM.bitB (m : Int) k = false → NM.keepI s.W l m (k + 1) s.K = NM.keepI s.W l m k s.K := fun h => by simp [NM.keepI, h]
      have HSt := Lib.hid hst
      have HNo := Lib.hid hno
      have HPd := Lib.hid hpd
      have HP := Lib.hid hp
      have HU := Lib.hid hu
      have HLn := Lib.hid hlen
      have hfd := Lib.hid hf
      clear hst hno hpd hp hu hx hkr hlen hf hku
      go_wp2
      · rename_i hbt
        go_region
        have h9 := HPd.out
        rw [← HLn.out] at h9
        obtain ⟨n1, n2⟩ := h9.keepCell (k := l * 8 + k) HU.out
        rw [HLn.out] at n1
        have n3 : Fr S w (wr.drew.setCell ⟨gk, l * 8 + k, none⟩ (.int .u64 x)) := hfd.out.drew.trans n2 (fun i hi => Or.inl hi)
        dsimp only at n1
        rw [← HSt.out hbt] at n1
        have HN1 := Lib.hid n1
        have HN3 := Lib.hid n3
        clear n1 n2 n3 h9
        go_wp2
        go_roundw
        case rel => exact ⟨k + 1, by omega, by go_num, HN1.out, HN3.out⟩
        case measure => simp [intOf]; omega
      · rename_i hbf
        go_roundw
        case rel => exact ⟨k + 1, by omega, by go_num, by rw [HNo.out hbf]; exact HP.out, hfd.out⟩
        case measure => simp [intOf]; omega
    · have hke : k = 8 := by omega
      have hp8 := hp
      rw [hke] at hp8
      have hkl8 : ¬ (k : Int) < 8 := by omega
      have HP := Lib.hid hp8
      have HF := Lib.hid hf
      clear hp hf hp8 hke
      go_wp2
      go_end0
      exact ⟨rfl, HP.out.up HF.out⟩

theorem mevict_any (b : Nat) (l m : Int) (w : World) (S : Nat → Prop) (s : NM) (h : PM w b S s) :
    Calls Try.prog 26 #[.pointer (some ⟨b, 0, none⟩), .int .i64 l, .int .i64 m] w fun e w' => e = .returned (.bool (s.evict l m).1) ∧ (PM w' b (upd S w w') (s.evict l m).2 ∧ Fr S w w') := by
  have H := fun (l' m' : Nat) (hl : l' < s.W.length / 8) (hm : m' ≤ 255) => mkeep_any b l' m' w S s h hl hm
  have hs := h.inv.small
  obtain ⟨wv, kv, pb, hv⟩ := h
  obtain ⟨g, c, rfl⟩ := hv.wform
  have h0 := hv.cell 0
  simp at h0
  unfold NM.evict
  have hdv : ((s.W.length : Int) / 8) = ((s.W.length / 8 : Nat) : Int) := by omega
  cases ht : s.okE l m
  · have hno : l < 0 ∨ ((s.W.length / 8 : Nat) : Int) ≤ l ∨ m < 1 ∨ 255 < m := by
      simp only [NM.okE, Bool.and_eq_false_iff, decide_eq_false_iff_not] at ht
      omega
    have HV := Lib.hid hv
    simp only [Bool.false_eq_true, if_false]
    clear H hv ht
    generalize s.W.length / 8 = q at *
    by_cases h1 : l < 0
    · skip
      go_enter Try.func26, Try.ntmps26
      go_wp2
      go_ret
      exact ⟨rfl, HV.out.same⟩
    · by_cases h2 : (q : Int) ≤ l
      · skip
        go_enter Try.func26, Try.ntmps26
        go_wp2
        go_ret
        exact ⟨rfl, HV.out.same⟩
      · by_cases h3 : m < 1
        · have h2b : l < q := by omega
          go_enter Try.func26, Try.ntmps26
          go_wp2
          go_ret
          exact ⟨rfl, HV.out.same⟩
        · have h4 : 255 < m := by omega
          have h2b : l < q := by omega
          go_enter Try.func26, Try.ntmps26
          go_wp2
          go_ret
          exact ⟨rfl, HV.out.same⟩
  · have hyes : 0 ≤ l ∧ l < ((s.W.length / 8 : Nat) : Int) ∧ 1 ≤ m ∧ m ≤ 255 := by
      simp only [NM.okE, Bool.and_eq_true, decide_eq_true_eq] at ht
      omega
    obtain ⟨y1, y2, y3, y4⟩ := hyes
    obtain ⟨l', rfl⟩ := Int.eq_ofNat_of_zero_le y1
    obtain ⟨m', rfl⟩ := Int.eq_ofNat_of_zero_le (show 0 ≤ m by omega)
    have HH := Lib.hid (H l' m' (by omega) (by omega))
    simp only [if_true, Int.toNat_natCast]
    clear H hv ht
    generalize s.W.length / 8 = q at *
    go_enter Try.func26, Try.ntmps26
    go_wp2_with fail
    refine HH.out.mono ?_
    rintro e w1 ⟨rfl, hp⟩
    have HP := Lib.hid hp
    clear hp
    go_wp2
    go_ret
    exact ⟨rfl, HP.out⟩
end Go.Proofs.Ytdfjgaeiodjmnaa
