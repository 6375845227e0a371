/- NvmKeeps: the law's walk. -/
import Derived.Test.YtdfjgaeiodjmnaaNvDif
set_option linter.unusedSimpArgs false
set_option linter.unusedVariables false
namespace Go.Proofs.Ytdfjgaeiodjmnaa
open Go.RowKit

theorem wwords_eq (a b : List Int) (va vb : Value) (w : World) (ha : w.ownsRow 0 24 1 va a.length (u64s a)) (hb : w.ownsRow 0 24 1 vb b.length (u64s b)) (hn : a.length ≤ 4294967296) (e : a = b) :
    Calls Try.prog 19 #[va, vb] w fun e w' => e = .returned (.bool true) ∧ Below w.heap.size w w' := by
  subst e
  have := wwords_any a a va vb w ha hb hn hn
  simpa using this

theorem NM.act_K {s : NM} {a : NM.A} (h5 : a.d ≠ 5) (h6 : a.d ≠ 6) : (s.act a).2.K = s.K := by
  unfold NM.act NM.store NM.swap NM.flush
  repeat' split
  all_goals first | rfl | omega
theorem NM.act_crash {s : NM} {a : NM.A} (h : a.d = 7) : (s.act a).2 = s.crash := by
  unfold NM.act
  rw [if_neg (by omega), if_neg (by omega), if_neg (by omega), if_neg (by omega), if_neg (by omega), if_neg (by omega), if_pos h]
theorem NM.act_W {s : NM} {a : NM.A} (h2 : a.d ≠ 2) (h3 : a.d ≠ 3) (h7 : a.d ≠ 7) : (s.act a).2.W = s.W := by
  unfold NM.act NM.flush NM.evict
  repeat' split
  all_goals first | rfl | omega | exact NM.fence_W _ _
theorem NM.act_dif {s : NM} {a : NM.A} (h7 : a.d ≠ 7) (n : Nat) : difK s.W (s.act a).2.W n ≤ 1 := by
  by_cases h2 : a.d = 2 ∨ a.d = 3
  · have hs : (s.act a).2.W = s.W ∨ ∃ i v, (s.act a).2.W = s.W.set i v := by
      unfold NM.act NM.store NM.swap
      repeat' split
      all_goals first | omega | exact Or.inl rfl | exact Or.inr ⟨_, _, rfl⟩
    rcases hs with h | ⟨i, v, h⟩
    · rw [h, difK_self]; omega
    · rw [h]
      refine Nat.le_trans (difK_set _ _ _ _) ?_
      split <;> omega
  · rw [NM.act_W (by omega) (by omega) h7, difK_self]; omega
theorem NM.crash_pend (s : NM) (who : Int) : s.crash.pend who = [] := by
  simp [NM.pend, NM.crash]

structure KRel (w w0 : World) (b : Nat) (S : Nat → Prop) (N n : Nat) (vi : Value) (wr : World) (k : Nat) (s : NM) : Prop where
  le : k ≤ n
  eq : vi = .int .i64 k
  st : NSt PM w0 b S [] s wr
  len : s.W.length = N
  bel : Below w.heap.size w wr
def KRelE (w w0 : World) (b : Nat) (S : Nat → Prop) (N n : Nat) (vi : Value) (wr : World) : Prop := ∃ k s, KRel w w0 b S N n vi wr k s

theorem nkeeps_many (a1 a2 : Option Addr) (n1 n2 c1 c2 : Nat) (w : World) (h : (decide (n1 ≤ 64) && decide (n2 ≤ 200)) = false) :
    Calls Try.prog 5 #[.slice a1 n1 c1, .slice a2 n2 c2] w fun e w' => e = .returned (.bool true) ∧ Below w.heap.size w w' := by
  have HF := nfew_any a1 a2 n1 n2 c1 c2
  rw [h] at HF
  have HH := Lib.hid HF
  clear HF h
  go_enter Try.func5, Try.ntmps5
  go_wp2_with fail
  refine (HH.out _).mono ?_
  rintro e w1 ⟨rfl, rfl⟩
  go_wp2_with fail
  refine (nlive_any _).mono ?_
  rintro e w2 ⟨rfl, hb⟩
  go_wp2
  go_ret
  exact ⟨rfl, hb⟩
theorem nkeeps_none (a1 a2 : Option Addr) (n1 n2 c1 c2 : Nat) (w : World) (h : (decide (n1 ≤ 64) && decide (n2 ≤ 200)) = true) (h1 : n1 = 0 ∨ n1 % 8 ≠ 0) :
    Calls Try.prog 5 #[.slice a1 n1 c1, .slice a2 n2 c2] w fun e w' => e = .returned (.bool true) ∧ Below w.heap.size w w' := by
  have HF := nfew_any a1 a2 n1 n2 c1 c2
  rw [h] at HF
  have HH := Lib.hid HF
  by_cases h2 : n1 = 0
  · have e0 : ((n1 : Int) == 0) = true := by simp; omega
    clear HF h h1 h2
    go_enter Try.func5, Try.ntmps5
    go_wp2_with fail
    refine (HH.out _).mono ?_
    rintro e w1 ⟨rfl, rfl⟩
    go_wp2_with fail
    refine (nlive_any _).mono ?_
    rintro e w2 ⟨rfl, hb⟩
    go_wp2
    go_ret
    exact ⟨rfl, hb⟩
  · have e0 : ((n1 : Int) == 0) = false := by simp; omega
    have e1 : ((n1 : Int) % 8 != 0) = true := by simp; omega
    clear HF h h1 h2
    go_enter Try.func5, Try.ntmps5
    go_wp2_with fail
    refine (HH.out _).mono ?_
    rintro e w1 ⟨rfl, rfl⟩
    go_wp2_with fail
    refine (nlive_any _).mono ?_
    rintro e w2 ⟨rfl, hb⟩
    go_wp2
    go_ret
    exact ⟨rfl, hb⟩

set_option maxHeartbeats 1000000 in
set_option maxRecDepth 100000 in
theorem nkeeps_main (wv lv : Value) (xs : List Int) (acts : List NM.A) (w : World) (hW : Rd w wv 1 xs.length (u64s xs)) (hu : ∀ v ∈ xs, NM.U64 v) (hL : Rd w lv 6 acts.length (acts.flatMap actC)) (hv : ∀ a ∈ acts, NM.U64 a.old ∧ NM.U64 a.val)
    (h1 : xs.length ≤ 64) (h2 : acts.length ≤ 200) (h0 : xs.length ≠ 0) (h8 : xs.length % 8 = 0) :
    Calls Try.prog 5 #[wv, lv] w fun e w' => e = .returned (.bool true) ∧ Below w.heap.size w w' := by
  obtain ⟨hwl, ⟨-, hwn⟩ | ⟨ad1, c1, rfl, hwc⟩⟩ := hW
  · exact absurd hwn h0
  obtain ⟨a2, c2, rfl⟩ := hL.len
  have HF := nfew_any (some ad1) a2 xs.length acts.length c1 c2
  rw [show (decide (xs.length ≤ 64) && decide (acts.length ≤ 200)) = true by simp; omega] at HF
  have HH := Lib.hid HF
  have hcells : ∀ W, Below w.heap.size w W → ∀ j, j < xs.length → W.cell? (ad1.add j) = some (.int .u64 (xs.getD j 0)) := fun W hb j hj => by
    have := hwc j _ (u64s_get hj)
    exact (hb.cell (World.block_lt_of_cell? w _ this)).trans this
  have H1 := Lib.hid (fun W hb => mnew_any ad1 xs.length c1 xs W rfl h0 h8 (by omega) hu (hcells W hb))
  have HL := Lib.hid hL
  have HV := Lib.hid hv
  have e0 : ((xs.length : Int) == 0) = false := by rw [beq_eq_false_iff_ne]; omega
  have e1 : ((xs.length : Int) % 8 != 0) = false := by rw [bne_eq_false_iff_eq]; omega
  clear HF hcells hwc hwl h0 h8 hu hL hv
  go_enter Try.func5, Try.ntmps5
  go_wp2_with fail
  refine (HH.out _).mono ?_
  rintro e w1 ⟨rfl, rfl⟩
  go_wp2_with fail
  refine (H1.out _ (Below.refl _ _)).mono ?_
  rintro e w0 ⟨b, rfl, hb1, ⟨S, p1, g1⟩, B1⟩
  have HS0 := Lib.hid (NSt.start keepsPM p1)
  have HB1 := Lib.hid B1
  have HG := Lib.hid g1
  clear p1 g1 B1 H1 e0 e1
  go_wp2_with fail
  go_loopw [6] (fun vi wr => KRelE w w0 b S xs.length acts.length vi wr) (fun vi _ => acts.length - (intOf vi).toNat)
  case atStart => exact ⟨0, _, Nat.zero_le _, rfl, HS0.out, rfl, HB1.out⟩
  case round =>
    obtain ⟨k, s, hk, rfl, hst, hlen, hbr⟩ := hrel
    by_cases hlt : k < acts.length
    · have hkl : (k : Int) < acts.length := by omega
      obtain ⟨a, ha⟩ : ∃ a, acts[k]? = some a := ⟨_, List.getElem?_eq_getElem hlt⟩
      obtain ⟨ad, c, hvs, -⟩ := act_cells (HL.out.keepB hbr (Nat.le_refl _)) ha
      simp only [Value.slice.injEq, true_and] at hvs
      obtain ⟨rfl, rfl⟩ := hvs
      have hq := fun W (hb : Below w.heap.size w W) => act_at (HL.out.keepB hb (Nat.le_refl _)) ha
      have hav := (HV.out a (List.mem_of_getElem? ha)).2
      obtain ⟨d, who, at_, mask, old, val⟩ := a
      dsimp only at hq hav
      have HQ := Lib.hid hq
      obtain ⟨a, hA⟩ : ∃ a, (⟨d, who, at_, mask, old, val⟩ : NM.A) = a := ⟨_, rfl⟩
      have hd : a.d = d := by rw [← hA]
      obtain ⟨x, hx⟩ : ∃ x, (s.act a).1.1 = x := ⟨_, rfl⟩
      obtain ⟨y, hy⟩ : ∃ y, (s.act a).1.2 = y := ⟨_, rfl⟩
      obtain ⟨s', hs'⟩ : ∃ s', (s.act a).2 = s' := ⟨_, rfl⟩
      have hinv : s.Inv := by obtain ⟨S9, h9⟩ := hst.get; exact h9.inv
      have hs9 := hinv.small
      have hk9 := hinv.kl
      have hw9 : s'.W.length = s.W.length := by rw [← hs']; exact NM.act_W_len hinv a
      have hK5 : ¬ a.d = 5 → ¬ a.d = 6 → s'.K = s.K := fun p q => by rw [← hs']; exact NM.act_K p q
      have hC7 : a.d = 7 → s' = s.crash := fun p => by rw [← hs']; exact NM.act_crash p
      have hW23 : ¬ a.d = 2 → ¬ a.d = 3 → ¬ a.d = 7 → s'.W = s.W := fun p q r => by rw [← hs']; exact NM.act_W p q r
      have hD1 : ¬ a.d = 7 → difK s.W s'.W s.W.length ≤ 1 := fun p => by rw [← hs']; exact NM.act_dif p _
      have h3 := fun W S1 (h1 : PM W b S1 s) => mdo_any b ⟨d, who, at_, mask, old, val⟩ W S1 s h1 hav
      unfold actR actV at h3
      dsimp only at h3
      rw [hA, hx, hy, hs'] at h3
      rw [hd] at hK5 hC7 hW23 hD1
      have H3 := Lib.hid h3
      have HS := Lib.hid hst
      have HBr := Lib.hid hbr
      have F1 := Lib.hid hK5
      have F2 := Lib.hid hC7
      have F3 := Lib.hid hW23
      have F4 := Lib.hid hD1
      have HLen := Lib.hid hlen
      have HW9 := Lib.hid hw9
      have HK9 := Lib.hid hk9
      rw [hlen] at hs9
      clear h3 hst hx hy hs' hav ha hbr hd hA hq hinv hK5 hC7 hW23 hD1 hlen hw9 hk9
      go_wp2_with fail
      obtain ⟨S2, p2⟩ := HS.out.get
      refine (mwords_any b _ S2 s p2).mono ?_
      rintro e wa ⟨va, rfl, oa, -, ba⟩
      have NA := Lib.hid (HS.out.row keepsPM ba oa)
      have BA := Lib.hid (HBr.out.trans (ba.mono HBr.out.size))
      have OA := Lib.hid (Joins.ownsRow_le oa (Nat.zero_le _))
      clear p2 oa ba
      go_wp2_with fail
      obtain ⟨S3, p3⟩ := NA.out.get
      refine (mkept_any b _ S3 s p3).mono ?_
      rintro e wb ⟨vb, rfl, ob, -, bb⟩
      have NB := Lib.hid (NA.out.row keepsPM bb ob)
      have BB := Lib.hid (BA.out.trans (bb.mono BA.out.size))
      have OB := Lib.hid (Joins.ownsRow_le ob (Nat.zero_le _))
      have OA2 := Lib.hid (ownsRow_keep OA.out (fun x hx => bb.block x (ownsRow_lt OA.out hx)))
      clear p3 ob bb OA
      obtain ⟨q0, q1, q2, q3, q4, q5⟩ := HQ.out _ BB.out
      go_wp2_with fail
      refine (calls_nst NB.out (H3.out _)).mono ?_
      rintro e wc ⟨rfl, nc, lc⟩
      have NC := Lib.hid nc
      have OA3 := Lib.hid (ownsRow_keep OA2.out (fun x hx => lc x (by simp [hx])))
      have OB3 := Lib.hid (ownsRow_keep OB.out (fun x hx => lc x (by simp [hx])))
      have BC := Lib.hid (HB1.out.trans (nc.fr.below HB1.out.size HG.out))
      clear nc lc OA2 OB q0 q1 q2 q3 q4 q5
      go_wp2_with fail
      obtain ⟨S4, p4⟩ := NC.out.get
      refine (mwords_any b _ S4 s' p4).mono ?_
      rintro e wd ⟨vd, rfl, od, -, bd⟩
      have ND := Lib.hid (NC.out.row keepsPM bd od)
      have BD := Lib.hid (BC.out.trans (bd.mono BC.out.size))
      have OD := Lib.hid (Joins.ownsRow_le od (Nat.zero_le _))
      have OA4 := Lib.hid (ownsRow_keep OA3.out (fun x hx => bd.block x (ownsRow_lt OA3.out hx)))
      have OB4 := Lib.hid (ownsRow_keep OB3.out (fun x hx => bd.block x (ownsRow_lt OB3.out hx)))
      clear p4 od bd OA3 OB3
      go_wp2_with fail
      obtain ⟨S5, p5⟩ := ND.out.get
      refine (mkept_any b _ S5 s' p5).mono ?_
      rintro e we ⟨ve, rfl, oe, -, be⟩
      have NE := Lib.hid (ND.out.row keepsPM be oe)
      have BE := Lib.hid (BD.out.trans (be.mono BD.out.size))
      have hla : s.W.length = xs.length := HLen.out
      have hld : s'.W.length = xs.length := HW9.out.trans HLen.out
      have oa5 := ownsRow_keep OA4.out (fun x hx => be.block x (ownsRow_lt OA4.out hx))
      have ob5 := ownsRow_keep OB4.out (fun x hx => be.block x (ownsRow_lt OB4.out hx))
      have od5 := ownsRow_keep OD.out (fun x hx => be.block x (ownsRow_lt OD.out hx))
      have oe5 := Joins.ownsRow_le oe (Nat.zero_le _)
      rw [hla] at oa5 ob5
      rw [hld] at od5 oe5
      obtain ⟨pa, ca, rfl⟩ := row_shape oa5
      obtain ⟨pb, cb, rfl⟩ := row_shape ob5
      obtain ⟨pd, cd, rfl⟩ := row_shape od5
      obtain ⟨pe, ce, rfl⟩ := row_shape oe5
      have RS := Lib.hid (And.intro oa5 (And.intro ob5 (And.intro od5 oe5)))
      have HKl := Lib.hid (HK9.out.trans HLen.out)
      have HS' := Lib.hid (show s'.K.length = xs.length by obtain ⟨S6, p6⟩ := NE.out.get; exact p6.inv.kl.trans hld)
      have HSd := Lib.hid hld
      clear p5 oe be OA4 OB4 OD oa5 ob5 od5 oe5 NC BC ND BD BB NB NA BA HS HBr hla hld
      have hxx : ((xs.length : Int) != (xs.length : Int)) = false := by simp
      obtain ⟨q0, q1, q2, q3, q4, q5⟩ := HQ.out _ BE.out
      by_cases h7 : d = 7
      · have e1 := F2.out h7
        have CKT := Lib.hid (fun W (hb : Below we.heap.size we W) => wwords_eq s.K s'.K (.slice pb xs.length cb) (.slice pe xs.length ce) W (by rw [HKl.out]; exact ownsRow_keep RS.out.2.1 (fun x hx => hb.block x (ownsRow_lt RS.out.2.1 hx))) (by rw [HS'.out]; exact ownsRow_keep RS.out.2.2.2 (fun x hx => hb.block x (ownsRow_lt RS.out.2.2.2 hx))) (by rw [HKl.out]; omega) (by rw [e1]; rfl))
        have CNK := Lib.hid (fun W (hb : Below we.heap.size we W) => wwords_eq s'.W s.K (.slice pd xs.length cd) (.slice pb xs.length cb) W (by rw [HSd.out]; exact ownsRow_keep RS.out.2.2.1 (fun x hx => hb.block x (ownsRow_lt RS.out.2.2.1 hx))) (by rw [HKl.out]; exact ownsRow_keep RS.out.2.1 (fun x hx => hb.block x (ownsRow_lt RS.out.2.1 hx))) (by rw [HSd.out]; omega) (by rw [e1]; rfl))
        have HE := Lib.hid (show s'.pend who = [] by rw [e1]; exact NM.crash_pend _ _)
        subst h7
        clear e1 F1 F2 F3 F4
        go_wp2_with fail
        refine (CKT.out _ (Below.refl _ _)).mono ?_
        rintro e wf ⟨rfl, bf⟩
        have BF := Lib.hid (BE.out.trans (bf.mono BE.out.size))
        have NF := Lib.hid (NE.out.below keepsPM bf)
        have Bf := Lib.hid bf
        clear bf q0 q1 q2 q3 q4 q5
        obtain ⟨q0, q1, q2, q3, q4, q5⟩ := HQ.out _ BF.out
        go_wp2_with fail
        refine (CNK.out _ Bf.out).mono ?_
        rintro e wg ⟨rfl, bg⟩
        have BG := Lib.hid (BF.out.trans (bg.mono BF.out.size))
        have NG := Lib.hid (NF.out.below keepsPM bg)
        clear bg q0 q1 q2 q3 q4 q5
        obtain ⟨q0, q1, q2, q3, q4, q5⟩ := HQ.out _ BG.out
        go_wp2_with fail
        obtain ⟨S7, p7⟩ := NG.out.get
        refine (mpend_any b who _ S7 s' p7).mono ?_
        rintro e wh ⟨vh, rfl, oh, bh⟩
        rw [HE.out] at oh
        obtain ⟨ph, ch, rfl⟩ := row_shape (Joins.ownsRow_le oh (Nat.zero_le _))
        simp only [List.length_nil]
        have BH := Lib.hid (BG.out.trans (bh.mono BG.out.size))
        have NH := Lib.hid (NG.out.below keepsPM bh)
        clear p7 oh bh q0 q1 q2 q3 q4 q5
        go_wp2
        go_roundw
        case rel => exact ⟨k + 1, s', by omega, by go_num, NH.out.sub [] (by simp), HSd.out, BH.out⟩
        case measure => simp [intOf]; omega
      · have hD := F4.out h7
        have CD := Lib.hid (fun W (hb : Below we.heap.size we W) => differ_any s.W s'.W (.slice pa xs.length ca) (.slice pd xs.length cd) W (by rw [HLen.out]; exact ownsRow_keep RS.out.1 (fun x hx => hb.block x (ownsRow_lt RS.out.1 hx))) (by rw [HSd.out]; exact ownsRow_keep RS.out.2.2.1 (fun x hx => hb.block x (ownsRow_lt RS.out.2.2.1 hx))) HW9.out.symm (by rw [HLen.out]; omega))
        have h7b : (d == 7) = false := by simpa using h7
        by_cases h56 : d = 5 ∨ d = 6
        · have hz : difK s.W s'.W s.W.length = 0 := by rw [F3.out (by omega) (by omega) h7, difK_self]
          rw [hz] at CD
          clear F1 F2 F3 F4 hD hz
          rcases h56 with rfl | rfl
          · clear h7
            go_wp2_with fail
            refine (CD.out _ (Below.refl we.heap.size we)).mono ?_
            rintro e wg ⟨rfl, bg⟩
            have BF := Lib.hid (BE.out.trans (bg.mono BE.out.size))
            have NF := Lib.hid (NE.out.below keepsPM bg)
            have Bwg := Lib.hid (((Below.refl we.heap.size we)).trans (bg.mono ((Below.refl we.heap.size we)).size))
            clear bg q0 q1 q2 q3 q4 q5
            obtain ⟨q0, q1, q2, q3, q4, q5⟩ := HQ.out _ BF.out
            go_wp2_with fail
            refine (CD.out _ Bwg.out).mono ?_
            rintro e wh ⟨rfl, bg⟩
            have BG := Lib.hid (BF.out.trans (bg.mono BF.out.size))
            have NG := Lib.hid (NF.out.below keepsPM bg)
            have Bwh := Lib.hid ((Bwg.out).trans (bg.mono (Bwg.out).size))
            clear bg q0 q1 q2 q3 q4 q5
            obtain ⟨q0, q1, q2, q3, q4, q5⟩ := HQ.out _ BG.out
            go_wp2
            go_roundw
            case rel => exact ⟨k + 1, s', by omega, by go_num, NG.out.sub [] (by simp), HSd.out, BG.out⟩
            case measure => simp [intOf]; omega
          · clear h7
            go_wp2_with fail
            refine (CD.out _ (Below.refl we.heap.size we)).mono ?_
            rintro e wg ⟨rfl, bg⟩
            have BF := Lib.hid (BE.out.trans (bg.mono BE.out.size))
            have NF := Lib.hid (NE.out.below keepsPM bg)
            have Bwg := Lib.hid (((Below.refl we.heap.size we)).trans (bg.mono ((Below.refl we.heap.size we)).size))
            clear bg q0 q1 q2 q3 q4 q5
            obtain ⟨q0, q1, q2, q3, q4, q5⟩ := HQ.out _ BF.out
            go_wp2_with fail
            refine (CD.out _ Bwg.out).mono ?_
            rintro e wh ⟨rfl, bg⟩
            have BG := Lib.hid (BF.out.trans (bg.mono BF.out.size))
            have NG := Lib.hid (NF.out.below keepsPM bg)
            have Bwh := Lib.hid ((Bwg.out).trans (bg.mono (Bwg.out).size))
            clear bg q0 q1 q2 q3 q4 q5
            obtain ⟨q0, q1, q2, q3, q4, q5⟩ := HQ.out _ BG.out
            go_wp2
            go_roundw
            case rel => exact ⟨k + 1, s', by omega, by go_num, NG.out.sub [] (by simp), HSd.out, BG.out⟩
            case measure => simp [intOf]; omega
        · have eK := F1.out (by omega) (by omega)
          have CKT := Lib.hid (fun W (hb : Below we.heap.size we W) => wwords_eq s.K s'.K (.slice pb xs.length cb) (.slice pe xs.length ce) W (by rw [HKl.out]; exact ownsRow_keep RS.out.2.1 (fun x hx => hb.block x (ownsRow_lt RS.out.2.1 hx))) (by rw [HS'.out]; exact ownsRow_keep RS.out.2.2.2 (fun x hx => hb.block x (ownsRow_lt RS.out.2.2.2 hx))) (by rw [HKl.out]; omega) eK.symm)
          have h5b : (d != 5) = true := by simp; omega
          have h6b : (d != 6) = true := by simp; omega
          by_cases h23 : d = 2 ∨ d = 3
          · obtain ⟨D, hDe⟩ : ∃ D, difK s.W s'.W s.W.length = D := ⟨_, rfl⟩
            rw [hDe] at CD hD
            have hD1 : ¬ (1 : Int) < (D : Int) := by omega
            clear F1 F2 F3 F4 eK hDe h56
            rcases h23 with rfl | rfl
            · clear h7
              go_wp2_with fail
              refine (CKT.out _ (Below.refl we.heap.size we)).mono ?_
              rintro e wf ⟨rfl, bf⟩
              have BF := Lib.hid (BE.out.trans (bf.mono BE.out.size))
              have NF := Lib.hid (NE.out.below keepsPM bf)
              have Bf := Lib.hid bf
              clear bf q0 q1 q2 q3 q4 q5
              obtain ⟨q0, q1, q2, q3, q4, q5⟩ := HQ.out _ BF.out
              go_wp2_with fail
              refine (CD.out _ Bf.out).mono ?_
              rintro e wh ⟨rfl, bg⟩
              have BG := Lib.hid (BF.out.trans (bg.mono BF.out.size))
              have NG := Lib.hid (NF.out.below keepsPM bg)
              have Bwh := Lib.hid ((Bf.out).trans (bg.mono (Bf.out).size))
              clear bg q0 q1 q2 q3 q4 q5
              obtain ⟨q0, q1, q2, q3, q4, q5⟩ := HQ.out _ BG.out
              go_wp2
              go_roundw
              case rel => exact ⟨k + 1, s', by omega, by go_num, NG.out.sub [] (by simp), HSd.out, BG.out⟩
              case measure => simp [intOf]; omega
            · clear h7
              go_wp2_with fail
              refine (CKT.out _ (Below.refl we.heap.size we)).mono ?_
              rintro e wf ⟨rfl, bf⟩
              have BF := Lib.hid (BE.out.trans (bf.mono BE.out.size))
              have NF := Lib.hid (NE.out.below keepsPM bf)
              have Bf := Lib.hid bf
              clear bf q0 q1 q2 q3 q4 q5
              obtain ⟨q0, q1, q2, q3, q4, q5⟩ := HQ.out _ BF.out
              go_wp2_with fail
              refine (CD.out _ Bf.out).mono ?_
              rintro e wh ⟨rfl, bg⟩
              have BG := Lib.hid (BF.out.trans (bg.mono BF.out.size))
              have NG := Lib.hid (NF.out.below keepsPM bg)
              have Bwh := Lib.hid ((Bf.out).trans (bg.mono (Bf.out).size))
              clear bg q0 q1 q2 q3 q4 q5
              obtain ⟨q0, q1, q2, q3, q4, q5⟩ := HQ.out _ BG.out
              go_wp2
              go_roundw
              case rel => exact ⟨k + 1, s', by omega, by go_num, NG.out.sub [] (by simp), HSd.out, BG.out⟩
              case measure => simp [intOf]; omega
          · have hz : difK s.W s'.W s.W.length = 0 := by rw [F3.out (by omega) (by omega) h7, difK_self]
            rw [hz] at CD
            have h2b : (d != 2) = true := by simp; omega
            have h3b : (d != 3) = true := by simp; omega
            clear F1 F2 F3 F4 eK hz hD h56 h23 h7
            go_wp2_with fail
            refine (CKT.out _ (Below.refl we.heap.size we)).mono ?_
            rintro e wf ⟨rfl, bf⟩
            have BF := Lib.hid (BE.out.trans (bf.mono BE.out.size))
            have NF := Lib.hid (NE.out.below keepsPM bf)
            have Bf := Lib.hid bf
            clear bf q0 q1 q2 q3 q4 q5
            obtain ⟨q0, q1, q2, q3, q4, q5⟩ := HQ.out _ BF.out
            go_wp2_with fail
            refine (CD.out _ Bf.out).mono ?_
            rintro e wh ⟨rfl, bg⟩
            have BG := Lib.hid (BF.out.trans (bg.mono BF.out.size))
            have NG := Lib.hid (NF.out.below keepsPM bg)
            have Bwh := Lib.hid ((Bf.out).trans (bg.mono (Bf.out).size))
            clear bg q0 q1 q2 q3 q4 q5
            obtain ⟨q0, q1, q2, q3, q4, q5⟩ := HQ.out _ BG.out
            go_wp2_with fail
            refine (CD.out _ Bwh.out).mono ?_
            rintro e wk ⟨rfl, bg⟩
            have BH := Lib.hid (BG.out.trans (bg.mono BG.out.size))
            have NH := Lib.hid (NG.out.below keepsPM bg)
            have Bwk := Lib.hid ((Bwh.out).trans (bg.mono (Bwh.out).size))
            clear bg q0 q1 q2 q3 q4 q5
            obtain ⟨q0, q1, q2, q3, q4, q5⟩ := HQ.out _ BH.out
            go_wp2
            go_roundw
            case rel => exact ⟨k + 1, s', by omega, by go_num, NH.out.sub [] (by simp), HSd.out, BH.out⟩
            case measure => simp [intOf]; omega
    · have hkl : ¬ (k : Int) < acts.length := by omega
      have HS := Lib.hid hst
      have HB := Lib.hid hbr
      clear hst hbr
      go_wp2_with fail
      refine (nlive_any _).mono ?_
      rintro e w4 ⟨rfl, b4⟩
      go_wp2
      go_ret
      exact ⟨rfl, HB.out.trans (b4.mono HB.out.size)⟩
theorem nkeeps_any (wv lv : Value) (xs : List Int) (acts : List NM.A) (w : World) (hW : Rd w wv 1 xs.length (u64s xs)) (hu : ∀ v ∈ xs, NM.U64 v) (hL : Rd w lv 6 acts.length (acts.flatMap actC)) (hv : ∀ a ∈ acts, NM.U64 a.old ∧ NM.U64 a.val) :
    Calls Try.prog 5 #[wv, lv] w fun e w' => e = .returned (.bool true) ∧ Below w.heap.size w w' := by
  cases h : (decide (xs.length ≤ 64) && decide (acts.length ≤ 200))
  · obtain ⟨a1, c1, rfl⟩ := hW.len
    obtain ⟨a2, c2, rfl⟩ := hL.len
    exact nkeeps_many a1 a2 _ _ c1 c2 w h
  · by_cases hg : xs.length ≠ 0 ∧ xs.length % 8 = 0
    · have h2 : xs.length ≤ 64 ∧ acts.length ≤ 200 := by simpa using h
      exact nkeeps_main wv lv xs acts w hW hu hL hv h2.1 h2.2 hg.1 hg.2
    · obtain ⟨a1, c1, rfl⟩ := hW.len
      obtain ⟨a2, c2, rfl⟩ := hL.len
      exact nkeeps_none a1 a2 _ _ c1 c2 w h (by omega)
end Go.Proofs.Ytdfjgaeiodjmnaa
