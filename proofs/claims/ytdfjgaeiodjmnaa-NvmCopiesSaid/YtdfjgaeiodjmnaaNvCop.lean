/- NvmCopies: the law's walk. -/
import Derived.Test.YtdfjgaeiodjmnaaNvNil
import Derived.Test.YtdfjgaeiodjmnaaNvKee
set_option linter.unusedSimpArgs false
set_option linter.unusedVariables false
namespace Go.Proofs.Ytdfjgaeiodjmnaa
open Go.RowKit

/-- what comes of the acts from h on, as far as k. -/
def runA (acts : List NM.A) (h k : Nat) (s : NM) : NM := ((acts.take k).drop h).foldl (fun s a => (s.act a).2) s
theorem runA_refl (acts : List NM.A) (h : Nat) (s : NM) : runA acts h h s = s := by
  unfold runA
  rw [List.drop_eq_nil_of_le (by simp; omega)]
  rfl
theorem runA_succ {acts : List NM.A} {h k : Nat} (hk : h ≤ k) {a : NM.A} (ha : acts[k]? = some a) (s : NM) : runA acts h (k + 1) s = ((runA acts h k s).act a).2 := by
  have hl := (List.getElem?_eq_some_iff.1 ha).1
  have e : acts.take (k + 1) = acts.take k ++ [a] := by
    rw [List.take_add_one, ha]; rfl
  unfold runA
  rw [e, List.drop_append_of_le_length (by simp; omega), List.foldl_append]
  rfl

structure C1Rel (w w0 : World) (b : Nat) (S : Nat → Prop) (n : Nat) (vi : Value) (wr : World) (k : Nat) (s : NM) : Prop where
  le : k ≤ n
  eq : vi = .int .i64 k
  st : NSt PM w0 b S [] s wr
  bel : Below w.heap.size w wr
def C1RelE (w w0 : World) (b : Nat) (S : Nat → Prop) (n : Nat) (vi : Value) (wr : World) : Prop := ∃ k s, C1Rel w w0 b S n vi wr k s
structure C2Rel (w : World) (b1 b2 : Nat) (va vb : Value) (n h : Nat) (acts : List NM.A) (s : NM) (vi : Value) (wr : World) (k : Nat) : Prop where
  ge : h ≤ k
  le : k ≤ acts.length
  eq : vi = .int .i64 k
  n2 : N2 PM PM w b1 b2 (vb.ownBlock.toList ++ (va.ownBlock.toList ++ [])) s (runA acts h k s) wr
  ra : wr.ownsRow 0 24 1 va n (u64s s.W)
  rb : wr.ownsRow 0 24 1 vb n (u64s s.K)
def C2RelE (w : World) (b1 b2 : Nat) (va vb : Value) (n h : Nat) (acts : List NM.A) (s : NM) (vi : Value) (wr : World) : Prop := ∃ k, C2Rel w b1 b2 va vb n h acts s vi wr k
structure C3Rel (w : World) (b1 b2 : Nat) (h : Nat) (acts : List NM.A) (s t : NM) (vi : Value) (wr : World) (k : Nat) : Prop where
  ge : h ≤ k
  le : k ≤ acts.length
  eq : vi = .int .i64 k
  n2 : N2 PM PM w b1 b2 [] (runA acts h k s) t wr
def C3RelE (w : World) (b1 b2 : Nat) (h : Nat) (acts : List NM.A) (s t : NM) (vi : Value) (wr : World) : Prop := ∃ k, C3Rel w b1 b2 h acts s t vi wr k

theorem N2.gets {α β : Type} {R : World → Nat → (Nat → Prop) → α → Prop} {Q : World → Nat → (Nat → Prop) → β → Prop} {w0 w : World} {b1 b2 : Nat} {Ls : List Nat} {s1 : α} {s2 : β} (h : N2 R Q w0 b1 b2 Ls s1 s2 w) : ∃ S1 S2, R w b1 S1 s1 ∧ Q w b2 S2 s2 := by
  obtain ⟨S1, S2, p1, p2, -⟩ := h.ex
  exact ⟨S1, S2, p1, p2⟩

set_option maxRecDepth 100000 in
theorem ncopies_many (a1 a2 : Option Addr) (n1 n2 c1 c2 : Nat) (w : World) (h : (decide (n1 ≤ 64) && decide (n2 ≤ 200)) = false) :
    Calls Try.prog 6 #[.slice a1 n1 c1, .slice a2 n2 c2] w fun e w' => e = .returned (.bool true) ∧ Below w.heap.size w w' := by
  have HF := nfew_any a1 a2 n1 n2 c1 c2
  rw [h] at HF
  have HH := Lib.hid HF
  clear HF h
  go_enter Try.func6, Try.ntmps6
  go_wp2_with fail
  refine (HH.out _).mono ?_
  rintro e w1 ⟨rfl, rfl⟩
  go_wp2_with fail
  refine (nlive_any _).mono ?_
  rintro e w2 ⟨rfl, hb⟩
  go_wp2
  go_ret
  exact ⟨rfl, hb⟩
set_option maxRecDepth 100000 in
theorem ncopies_none (a1 a2 : Option Addr) (n1 n2 c1 c2 : Nat) (w : World) (h : (decide (n1 ≤ 64) && decide (n2 ≤ 200)) = true) (h1 : n1 = 0 ∨ n1 % 8 ≠ 0) :
    Calls Try.prog 6 #[.slice a1 n1 c1, .slice a2 n2 c2] w fun e w' => e = .returned (.bool true) ∧ Below w.heap.size w w' := by
  have HF := nfew_any a1 a2 n1 n2 c1 c2
  rw [h] at HF
  have HH := Lib.hid HF
  by_cases h2 : n1 = 0
  · have e0 : ((n1 : Int) == 0) = true := by simp; omega
    clear HF h h1 h2
    go_enter Try.func6, Try.ntmps6
    go_wp2_with fail
    refine (HH.out _).mono ?_
    rintro e w1 ⟨rfl, rfl⟩
    go_wp2_with fail
    refine (nlive_any _).mono ?_
    rintro e w2 ⟨rfl, hb⟩
    go_wp2
    go_ret
    exact ⟨rfl, hb⟩
  · have e0 : ((n1 : Int) == 0) = false := by simp; omega
    have e1 : ((n1 : Int) % 8 != 0) = true := by simp; omega
    clear HF h h1 h2
    go_enter Try.func6, Try.ntmps6
    go_wp2_with fail
    refine (HH.out _).mono ?_
    rintro e w1 ⟨rfl, rfl⟩
    go_wp2_with fail
    refine (nlive_any _).mono ?_
    rintro e w2 ⟨rfl, hb⟩
    go_wp2
    go_ret
    exact ⟨rfl, hb⟩

set_option maxHeartbeats 2000000 in
set_option maxRecDepth 100000 in
theorem ncopies_main (wv lv : Value) (xs : List Int) (acts : List NM.A) (w : World) (hW : Rd w wv 1 xs.length (u64s xs)) (hu : ∀ v ∈ xs, NM.U64 v) (hL : Rd w lv 6 acts.length (acts.flatMap actC)) (hv : ∀ a ∈ acts, NM.U64 a.old ∧ NM.U64 a.val)
    (h1 : xs.length ≤ 64) (h2 : acts.length ≤ 200) (h0 : xs.length ≠ 0) (h8 : xs.length % 8 = 0) :
    Calls Try.prog 6 #[wv, lv] w fun e w' => e = .returned (.bool true) ∧ Below w.heap.size w w' := by
  obtain ⟨hwl, ⟨-, hwn⟩ | ⟨ad1, c1, rfl, hwc⟩⟩ := hW
  · exact absurd hwn h0
  obtain ⟨a2, c2, rfl⟩ := hL.len
  have HF := nfew_any (some ad1) a2 xs.length acts.length c1 c2
  rw [show (decide (xs.length ≤ 64) && decide (acts.length ≤ 200)) = true by simp; omega] at HF
  have HH := Lib.hid HF
  have hcells : ∀ W, Below w.heap.size w W → ∀ j, j < xs.length → W.cell? (ad1.add j) = some (.int .u64 (xs.getD j 0)) := fun W hb j hj => by
    have := hwc j _ (u64s_get hj)
    exact (hb.cell (World.block_lt_of_cell? w _ this)).trans this
  have H1 := Lib.hid (fun W hb => mnew_any ad1 xs.length c1 xs W rfl h0 h8 (by omega) hu (hcells W hb))
  have HL := Lib.hid hL
  have HV := Lib.hid hv
  have e0 : ((xs.length : Int) == 0) = false := by rw [beq_eq_false_iff_ne]; omega
  have e1 : ((xs.length : Int) % 8 != 0) = false := by rw [bne_eq_false_iff_eq]; omega
  have hdv : (acts.length : Int) / 2 = ((acts.length / 2 : Nat) : Int) := by omega
  obtain ⟨q, hq⟩ : ∃ q, acts.length / 2 = q := ⟨_, rfl⟩
  rw [hq] at hdv
  have hqn : q ≤ acts.length := by omega
  clear HF hcells hwc hwl h0 h8 hu hL hv hq
  go_enter Try.func6, Try.ntmps6
  go_wp2_with fail
  refine (HH.out _).mono ?_
  rintro e w1 ⟨rfl, rfl⟩
  go_wp2_with fail
  refine (H1.out _ (Below.refl _ _)).mono ?_
  rintro e w0 ⟨b, rfl, hb1, ⟨S, p1, g1⟩, B1⟩
  have HS0 := Lib.hid (NSt.start keepsPM p1)
  have HB1 := Lib.hid B1
  have HG := Lib.hid g1
  clear p1 g1 B1 H1 e0 e1
  go_wp2_with fail
  go_loopw [6] (fun vi wr => C1RelE w w0 b S q vi wr) (fun vi _ => q - (intOf vi).toNat)
  case atStart => exact ⟨0, _, Nat.zero_le _, rfl, HS0.out, HB1.out⟩
  case round =>
    obtain ⟨k, s, hk, rfl, hst, hbr⟩ := hrel
    by_cases hlt : k < q
    · have hkl : (k : Int) < acts.length := by omega
      have hkq : (k : Int) < q := by omega
      obtain ⟨a, ha⟩ : ∃ a, acts[k]? = some a := ⟨_, List.getElem?_eq_getElem (by omega)⟩
      obtain ⟨ad, c, hvs, -⟩ := act_cells (HL.out.keepB hbr (Nat.le_refl _)) ha
      simp only [Value.slice.injEq, true_and] at hvs
      obtain ⟨rfl, rfl⟩ := hvs
      obtain ⟨q0, q1, q2, q3, q4, q5⟩ := act_at (HL.out.keepB hbr (Nat.le_refl _)) ha
      have hav := (HV.out a (List.mem_of_getElem? ha)).2
      obtain ⟨x, hx⟩ : ∃ x, (s.act a).1.1 = x := ⟨_, rfl⟩
      obtain ⟨y, hy⟩ : ∃ y, (s.act a).1.2 = y := ⟨_, rfl⟩
      obtain ⟨s', hs'⟩ : ∃ s', (s.act a).2 = s' := ⟨_, rfl⟩
      have h3 := fun W S1 (h1 : PM W b S1 s) => mdo_any b a W S1 s h1 hav
      unfold actR actV at h3
      rw [hx, hy, hs'] at h3
      have H3 := Lib.hid h3
      have HS := Lib.hid hst
      clear h3 hst hx hy hs' hav ha hbr
      go_wp2_with fail
      refine (calls_nst HS.out (H3.out _)).mono ?_
      rintro e wc ⟨rfl, nc, -⟩
      have NC := Lib.hid nc
      have BC := Lib.hid (HB1.out.trans (nc.fr.below HB1.out.size HG.out))
      clear nc
      go_wp2
      go_roundw
      case rel => exact ⟨k + 1, s', by omega, by go_num, NC.out, BC.out⟩
      case measure => simp [intOf]; omega
    · have hke : k = q := by omega
      have hkl : ¬ (k : Int) < q := by omega
      have HS := Lib.hid hst
      have HBr := Lib.hid hbr
      have hinv : s.Inv := by obtain ⟨S9, h9⟩ := hst.get; exact h9.inv
      have hsm := hinv.small
      have HKl := Lib.hid hinv.kl
      clear hst hbr hke hinv
      rcases Decidable.em ((k : Int) < acts.length) with hkk | hkk
      all_goals
        go_wp2_with fail
        obtain ⟨S2, p2⟩ := HS.out.get
        refine (mcopy_any b _ S2 s p2).mono ?_
        rintro e w2 ⟨b2, rfl, hb2, ⟨S3, p3, g3⟩, B2⟩
        have hN : N2 PM PM w b b2 [] s s w2 := by
          obtain ⟨S1, p1, k1, -⟩ := HS.out.ex
          have z0 := HB1.out.size
          have zb := HBr.out.size
          refine ⟨⟨S1, S3, keepsPM.keep (T := fun _ => False) p1 (Fr.of_below B2) (fun _ _ x => x), p3, fun i hi => ?_, fun i hi => by have := g3 i hi; omega, fun i hi hi2 => by have := g3 i hi2; have := keepsPM.lt p1 i hi; omega, by simp⟩, HBr.out.trans (B2.mono zb), by simp⟩
          rcases k1 i hi with x | x
          · exact HG.out i x
          · omega
        have N2a := Lib.hid hN
        clear p2 p3 g3 B2 hN hb2 HS
        go_wp2_with fail
        obtain ⟨S4, S5, p4, -⟩ := N2a.out.gets
        refine (mwords_any b _ S4 s p4).mono ?_
        rintro e w3 ⟨va, rfl, oa, -, ba⟩
        have N3 := Lib.hid (N2a.out.row keepsPM keepsPM ba oa)
        have OA := Lib.hid (Joins.ownsRow_le oa (Nat.zero_le _))
        clear p4 oa ba N2a
        go_wp2_with fail
        obtain ⟨S6, S7, p6, -⟩ := N3.out.gets
        refine (mkept_any b _ S6 s p6).mono ?_
        rintro e w4 ⟨vb, rfl, ob, -, bb⟩
        have N4 := Lib.hid (N3.out.row keepsPM keepsPM bb ob)
        have OB := Lib.hid (Joins.ownsRow_le ob (Nat.zero_le _))
        have OA2 := Lib.hid (ownsRow_keep OA.out (fun x hx => bb.block x (ownsRow_lt OA.out hx)))
        clear p6 ob bb OA N3
        go_wp2_with fail
        go_loopw [10] (fun vi wr => C2RelE w b b2 va vb s.W.length q acts s vi wr) (fun vi _ => acts.length - (intOf vi).toNat)
        case atStart => exact ⟨q, Nat.le_refl _, hqn, by go_num, by rw [runA_refl]; exact N4.out, OA2.out, OB.out⟩
        case round =>
          obtain ⟨k, hge, hk, rfl, hn2, hra, hrb⟩ := hrel
          clear OA2 OB N4
          by_cases hlt : k < acts.length
          · skip
            have hkl : (k : Int) < acts.length := by omega
            obtain ⟨a, ha⟩ : ∃ a, acts[k]? = some a := ⟨_, List.getElem?_eq_getElem hlt⟩
            have hbr := hn2.bel
            obtain ⟨ad, c, hvs, -⟩ := act_cells (HL.out.keepB hbr (Nat.le_refl _)) ha
            simp only [Value.slice.injEq, true_and] at hvs
            obtain ⟨rfl, rfl⟩ := hvs
            obtain ⟨q0, q1, q2, q3, q4, q5⟩ := act_at (HL.out.keepB hbr (Nat.le_refl _)) ha
            have hav := (HV.out a (List.mem_of_getElem? ha)).2
            have hsu := runA_succ hge ha s
            obtain ⟨t, ht⟩ : ∃ t, runA acts q k s = t := ⟨_, rfl⟩
            rw [ht] at hsu hn2
            obtain ⟨x, hx⟩ : ∃ x, (t.act a).1.1 = x := ⟨_, rfl⟩
            obtain ⟨y, hy⟩ : ∃ y, (t.act a).1.2 = y := ⟨_, rfl⟩
            obtain ⟨t', ht'⟩ : ∃ t', (t.act a).2 = t' := ⟨_, rfl⟩
            have h3 := fun W S1 (h1 : PM W b2 S1 t) => mdo_any b2 a W S1 t h1 hav
            unfold actR actV at h3
            rw [hx, hy, ht'] at h3
            rw [ht'] at hsu
            have H3 := Lib.hid h3
            have HN := Lib.hid hn2
            have HSu := Lib.hid hsu
            have RA := Lib.hid hra
            have RB := Lib.hid hrb
            clear h3 hn2 hx hy ht' hav ha hbr hsu ht hra hrb
            go_wp2_with fail
            refine (HN.out.snd keepsPM keepsPM (H3.out _)).mono ?_
            rintro e wc ⟨rfl, nc, lc⟩
            have NC := Lib.hid nc
            have RA2 := Lib.hid (ownsRow_keep RA.out (fun x hx => lc x (by simp [hx])))
            have RB2 := Lib.hid (ownsRow_keep RB.out (fun x hx => lc x (by simp [hx])))
            clear nc lc
            go_wp2
            go_roundw
            case rel => exact ⟨k + 1, by omega, by omega, by go_num, by rw [HSu.out]; exact NC.out, RA2.out, RB2.out⟩
            case measure => simp [intOf]; omega
          · have hke : k = acts.length := by omega
            have hkl : ¬ (k : Int) < acts.length := by omega
            rw [hke] at hn2
            obtain ⟨t, ht⟩ : ∃ t, runA acts q acts.length s = t := ⟨_, rfl⟩
            rw [ht] at hn2
            have HT := Lib.hid ht
            have HN := Lib.hid hn2
            have RA := Lib.hid hra
            have RB := Lib.hid hrb
            clear hn2 hra hrb hke ht
            go_wp2_with fail
            obtain ⟨S8, S9, p8, -⟩ := HN.out.gets
            refine (mwords_any b _ S8 s p8).mono ?_
            rintro e w5 ⟨vc, rfl, oc, -, bc⟩
            have N5 := Lib.hid (HN.out.below keepsPM keepsPM bc)
            have OC := Lib.hid (Joins.ownsRow_le oc (Nat.zero_le _))
            have RA2 := Lib.hid (ownsRow_keep RA.out (fun x hx => bc.block x (ownsRow_lt RA.out hx)))
            have RB2 := Lib.hid (ownsRow_keep RB.out (fun x hx => bc.block x (ownsRow_lt RB.out hx)))
            clear p8 oc bc RA RB HN
            go_wp2_with fail
            refine (wwords_eq s.W s.W vc va _ OC.out RA2.out (by omega) rfl).mono ?_
            rintro e w6 ⟨rfl, b6⟩
            have N6 := Lib.hid (N5.out.below keepsPM keepsPM b6)
            have RB3 := Lib.hid (ownsRow_keep RB2.out (fun x hx => b6.block x (ownsRow_lt RB2.out hx)))
            clear b6 OC RA2 RB2 N5
            go_wp2_with fail
            obtain ⟨S8, S9, p8, -⟩ := N6.out.gets
            refine (mkept_any b _ S8 s p8).mono ?_
            rintro e w7 ⟨vd, rfl, od, -, bd⟩
            have N7 := Lib.hid (N6.out.below keepsPM keepsPM bd)
            have OD := Lib.hid (Joins.ownsRow_le od (Nat.zero_le _))
            have RB4 := Lib.hid (ownsRow_keep RB3.out (fun x hx => bd.block x (ownsRow_lt RB3.out hx)))
            clear p8 od bd RB3 N6
            go_wp2_with fail
            refine (wwords_eq s.K s.K vd vb _ (by rw [HKl.out]; exact OD.out) (by rw [HKl.out]; exact RB4.out) (by rw [HKl.out]; omega) rfl).mono ?_
            rintro e w8 ⟨rfl, b8⟩
            have N8 := Lib.hid ((N7.out.below keepsPM keepsPM b8).sub [] (by simp))
            clear b8 OD RB4 N7
            go_wp2_with fail
            go_loopw [11] (fun vi wr => C3RelE w b b2 q acts s t vi wr) (fun vi _ => acts.length - (intOf vi).toNat)
            case atStart => exact ⟨q, Nat.le_refl _, hqn, by go_num, by rw [runA_refl]; exact N8.out⟩
            case round =>
              obtain ⟨k, hge, hk, rfl, hn2⟩ := hrel
              clear N8
              by_cases hlt : k < acts.length
              · skip
                have hkl : (k : Int) < acts.length := by omega
                obtain ⟨a, ha⟩ : ∃ a, acts[k]? = some a := ⟨_, List.getElem?_eq_getElem hlt⟩
                have hbr := hn2.bel
                obtain ⟨ad, c, hvs, -⟩ := act_cells (HL.out.keepB hbr (Nat.le_refl _)) ha
                simp only [Value.slice.injEq, true_and] at hvs
                obtain ⟨rfl, rfl⟩ := hvs
                obtain ⟨q0, q1, q2, q3, q4, q5⟩ := act_at (HL.out.keepB hbr (Nat.le_refl _)) ha
                have hav := (HV.out a (List.mem_of_getElem? ha)).2
                have hsu := runA_succ hge ha s
                obtain ⟨t9, ht⟩ : ∃ t9, runA acts q k s = t9 := ⟨_, rfl⟩
                rw [ht] at hsu hn2
                obtain ⟨x, hx⟩ : ∃ x, (t9.act a).1.1 = x := ⟨_, rfl⟩
                obtain ⟨y, hy⟩ : ∃ y, (t9.act a).1.2 = y := ⟨_, rfl⟩
                obtain ⟨t', ht'⟩ : ∃ t', (t9.act a).2 = t' := ⟨_, rfl⟩
                have h3 := fun W S1 (h1 : PM W b S1 t9) => mdo_any b a W S1 t9 h1 hav
                unfold actR actV at h3
                rw [hx, hy, ht'] at h3
                rw [ht'] at hsu
                have H3 := Lib.hid h3
                have HN := Lib.hid hn2
                have HSu := Lib.hid hsu
                clear h3 hn2 hx hy ht' hav ha hbr hsu ht
                go_wp2_with fail
                refine (HN.out.fst keepsPM keepsPM (H3.out _)).mono ?_
                rintro e wc ⟨rfl, nc, -⟩
                have NC := Lib.hid nc
                clear nc
                go_wp2
                go_roundw
                case rel => exact ⟨k + 1, by omega, by omega, by go_num, by rw [HSu.out]; exact NC.out⟩
                case measure => simp [intOf]; omega
              · have hke : k = acts.length := by omega
                have hkl : ¬ (k : Int) < acts.length := by omega
                rw [hke, HT.out] at hn2
                have HN := Lib.hid hn2
                clear hn2 hke
                have htl : t.W.length ≤ 65536 ∧ t.K.length = t.W.length := by
                  obtain ⟨S8, S9, p8, -⟩ := HN.out.gets
                  exact ⟨p8.inv.small, p8.inv.kl⟩
                have hts := htl.1
                have HTl := Lib.hid htl.2
                clear htl
                go_wp2_with fail
                obtain ⟨S8, S9, p8, -⟩ := HN.out.gets
                refine (mwords_any b _ S8 t p8).mono ?_
                rintro e w5 ⟨vc', rfl, oc, -, bc⟩
                have M5 := Lib.hid (HN.out.below keepsPM keepsPM bc)
                have OC := Lib.hid (Joins.ownsRow_le oc (Nat.zero_le _))
                clear p8 oc bc HN
                go_wp2_with fail
                obtain ⟨S8, S9, -, p8⟩ := M5.out.gets
                refine (mwords_any b2 _ S9 t p8).mono ?_
                rintro e w6 ⟨vd', rfl, od, -, bd⟩
                have M6 := Lib.hid (M5.out.below keepsPM keepsPM bd)
                have OD := Lib.hid (Joins.ownsRow_le od (Nat.zero_le _))
                have OC2 := Lib.hid (ownsRow_keep OC.out (fun x hx => bd.block x (ownsRow_lt OC.out hx)))
                clear p8 od bd M5 OC
                go_wp2_with fail
                refine (wwords_eq t.W t.W vc' vd' _ OC2.out OD.out (by omega) rfl).mono ?_
                rintro e w7 ⟨rfl, b7⟩
                have M7 := Lib.hid (M6.out.below keepsPM keepsPM b7)
                clear b7 M6 OC2 OD
                go_wp2_with fail
                obtain ⟨S8, S9, p8, -⟩ := M7.out.gets
                refine (mkept_any b _ S8 t p8).mono ?_
                rintro e w8 ⟨ve', rfl, oc, -, bc⟩
                have M8 := Lib.hid (M7.out.below keepsPM keepsPM bc)
                have OC := Lib.hid (Joins.ownsRow_le oc (Nat.zero_le _))
                clear p8 oc bc M7
                go_wp2_with fail
                obtain ⟨S8, S9, -, p8⟩ := M8.out.gets
                refine (mkept_any b2 _ S9 t p8).mono ?_
                rintro e w9 ⟨vf', rfl, od, -, bd⟩
                have M9 := Lib.hid (M8.out.below keepsPM keepsPM bd)
                have OD := Lib.hid (Joins.ownsRow_le od (Nat.zero_le _))
                have OC2 := Lib.hid (ownsRow_keep OC.out (fun x hx => bd.block x (ownsRow_lt OC.out hx)))
                clear p8 od bd M8 OC
                go_wp2_with fail
                refine (wwords_eq t.K t.K ve' vf' _ (by rw [HTl.out]; exact OC2.out) (by rw [HTl.out]; exact OD.out) (by rw [HTl.out]; omega) rfl).mono ?_
                rintro e wa ⟨rfl, ba⟩
                have BA := Lib.hid (M9.out.bel.trans (ba.mono M9.out.bel.size))
                clear ba M9 OC2 OD
                go_wp2_with fail
                refine (mcrash_nil _).mono ?_
                rintro e wb ⟨rfl, rfl⟩
                go_wp2_with fail
                refine (mload_nil 0 _).mono ?_
                rintro e wb ⟨rfl, rfl⟩
                go_wp2_with fail
                refine (mload_zero _ _ ((cell?_of_heap (heap_alloc_new wa _)).trans rfl)).mono ?_
                rintro e wb ⟨rfl, rfl⟩
                have BB1 := Lib.hid (BA.out.alloc (o := .cells #[.slice none 0 0, .slice none 0 0, .map none] 54) BA.out.size)
                go_wp2_with fail
                refine (mstore_nil 0 1 _).mono ?_
                rintro e wb ⟨rfl, rfl⟩
                generalize wa.alloc (.cells #[.slice none 0 0, .slice none 0 0, .map none] 54) = wx at *
                go_wp2_with fail
                refine (mflush_zero _ _ ((cell?_of_heap (heap_alloc_new wx _)).trans rfl)).mono ?_
                rintro e wb ⟨rfl, rfl⟩
                have BB2 := Lib.hid (BB1.out.alloc (o := .cells #[.slice none 0 0, .slice none 0 0, .map none] 54) BB1.out.size)
                generalize wx.alloc (.cells #[.slice none 0 0, .slice none 0 0, .map none] 54) = wy at *
                go_wp2_with fail
                refine (mfence_nil 0 _).mono ?_
                rintro e wz ⟨rfl, bz⟩
                have BB3 := Lib.hid (BB2.out.trans (bz.mono BB2.out.size))
                clear bz
                go_wp2_with fail
                refine (mwords_nil _).mono ?_
                rintro e wb ⟨rfl, rfl⟩
                go_wp2_with fail
                refine (mkept_zero _ _ ((cell?_of_heap (heap_alloc_new wz _)).trans rfl)).mono ?_
                rintro e wb ⟨rfl, rfl⟩
                have BB4 := Lib.hid (BB3.out.alloc (o := .cells #[.slice none 0 0, .slice none 0 0, .map none] 54) BB3.out.size)
                generalize wz.alloc (.cells #[.slice none 0 0, .slice none 0 0, .map none] 54) = wv at *
                go_wp2_with fail
                refine (mevict_nil 0 1 _).mono ?_
                rintro e wb ⟨rfl, rfl⟩
                go_wp2_with fail
                refine (nlive_any _).mono ?_
                rintro e wu ⟨rfl, bu⟩
                have BB5 := Lib.hid (BB4.out.trans (bu.mono BB4.out.size))
                clear bu
                go_wp2
                go_ret
                exact ⟨rfl, BB5.out⟩
theorem ncopies_any (wv lv : Value) (xs : List Int) (acts : List NM.A) (w : World) (hW : Rd w wv 1 xs.length (u64s xs)) (hu : ∀ v ∈ xs, NM.U64 v) (hL : Rd w lv 6 acts.length (acts.flatMap actC)) (hv : ∀ a ∈ acts, NM.U64 a.old ∧ NM.U64 a.val) :
    Calls Try.prog 6 #[wv, lv] w fun e w' => e = .returned (.bool true) ∧ Below w.heap.size w w' := by
  cases h : (decide (xs.length ≤ 64) && decide (acts.length ≤ 200))
  · obtain ⟨a1, c1, rfl⟩ := hW.len
    obtain ⟨a2, c2, rfl⟩ := hL.len
    exact ncopies_many a1 a2 _ _ c1 c2 w h
  · by_cases hg : xs.length ≠ 0 ∧ xs.length % 8 = 0
    · have h2 : xs.length ≤ 64 ∧ acts.length ≤ 200 := by simpa using h
      exact ncopies_main wv lv xs acts w hW hu hL hv h2.1 h2.2 hg.1 hg.2
    · obtain ⟨a1, c1, rfl⟩ := hW.len
      obtain ⟨a2, c2, rfl⟩ := hL.len
      exact ncopies_none a1 a2 _ _ c1 c2 w h (by omega)
end Go.Proofs.Ytdfjgaeiodjmnaa
