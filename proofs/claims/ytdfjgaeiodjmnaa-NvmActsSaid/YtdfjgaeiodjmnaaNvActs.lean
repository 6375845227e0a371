/- NvmActs: the law's walk. -/
import Derived.Test.YtdfjgaeiodjmnaaNvArgs
set_option linter.unusedSimpArgs false
set_option linter.unusedVariables false
namespace Go.Proofs.Ytdfjgaeiodjmnaa
open Go.RowKit

theorem wwords_same (a : List Int) (va vb : Value) (w : World) (ha : w.ownsRow 0 24 1 va a.length (u64s a)) (hb : w.ownsRow 0 24 1 vb a.length (u64s a)) (hn : a.length ≤ 4294967296) :
    Calls Try.prog 19 #[va, vb] w fun e w' => e = .returned (.bool true) ∧ Below w.heap.size w w' := by
  have := wwords_any a a va vb w ha hb hn hn
  simpa using this
theorem intCells_ints (l : List Nat) : intCells l = ints (l.map fun n : Nat => (n : Int)) := by
  simp [intCells, ints, Function.comp_def]
theorem pend_same (l : List Nat) (va vb : Value) (w : World) (ha : w.ownsRow 0 3 1 va l.length (intCells l)) (hb : w.ownsRow 0 3 1 vb l.length (intCells l)) (hn : l.length ≤ 4294967296) :
    Calls Try.prog 21 #[va, vb] w fun e w' => e = .returned (.bool true) ∧ Below w.heap.size w w' := by
  rw [intCells_ints] at ha hb
  have := ints_any (l.map fun n : Nat => (n : Int)) (l.map fun n : Nat => (n : Int)) va vb w (by simpa using ha) (by simpa using hb) (by simpa using hn) (by simpa using hn)
  simpa using this

structure NRel (w : World) (b1 b2 n : Nat) (vi : Value) (wr : World) (k : Nat) (s : NM) : Prop where
  le : k ≤ n
  eq : vi = .int .i64 k
  n2 : N2 PM RM w b1 b2 [] s s wr
def NRelE (w : World) (b1 b2 n : Nat) (vi : Value) (wr : World) : Prop := ∃ k s, NRel w b1 b2 n vi wr k s

theorem nacts_many (a1 a2 : Option Addr) (n1 n2 c1 c2 : Nat) (w : World) (h : (decide (n1 ≤ 64) && decide (n2 ≤ 200)) = false) :
    Calls Try.prog 4 #[.slice a1 n1 c1, .slice a2 n2 c2] w fun e w' => e = .returned (.bool true) ∧ Below w.heap.size w w' := by
  have HF := nfew_any a1 a2 n1 n2 c1 c2
  rw [h] at HF
  have HH := Lib.hid HF
  clear HF h
  go_enter Try.func4, Try.ntmps4
  go_wp2_with fail
  refine (HH.out _).mono ?_
  rintro e w1 ⟨rfl, rfl⟩
  go_wp2_with fail
  refine (nlive_any _).mono ?_
  rintro e w2 ⟨rfl, hb⟩
  go_wp2
  go_ret
  exact ⟨rfl, hb⟩

theorem nacts_none (a1 a2 : Option Addr) (n1 n2 c1 c2 : Nat) (w : World) (h : (decide (n1 ≤ 64) && decide (n2 ≤ 200)) = true) (h1 : n1 = 0 ∨ n1 % 8 ≠ 0 ∨ 65536 < n1) :
    Calls Try.prog 4 #[.slice a1 n1 c1, .slice a2 n2 c2] w fun e w' => e = .returned (.bool true) ∧ Below w.heap.size w w' := by
  have HF := nfew_any a1 a2 n1 n2 c1 c2
  rw [h] at HF
  have HH := Lib.hid HF
  have H1 := Lib.hid (fun W => mnew_no a1 n1 c1 W h1)
  have H2 := Lib.hid (fun W => rnew_no a1 n1 c1 W h1)
  clear HF h h1
  go_enter Try.func4, Try.ntmps4
  go_wp2_with fail
  refine (HH.out _).mono ?_
  rintro e w1 ⟨rfl, rfl⟩
  go_wp2_with fail
  refine (H1.out _).mono ?_
  rintro e w1 ⟨rfl, rfl⟩
  go_wp2_with fail
  refine (H2.out _).mono ?_
  rintro e w1 ⟨rfl, rfl⟩
  go_wp2_with fail
  refine (nlive_any _).mono ?_
  rintro e w2 ⟨rfl, hb⟩
  go_wp2
  go_ret
  exact ⟨rfl, hb⟩

set_option maxHeartbeats 1000000 in
set_option maxRecDepth 100000 in
theorem nacts_main (wv lv : Value) (xs : List Int) (acts : List NM.A) (w : World) (hW : Rd w wv 1 xs.length (u64s xs)) (hu : ∀ v ∈ xs, NM.U64 v) (hL : Rd w lv 6 acts.length (acts.flatMap actC)) (hv : ∀ a ∈ acts, NM.U64 a.old ∧ NM.U64 a.val)
    (h1 : xs.length ≤ 64) (h2 : acts.length ≤ 200) (h0 : xs.length ≠ 0) (h8 : xs.length % 8 = 0) :
    Calls Try.prog 4 #[wv, lv] w fun e w' => e = .returned (.bool true) ∧ Below w.heap.size w w' := by
  obtain ⟨hwl, ⟨-, hwn⟩ | ⟨ad1, c1, rfl, hwc⟩⟩ := hW
  · exact absurd hwn h0
  obtain ⟨a2, c2, rfl⟩ := hL.len
  have HF := nfew_any (some ad1) a2 xs.length acts.length c1 c2
  rw [show (decide (xs.length ≤ 64) && decide (acts.length ≤ 200)) = true by simp; omega] at HF
  have HH := Lib.hid HF
  have hcells : ∀ W, Below w.heap.size w W → ∀ j, j < xs.length → W.cell? (ad1.add j) = some (.int .u64 (xs.getD j 0)) := fun W hb j hj => by
    have := hwc j _ (u64s_get hj)
    exact (hb.cell (World.block_lt_of_cell? w _ this)).trans this
  have H1 := Lib.hid (fun W hb => mnew_any ad1 xs.length c1 xs W rfl h0 h8 (by omega) hu (hcells W hb))
  have H2 := Lib.hid (fun W hb => rnew_any ad1 xs.length c1 xs W rfl h0 h8 (by omega) hu (hcells W hb))
  have HL := Lib.hid hL
  have HV := Lib.hid hv
  clear HF hcells hwc hwl h0 h8 hu hL hv
  go_enter Try.func4, Try.ntmps4
  go_wp2_with fail
  refine (HH.out _).mono ?_
  rintro e w1 ⟨rfl, rfl⟩
  go_wp2_with fail
  refine (H1.out _ (Below.refl _ _)).mono ?_
  rintro e w1 ⟨b1, rfl, hb1, ⟨S1, p1, g1⟩, B1⟩
  have z1 := B1.size
  go_wp2_with fail
  refine (H2.out _ B1).mono ?_
  rintro e w2 ⟨b2, rfl, hb2, ⟨S2, p2, g2⟩, B2⟩
  have z2 := B2.size
  have hN : N2 PM RM w b1 b2 [] ⟨xs, xs, []⟩ ⟨xs, xs, []⟩ w2 := by
    refine ⟨⟨S1, S2, keepsPM.keep (T := fun _ => False) p1 (Fr.of_below B2) (fun _ _ x => x), p2, g1, fun k hk => by have := g2 k hk; omega, fun k hk hk2 => by have := g2 k hk2; have := keepsPM.lt p1 k hk; omega, by simp⟩, B1.trans (B2.mono z1), by simp⟩
  have HN := Lib.hid hN
  clear p1 p2 g1 g2 B1 B2 hb1 hb2 hN H1 H2 z1 z2
  go_wp2_with fail
  go_loopw [7] (fun vi wr => NRelE w b1 b2 acts.length vi wr) (fun vi _ => acts.length - (intOf vi).toNat)
  case atStart => exact ⟨0, _, Nat.zero_le _, rfl, HN.out⟩
  case round =>
    obtain ⟨k, s, hk, rfl, hst⟩ := hrel
    by_cases hlt : k < acts.length
    · have hkl : (k : Int) < acts.length := by omega
      obtain ⟨a, ha⟩ : ∃ a, acts[k]? = some a := ⟨_, List.getElem?_eq_getElem hlt⟩
      have hbr := hst.bel
      obtain ⟨ad, c, hvs, -⟩ := act_cells (HL.out.keepB hbr (Nat.le_refl _)) ha
      simp only [Value.slice.injEq, true_and] at hvs
      obtain ⟨rfl, rfl⟩ := hvs
      have hq := fun W (hb : Below w.heap.size w W) => act_at (HL.out.keepB hb (Nat.le_refl _)) ha
      obtain ⟨q0, q1, q2, q3, q4, q5⟩ := hq wr hbr
      have HQ := Lib.hid hq
      have hav := (HV.out a (List.mem_of_getElem? ha)).2
      obtain ⟨x, hx⟩ : ∃ x, (s.act a).1.1 = x := ⟨_, rfl⟩
      obtain ⟨y, hy⟩ : ∃ y, (s.act a).1.2 = y := ⟨_, rfl⟩
      obtain ⟨s', hs'⟩ : ∃ s', (s.act a).2 = s' := ⟨_, rfl⟩
      have h3 := fun W S1 (h1 : PM W b1 S1 s) => mdo_any b1 a W S1 s h1 hav
      have h4 := fun W S1 (h1 : RM W b2 S1 s) => rdo_any b2 a W S1 s h1 hav
      unfold actR actV at h3 h4
      rw [hx, hy, hs'] at h3 h4
      have H3 := Lib.hid h3
      have H4 := Lib.hid h4
      have HS := Lib.hid hst
      clear h3 h4 hst hx hy hs' hav ha HN hbr hq
      go_wp2_with fail
      refine (HS.out.fst keepsPM keepsRM (H3.out _)).mono ?_
      rintro e w3 ⟨rfl, n3, -⟩
      have N3 := Lib.hid n3
      obtain ⟨q0, q1, q2, q3, q4, q5⟩ := HQ.out w3 n3.bel
      clear n3
      go_wp2_with fail
      refine (N3.out.snd keepsPM keepsRM (H4.out _)).mono ?_
      rintro e w4 ⟨rfl, n4, -⟩
      have N4 := Lib.hid n4
      obtain ⟨-, r1, -⟩ := HQ.out w4 n4.bel
      obtain ⟨T1, T2, p1, ⟨i2, wv, kv, pv, p2⟩, -⟩ := n4.ex
      have c0 := p2.cell0
      have c1 := p2.cell1
      have hs1 := i2.small
      have hkl := i2.kl
      have CW := Lib.hid (fun W (hb : Below w4.heap.size w4 W) => mwords_any b1 W T1 s' (keepsPM.keep (T := fun _ => False) p1 (Fr.of_below hb) (fun _ _ x => x)))
      have CK := Lib.hid (fun W (hb : Below w4.heap.size w4 W) => mkept_any b1 W T1 s' (keepsPM.keep (T := fun _ => False) p1 (Fr.of_below hb) (fun _ _ x => x)))
      have CP := Lib.hid (fun W (hb : Below w4.heap.size w4 W) => mpend_any b1 a.who W T1 s' (keepsPM.keep (T := fun _ => False) p1 (Fr.of_below hb) (fun _ _ x => x)))
      have p2m : RM w4 b2 T2 s' := ⟨i2, wv, kv, pv, p2⟩
      have CR := Lib.hid (fun W (hb : Below w4.heap.size w4 W) => rpend_any b2 a.who W T2 s' (keepsRM.keep (T := fun _ => False) p2m (Fr.of_below hb) (fun _ _ x => x)))
      have RW := Lib.hid (fun W (hb : Below w4.heap.size w4 W) => (ownsRow_keep p2.wr fun x hx => hb.block x (ownsRow_lt p2.wr hx) : W.ownsRow 0 24 1 wv s'.W.length (u64s s'.W)))
      have RK := Lib.hid (fun W (hb : Below w4.heap.size w4 W) => (ownsRow_keep p2.kr fun x hx => hb.block x (ownsRow_lt p2.kr hx) : W.ownsRow 0 24 1 kv s'.K.length (u64s s'.K)))
      have hpe := NM.pend_le i2 a.who
      have H5 := Lib.hid (fun W (hb : Below w4.heap.size w4 W) => (⟨hb, (hb.cell (World.block_lt_of_cell? w4 _ c0)).trans c0, (hb.cell (World.block_lt_of_cell? w4 _ c1)).trans c1, (hb.cell (World.block_lt_of_cell? w4 _ r1)).trans r1⟩ : Below w4.heap.size w4 W ∧ W.cell? ⟨b2, 0, none⟩ = some wv ∧ W.cell? ⟨b2, 1, none⟩ = some kv ∧ W.cell? ⟨(ad.add (k * 6)).block, (ad.add (k * 6)).off + 1, none⟩ = some (.int .i64 a.who)))
      have hxx : (x != x) = false := by simp
      have hyy : (y != y) = false := by simp
      clear n4 p1 p2 i2 p2m c0 c1 r1
      go_wp2
      refine wp_region_noPanic ?_
      refine wp_region_held_drew (S := fun w' => Below w4.heap.size w4 w' ∧ w'.cell? ⟨b2, 0, none⟩ = some wv ∧ w'.cell? ⟨b2, 1, none⟩ = some kv ∧ w'.cell? ⟨(ad.add (k * 6)).block, (ad.add (k * 6)).off + 1, none⟩ = some (.int .i64 a.who)) (by kernel_rfl) ?_ (fun hHeld => ?_)
      · exact H5.out _ (Below.refl _ _).drew
      refine wpAnyH_take (i := 0) (oi := _) (v := ?_) rfl (by kernel_rfl) (by kernel_rfl) (by kernel_rfl) (fun _ _ _ h => h) (Or.inl ⟨by rfl, ?_⟩) (by assumption) ?_
      rotate_left
      · intro w hSw; (try dsimp only at hSw); go_simp; try with_reducible rfl
      try simp only [Act.put, List.getElem_toArray, List.getElem_cons_zero, List.setIfInBounds_toArray, List.set_cons_zero, List.set_cons_succ]
      refine wpAnyH_take (i := 1) (oi := _) (v := ?_) rfl (by kernel_rfl) (by kernel_rfl) (by kernel_rfl) (fun _ _ _ h => h) (Or.inl ⟨by rfl, ?_⟩) (by assumption) ?_
      rotate_left
      · intro w hSw; (try dsimp only at hSw); go_simp; try with_reducible rfl
      try simp only [Act.put, List.getElem_toArray, List.getElem_cons_zero, List.getElem_cons_succ, List.setIfInBounds_toArray, List.set_cons_zero, List.set_cons_succ]
      refine wpAnyH_take (i := 2) (oi := _) (v := ?_) rfl (by kernel_rfl) (by kernel_rfl) (by kernel_rfl) (fun _ _ _ h => h) (Or.inl ⟨by rfl, ?_⟩) (by assumption) ?_
      rotate_left
      · intro w hSw; (try dsimp only at hSw); go_simp; try with_reducible rfl
      try simp only [Act.put, List.getElem_toArray, List.getElem_cons_zero, List.getElem_cons_succ, List.setIfInBounds_toArray, List.set_cons_zero, List.set_cons_succ]
      refine wpAnyH_take (i := 3) (oi := _) (v := ?_) rfl (by kernel_rfl) (by kernel_rfl) (by kernel_rfl) (fun _ _ _ h => h) (Or.inl ⟨by rfl, ?_⟩) (by assumption) ?_
      rotate_left
      · intro w hSw; (try dsimp only at hSw); go_simp; try with_reducible rfl
      try simp only [Act.put, List.getElem_toArray, List.getElem_cons_zero, List.getElem_cons_succ, List.setIfInBounds_toArray, List.set_cons_zero, List.set_cons_succ]
      refine wpAnyH_take (i := 4) (oi := _) (v := ?_) rfl (by kernel_rfl) (by kernel_rfl) (by kernel_rfl) (fun _ _ _ h => h) (Or.inl ⟨by rfl, ?_⟩) (by assumption) ?_
      rotate_left
      · intro w hSw; (try dsimp only at hSw); go_simp; try with_reducible rfl
      try simp only [Act.put, List.getElem_toArray, List.getElem_cons_zero, List.getElem_cons_succ, List.setIfInBounds_toArray, List.set_cons_zero, List.set_cons_succ]
      refine wpAnyH_take (i := 5) (oi := _) (v := ?_) rfl (by kernel_rfl) (by kernel_rfl) (by kernel_rfl) (fun _ _ _ h => h) (Or.inl ⟨by rfl, ?_⟩) (by assumption) ?_
      rotate_left
      · intro w hSw; (try dsimp only at hSw); go_simp; try with_reducible rfl
      try simp only [Act.put, List.getElem_toArray, List.getElem_cons_zero, List.getElem_cons_succ, List.setIfInBounds_toArray, List.set_cons_zero, List.set_cons_succ]
      refine wpAnyH_take (i := 6) (oi := _) (v := ?_) rfl (by kernel_rfl) (by kernel_rfl) (by kernel_rfl) (fun _ _ _ h => h) (Or.inl ⟨by rfl, ?_⟩) (by assumption) ?_
      rotate_left
      · intro w hSw; (try dsimp only at hSw); go_simp; try with_reducible rfl
      try simp only [Act.put, List.getElem_toArray, List.getElem_cons_zero, List.getElem_cons_succ, List.setIfInBounds_toArray, List.set_cons_zero, List.set_cons_succ]
      refine wpAnyH_take (i := 7) (oi := _) (v := ?_) rfl (by kernel_rfl) (by kernel_rfl) (by kernel_rfl) (fun _ _ _ h => h) (Or.inl ⟨by rfl, ?_⟩) (by assumption) ?_
      rotate_left
      · intro w hSw; (try dsimp only at hSw); go_simp; try with_reducible rfl
      try simp only [Act.put, List.getElem_toArray, List.getElem_cons_zero, List.getElem_cons_succ, List.setIfInBounds_toArray, List.set_cons_zero, List.set_cons_succ]
      refine wpAnyH_take (i := 8) (oi := _) (v := ?_) rfl (by kernel_rfl) (by kernel_rfl) (by kernel_rfl) (fun _ _ _ h => h) (Or.inl ⟨by rfl, ?_⟩) (by assumption) ?_
      rotate_left
      · intro w hSw; (try dsimp only at hSw); go_simp; try with_reducible rfl
      try simp only [Act.put, List.getElem_toArray, List.getElem_cons_zero, List.getElem_cons_succ, List.setIfInBounds_toArray, List.set_cons_zero, List.set_cons_succ]
      refine wpAnyH_take (i := 9) (oi := _) (v := ?_) rfl (by kernel_rfl) (by kernel_rfl) (by kernel_rfl) (fun _ _ _ h => h) (Or.inl ⟨by rfl, ?_⟩) (by assumption) ?_
      rotate_left
      · intro w hSw; (try dsimp only at hSw); go_simp; try with_reducible rfl
      try simp only [Act.put, List.getElem_toArray, List.getElem_cons_zero, List.getElem_cons_succ, List.setIfInBounds_toArray, List.set_cons_zero, List.set_cons_succ]
      refine wpAnyH_take (i := 11) (oi := _) (v := ?_) rfl (by kernel_rfl) (by kernel_rfl) (by kernel_rfl) (fun _ _ _ h => h) (Or.inl ⟨by rfl, ?_⟩) (by assumption) ?_
      rotate_left
      · intro w hSw; (try dsimp only at hSw); go_simp; try with_reducible rfl
      try simp only [Act.put, List.getElem_toArray, List.getElem_cons_zero, List.getElem_cons_succ, List.setIfInBounds_toArray, List.set_cons_zero, List.set_cons_succ]
      refine wpAnyH_take (i := 12) (oi := _) (v := ?_) rfl (by kernel_rfl) (by kernel_rfl) (by kernel_rfl) (fun _ _ _ h => h) (Or.inl ⟨by rfl, ?_⟩) (by assumption) ?_
      rotate_left
      · intro w hSw; (try dsimp only at hSw); go_simp; try with_reducible rfl
      try simp only [Act.put, List.getElem_toArray, List.getElem_cons_zero, List.getElem_cons_succ, List.setIfInBounds_toArray, List.set_cons_zero, List.set_cons_succ]
      refine wpAnyH_take (i := 13) (oi := _) (v := ?_) rfl (by kernel_rfl) (by kernel_rfl) (by kernel_rfl) (fun _ _ _ h => h) (Or.inl ⟨by rfl, ?_⟩) (by assumption) ?_
      rotate_left
      · intro w hSw; (try dsimp only at hSw); go_simp; try with_reducible rfl
      try simp only [Act.put, List.getElem_toArray, List.getElem_cons_zero, List.getElem_cons_succ, List.setIfInBounds_toArray, List.set_cons_zero, List.set_cons_succ]
      refine wpAnyH_take (i := 14) (oi := _) (v := ?_) rfl (by kernel_rfl) (by kernel_rfl) (by kernel_rfl) (fun _ _ _ h => h) (Or.inl ⟨by rfl, ?_⟩) (by assumption) ?_
      rotate_left
      · intro w hSw; (try dsimp only at hSw); go_simp; try with_reducible rfl
      try simp only [Act.put, List.getElem_toArray, List.getElem_cons_zero, List.getElem_cons_succ, List.setIfInBounds_toArray, List.set_cons_zero, List.set_cons_succ]
      refine wpAnyH_ready (rs := [10]) (by kernel_rfl) (by simp) ?_
      refine AllReadyH.cons (o := _) rfl (fun K hK => ?_) AllReadyH.nil
      go_simp
      refine (CW.out _ hHeld.1).mono ?_
      rintro e wa ⟨va, rfl, oa, -, ba⟩
      have Ba := hHeld.1.trans (ba.mono hHeld.1.size)
      dsimp only
      refine hK.out _ _ ?_ (fun hHeld => ?_)
      · exact H5.out _ Ba
      clear hK K
      try simp only [Act.put, List.getElem_toArray, List.getElem_cons_zero, List.getElem_cons_succ, List.setIfInBounds_toArray, List.set_cons_zero, List.set_cons_succ]
      refine wpAnyH_ready (rs := [15]) (by kernel_rfl) (by simp) ?_
      refine AllReadyH.cons (o := _) rfl (fun K hK => ?_) AllReadyH.nil
      go_simp
      refine (wwords_same s'.W va wv _ (Joins.ownsRow_le oa (Nat.zero_le _)) (RW.out _ hHeld.1) (by omega)).mono ?_
      rintro e wb ⟨rfl, bb⟩
      have Bb := hHeld.1.trans (bb.mono hHeld.1.size)
      clear oa ba Ba
      dsimp only
      refine hK.out _ _ ?_ (fun hHeld => ?_)
      · exact H5.out _ Bb
      clear hK K
      try simp only [Act.put, List.getElem_toArray, List.getElem_cons_zero, List.getElem_cons_succ, List.setIfInBounds_toArray, List.set_cons_zero, List.set_cons_succ]
      refine wpAnyH_take (i := 16) (oi := _) (v := ?_) rfl (by kernel_rfl) (by kernel_rfl) (by kernel_rfl) (fun _ _ _ h => h) (Or.inl ⟨by rfl, ?_⟩) (by assumption) ?_
      rotate_left
      · intro w hSw; (try dsimp only at hSw); go_simp; try with_reducible rfl
      try simp only [Act.put, List.getElem_toArray, List.getElem_cons_zero, List.getElem_cons_succ, List.setIfInBounds_toArray, List.set_cons_zero, List.set_cons_succ]
      refine wpAnyH_take (i := 17) (oi := _) (v := ?_) rfl (by kernel_rfl) (by kernel_rfl) (by kernel_rfl) (fun _ _ _ h => h) (Or.inl ⟨by rfl, ?_⟩) (by assumption) ?_
      rotate_left
      · intro w hSw; (try dsimp only at hSw); go_simp; try with_reducible rfl
      try simp only [Act.put, List.getElem_toArray, List.getElem_cons_zero, List.getElem_cons_succ, List.setIfInBounds_toArray, List.set_cons_zero, List.set_cons_succ]
      refine wpAnyH_take (i := 18) (oi := _) (v := ?_) rfl (by kernel_rfl) (by kernel_rfl) (by kernel_rfl) (fun _ _ _ h => h) (Or.inl ⟨by rfl, ?_⟩) (by assumption) ?_
      rotate_left
      · intro w hSw; (try dsimp only at hSw); go_simp; try with_reducible rfl
      try simp only [Act.put, List.getElem_toArray, List.getElem_cons_zero, List.getElem_cons_succ, List.setIfInBounds_toArray, List.set_cons_zero, List.set_cons_succ]
      refine wpAnyH_take (i := 19) (oi := _) (v := ?_) rfl (by kernel_rfl) (by kernel_rfl) (by kernel_rfl) (fun _ _ _ h => h) (Or.inl ⟨by rfl, ?_⟩) (by assumption) ?_
      rotate_left
      · intro w hSw; (try dsimp only at hSw); go_simp; try with_reducible rfl
      try simp only [Act.put, List.getElem_toArray, List.getElem_cons_zero, List.getElem_cons_succ, List.setIfInBounds_toArray, List.set_cons_zero, List.set_cons_succ]
      refine wpAnyH_take (i := 21) (oi := _) (v := ?_) rfl (by kernel_rfl) (by kernel_rfl) (by kernel_rfl) (fun _ _ _ h => h) (Or.inl ⟨by rfl, ?_⟩) (by assumption) ?_
      rotate_left
      · intro w hSw; (try dsimp only at hSw); go_simp; try with_reducible rfl
      try simp only [Act.put, List.getElem_toArray, List.getElem_cons_zero, List.getElem_cons_succ, List.setIfInBounds_toArray, List.set_cons_zero, List.set_cons_succ]
      refine wpAnyH_take (i := 22) (oi := _) (v := ?_) rfl (by kernel_rfl) (by kernel_rfl) (by kernel_rfl) (fun _ _ _ h => h) (Or.inl ⟨by rfl, ?_⟩) (by assumption) ?_
      rotate_left
      · intro w hSw; (try dsimp only at hSw); go_simp; try with_reducible rfl
      try simp only [Act.put, List.getElem_toArray, List.getElem_cons_zero, List.getElem_cons_succ, List.setIfInBounds_toArray, List.set_cons_zero, List.set_cons_succ]
      refine wpAnyH_take (i := 23) (oi := _) (v := ?_) rfl (by kernel_rfl) (by kernel_rfl) (by kernel_rfl) (fun _ _ _ h => h) (Or.inl ⟨by rfl, ?_⟩) (by assumption) ?_
      rotate_left
      · intro w hSw; (try dsimp only at hSw); go_simp; try with_reducible rfl
      try simp only [Act.put, List.getElem_toArray, List.getElem_cons_zero, List.getElem_cons_succ, List.setIfInBounds_toArray, List.set_cons_zero, List.set_cons_succ]
      refine wpAnyH_take (i := 24) (oi := _) (v := ?_) rfl (by kernel_rfl) (by kernel_rfl) (by kernel_rfl) (fun _ _ _ h => h) (Or.inl ⟨by rfl, ?_⟩) (by assumption) ?_
      rotate_left
      · intro w hSw; (try dsimp only at hSw); go_simp; try with_reducible rfl
      try simp only [Act.put, List.getElem_toArray, List.getElem_cons_zero, List.getElem_cons_succ, List.setIfInBounds_toArray, List.set_cons_zero, List.set_cons_succ]
      refine wpAnyH_ready (rs := [20]) (by kernel_rfl) (by simp) ?_
      refine AllReadyH.cons (o := _) rfl (fun K hK => ?_) AllReadyH.nil
      go_simp
      refine (CK.out _ hHeld.1).mono ?_
      rintro e wc ⟨vc, rfl, oc, -, bc⟩
      have Bc := hHeld.1.trans (bc.mono hHeld.1.size)
      dsimp only
      refine hK.out _ _ ?_ (fun hHeld => ?_)
      · exact H5.out _ Bc
      clear hK K
      try simp only [Act.put, List.getElem_toArray, List.getElem_cons_zero, List.getElem_cons_succ, List.setIfInBounds_toArray, List.set_cons_zero, List.set_cons_succ]
      refine wpAnyH_ready (rs := [25]) (by kernel_rfl) (by simp) ?_
      refine AllReadyH.cons (o := _) rfl (fun K hK => ?_) AllReadyH.nil
      go_simp
      refine (wwords_same s'.K vc kv _ (by rw [hkl]; exact Joins.ownsRow_le oc (Nat.zero_le _)) (RK.out _ hHeld.1) (by omega)).mono ?_
      rintro e wd ⟨rfl, bd⟩
      have Bd := hHeld.1.trans (bd.mono hHeld.1.size)
      clear oc bc Bc
      dsimp only
      refine hK.out _ _ ?_ (fun hHeld => ?_)
      · exact H5.out _ Bd
      clear hK K
      try simp only [Act.put, List.getElem_toArray, List.getElem_cons_zero, List.getElem_cons_succ, List.setIfInBounds_toArray, List.set_cons_zero, List.set_cons_succ]
      refine wpAnyH_take (i := 26) (oi := _) (v := ?_) rfl (by kernel_rfl) (by kernel_rfl) (by kernel_rfl) (fun _ _ _ h => h) (Or.inl ⟨by rfl, ?_⟩) (by assumption) ?_
      rotate_left
      · intro w hSw; (try dsimp only at hSw); go_simp; try with_reducible rfl
      try simp only [Act.put, List.getElem_toArray, List.getElem_cons_zero, List.getElem_cons_succ, List.setIfInBounds_toArray, List.set_cons_zero, List.set_cons_succ]
      refine wpAnyH_take (i := 27) (oi := _) (v := ?_) rfl (by kernel_rfl) (by kernel_rfl) (by kernel_rfl) (fun _ _ _ h => h) (Or.inl ⟨by rfl, ?_⟩) (by assumption) ?_
      rotate_left
      · intro w hSw; (try dsimp only at hSw); go_simp; try with_reducible rfl
      try simp only [Act.put, List.getElem_toArray, List.getElem_cons_zero, List.getElem_cons_succ, List.setIfInBounds_toArray, List.set_cons_zero, List.set_cons_succ]
      refine wpAnyH_take (i := 28) (oi := _) (v := ?_) rfl (by kernel_rfl) (by kernel_rfl) (by kernel_rfl) (fun _ _ _ h => h) (Or.inl ⟨by rfl, ?_⟩) (by assumption) ?_
      rotate_left
      · intro w hSw; (try dsimp only at hSw); go_simp; try with_reducible rfl
      try simp only [Act.put, List.getElem_toArray, List.getElem_cons_zero, List.getElem_cons_succ, List.setIfInBounds_toArray, List.set_cons_zero, List.set_cons_succ]
      refine wpAnyH_take (i := 29) (oi := _) (v := ?_) rfl (by kernel_rfl) (by kernel_rfl) (by kernel_rfl) (fun _ _ _ h => h) (Or.inl ⟨by rfl, ?_⟩) (by assumption) ?_
      rotate_left
      · intro w hSw; (try dsimp only at hSw); go_simp; try with_reducible rfl
      try simp only [Act.put, List.getElem_toArray, List.getElem_cons_zero, List.getElem_cons_succ, List.setIfInBounds_toArray, List.set_cons_zero, List.set_cons_succ]
      refine wpAnyH_take (i := 30) (oi := _) (v := ?_) rfl (by kernel_rfl) (by kernel_rfl) (by kernel_rfl) (fun _ _ _ h => h) (Or.inl ⟨by rfl, ?_⟩) (by assumption) ?_
      rotate_left
      · intro w hSw; (try dsimp only at hSw); go_simp; try with_reducible rfl
      try simp only [Act.put, List.getElem_toArray, List.getElem_cons_zero, List.getElem_cons_succ, List.setIfInBounds_toArray, List.set_cons_zero, List.set_cons_succ]
      refine wpAnyH_take (i := 31) (oi := _) (v := ?_) rfl (by kernel_rfl) (by kernel_rfl) (by kernel_rfl) (fun _ _ _ h => h) (Or.inl ⟨by rfl, ?_⟩) (by assumption) ?_
      rotate_left
      · intro w hSw; (try dsimp only at hSw); go_simp; try with_reducible rfl
      try simp only [Act.put, List.getElem_toArray, List.getElem_cons_zero, List.getElem_cons_succ, List.setIfInBounds_toArray, List.set_cons_zero, List.set_cons_succ]
      refine wpAnyH_take (i := 32) (oi := _) (v := ?_) rfl (by kernel_rfl) (by kernel_rfl) (by kernel_rfl) (fun _ _ _ h => h) (Or.inl ⟨by rfl, ?_⟩) (by assumption) ?_
      rotate_left
      · intro w hSw; (try dsimp only at hSw); go_simp; try with_reducible rfl
      try simp only [Act.put, List.getElem_toArray, List.getElem_cons_zero, List.getElem_cons_succ, List.setIfInBounds_toArray, List.set_cons_zero, List.set_cons_succ]
      refine wpAnyH_take (i := 33) (oi := _) (v := ?_) rfl (by kernel_rfl) (by kernel_rfl) (by kernel_rfl) (fun _ _ _ h => h) (Or.inl ⟨by rfl, ?_⟩) (by assumption) ?_
      rotate_left
      · intro w hSw; (try dsimp only at hSw); go_simp; try with_reducible rfl
      try simp only [Act.put, List.getElem_toArray, List.getElem_cons_zero, List.getElem_cons_succ, List.setIfInBounds_toArray, List.set_cons_zero, List.set_cons_succ]
      refine wpAnyH_take (i := 34) (oi := _) (v := ?_) rfl (by kernel_rfl) (by kernel_rfl) (by kernel_rfl) (fun _ _ _ h => h) (Or.inl ⟨by rfl, ?_⟩) (by assumption) ?_
      rotate_left
      · intro w hSw; (try dsimp only at hSw); go_simp; try with_reducible rfl
      try simp only [Act.put, List.getElem_toArray, List.getElem_cons_zero, List.getElem_cons_succ, List.setIfInBounds_toArray, List.set_cons_zero, List.set_cons_succ]
      refine wpAnyH_take (i := 36) (oi := _) (v := ?_) rfl (by kernel_rfl) (by kernel_rfl) (by kernel_rfl) (fun _ _ _ h => h) (Or.inl ⟨by rfl, ?_⟩) (by assumption) ?_
      rotate_left
      · intro w hSw; (try dsimp only at hSw); go_simp; try with_reducible rfl
      try simp only [Act.put, List.getElem_toArray, List.getElem_cons_zero, List.getElem_cons_succ, List.setIfInBounds_toArray, List.set_cons_zero, List.set_cons_succ]
      refine wpAnyH_take (i := 37) (oi := _) (v := ?_) rfl (by kernel_rfl) (by kernel_rfl) (by kernel_rfl) (fun _ _ _ h => h) (Or.inl ⟨by rfl, ?_⟩) (by assumption) ?_
      rotate_left
      · intro w hSw; (try dsimp only at hSw); go_simp; try with_reducible rfl
      try simp only [Act.put, List.getElem_toArray, List.getElem_cons_zero, List.getElem_cons_succ, List.setIfInBounds_toArray, List.set_cons_zero, List.set_cons_succ]
      refine wpAnyH_take (i := 38) (oi := _) (v := ?_) rfl (by kernel_rfl) (by kernel_rfl) (by kernel_rfl) (fun _ _ _ h => h) (Or.inl ⟨by rfl, ?_⟩) (by assumption) ?_
      rotate_left
      · intro w hSw; (try dsimp only at hSw); go_simp; try with_reducible rfl
      try simp only [Act.put, List.getElem_toArray, List.getElem_cons_zero, List.getElem_cons_succ, List.setIfInBounds_toArray, List.set_cons_zero, List.set_cons_succ]
      refine wpAnyH_take (i := 39) (oi := _) (v := ?_) rfl (by kernel_rfl) (by kernel_rfl) (by kernel_rfl) (fun _ _ _ h => h) (Or.inl ⟨by rfl, ?_⟩) (by assumption) ?_
      rotate_left
      · intro w hSw; (try dsimp only at hSw); go_simp; try with_reducible rfl
      try simp only [Act.put, List.getElem_toArray, List.getElem_cons_zero, List.getElem_cons_succ, List.setIfInBounds_toArray, List.set_cons_zero, List.set_cons_succ]
      refine wpAnyH_take (i := 40) (oi := _) (v := ?_) rfl (by kernel_rfl) (by kernel_rfl) (by kernel_rfl) (fun _ _ _ h => h) (Or.inl ⟨by rfl, ?_⟩) (by assumption) ?_
      rotate_left
      · intro w hSw; (try dsimp only at hSw); go_simp; try with_reducible rfl
      try simp only [Act.put, List.getElem_toArray, List.getElem_cons_zero, List.getElem_cons_succ, List.setIfInBounds_toArray, List.set_cons_zero, List.set_cons_succ]
      refine wpAnyH_take (i := 41) (oi := _) (v := ?_) rfl (by kernel_rfl) (by kernel_rfl) (by kernel_rfl) (fun _ _ _ h => h) (Or.inl ⟨by rfl, ?_⟩) (by assumption) ?_
      rotate_left
      · intro w hSw; (try dsimp only at hSw); go_simp; try with_reducible rfl
      try simp only [Act.put, List.getElem_toArray, List.getElem_cons_zero, List.getElem_cons_succ, List.setIfInBounds_toArray, List.set_cons_zero, List.set_cons_succ]
      refine wpAnyH_ready (rs := [35]) (by kernel_rfl) (by simp) ?_
      refine AllReadyH.cons (o := _) rfl (fun K hK => ?_) AllReadyH.nil
      go_simp
      refine (CP.out _ hHeld.1).mono ?_
      rintro e we ⟨ve, rfl, oe, be⟩
      have Be := hHeld.1.trans (be.mono hHeld.1.size)
      dsimp only
      refine hK.out _ _ ?_ (fun hHeld => ?_)
      · exact H5.out _ Be
      clear hK K
      try simp only [Act.put, List.getElem_toArray, List.getElem_cons_zero, List.getElem_cons_succ, List.setIfInBounds_toArray, List.set_cons_zero, List.set_cons_succ]
      refine wpAnyH_ready (rs := [42]) (by kernel_rfl) (by simp) ?_
      refine AllReadyH.cons (o := _) rfl (fun K hK => ?_) AllReadyH.nil
      go_simp
      refine (CR.out _ hHeld.1).mono ?_
      rintro e wf ⟨vf, rfl, of, bf⟩
      have Bf := hHeld.1.trans (bf.mono hHeld.1.size)
      have og := ownsRow_keep oe (fun x hx => bf.block x (oe.lt x hx).2)
      dsimp only
      refine hK.out _ _ ?_ (fun hHeld => ?_)
      · exact H5.out _ Bf
      clear hK K
      try simp only [Act.put, List.getElem_toArray, List.getElem_cons_zero, List.getElem_cons_succ, List.setIfInBounds_toArray, List.set_cons_zero, List.set_cons_succ]
      refine wpAnyH_ready (rs := [43]) (by kernel_rfl) (by simp) ?_
      refine AllReadyH.cons (o := _) rfl (fun K hK => ?_) AllReadyH.nil
      go_simp
      refine (pend_same _ ve vf _ (Joins.ownsRow_le og (Nat.zero_le _)) (Joins.ownsRow_le of (Nat.zero_le _)) (by omega)).mono ?_
      rintro e wg ⟨rfl, bg⟩
      have Bg := hHeld.1.trans (bg.mono hHeld.1.size)
      clear oe of og be bf Be Bf
      dsimp only
      refine hK.out _ _ ?_ (fun hHeld => ?_)
      · exact H5.out _ Bg
      clear hK K
      try simp only [Act.put, List.getElem_toArray, List.getElem_cons_zero, List.getElem_cons_succ, List.setIfInBounds_toArray, List.set_cons_zero, List.set_cons_succ]
      refine wpAnyH_take (i := 44) (oi := _) (v := ?_) rfl (by kernel_rfl) (by kernel_rfl) (by kernel_rfl) (fun _ _ _ h => h) (Or.inl ⟨by rfl, ?_⟩) (by assumption) ?_
      rotate_left
      · intro w hSw; (try dsimp only at hSw); go_simp; try with_reducible rfl
      try simp only [Act.put, List.getElem_toArray, List.getElem_cons_zero, List.getElem_cons_succ, List.setIfInBounds_toArray, List.set_cons_zero, List.set_cons_succ]
      refine wpAnyH_take (i := 45) (oi := _) (v := ?_) rfl (by kernel_rfl) (by kernel_rfl) (by kernel_rfl) (fun _ _ _ h => h) (Or.inl ⟨by rfl, ?_⟩) (by assumption) ?_
      rotate_left
      · intro w hSw; (try dsimp only at hSw); go_simp; try with_reducible rfl
      try simp only [Act.put, List.getElem_toArray, List.getElem_cons_zero, List.getElem_cons_succ, List.setIfInBounds_toArray, List.set_cons_zero, List.set_cons_succ]
      refine wpAnyH_done (by kernel_rfl) ?_ _
      refine NoPanic.normal ?_
      have HB := Lib.hid hHeld.1
      clear hHeld
      go_wp2
      go_roundw
      case rel => exact ⟨k + 1, s', by omega, by go_num, N4.out.below keepsPM keepsRM HB.out⟩
      case measure => simp [intOf]; omega
    · have hkl : ¬ (k : Int) < acts.length := by omega
      have HS := Lib.hid hst
      clear hst
      go_wp2_with fail
      refine (nlive_any _).mono ?_
      rintro e w4 ⟨rfl, b4⟩
      go_wp2
      go_ret
      exact ⟨rfl, HS.out.bel.trans (b4.mono HS.out.bel.size)⟩

theorem nacts_any (wv lv : Value) (xs : List Int) (acts : List NM.A) (w : World) (hW : Rd w wv 1 xs.length (u64s xs)) (hu : ∀ v ∈ xs, NM.U64 v) (hL : Rd w lv 6 acts.length (acts.flatMap actC)) (hv : ∀ a ∈ acts, NM.U64 a.old ∧ NM.U64 a.val) :
    Calls Try.prog 4 #[wv, lv] w fun e w' => e = .returned (.bool true) ∧ Below w.heap.size w w' := by
  cases h : (decide (xs.length ≤ 64) && decide (acts.length ≤ 200))
  · obtain ⟨a1, c1, rfl⟩ := hW.len
    obtain ⟨a2, c2, rfl⟩ := hL.len
    exact nacts_many a1 a2 _ _ c1 c2 w h
  · by_cases hg : xs.length ≠ 0 ∧ xs.length % 8 = 0
    · have h2 : xs.length ≤ 64 ∧ acts.length ≤ 200 := by simpa using h
      exact nacts_main wv lv xs acts w hW hu hL hv h2.1 h2.2 hg.1 hg.2
    · obtain ⟨a1, c1, rfl⟩ := hW.len
      obtain ⟨a2, c2, rfl⟩ := hL.len
      exact nacts_none a1 a2 _ _ c1 c2 w h (by omega)
end Go.Proofs.Ytdfjgaeiodjmnaa
