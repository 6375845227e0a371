/- NvmFences: the law's walk, main. -/
import Derived.Test.YtdfjgaeiodjmnaaNvFen
set_option linter.unusedSimpArgs false
set_option linter.unusedVariables false
namespace Go.Proofs.Ytdfjgaeiodjmnaa
open Go.RowKit

theorem mstore_to {b : Nat} {i v : Int} {w : World} {S : Nat → Prop} {s s' : NM} {r : Bool} (h : PM w b S s) (hu : NM.U64 v) (e : s.store i v = (r, s')) :
    Calls Try.prog 10 #[.pointer (some ⟨b, 0, none⟩), .int .i64 i, .int .u64 v] w fun e w' => e = .returned (.bool r) ∧ (PM w' b (upd S w w') s' ∧ Fr S w w') := by
  have := mstore_any b i v w S s h hu
  rw [e] at this
  exact this
theorem mflush_to {b : Nat} {who i : Int} {w : World} {S : Nat → Prop} {s s' : NM} {r : Bool} (h : PM w b S s) (e : s.flush who i = (r, s')) :
    Calls Try.prog 11 #[.pointer (some ⟨b, 0, none⟩), .int .i64 who, .int .i64 i] w fun e w' => e = .returned (.bool r) ∧ (PM w' b (upd S w w') s' ∧ Fr S w w') := by
  have := mflush_any b who i w S s h
  rw [e] at this
  exact this
theorem mload_to {b : Nat} {i : Int} {w : World} {S : Nat → Prop} {s : NM} {v : Int} {r : Bool} (h : PM w b S s) (e : s.load i = (v, r)) :
    Calls Try.prog 13 #[.pointer (some ⟨b, 0, none⟩), .int .i64 i] w fun e w' => e = .returned (.tuple #[.int .u64 v, .bool r]) ∧ w = w' := by
  have := mload_any b i w S s h
  rw [e] at this
  exact this

structure FnRel (w w0 : World) (b : Nat) (S : Nat → Prop) (N n : Nat) (p : Int × Int) (xc : Array Value) (vi : Value) (wr : World) (k : Nat) (s : NM) : Prop where
  le : k ≤ n
  eq : vi = .int .i64 k
  st : NSt PM w0 b S [] s wr
  len : s.W.length = N
  bel : Below w.heap.size w wr
  box : ∀ o : Nat, wr.cell? ⟨w.heap.size, o, none⟩ = xc[o]?
  mem : p ∈ s.P
def FnRelE (w w0 : World) (b : Nat) (S : Nat → Prop) (N n : Nat) (p : Int × Int) (xc : Array Value) (vi : Value) (wr : World) : Prop := ∃ k s, FnRel w w0 b S N n p xc vi wr k s

set_option maxHeartbeats 1000000 in
set_option maxRecDepth 100000 in
theorem nfences_main (wv lv : Value) (xs : List Int) (acts : List NM.A) (xd : Int) (u at' : Nat) (xm xo xv : Int) (w : World) (hW : Rd w wv 1 xs.length (u64s xs)) (hu : ∀ v ∈ xs, NM.U64 v) (hL : Rd w lv 6 acts.length (acts.flatMap actC)) (hv : ∀ a ∈ acts, NM.U64 a.old ∧ NM.U64 a.val) (hxv : NM.U64 xv)
    (h1 : xs.length ≤ 64) (h2 : acts.length ≤ 200) (h0 : xs.length ≠ 0) (h8 : xs.length % 8 = 0) (hat : at' < xs.length) (hu16 : u ≤ 16) :
    Calls Try.prog 3 #[wv, lv, .agg #[.int .i64 xd, .int .i64 u, .int .i64 at', .int .i64 xm, .int .u64 xo, .int .u64 xv]] w fun e w' => e = .returned (.bool true) ∧ Below w.heap.size w w' := by
  obtain ⟨hwl, ⟨-, hwn⟩ | ⟨ad1, c1, rfl, hwc⟩⟩ := hW
  · exact absurd hwn h0
  obtain ⟨a2, c2, rfl⟩ := hL.len
  have HF := nfew_any (some ad1) a2 xs.length acts.length c1 c2
  rw [show (decide (xs.length ≤ 64) && decide (acts.length ≤ 200)) = true by simp; omega] at HF
  have HH := Lib.hid HF
  have hcells : ∀ W, Below w.heap.size w W → ∀ j, j < xs.length → W.cell? (ad1.add j) = some (.int .u64 (xs.getD j 0)) := fun W hb j hj => by
    have := hwc j _ (u64s_get hj)
    exact (hb.cell (World.block_lt_of_cell? w _ this)).trans this
  have H1 := Lib.hid (fun W hb => mnew_any ad1 xs.length c1 xs W rfl h0 h8 (by omega) hu (hcells W hb))
  have HL := Lib.hid hL
  have HV := Lib.hid hv
  have e0 : ((xs.length : Int) == 0) = false := by rw [beq_eq_false_iff_ne]; omega
  have e1 : ((xs.length : Int) % 8 != 0) = false := by rw [bne_eq_false_iff_eq]; omega
  have hI0 := NM.new_inv (xs := xs) h0 h8 (by omega) hu
  have st0 : ((⟨xs, xs, []⟩ : NM).store at' xv) = (true, ⟨xs.set at' xv, xs, []⟩) := by
    unfold NM.store
    rw [if_pos (NM.th_iff.2 ⟨by omega, by show (at' : Int) < (xs.length : Nat); omega⟩)]
    simp
  have fl0 : ((⟨xs.set at' xv, xs, []⟩ : NM).flush u at') = (true, ⟨xs.set at' xv, xs, [((u : Int), ((at' / 8 : Nat) : Int))]⟩) := by
    unfold NM.flush
    rw [if_pos ⟨NM.th_iff.2 ⟨by omega, by show (at' : Int) < ((xs.set at' xv).length : Nat); rw [List.length_set]; omega⟩, by simp [NM.som]; omega⟩]
    simp [NM.addP]
  have S0 := Lib.hid st0
  have F0 := Lib.hid fl0
  have c0 := loc_alloc w #[.int .i64 xd, .int .i64 u, .int .i64 at', .int .i64 xm, .int .u64 xo, .int .u64 xv] 26
  have HP0 := Lib.hid (show ((u : Int), ((at' / 8 : Nat) : Int)) ∈ (⟨xs.set at' xv, xs, [((u : Int), ((at' / 8 : Nat) : Int))]⟩ : NM).P by simp)
  have hatl : (at' : Int) < xs.length := by omega
  have hul : ¬ (16 : Int) < u := by omega
  clear HF hcells hwc hwl h0 h8 hu hL hv st0 fl0 hI0
  go_enter Try.func3, Try.ntmps3
  go_wp2_with fail
  refine (HH.out _).mono ?_
  rintro e w1 ⟨rfl, rfl⟩
  go_wp2_with fail
  refine (H1.out _ ((Below.refl _ _).alloc (Nat.le_refl _) _)).mono ?_
  rintro e w0 ⟨b, rfl, hb1, ⟨S, p1, g1⟩, B1⟩
  rw [World.size_alloc] at hb1 g1
  have hbx : ∀ W, Fr S w0 W → ∀ o : Nat, W.cell? ⟨w.heap.size, o, none⟩ = (#[.int .i64 xd, .int .i64 u, .int .i64 at', .int .i64 xm, .int .u64 xo, .int .u64 xv] : Array Value)[o]? := fun W F o => by
    have hz := B1.size
    rw [World.size_alloc] at hz
    exact (F.cell (k := w.heap.size) (by omega) (fun x => by have := g1 _ x; omega) o).trans ((World.cell?_of_block (a := ⟨w.heap.size, o, none⟩) (B1.block w.heap.size (by simp))).trans (c0 o))
  have HS0 := Lib.hid (NSt.start keepsPM p1)
  have HB1 := Lib.hid (show Below w.heap.size w w0 from ((Below.refl w.heap.size w).alloc (Nat.le_refl _) _).trans (B1.mono (by simp)))
  have HG := Lib.hid (show ∀ i, S i → w.heap.size ≤ i from fun i x => by have := g1 i x; omega)
  have HBx := Lib.hid hbx
  have c1 := hbx w0 (Fr.refl _ _)
  clear p1 g1 B1 H1 e0 e1 hbx c0
  go_wp2_with fail
  refine (calls_nst HS0.out (fun S1 h => mstore_to h hxv S0.out)).mono ?_
  rintro e w1 ⟨rfl, n1, -⟩
  have N1 := Lib.hid n1
  have c2 := HBx.out _ n1.fr
  clear n1 c1
  go_wp2_with fail
  refine (calls_nst N1.out (fun S1 h => mflush_to h F0.out)).mono ?_
  rintro e w2 ⟨rfl, n2, -⟩
  have N2' := Lib.hid n2
  have c3 := HBx.out _ n2.fr
  clear n2 c2
  go_wp2_with fail
  go_loopw [8] (fun vi wr => FnRelE w w0 b S xs.length acts.length ((u : Int), ((at' / 8 : Nat) : Int)) #[.int .i64 xd, .int .i64 u, .int .i64 at', .int .i64 xm, .int .u64 xo, .int .u64 xv] vi wr) (fun vi _ => acts.length - (intOf vi).toNat)
  case atStart => exact ⟨0, _, Nat.zero_le _, rfl, N2'.out, by simp, HB1.out.trans (N2'.out.fr.below HB1.out.size HG.out), c3, HP0.out⟩
  case round =>
    obtain ⟨k, s, hk, rfl, hst, hlen, hbr, hbox, hmem⟩ := hrel
    clear c3
    by_cases hlt : k < acts.length
    · have hkl : (k : Int) < acts.length := by omega
      obtain ⟨a, ha⟩ : ∃ a, acts[k]? = some a := ⟨_, List.getElem?_eq_getElem hlt⟩
      obtain ⟨ad, c, hvs, -⟩ := act_cells (HL.out.keepB hbr (Nat.le_refl _)) ha
      simp only [Value.slice.injEq, true_and] at hvs
      obtain ⟨rfl, rfl⟩ := hvs
      have hq := fun W (hb : Below w.heap.size w W) => act_at (HL.out.keepB hb (Nat.le_refl _)) ha
      have hav := (HV.out a (List.mem_of_getElem? ha)).2
      obtain ⟨d, who, at_, mask, old, val⟩ := a
      dsimp only at hq hav
      have HQ := Lib.hid hq
      obtain ⟨a, hA⟩ : ∃ a, (⟨d, who, at_, mask, old, val⟩ : NM.A) = a := ⟨_, rfl⟩
      have hd : a.d = d := by rw [← hA]
      have hw : a.who = who := by rw [← hA]
      obtain ⟨x, hx⟩ : ∃ x, (s.act a).1.1 = x := ⟨_, rfl⟩
      obtain ⟨y, hy⟩ : ∃ y, (s.act a).1.2 = y := ⟨_, rfl⟩
      obtain ⟨s', hs'⟩ : ∃ s', (s.act a).2 = s' := ⟨_, rfl⟩
      have hinv : s.Inv := by obtain ⟨S9, h9⟩ := hst.get; exact h9.inv
      have hw9 : s'.W.length = xs.length := by rw [← hs', NM.act_W_len hinv a]; exact hlen
      have hkp : d ≠ 7 → (d ≠ 5 ∨ who ≠ u) → ((u : Int), ((at' / 8 : Nat) : Int)) ∈ s'.P := fun p q => by rw [← hs']; exact NM.act_keeps_pend hmem (by rw [hd]; exact p) (by rw [hd, hw]; exact q)
      have h3 := fun W S1 (h1 : PM W b S1 s) => mdo_any b ⟨d, who, at_, mask, old, val⟩ W S1 s h1 hav
      unfold actR actV at h3
      dsimp only at h3
      rw [hA, hx, hy, hs'] at h3
      have H3 := Lib.hid h3
      have HS := Lib.hid hst
      have HBr := Lib.hid hbr
      have HW9 := Lib.hid hw9
      have HKp := Lib.hid hkp
      have HMem := Lib.hid hmem
      have HLen := Lib.hid hlen
      obtain ⟨q0, q1, q2, q3, q4, q5⟩ := hq _ hbr
      have x1 := (hbox 1).trans rfl
      have HBo := Lib.hid hbox
      clear h3 hst hx hy hs' hav ha hbr hA hd hw hinv hw9 hkp hmem hlen hq hbox
      by_cases h7 : d = 7
      · subst h7
        go_wp2
        go_region
        go_wp2
        go_roundw
        case rel => exact ⟨k + 1, s, by omega, by go_num, HS.out.drew keepsPM, HLen.out, HBr.out.drew, HBo.out, HMem.out⟩
        case measure => simp [intOf]; omega
      · have h7b : (d != 7) = true := by simpa using h7
        by_cases h5 : d = 5
        · by_cases hw : who = u
          · subst h5 hw
            clear h7
            go_wp2
            go_region
            go_wp2
            go_roundw
            case rel => exact ⟨k + 1, s, by omega, by go_num, HS.out.drew keepsPM, HLen.out, HBr.out.drew, HBo.out, HMem.out⟩
            case measure => simp [intOf]; omega
          · have hwb : (who != (u : Int)) = true := by simpa using hw
            have HM2 := Lib.hid (HKp.out h7 (Or.inr hw))
            subst h5
            clear h7 hw
            go_wp2
            go_region
            go_wp2_with fail
            refine (calls_nst (HS.out.drew keepsPM) (H3.out _)).mono ?_
            rintro e wc ⟨rfl, nc, -⟩
            have NC := Lib.hid nc
            have BC := Lib.hid (HB1.out.trans (nc.fr.below HB1.out.size HG.out))
            have XB := Lib.hid (HBx.out _ nc.fr)
            clear nc
            go_wp2
            go_roundw
            case rel => exact ⟨k + 1, s', by omega, by go_num, NC.out, HW9.out, BC.out, XB.out, HM2.out⟩
            case measure => simp [intOf]; omega
        · have h5b : (d != 5) = true := by simpa using h5
          have HM2 := Lib.hid (HKp.out h7 (Or.inl h5))
          clear h7 h5
          go_wp2
          go_region
          go_wp2_with fail
          refine (calls_nst (HS.out.drew keepsPM) (H3.out _)).mono ?_
          rintro e wc ⟨rfl, nc, -⟩
          have NC := Lib.hid nc
          have BC := Lib.hid (HB1.out.trans (nc.fr.below HB1.out.size HG.out))
          have XB := Lib.hid (HBx.out _ nc.fr)
          clear nc
          go_wp2
          go_roundw
          case rel => exact ⟨k + 1, s', by omega, by go_num, NC.out, HW9.out, BC.out, XB.out, HM2.out⟩
          case measure => simp [intOf]; omega
    · have hkl : ¬ (k : Int) < acts.length := by omega
      have hinv : s.Inv := by obtain ⟨S9, h9⟩ := hst.get; exact h9.inv
      have hatn : at' < s.W.length := by rw [hlen]; exact hat
      obtain ⟨fw1, fw2⟩ := NM.fence_word hinv hatn hmem
      have hfi := hinv.fence (u : Int)
      obtain ⟨nf, hnf⟩ : ∃ nf, (s.fence u).1 = nf := ⟨_, rfl⟩
      obtain ⟨s1, hs1⟩ : ∃ s1, (s.fence u).2 = s1 := ⟨_, rfl⟩
      have hfen := fun W S1 (h : PM W b S1 s) => mfence_any b u W S1 s h
      have hl1 : s1.W.length = xs.length := by rw [← hs1, NM.fence_W]; exact hlen
      rw [hnf, hs1] at hfen
      rw [hnf] at fw1
      rw [hs1] at fw2 hfi
      obtain ⟨v, hv⟩ : ∃ v, s.W.getD at' 0 = v := ⟨_, rfl⟩
      have ld1 : s.load at' = (v, true) := by
        unfold NM.load
        rw [if_pos (NM.th_iff.2 ⟨by omega, by omega⟩)]
        simpa using hv
      have hkl1 := hfi.kl
      have ld2 : s1.crash.load at' = (v, true) := by
        unfold NM.load
        rw [if_pos (NM.th_iff.2 ⟨by omega, by show (at' : Int) < (s1.K.length : Nat); omega⟩)]
        show ((s1.K.getD _ 0 : Int), true) = _
        rw [Int.toNat_natCast, fw2, hv]
      have kp2 : (u64s s1.crash.K)[at']? = some (.int .u64 v) := by
        rw [u64s_get (by show at' < s1.K.length; omega)]
        show some (Value.int .u64 (s1.K.getD at' 0)) = _
        rw [fw2, hv]
      have HFe := Lib.hid hfen
      have HS := Lib.hid hst
      have L1 := Lib.hid ld1
      have L2 := Lib.hid ld2
      have KP := Lib.hid kp2
      have HKl := Lib.hid (show s1.crash.W.length = xs.length from hkl1.trans hl1)
      have x1 := hbox 1
      have x2 := hbox 2
      simp at x1 x2
      have hnb : decide (1 ≤ nf) = true := by simpa using fw1
      clear hst hbox hmem hinv hatn fw2 hfi hnf hs1 hfen hv ld1 ld2 kp2 hl1 hkl1 hlen hbr HP0 N1 N2' S0 F0
      go_wp2_with fail
      obtain ⟨S2, p2⟩ := HS.out.get
      refine (mload_to p2 L1.out).mono ?_
      rintro e wq ⟨rfl, rfl⟩
      clear p2
      go_wp2_with fail
      refine (calls_nst HS.out (HFe.out _)).mono ?_
      rintro e w3 ⟨rfl, n3, -⟩
      have N3 := Lib.hid n3
      have y3 := HBx.out _ n3.fr
      clear n3 x1 x2
      go_wp2_with fail
      refine (calls_nst N3.out (fun S1 h => mcrash_any b _ S1 s1 h)).mono ?_
      rintro e w4 ⟨rfl, n4, -⟩
      have N4 := Lib.hid n4
      have y4 := HBx.out _ n4.fr
      have B4 := Lib.hid (HB1.out.trans (n4.fr.below HB1.out.size HG.out))
      have x4 := y4 2
      simp at x4
      clear n4 y3 y4
      go_wp2_with fail
      obtain ⟨S2, p2⟩ := N4.out.get
      refine (mload_to p2 L2.out).mono ?_
      rintro e wq ⟨rfl, rfl⟩
      have CK := Lib.hid (fun W (hb : Below w4.heap.size w4 W) => mkept_any b W S2 s1.crash (keepsPM.keep (T := fun _ => False) p2 (Fr.of_below hb) (fun _ _ x => x)))
      rw [HKl.out] at CK
      have hvv : (v == v) = true := by simp
      have X4 := Lib.hid (fun W (hb : Below w4.heap.size w4 W) => (⟨hb, (hb.cell (World.block_lt_of_cell? w4 _ x4)).trans x4⟩ : Below w4.heap.size w4 W ∧ W.cell? ⟨w.heap.size, 2, none⟩ = some (.int .i64 at')))
      clear p2
      go_wp2
      refine wp_region_noPanic ?_
      refine wp_region_held_drew (S := fun w' => Below w4.heap.size w4 w' ∧ w'.cell? ⟨w.heap.size, 2, none⟩ = some (.int .i64 at')) (by kernel_rfl) ?_ (fun hHeld => ?_)
      · exact X4.out _ (Below.refl _ _).drew
      refine wpAnyH_take (i := 0) (oi := _) (v := ?_) rfl (by kernel_rfl) (by kernel_rfl) (by kernel_rfl) (fun _ _ _ h => h) (Or.inl ⟨by rfl, ?_⟩) (by assumption) ?_
      rotate_left
      · intro w hSw; (try dsimp only at hSw); go_simp; try with_reducible rfl
      try simp only [Act.put, List.getElem_toArray, List.getElem_cons_zero, List.setIfInBounds_toArray, List.set_cons_zero, List.set_cons_succ]
      refine wpAnyH_take (i := 1) (oi := _) (v := ?_) rfl (by kernel_rfl) (by kernel_rfl) (by kernel_rfl) (fun _ _ _ h => h) (Or.inl ⟨by rfl, ?_⟩) (by assumption) ?_
      rotate_left
      · intro w hSw; (try dsimp only at hSw); go_simp; try with_reducible rfl
      try simp only [Act.put, List.getElem_toArray, List.getElem_cons_zero, List.getElem_cons_succ, List.setIfInBounds_toArray, List.set_cons_zero, List.set_cons_succ]
      refine wpAnyH_take (i := 2) (oi := _) (v := ?_) rfl (by kernel_rfl) (by kernel_rfl) (by kernel_rfl) (fun _ _ _ h => h) (Or.inl ⟨by rfl, ?_⟩) (by assumption) ?_
      rotate_left
      · intro w hSw; (try dsimp only at hSw); go_simp; try with_reducible rfl
      try simp only [Act.put, List.getElem_toArray, List.getElem_cons_zero, List.getElem_cons_succ, List.setIfInBounds_toArray, List.set_cons_zero, List.set_cons_succ]
      refine wpAnyH_take (i := 3) (oi := _) (v := ?_) rfl (by kernel_rfl) (by kernel_rfl) (by kernel_rfl) (fun _ _ _ h => h) (Or.inl ⟨by rfl, ?_⟩) (by assumption) ?_
      rotate_left
      · intro w hSw; (try dsimp only at hSw); go_simp; try with_reducible rfl
      try simp only [Act.put, List.getElem_toArray, List.getElem_cons_zero, List.getElem_cons_succ, List.setIfInBounds_toArray, List.set_cons_zero, List.set_cons_succ]
      refine wpAnyH_take (i := 4) (oi := _) (v := ?_) rfl (by kernel_rfl) (by kernel_rfl) (by kernel_rfl) (fun _ _ _ h => h) (Or.inl ⟨by rfl, ?_⟩) (by assumption) ?_
      rotate_left
      · intro w hSw; (try dsimp only at hSw); go_simp; try with_reducible rfl
      try simp only [Act.put, List.getElem_toArray, List.getElem_cons_zero, List.getElem_cons_succ, List.setIfInBounds_toArray, List.set_cons_zero, List.set_cons_succ]
      refine wpAnyH_take (i := 5) (oi := _) (v := ?_) rfl (by kernel_rfl) (by kernel_rfl) (by kernel_rfl) (fun _ _ _ h => h) (Or.inl ⟨by rfl, ?_⟩) (by assumption) ?_
      rotate_left
      · intro w hSw; (try dsimp only at hSw); go_simp; try with_reducible rfl
      try simp only [Act.put, List.getElem_toArray, List.getElem_cons_zero, List.getElem_cons_succ, List.setIfInBounds_toArray, List.set_cons_zero, List.set_cons_succ]
      refine wpAnyH_take (i := 6) (oi := _) (v := ?_) rfl (by kernel_rfl) (by kernel_rfl) (by kernel_rfl) (fun _ _ _ h => h) (Or.inl ⟨by rfl, ?_⟩) (by assumption) ?_
      rotate_left
      · intro w hSw; (try dsimp only at hSw); go_simp; try with_reducible rfl
      try simp only [Act.put, List.getElem_toArray, List.getElem_cons_zero, List.getElem_cons_succ, List.setIfInBounds_toArray, List.set_cons_zero, List.set_cons_succ]
      refine wpAnyH_take (i := 7) (oi := _) (v := ?_) rfl (by kernel_rfl) (by kernel_rfl) (by kernel_rfl) (fun _ _ _ h => h) (Or.inl ⟨by rfl, ?_⟩) (by assumption) ?_
      rotate_left
      · intro w hSw; (try dsimp only at hSw); go_simp; try with_reducible rfl
      try simp only [Act.put, List.getElem_toArray, List.getElem_cons_zero, List.getElem_cons_succ, List.setIfInBounds_toArray, List.set_cons_zero, List.set_cons_succ]
      refine wpAnyH_take (i := 8) (oi := _) (v := ?_) rfl (by kernel_rfl) (by kernel_rfl) (by kernel_rfl) (fun _ _ _ h => h) (Or.inl ⟨by rfl, ?_⟩) (by assumption) ?_
      rotate_left
      · intro w hSw; (try dsimp only at hSw); go_simp; try with_reducible rfl
      try simp only [Act.put, List.getElem_toArray, List.getElem_cons_zero, List.getElem_cons_succ, List.setIfInBounds_toArray, List.set_cons_zero, List.set_cons_succ]
      refine wpAnyH_take (i := 9) (oi := _) (v := ?_) rfl (by kernel_rfl) (by kernel_rfl) (by kernel_rfl) (fun _ _ _ h => h) (Or.inl ⟨by rfl, ?_⟩) (by assumption) ?_
      rotate_left
      · intro w hSw; (try dsimp only at hSw); go_simp; try with_reducible rfl
      try simp only [Act.put, List.getElem_toArray, List.getElem_cons_zero, List.getElem_cons_succ, List.setIfInBounds_toArray, List.set_cons_zero, List.set_cons_succ]
      refine wpAnyH_take (i := 10) (oi := _) (v := ?_) rfl (by kernel_rfl) (by kernel_rfl) (by kernel_rfl) (fun _ _ _ h => h) (Or.inl ⟨by rfl, ?_⟩) (by assumption) ?_
      rotate_left
      · intro w hSw; (try dsimp only at hSw); go_simp; try with_reducible rfl
      try simp only [Act.put, List.getElem_toArray, List.getElem_cons_zero, List.getElem_cons_succ, List.setIfInBounds_toArray, List.set_cons_zero, List.set_cons_succ]
      refine wpAnyH_take (i := 11) (oi := _) (v := ?_) rfl (by kernel_rfl) (by kernel_rfl) (by kernel_rfl) (fun _ _ _ h => h) (Or.inl ⟨by rfl, ?_⟩) (by assumption) ?_
      rotate_left
      · intro w hSw; (try dsimp only at hSw); go_simp; try with_reducible rfl
      try simp only [Act.put, List.getElem_toArray, List.getElem_cons_zero, List.getElem_cons_succ, List.setIfInBounds_toArray, List.set_cons_zero, List.set_cons_succ]
      refine wpAnyH_take (i := 13) (oi := _) (v := ?_) rfl (by kernel_rfl) (by kernel_rfl) (by kernel_rfl) (fun _ _ _ h => h) (Or.inl ⟨by rfl, ?_⟩) (by assumption) ?_
      rotate_left
      · intro w hSw; (try dsimp only at hSw); go_simp; try with_reducible rfl
      try simp only [Act.put, List.getElem_toArray, List.getElem_cons_zero, List.getElem_cons_succ, List.setIfInBounds_toArray, List.set_cons_zero, List.set_cons_succ]
      refine wpAnyH_take (i := 14) (oi := _) (v := ?_) rfl (by kernel_rfl) (by kernel_rfl) (by kernel_rfl) (fun _ _ _ h => h) (Or.inl ⟨by rfl, ?_⟩) (by assumption) ?_
      rotate_left
      · intro w hSw; (try dsimp only at hSw); go_simp; try with_reducible rfl
      try simp only [Act.put, List.getElem_toArray, List.getElem_cons_zero, List.getElem_cons_succ, List.setIfInBounds_toArray, List.set_cons_zero, List.set_cons_succ]
      refine wpAnyH_take (i := 17) (oi := _) (v := ?_) rfl (by kernel_rfl) (by kernel_rfl) (by kernel_rfl) (fun _ _ _ h => h) (Or.inl ⟨by rfl, ?_⟩) (by assumption) ?_
      rotate_left
      · intro w hSw; (try dsimp only at hSw); go_simp; try with_reducible rfl
      try simp only [Act.put, List.getElem_toArray, List.getElem_cons_zero, List.getElem_cons_succ, List.setIfInBounds_toArray, List.set_cons_zero, List.set_cons_succ]
      refine wpAnyH_ready (rs := [12]) (by kernel_rfl) (by simp) ?_
      refine AllReadyH.cons (o := _) rfl (fun K hK => ?_) AllReadyH.nil
      go_simp
      refine (CK.out _ hHeld.1).mono ?_
      rintro e wk ⟨vk, rfl, ok, -, bk⟩
      obtain ⟨gk, ck, rfl⟩ := Joins.ownsRow_form ok (by omega)
      have Bk := hHeld.1.trans (bk.mono hHeld.1.size)
      have ek := (ok.cellAt at' (by omega)).trans KP.out
      dsimp only
      refine hK.out _ _ ?_ (fun hHeld => ?_)
      · exact X4.out _ Bk
      clear hK K
      try simp only [Act.put, List.getElem_toArray, List.getElem_cons_zero, List.getElem_cons_succ, List.setIfInBounds_toArray, List.set_cons_zero, List.set_cons_succ]
      refine wpAnyH_take (i := 15) (oi := _) (v := ?_) rfl (by kernel_rfl) (by kernel_rfl) (by kernel_rfl) (fun _ _ _ h => h) (Or.inl ⟨by rfl, ?_⟩) (by assumption) ?_
      rotate_left
      · intro w hSw; (try dsimp only at hSw); go_simp; try with_reducible rfl
      try simp only [Act.put, List.getElem_toArray, List.getElem_cons_zero, List.getElem_cons_succ, List.setIfInBounds_toArray, List.set_cons_zero, List.set_cons_succ]
      refine wpAnyH_ready (rs := [16]) (by kernel_rfl) (by simp) ?_
      refine AllReadyH.cons (o := _) rfl (fun K hK => ?_) AllReadyH.nil
      go_simp
      refine hK.out _ _ ?_ (fun hHeld => ?_)
      · exact X4.out _ Bk
      clear hK K
      try simp only [Act.put, List.getElem_toArray, List.getElem_cons_zero, List.getElem_cons_succ, List.setIfInBounds_toArray, List.set_cons_zero, List.set_cons_succ]
      refine wpAnyH_take (i := 18) (oi := _) (v := ?_) rfl (by kernel_rfl) (by kernel_rfl) (by kernel_rfl) (fun _ _ _ h => h) (Or.inl ⟨by rfl, ?_⟩) (by assumption) ?_
      rotate_left
      · intro w hSw; (try dsimp only at hSw); go_simp; try with_reducible rfl
      try simp only [Act.put, List.getElem_toArray, List.getElem_cons_zero, List.getElem_cons_succ, List.setIfInBounds_toArray, List.set_cons_zero, List.set_cons_succ]
      refine wpAnyH_take (i := 19) (oi := _) (v := ?_) rfl (by kernel_rfl) (by kernel_rfl) (by kernel_rfl) (fun _ _ _ h => h) (Or.inl ⟨by rfl, ?_⟩) (by assumption) ?_
      rotate_left
      · intro w hSw; (try dsimp only at hSw); go_simp; try with_reducible rfl
      try simp only [Act.put, List.getElem_toArray, List.getElem_cons_zero, List.getElem_cons_succ, List.setIfInBounds_toArray, List.set_cons_zero, List.set_cons_succ]
      refine wpAnyH_take (i := 20) (oi := _) (v := ?_) rfl (by kernel_rfl) (by kernel_rfl) (by kernel_rfl) (fun _ _ _ h => h) (Or.inl ⟨by rfl, ?_⟩) (by assumption) ?_
      rotate_left
      · intro w hSw; (try dsimp only at hSw); go_simp; try with_reducible rfl
      try simp only [Act.put, List.getElem_toArray, List.getElem_cons_zero, List.getElem_cons_succ, List.setIfInBounds_toArray, List.set_cons_zero, List.set_cons_succ]
      refine wpAnyH_ready (rs := [21]) (by kernel_rfl) (by simp) ?_
      refine AllReadyH.cons (o := _) rfl (fun K hK => ?_) AllReadyH.nil
      go_simp
      refine (nlive_any _).mono ?_
      rintro e wl ⟨rfl, bl⟩
      have Bl := Bk.trans (bl.mono Bk.size)
      dsimp only
      refine hK.out _ _ ?_ (fun hHeld => ?_)
      · exact X4.out _ Bl
      clear hK K
      try simp only [Act.put, List.getElem_toArray, List.getElem_cons_zero, List.getElem_cons_succ, List.setIfInBounds_toArray, List.set_cons_zero, List.set_cons_succ]
      refine wpAnyH_take (i := 22) (oi := _) (v := ?_) rfl (by kernel_rfl) (by kernel_rfl) (by kernel_rfl) (fun _ _ _ h => h) (Or.inl ⟨by rfl, ?_⟩) (by assumption) ?_
      rotate_left
      · intro w hSw; (try dsimp only at hSw); go_simp; try with_reducible rfl
      try simp only [Act.put, List.getElem_toArray, List.getElem_cons_zero, List.getElem_cons_succ, List.setIfInBounds_toArray, List.set_cons_zero, List.set_cons_succ]
      refine wpAnyH_take (i := 23) (oi := _) (v := ?_) rfl (by kernel_rfl) (by kernel_rfl) (by kernel_rfl) (fun _ _ _ h => h) (Or.inl ⟨by rfl, ?_⟩) (by assumption) ?_
      rotate_left
      · intro w hSw; (try dsimp only at hSw); go_simp; try with_reducible rfl
      try simp only [Act.put, List.getElem_toArray, List.getElem_cons_zero, List.getElem_cons_succ, List.setIfInBounds_toArray, List.set_cons_zero, List.set_cons_succ]
      refine wpAnyH_done (by kernel_rfl) ?_ _
      refine NoPanic.normal ?_
      have HB := Lib.hid hHeld.1
      clear hHeld
      go_wp2
      go_ret
      exact ⟨rfl, B4.out.trans (HB.out.mono B4.out.size)⟩

theorem nfences_any (wv lv : Value) (xs : List Int) (acts : List NM.A) (x : NM.A) (w : World) (hW : Rd w wv 1 xs.length (u64s xs)) (hu : ∀ v ∈ xs, NM.U64 v) (hL : Rd w lv 6 acts.length (acts.flatMap actC)) (hv : ∀ a ∈ acts, NM.U64 a.old ∧ NM.U64 a.val) (hx : NM.U64 x.val) :
    Calls Try.prog 3 #[wv, lv, .agg (actC x).toArray] w fun e w' => e = .returned (.bool true) ∧ Below w.heap.size w w' := by
  obtain ⟨xd, xw, xa, xm, xo, xv⟩ := x
  cases h : (decide (xs.length ≤ 64) && decide (acts.length ≤ 200))
  · obtain ⟨a1, c1, rfl⟩ := hW.len
    obtain ⟨a2, c2, rfl⟩ := hL.len
    exact nfences_many a1 a2 _ _ c1 c2 xd xw xa xm xo xv w h
  · by_cases hg : xs.length ≠ 0 ∧ xs.length % 8 = 0 ∧ 0 ≤ xa ∧ xa < xs.length ∧ 0 ≤ xw ∧ xw ≤ 16
    · have h2 : xs.length ≤ 64 ∧ acts.length ≤ 200 := by simpa using h
      obtain ⟨g1, g2, g3, g4, g5, g6⟩ := hg
      obtain ⟨at', rfl⟩ := Int.eq_ofNat_of_zero_le g3
      obtain ⟨u, rfl⟩ := Int.eq_ofNat_of_zero_le g5
      exact nfences_main wv lv xs acts xd u at' xm xo xv w hW hu hL hv hx h2.1 h2.2 g1 g2 (by omega) (by omega)
    · obtain ⟨a1, c1, rfl⟩ := hW.len
      obtain ⟨a2, c2, rfl⟩ := hL.len
      exact nfences_none a1 a2 _ _ c1 c2 xd xw xa xm xo xv w h (by omega)
end Go.Proofs.Ytdfjgaeiodjmnaa
