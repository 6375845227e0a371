/- parts of the proof, merged by a program. -/
import Derived.Test.YtpmoajhpgekhcaaGreatMsk8
import Derived.Test.YtpmoajhpgekhcaaGreatMsk9
set_option linter.unusedSimpArgs false
set_option linter.unusedVariables false
/- SweepKeeps: the law's walk. -/
set_option linter.unusedSimpArgs false
set_option linter.unusedVariables false
namespace Go.Proofs.YtpmoajhpgekhcaaGreat
open Go.RowKit

structure SkRel (w : World) (T : Nat) (s : Int) (P : Nat) (vals : List Int) (l : List (Int × Int)) (f : Nat → Int) (v0 : Value) (b LW : Nat) (vp : Value) (wr : World) (k : Nat) (c : Int → Int) (st : VS) : Prop where
  le : k ≤ P
  p : vp = .int .i64 k
  v : VSt PV w b (fun _ => False) (w.heap.size :: LW :: v0.ownBlock.toList) st wr
  sw : SwV T s P vals k c st
  c : ∀ o : Nat, wr.cell? ⟨w.heap.size, o, none⟩ = (#[.int .i64 T, .int .i64 P, .int .i64 s] : Array Value)[o]?
  d : ∀ o : Nat, wr.cell? ⟨LW, o, none⟩ = (#[v0, .int .i64 (f 0), .int .i64 (f 1), .int .i64 (f 2), .int .i64 (f 3), .int .i64 (f 4), .int .i64 (f 5), .int .i64 (f 6), .int .i64 (f 7)] : Array Value)[o]?
  r : wr.ownsRow 0 74 2 v0 l.length (blockCells l)
def SkRelE (w : World) (T : Nat) (s : Int) (P : Nat) (vals : List Int) (l : List (Int × Int)) (f : Nat → Int) (v0 : Value) (b LW : Nat) (vp : Value) (wr : World) : Prop := ∃ k c st, SkRel w T s P vals l f v0 b LW vp wr k c st

set_option maxHeartbeats 8000000 in
set_option maxRecDepth 100000 in
theorem skeeps_main (T : Nat) (s : Int) (P : Nat) (ad : Addr) (cp : Nat) (vals : List Int) (w : World) (hR : Rd w (.slice (some ad) vals.length cp) 1 vals.length (uints vals)) (hu : ∀ u ∈ vals, VS.U32 u) (hp : (P : Int) ≤ 64) (hx : XV w T P s ad vals.length vals) (hs : (chkF vals T P s).2 = true) :
    Calls Tryz.prog 4 #[.agg #[.int .i64 T, .int .i64 P, .int .i64 s], .slice (some ad) vals.length cp] w fun e W' => e = .returned (.bool true) ∧ Below w.heap.size w W' := by
  have hd : decide ((P : Int) ≤ 64) = true := by simpa using hp
  have HF := Lib.hid (fun w => few12_any T P s w)
  rw [hd] at HF
  have HS := Lib.hid (fun (W : World) (hb : Below w.heap.size w W) => rsound_any cp W (hx.keep hb))
  rw [hs] at HS
  have HL := Lib.hid swlive_any
  have hb := hx.bd
  have hn : (vals.length : Int) = 30 + 4 * T + 6 * P := by have := hx.num; omega
  obtain ⟨l, hl⟩ : ∃ l, blocksF vals T P s = l := ⟨_, rfl⟩
  have hll : l.length ≤ 33792 := by rw [← hl]; exact blocksF_len vals T P s (by omega)
  obtain ⟨f, hf⟩ : ∃ f : Nat → Int, f = fun i => vals.getD (22 + i) 0 := ⟨_, rfl⟩
  have HW := Lib.hid (fun (W : World) (hb : Below w.heap.size w W) => state_row (c := cp) (hx.keep hb) hs hl (f := f) (fun i _ => by rw [hf]))
  have HST := Lib.hid (fun (vs : List Int) (h : (chkF vs T P s).2 = true ∧ blocksF vs T P s = blocksF vals T P s ∧ (∀ i : Nat, i < 8 → vs.getD (22 + i) 0 = vals.getD (22 + i) 0)) (W : World) (g cc : Nat) (hx : XV W T P s ⟨g, 0, none⟩ vs.length vs) => state_row (c := cc) hx h.1 (h.2.1.trans hl) (f := f) (fun i hi => by rw [h.2.2 i hi, hf]))
  have HR := Lib.hid hR
  have HU := Lib.hid hu
  have c0 := loc_alloc w #[.int .i64 T, .int .i64 P, .int .i64 s] 23
  have S0 := ((BS.start w).alloc (.cells #[.int .i64 T, .int .i64 P, .int .i64 s] 23))
  have HX := Lib.hid hx
  have HC := Lib.hid hs
  have HP := Lib.hid hp
  have HB := Lib.hid hb
  have HN := Lib.hid hn
  have HLn := Lib.hid hll
  clear hd hp hx hs hR hu hb hn hl hf hll
  go_enter Tryz.func4, Tryz.ntmps4
  go_wp2_with fail
  refine (calls_b S0 (HF.out _)).mono ?_
  rintro e w1 ⟨rfl, S1, S1l⟩
  have c1 := loc_step S1l (by simp) c0
  clear S1l
  go_wp2_with fail
  refine (calls_b S1 (HS.out _ S1.bel)).mono ?_
  rintro e w2 ⟨rfl, S2, S2l⟩
  have c2 := loc_step S2l (by simp) c1
  clear S2l
  clear S0 S1 c0 c1
  go_wp2_with fail
  refine (HW.out _ S2.bel).mono ?_
  rintro e w3 ⟨v0, rfl, o3, g3, B3⟩
  obtain ⟨va, vc, rfl⟩ := row_shape o3
  dsimp only [stV]
  have S3 : BS w [w.heap.size] w3 := S2.below B3
  have z2 := S2.bel.size
  have z3 := B3.size
  have c3 := ((BS.start _).below B3).oldbox c2 (S2.ls w.heap.size (by simp)).1
  have c4 := loc_old (.cells #[.slice va l.length vc, .int .i64 (f 0), .int .i64 (f 1), .int .i64 (f 2), .int .i64 (f 3), .int .i64 (f 4), .int .i64 (f 5), .int .i64 (f 6), .int .i64 (f 7)] 36) (S3.ls w.heap.size (by simp)).1 c3
  have d4 := loc_alloc w3 #[.slice va l.length vc, .int .i64 (f 0), .int .i64 (f 1), .int .i64 (f 2), .int .i64 (f 3), .int .i64 (f 4), .int .i64 (f 5), .int .i64 (f 6), .int .i64 (f 7)] 36
  have hA := S3.allocd #[.slice va l.length vc, .int .i64 (f 0), .int .i64 (f 1), .int .i64 (f 2), .int .i64 (f 3), .int .i64 (f 4), .int .i64 (f 5), .int .i64 (f 6), .int .i64 (f 7)] 36
  have HA := Lib.hid hA
  have HO4 := Lib.hid (row_new o3 (.cells #[.slice va l.length vc, .int .i64 (f 0), .int .i64 (f 1), .int .i64 (f 2), .int .i64 (f 3), .int .i64 (f 4), .int .i64 (f 5), .int .i64 (f 6), .int .i64 (f 7)] 36))
  have HG3 := Lib.hid (And.intro g3 z2)
  have HC4 := Lib.hid c4
  have HD4 := Lib.hid d4
  clear g3 z2 o3 S3 S2 c2 c3 z3 B3 hA
  go_wp2_with fail
  refine (whole_any _ vals _ (HR.out.keepB HA.out.bs.bel) (by have := HB.out; omega) HU.out).mono ?_
  rintro e w5 ⟨b, rfl, P5, B5⟩
  have z5 := B5.size
  have hV0 : VSt PV w b (fun _ => False) (w.heap.size :: w3.heap.size :: (Value.slice va l.length vc).ownBlock.toList) (wholeVS vals) w5 := by
    refine VSt.of_new P5 (HA.out.bs.bel.trans (B5.mono HA.out.bs.bel.size)) HA.out.bs.bel.size (fun L hL => ?_) z5
    simp only [List.mem_cons, Option.mem_toList] at hL
    rcases hL with rfl | rfl | hL
    · exact HA.out.bs.ls _ (by simp)
    · exact HA.out.bs.ls _ (by simp)
    · exact ⟨ownsRow_lt HO4.out hL, by have := HG3.out.1 L hL; have := HG3.out.2; omega⟩
  have hSw := SwV.start HX.out.right HN.out HU.out HC.out
  have c5 := ((BS.start _).below B5).oldbox HC4.out (HA.out.bs.ls w.heap.size (by simp)).1
  have d5 := ((BS.start _).below B5).oldbox HD4.out (HA.out.bs.ls w3.heap.size (by simp)).1
  have o5 := ownsRow_block HO4.out (fun k hk => B5.block k (ownsRow_lt HO4.out hk))
  clear HA HO4 HG3 HC4 HD4 P5 B5 z5 c4 d4
  generalize w3.heap.size = LW at *
  go_wp2_with fail
  go_loopw [8, 9, 10] (fun v8 _ _ wr => SkRelE w T s P vals l f (.slice va l.length vc) b LW v8 wr) (fun v8 _ _ _ => P - (intOf v8).toNat)
  case atStart => exact ⟨0, cv vals, wholeVS vals, Nat.zero_le _, rfl, hV0, hSw, c5, d5, o5⟩
  case round =>
    obtain ⟨k, c, st, hk, rfl, hV1, hw, c1, d1, o1⟩ := hrel
    clear hV0 hSw c5 d5 o5
    have hp64 := HP.out
    by_cases hlt : k < P
    · have hkp : (k : Int) < P := by omega
      have hPg := fun (w : World) (S1 : Nat → Prop) (h1 : PV w b S1 st) => spage_any b T P s k w S1 st h1 (by omega)
      obtain ⟨c', -, hw'⟩ := hw.step (by omega) (k : Int)
      replace hw' := hw' rfl
      obtain ⟨rb, y, hy⟩ : ∃ rb y, sweepF T P s k st = (rb, y) := ⟨_, _, rfl⟩
      rw [hy] at hPg hw'
      dsimp only at hPg hw'
      have HQ := Lib.hid hPg
      have HW' := Lib.hid hw'
      clear hPg hw' hy hw
      go_wp2_with fail
      refine (calls_st hV1 (HQ.out _)).mono ?_
      rintro e w2 ⟨rfl, hV2, hV2l⟩
      have c2 := loc_step hV2l (by simp) c1
      have d2 := loc_step hV2l (by simp) d1
      have o2 := row_step hV2l (fun k hk => by simp [hk]) o1
      clear hV2l
      obtain ⟨S2x, p2, -, -⟩ := hV2.ex
      obtain ⟨vs', n', u', -, -, ck', bl', rt', hva⟩ := swept_vals p2 HW'.out HN.out HC.out
      have HVa := Lib.hid hva
      have HSt := Lib.hid (HST.out vs' ⟨ck', bl', rt'⟩)
      have HRow := Lib.hid (fun (W : World) (v : Value) (h : W.ownsRow 0 41 1 v vs'.length (uints vs')) => row_xv HX.out.right (by omega) (by rw [n']; exact HN.out) u' h)
      have hz := (hV2.ls w.heap.size (by simp)).1
      have hzw := (hV2.ls LW (by simp)).1
      have HV2 := Lib.hid hV2
      have HO2 := Lib.hid o2
      have HD2 := Lib.hid d2
      clear hva n' u' ck' bl' rt' p2 hV1 c1 d1 o1 hV2 o2 HQ
      go_wp2_with fail
      refine wp_region_noPanic ?_
      refine wp_region_held_drew (S := fun w' => ((∀ o : Nat, w'.cell? ⟨w.heap.size, o, none⟩ = (#[.int .i64 T, .int .i64 P, .int .i64 s] : Array Value)[o]?) ∧ BS w2 [] w')) (by kernel_rfl) ?_ (fun hHeld => ?_)
      · exact ⟨c2, (BS.start w2).drew⟩
      refine wT 0 ?_
      refine wT 1 ?_
      refine wpAnyH_ready (rs := [2, 7]) (by kernel_rfl) (by simp) ?_
      refine AllReadyH.cons (o := _) rfl (fun K hK => ?_) (AllReadyH.cons (o := _) rfl (fun K hK => ?_) AllReadyH.nil)
      · go_simp
        refine (HVa.out _ hHeld.2.bel).mono ?_
        rintro e wv ⟨vv, rfl, ov, gv, Bv⟩
        obtain ⟨g1, cc, rfl, xv⟩ := HRow.out _ _ ov
        have hN := hHeld.2.below Bv
        try have hA := hA.below Bv
        clear ov gv Bv
        try dsimp only
        refine hK.out _ _ ?_ (fun hHeld => ?_)
        · exact ⟨hN.oldbox c2 hz, hN⟩
        clear hK K
        try simp only [Act.put, zA, zB, zC, zD, zE, zF]
        refine wpAnyH_ready (rs := [3, 7]) (by kernel_rfl) (by simp) ?_
        refine AllReadyH.cons (o := _) rfl (fun K hK => ?_) (AllReadyH.cons (o := _) rfl (fun K hK => ?_) AllReadyH.nil)
        · go_simp
          refine (HSt.out _ _ _ xv).mono ?_
          rintro e ws ⟨vs0, rfl, ow, gw, Bs⟩
          obtain ⟨pa, pc, rfl⟩ := row_shape ow
          try dsimp only [stV]
          have hN := hHeld.2.below Bs
          try have ne := hA.row_ne gw
          try have hA := hA.below Bs
          clear xv gw Bs
          try dsimp only
          refine hK.out _ _ ?_ (fun hHeld => ?_)
          · exact ⟨hN.oldbox c2 hz, hN⟩
          clear hK K
          try simp only [Act.put, zA, zB, zC, zD, zE, zF]
          refine wT 4 ?_
          refine wT 5 ?_
          refine wT 6 ?_
          refine wR 7 fun K hK => ?_
          have hP := hHeld
          have hA := hHeld.2.allocd #[.slice none 0 0, .int .i64 0, .int .i64 0, .int .i64 0, .int .i64 0, .int .i64 0, .int .i64 0, .int .i64 0, .int .i64 0] 36
          try simp only [World.size_drew] at hA
          try simp only [World.size_alloc] at hA
          try have xv := xv.keep ((Below.refl _ _).alloc (Nat.le_refl _) (.cells #[.slice none 0 0, .int .i64 0, .int .i64 0, .int .i64 0, .int .i64 0, .int .i64 0, .int .i64 0, .int .i64 0, .int .i64 0] 36))
          try have ne := row_new_ne ow
          try have owP := ow
          try have ow := row_new ow (.cells #[.slice none 0 0, .int .i64 0, .int .i64 0, .int .i64 0, .int .i64 0, .int .i64 0, .int .i64 0, .int .i64 0, .int .i64 0] 36)
          go_simp
          refine hK.out _ _ ?_ (fun hHeld => ?_)
          · exact ⟨hA.bs.oldbox c2 hz, hA.bs.sub _ (by simp)⟩
          clear hK K
          try simp only [Act.put, zA, zB, zC, zD, zE, zF]
          refine wR 8 fun K hK => ?_
          obtain ⟨⟨k0, k1, k2, k3, k4, k5, k6, k7, k8⟩, q0, q1, q2, q3, q4, q5, q6, q7, q8⟩ := cells9 hA.box
          have hA2 : BA w2 [] _ #[.slice pa l.length pc, .int .i64 (f 0), .int .i64 (f 1), .int .i64 (f 2), .int .i64 (f 3), .int .i64 (f 4), .int .i64 (f 5), .int .i64 (f 6), .int .i64 (f 7)] 36 _ := hA.set9 (.slice pa l.length pc) (.int .i64 (f 0)) (.int .i64 (f 1)) (.int .i64 (f 2)) (.int .i64 (f 3)) (.int .i64 (f 4)) (.int .i64 (f 5)) (.int .i64 (f 6)) (.int .i64 (f 7))
          have ow2 := row_set9 ow ne (.slice pa l.length pc) (.int .i64 (f 0)) (.int .i64 (f 1)) (.int .i64 (f 2)) (.int .i64 (f 3)) (.int .i64 (f 4)) (.int .i64 (f 5)) (.int .i64 (f 6)) (.int .i64 (f 7))
          try have hA3 : BA w2 [] _ #[.slice pa l.length pc, .int .i64 (f 0), .int .i64 (f 1), .int .i64 (f 2), .int .i64 (f 3), .int .i64 (f 4), .int .i64 (f 5), .int .i64 (f 6), .int .i64 (f 7)] 36 _ := hP.2.allocd #[.slice pa l.length pc, .int .i64 (f 0), .int .i64 (f 1), .int .i64 (f 2), .int .i64 (f 3), .int .i64 (f 4), .int .i64 (f 5), .int .i64 (f 6), .int .i64 (f 7)] 36
          try have ow3 := row_new owP (.cells #[.slice pa l.length pc, .int .i64 (f 0), .int .i64 (f 1), .int .i64 (f 2), .int .i64 (f 3), .int .i64 (f 4), .int .i64 (f 5), .int .i64 (f 6), .int .i64 (f 7)] 36)
          go_simp
          refine hK.out _ _ ?_ (fun hHeld => ?_)
          · exact by first | with_reducible exact ⟨hA3.bs.oldbox c2 hz, hA3.bs.sub _ (by simp)⟩ | exact ⟨hA2.bs.oldbox c2 hz, hA2.bs.sub _ (by simp)⟩
          clear hK K
          try simp only [Act.put, zA, zB, zC, zD, zE, zF]
          refine wT 9 ?_
          refine wpAnyH_done (by kernel_rfl) (NoPanic.normal ?_) _
          refine world_gen ?_
          intro wz hwz
          first | rw [← hwz] at hA2 ow2; have hZ := hA2; have oZ := ow2 | rw [← hwz] at hA3 ow3; have hZ := hA3; have oZ := ow3
          clear hwz hA hHeld ow ow2 hA2 hP
          try clear owP
          try clear ow3 hA3
          obtain ⟨⟨k0, k1, k2, k3, k4, k5, k6, k7, k8⟩, q0, q1, q2, q3, q4, q5, q6, q7, q8⟩ := cells9 hZ.box
          have d3 := hZ.bs.oldbox HD2.out hzw
          have o3 := ownsRow_block HO2.out (fun k hk => hZ.bs.bel.block k (ownsRow_lt HO2.out hk))
          have hsm := rsame_any (l1 := l) (l2 := l) (f := f) (g := f) (ha := o3) (hb := oZ) (h1 := by have := HLn.out; omega) (h2 := by have := HLn.out; omega)
          rw [eq8_same, decide_eq_true rfl] at hsm
          have HSm := Lib.hid hsm
          clear hsm o3 oZ
          go_wp2_with fail
          refine HSm.out.mono ?_
          rintro e w6 ⟨rfl, B6⟩
          have BB := hZ.bs.bel.trans (B6.mono hZ.bs.bel.size)
          have hV3 := HV2.out.below keepsPV BB
          have c3 := ((BS.start _).below BB).oldbox c2 hz
          have d3 := ((BS.start _).below BB).oldbox HD2.out hzw
          have o3 := ownsRow_block HO2.out (fun k hk => BB.block k (ownsRow_lt HO2.out hk))
          clear hZ B6 BB k0 k1 k2 k3 k4 k5 k6 k7 k8 q0 q1 q2 q3 q4 q5 q6 q7 q8
          go_wp2_with fail
          go_roundw
          case rel => exact ⟨k + 1, c', y, by omega, by go_num, hV3, HW'.out, c3, d3, o3⟩
          case measure => simp [intOf]; omega
        · have hP := hHeld
          have hA := hHeld.2.allocd #[.slice none 0 0, .int .i64 0, .int .i64 0, .int .i64 0, .int .i64 0, .int .i64 0, .int .i64 0, .int .i64 0, .int .i64 0] 36
          try simp only [World.size_drew] at hA
          try simp only [World.size_alloc] at hA
          try have xv := xv.keep ((Below.refl _ _).alloc (Nat.le_refl _) (.cells #[.slice none 0 0, .int .i64 0, .int .i64 0, .int .i64 0, .int .i64 0, .int .i64 0, .int .i64 0, .int .i64 0, .int .i64 0] 36))
          try have ne := row_new_ne ow
          try have owP := ow
          try have ow := row_new ow (.cells #[.slice none 0 0, .int .i64 0, .int .i64 0, .int .i64 0, .int .i64 0, .int .i64 0, .int .i64 0, .int .i64 0, .int .i64 0] 36)
          go_simp
          refine hK.out _ _ ?_ (fun hHeld => ?_)
          · exact ⟨hA.bs.oldbox c2 hz, hA.bs.sub _ (by simp)⟩
          clear hK K
          try simp only [Act.put, zA, zB, zC, zD, zE, zF]
          refine wR 3 fun K hK => ?_
          go_simp
          refine (HSt.out _ _ _ xv).mono ?_
          rintro e ws ⟨vs0, rfl, ow, gw, Bs⟩
          obtain ⟨pa, pc, rfl⟩ := row_shape ow
          try dsimp only [stV]
          have hN := hHeld.2.below Bs
          try have ne := hA.row_ne gw
          try have hA := hA.below Bs
          clear xv gw Bs
          try dsimp only
          refine hK.out _ _ ?_ (fun hHeld => ?_)
          · exact ⟨hN.oldbox c2 hz, hN⟩
          clear hK K
          try simp only [Act.put, zA, zB, zC, zD, zE, zF]
          refine wT 4 ?_
          refine wT 5 ?_
          refine wT 6 ?_
          refine wR 8 fun K hK => ?_
          obtain ⟨⟨k0, k1, k2, k3, k4, k5, k6, k7, k8⟩, q0, q1, q2, q3, q4, q5, q6, q7, q8⟩ := cells9 hA.box
          have hA2 : BA w2 [] _ #[.slice pa l.length pc, .int .i64 (f 0), .int .i64 (f 1), .int .i64 (f 2), .int .i64 (f 3), .int .i64 (f 4), .int .i64 (f 5), .int .i64 (f 6), .int .i64 (f 7)] 36 _ := hA.set9 (.slice pa l.length pc) (.int .i64 (f 0)) (.int .i64 (f 1)) (.int .i64 (f 2)) (.int .i64 (f 3)) (.int .i64 (f 4)) (.int .i64 (f 5)) (.int .i64 (f 6)) (.int .i64 (f 7))
          have ow2 := row_set9 ow ne (.slice pa l.length pc) (.int .i64 (f 0)) (.int .i64 (f 1)) (.int .i64 (f 2)) (.int .i64 (f 3)) (.int .i64 (f 4)) (.int .i64 (f 5)) (.int .i64 (f 6)) (.int .i64 (f 7))
          try have hA3 : BA w2 [] _ #[.slice pa l.length pc, .int .i64 (f 0), .int .i64 (f 1), .int .i64 (f 2), .int .i64 (f 3), .int .i64 (f 4), .int .i64 (f 5), .int .i64 (f 6), .int .i64 (f 7)] 36 _ := hP.2.allocd #[.slice pa l.length pc, .int .i64 (f 0), .int .i64 (f 1), .int .i64 (f 2), .int .i64 (f 3), .int .i64 (f 4), .int .i64 (f 5), .int .i64 (f 6), .int .i64 (f 7)] 36
          try have ow3 := row_new owP (.cells #[.slice pa l.length pc, .int .i64 (f 0), .int .i64 (f 1), .int .i64 (f 2), .int .i64 (f 3), .int .i64 (f 4), .int .i64 (f 5), .int .i64 (f 6), .int .i64 (f 7)] 36)
          go_simp
          refine hK.out _ _ ?_ (fun hHeld => ?_)
          · exact by first | with_reducible exact ⟨hA3.bs.oldbox c2 hz, hA3.bs.sub _ (by simp)⟩ | exact ⟨hA2.bs.oldbox c2 hz, hA2.bs.sub _ (by simp)⟩
          clear hK K
          try simp only [Act.put, zA, zB, zC, zD, zE, zF]
          refine wT 9 ?_
          refine wpAnyH_done (by kernel_rfl) (NoPanic.normal ?_) _
          refine world_gen ?_
          intro wz hwz
          first | rw [← hwz] at hA2 ow2; have hZ := hA2; have oZ := ow2 | rw [← hwz] at hA3 ow3; have hZ := hA3; have oZ := ow3
          clear hwz hA hHeld ow ow2 hA2 hP
          try clear owP
          try clear ow3 hA3
          obtain ⟨⟨k0, k1, k2, k3, k4, k5, k6, k7, k8⟩, q0, q1, q2, q3, q4, q5, q6, q7, q8⟩ := cells9 hZ.box
          have d3 := hZ.bs.oldbox HD2.out hzw
          have o3 := ownsRow_block HO2.out (fun k hk => hZ.bs.bel.block k (ownsRow_lt HO2.out hk))
          have hsm := rsame_any (l1 := l) (l2 := l) (f := f) (g := f) (ha := o3) (hb := oZ) (h1 := by have := HLn.out; omega) (h2 := by have := HLn.out; omega)
          rw [eq8_same, decide_eq_true rfl] at hsm
          have HSm := Lib.hid hsm
          clear hsm o3 oZ
          go_wp2_with fail
          refine HSm.out.mono ?_
          rintro e w6 ⟨rfl, B6⟩
          have BB := hZ.bs.bel.trans (B6.mono hZ.bs.bel.size)
          have hV3 := HV2.out.below keepsPV BB
          have c3 := ((BS.start _).below BB).oldbox c2 hz
          have d3 := ((BS.start _).below BB).oldbox HD2.out hzw
          have o3 := ownsRow_block HO2.out (fun k hk => BB.block k (ownsRow_lt HO2.out hk))
          clear hZ B6 BB k0 k1 k2 k3 k4 k5 k6 k7 k8 q0 q1 q2 q3 q4 q5 q6 q7 q8
          go_wp2_with fail
          go_roundw
          case rel => exact ⟨k + 1, c', y, by omega, by go_num, hV3, HW'.out, c3, d3, o3⟩
          case measure => simp [intOf]; omega
      · have hP := hHeld
        have hA := hHeld.2.allocd #[.slice none 0 0, .int .i64 0, .int .i64 0, .int .i64 0, .int .i64 0, .int .i64 0, .int .i64 0, .int .i64 0, .int .i64 0] 36
        try simp only [World.size_drew] at hA
        try simp only [World.size_alloc] at hA
        try have xv := xv.keep ((Below.refl _ _).alloc (Nat.le_refl _) (.cells #[.slice none 0 0, .int .i64 0, .int .i64 0, .int .i64 0, .int .i64 0, .int .i64 0, .int .i64 0, .int .i64 0, .int .i64 0] 36))
        try have ne := row_new_ne ow
        try have owP := ow
        try have ow := row_new ow (.cells #[.slice none 0 0, .int .i64 0, .int .i64 0, .int .i64 0, .int .i64 0, .int .i64 0, .int .i64 0, .int .i64 0, .int .i64 0] 36)
        go_simp
        refine hK.out _ _ ?_ (fun hHeld => ?_)
        · exact ⟨hA.bs.oldbox c2 hz, hA.bs.sub _ (by simp)⟩
        clear hK K
        try simp only [Act.put, zA, zB, zC, zD, zE, zF]
        refine wR 2 fun K hK => ?_
        go_simp
        refine (HVa.out _ hHeld.2.bel).mono ?_
        rintro e wv ⟨vv, rfl, ov, gv, Bv⟩
        obtain ⟨g1, cc, rfl, xv⟩ := HRow.out _ _ ov
        have hN := hHeld.2.below Bv
        try have hA := hA.below Bv
        clear ov gv Bv
        try dsimp only
        refine hK.out _ _ ?_ (fun hHeld => ?_)
        · exact ⟨hN.oldbox c2 hz, hN⟩
        clear hK K
        try simp only [Act.put, zA, zB, zC, zD, zE, zF]
        refine wR 3 fun K hK => ?_
        go_simp
        refine (HSt.out _ _ _ xv).mono ?_
        rintro e ws ⟨vs0, rfl, ow, gw, Bs⟩
        obtain ⟨pa, pc, rfl⟩ := row_shape ow
        try dsimp only [stV]
        have hN := hHeld.2.below Bs
        try have ne := hA.row_ne gw
        try have hA := hA.below Bs
        clear xv gw Bs
        try dsimp only
        refine hK.out _ _ ?_ (fun hHeld => ?_)
        · exact ⟨hN.oldbox c2 hz, hN⟩
        clear hK K
        try simp only [Act.put, zA, zB, zC, zD, zE, zF]
        refine wT 4 ?_
        refine wT 5 ?_
        refine wT 6 ?_
        refine wR 8 fun K hK => ?_
        obtain ⟨⟨k0, k1, k2, k3, k4, k5, k6, k7, k8⟩, q0, q1, q2, q3, q4, q5, q6, q7, q8⟩ := cells9 hA.box
        have hA2 : BA w2 [] _ #[.slice pa l.length pc, .int .i64 (f 0), .int .i64 (f 1), .int .i64 (f 2), .int .i64 (f 3), .int .i64 (f 4), .int .i64 (f 5), .int .i64 (f 6), .int .i64 (f 7)] 36 _ := hA.set9 (.slice pa l.length pc) (.int .i64 (f 0)) (.int .i64 (f 1)) (.int .i64 (f 2)) (.int .i64 (f 3)) (.int .i64 (f 4)) (.int .i64 (f 5)) (.int .i64 (f 6)) (.int .i64 (f 7))
        have ow2 := row_set9 ow ne (.slice pa l.length pc) (.int .i64 (f 0)) (.int .i64 (f 1)) (.int .i64 (f 2)) (.int .i64 (f 3)) (.int .i64 (f 4)) (.int .i64 (f 5)) (.int .i64 (f 6)) (.int .i64 (f 7))
        try have hA3 : BA w2 [] _ #[.slice pa l.length pc, .int .i64 (f 0), .int .i64 (f 1), .int .i64 (f 2), .int .i64 (f 3), .int .i64 (f 4), .int .i64 (f 5), .int .i64 (f 6), .int .i64 (f 7)] 36 _ := hP.2.allocd #[.slice pa l.length pc, .int .i64 (f 0), .int .i64 (f 1), .int .i64 (f 2), .int .i64 (f 3), .int .i64 (f 4), .int .i64 (f 5), .int .i64 (f 6), .int .i64 (f 7)] 36
        try have ow3 := row_new owP (.cells #[.slice pa l.length pc, .int .i64 (f 0), .int .i64 (f 1), .int .i64 (f 2), .int .i64 (f 3), .int .i64 (f 4), .int .i64 (f 5), .int .i64 (f 6), .int .i64 (f 7)] 36)
        go_simp
        refine hK.out _ _ ?_ (fun hHeld => ?_)
        · exact by first | with_reducible exact ⟨hA3.bs.oldbox c2 hz, hA3.bs.sub _ (by simp)⟩ | exact ⟨hA2.bs.oldbox c2 hz, hA2.bs.sub _ (by simp)⟩
        clear hK K
        try simp only [Act.put, zA, zB, zC, zD, zE, zF]
        refine wT 9 ?_
        refine wpAnyH_done (by kernel_rfl) (NoPanic.normal ?_) _
        refine world_gen ?_
        intro wz hwz
        first | rw [← hwz] at hA2 ow2; have hZ := hA2; have oZ := ow2 | rw [← hwz] at hA3 ow3; have hZ := hA3; have oZ := ow3
        clear hwz hA hHeld ow ow2 hA2 hP
        try clear owP
        try clear ow3 hA3
        obtain ⟨⟨k0, k1, k2, k3, k4, k5, k6, k7, k8⟩, q0, q1, q2, q3, q4, q5, q6, q7, q8⟩ := cells9 hZ.box
        have d3 := hZ.bs.oldbox HD2.out hzw
        have o3 := ownsRow_block HO2.out (fun k hk => hZ.bs.bel.block k (ownsRow_lt HO2.out hk))
        have hsm := rsame_any (l1 := l) (l2 := l) (f := f) (g := f) (ha := o3) (hb := oZ) (h1 := by have := HLn.out; omega) (h2 := by have := HLn.out; omega)
        rw [eq8_same, decide_eq_true rfl] at hsm
        have HSm := Lib.hid hsm
        clear hsm o3 oZ
        go_wp2_with fail
        refine HSm.out.mono ?_
        rintro e w6 ⟨rfl, B6⟩
        have BB := hZ.bs.bel.trans (B6.mono hZ.bs.bel.size)
        have hV3 := HV2.out.below keepsPV BB
        have c3 := ((BS.start _).below BB).oldbox c2 hz
        have d3 := ((BS.start _).below BB).oldbox HD2.out hzw
        have o3 := ownsRow_block HO2.out (fun k hk => BB.block k (ownsRow_lt HO2.out hk))
        clear hZ B6 BB k0 k1 k2 k3 k4 k5 k6 k7 k8 q0 q1 q2 q3 q4 q5 q6 q7 q8
        go_wp2_with fail
        go_roundw
        case rel => exact ⟨k + 1, c', y, by omega, by go_num, hV3, HW'.out, c3, d3, o3⟩
        case measure => simp [intOf]; omega
    · have hkp : P = k := by omega
      subst hkp
      obtain ⟨hB1, hB2, hB3, hB4, -, -, -⟩ := HB.out
      obtain ⟨S1x, p1, -, -⟩ := hV1.ex
      obtain ⟨vs', n', u', cv', hp', ck', bl', rt', hva⟩ := swept_vals p1 hw HN.out HC.out
      have hcl : ∀ x : Int, 0 ≤ x → x < P → iK (cv vs' (pl T x 0)) = 3 → cv vs' (pl T x 4) = cv vs' (pl T x 5) := by
        intro x x0 x1 h
        rw [cv' _ (by unfold pl; omega) (by unfold pl; omega)] at h
        rw [cv' _ (by unfold pl; omega) (by unfold pl; omega), cv' _ (by unfold pl; omega) (by unfold pl; omega)]
        exact hw.cl x x0 x1 x1 h
      obtain ⟨a1, a2, -⟩ := again_none HX.out.right (by rw [n']; exact HN.out) u' (by omega) hp' hcl P (Nat.le_refl _)
      have HVa := Lib.hid hva
      have HRow := Lib.hid (fun (W : World) (v : Value) (h : W.ownsRow 0 41 1 v vs'.length (uints vs')) => row_xv HX.out.right (by omega) (by rw [n']; exact HN.out) u' h)
      have HFi := Lib.hid (fun (W : World) (g g2 cc : Nat) (h : XV W T P s ⟨g, 0, none⟩ vs'.length vs') (hk : PkB W g2 T) => rfits_none (c := cc) T g2 h ck' (by omega) hk (fun x hx => hcl x (by omega) (by omega)))
      have HU' := Lib.hid u'
      have HN' := Lib.hid (show vs'.length ≤ 2147483648 by have := HN.out; omega)
      have hsa := fun (b2 : Nat) (W : World) (S : Nat → Prop) (h : PV W b2 S (wholeVS vs')) => sall_any b2 T P s W S _ h (by omega) (by omega)
      simp only [Int.toNat_natCast] at hsa
      obtain ⟨rn, y2, hy2⟩ : ∃ rb y, sweepN T P s P (wholeVS vs') = (rb, y) := ⟨_, _, rfl⟩
      rw [hy2] at hsa a1 a2
      dsimp only at hsa a1 a2
      subst a1
      have HSA := Lib.hid hsa
      have HA2 := Lib.hid a2
      have hz := (hV1.ls w.heap.size (by simp)).1
      have HB1 := Lib.hid (hV1.fr.below (Nat.le_refl _) (fun _ x => x.elim))
      have HZ1 := Lib.hid (hV1.ls w.heap.size (by simp)).2
      have hmk := make_pk T (by omega)
      have hBm := (BS.start wr).alloc (.cells (madeCells #[.slice none 0 0, .slice none 0 0, .slice none 0 0, .slice none 0 0, .slice none 0 0, .slice none 0 0, .slice none 0 0, .slice none 0 0, .slice none 0 0] (T * 9)) 79)
      have hPk := made_pk T wr
      have c2 := loc_old (.cells (madeCells #[.slice none 0 0, .slice none 0 0, .slice none 0 0, .slice none 0 0, .slice none 0 0, .slice none 0 0, .slice none 0 0, .slice none 0 0, .slice none 0 0] (T * 9)) 79) hz c1
      have HC1 := Lib.hid c1
      clear hva n' u' cv' hp' ck' bl' rt' p1 hV1 d1 o1 hw hcl a2 hsa hy2 hk hlt
      go_wp2_with fail
      refine wp_region_noPanic ?_
      refine wp_region_held_drew (S := fun w' => (∀ o : Nat, w'.cell? ⟨w.heap.size, o, none⟩ = (#[.int .i64 T, .int .i64 P, .int .i64 s] : Array Value)[o]?) ∧ BS wr [] w' ∧ PkB w' wr.heap.size T) (by kernel_rfl) ?_ (fun hHeld => ?_)
      · exact ⟨c2, (hBm.sub [] (by simp)).drew, hPk.keep ((Below.refl _ _).drew)⟩
      refine wT 0 ?_
      refine wT 1 ?_
      refine wT 3 ?_
      refine wR 2 fun K hK => ?_
      go_simp
      refine (HVa.out _ hHeld.2.1.bel).mono ?_
      rintro e wv ⟨vv, rfl, ov, gv, Bv⟩
      obtain ⟨g1, cc, rfl, xv⟩ := HRow.out _ _ ov
      have hN := hHeld.2.1.below Bv
      have hPn := hHeld.2.2.keep Bv
      clear ov gv Bv
      try dsimp only
      refine hK.out _ _ ?_ (fun hHeld => ?_)
      · exact ⟨hN.oldbox HC1.out hz, hN, hPn⟩
      clear hK K
      try simp only [Act.put, zA, zB, zC, zD, zE, zF]
      refine wR 4 fun K hK => ?_
      go_simp
      refine (HFi.out _ _ _ _ xv hPn).mono ?_
      rintro e wf ⟨rfl, Bf⟩
      have hN2 := hN.below Bf
      try dsimp only
      refine hK.out _ _ ?_ (fun hHeld => ?_)
      · exact ⟨hN2.oldbox HC1.out hz, hN2, hPn.keep Bf⟩
      clear hK K
      try simp only [Act.put, zA, zB, zC, zD, zE, zF]
      refine wT 5 ?_
      refine wpAnyH_done (by kernel_rfl) (NoPanic.normal ?_) _
      have c5 := hN2.oldbox HC1.out hz
      clear xv hPn hN Bf hHeld c2 hmk hBm hPk
      go_wp2_with fail
      refine (HVa.out _ hN2.bel).mono ?_
      rintro e wv2 ⟨vv2, rfl, ov2, gv2, Bv2⟩
      have hN3 := hN2.below Bv2
      go_wp2_with fail
      refine (whole_any _ vs' _ (Rd.of_row ov2) HN'.out HU'.out).mono ?_
      rintro e w7 ⟨b2, rfl, P7, B7⟩
      have hbel := HB1.out.trans (hN3.bel.mono HB1.out.size)
      have hV7 : VSt PV w b2 (fun _ => False) [w.heap.size] (wholeVS vs') w7 := by
        refine VSt.of_new P7 (hbel.trans (B7.mono hbel.size)) hbel.size (fun L hL => ?_) B7.size
        simp only [List.mem_singleton] at hL
        subst hL
        exact ⟨Nat.lt_of_lt_of_le hz hN3.bel.size, HZ1.out⟩
      have c7 := (hN3.below B7).oldbox HC1.out hz
      clear ov2 gv2 Bv2 c5 hN2 P7 B7 hN3 hbel
      go_wp2_with fail
      refine (calls_st hV7 (HSA.out _ _)).mono ?_
      rintro e w8 ⟨rfl, hV8, hV8l⟩
      have c8 := loc_step hV8l (by simp) c7
      clear hV8l
      obtain ⟨S8x, p8, -, -⟩ := hV8.ex
      have HP8 := Lib.hid p8
      have HB8 := Lib.hid (hV8.fr.below (Nat.le_refl _) (fun _ x => x.elim))
      clear p8 hV8 c8 hV7 c7
      go_wp2_with fail
      refine (writes_any _ _ _ _ HP8.out).mono ?_
      rintro e w9 ⟨vq, rfl, oq, -, Bq⟩
      rw [HA2.out] at oq
      obtain ⟨qa, qc, rfl⟩ := row_shape oq
      simp only [List.length_nil]
      have HB9 := Lib.hid (HB8.out.trans (Bq.mono HB8.out.size))
      clear oq Bq
      go_wp2_with fail
      refine (HL.out _).mono ?_
      rintro e wl ⟨rfl, Bl⟩
      go_wp2
      go_ret
      exact ⟨rfl, HB9.out.trans (Bl.mono HB9.out.size)⟩
end Go.Proofs.YtpmoajhpgekhcaaGreat
