/- the walk of AuditStates. -/
import Derived.Test.YtcicmljnjdhkjaaGreatMckT
set_option linter.unusedSimpArgs false
set_option linter.unusedVariables false
namespace Go.Proofs.YtcicmljnjdhkjaaGreat
open Go.ChangeShapes Go.RowKit
theorem eq8_self (f : Nat → Int) : eq8 f f = true := by simp [eq8]
/-- both tell one state of values. -/
theorem states_alike (t p s : Int) (sv : Value) (vals : List Int) (w : World) (hR : Rd w sv 1 vals.length (uints vals)) (hu : ∀ u ∈ vals, VS.U32 u) (hp : p ≤ 64) :
    ∃ (l : List (Int × Int)) (f : Nat → Int) (ok : Bool), l.length ≤ 2112 ∧
      (∀ W, Below w.heap.size w W → Calls Tryz.prog 25 #[.agg #[.int .i64 t, .int .i64 p, .int .i64 s], sv] W fun e W' => ∃ v, e = .returned (.tuple #[stV v f, .bool ok]) ∧ RowB W l v W') ∧
      (∀ W, Below w.heap.size w W → Calls Tryz.prog 16 #[.agg #[.int .i64 t, .int .i64 p, .int .i64 s], sv] W fun e W' => ∃ v, e = .returned (.tuple #[stV v f, .bool ok]) ∧ RowB W l v W') ∧
      (∀ W, Below w.heap.size w W → Calls Tryz.prog 26 #[.agg #[.int .i64 t, .int .i64 p, .int .i64 s], sv] W fun e W' => ∃ v, e = .returned v ∧ RowB W l v W') := by
  by_cases hg : rightB t p s = true ∧ (vals.length : Int) = cellsN t p
  · obtain ⟨hr, hn⟩ := hg
    have bd := right_bd hr
    obtain ⟨P, rfl⟩ : ∃ P : Nat, p = P := ⟨p.toNat, by omega⟩
    obtain ⟨ad, c, rfl, hx⟩ := hR.xv hu hr hp hn
    cases hs : (chkF vals t P s).2
    · have hpos := (chk_eq vals t P s).2.2.1 hs
      refine ⟨[], fun _ => 0, false, by simp, fun W hb => ?_, fun W hb => ?_, fun W hb => ?_⟩
      · refine (pstate_bad (some ad) _ c (chkF vals t P s).1 hpos (fun W2 hb2 => ?_)).mono ?_
        · refine (psee_any (hx.keep (hb.trans (hb2.mono hb.size))) c (hx.keep (hb.trans (hb2.mono hb.size))).old).mono ?_
          rintro e W' ⟨b, mb, rfl, r, -⟩
          exact ⟨⟨b, rfl⟩, r⟩
        · rintro e W' ⟨rfl, r⟩; exact ⟨.slice none 0 0, rfl, rowB_nil r⟩
      · refine (rstate_none (some ad) _ c (fun W2 hb2 => ?_)).mono ?_
        · have := rsound_any c W2 (hx.keep (hb.trans (hb2.mono hb.size)))
          rwa [hs] at this
        · rintro e W' ⟨rfl, r⟩; exact ⟨.slice none 0 0, rfl, rowB_nil r⟩
      · refine (plive_sick (hx.keep hb) c hs).mono ?_
        rintro e W' ⟨rfl, r⟩; exact ⟨_, rfl, rowB_nil r⟩
    · refine ⟨blocksF vals t P s, rootsV vals, true, ?_, fun W hb => pstate_heap (hx.keep hb) c hs, fun W hb => ?_, fun W hb => plive_heap (hx.keep hb) c hs⟩
      · have h1 := partsL_len vals t s (P : Int).toNat
        have h2 := hx.bd
        have h3 := liveL_len (partsF vals t P s)
        have h4 : (partsF vals t P s).length = (partsL vals t s (P : Int).toNat).length := rfl
        unfold blocksF; omega
      · refine (rstate_any c W (hx.keep hb) hs).mono ?_
        rintro e W' ⟨v, rfl, r⟩
        exact ⟨v, rfl, r⟩
  · obtain ⟨a, c, rfl⟩ := rd12_len hR
    have hno : rightB t p s = false ∨ (vals.length : Int) ≠ cellsN t p := by
      cases hr : rightB t p s
      · exact Or.inl rfl
      · exact Or.inr fun h => hg ⟨hr, h⟩
    refine ⟨[], fun _ => 0, false, by simp, fun W hb => ?_, fun W hb => ?_, fun W hb => ?_⟩
    · refine (pstate_bad a _ c 1 (by omega) (fun W2 _ => psee_no a _ c hno)).mono ?_
      rintro e W' ⟨rfl, r⟩; exact ⟨.slice none 0 0, rfl, rowB_nil r⟩
    · refine (rstate_none a _ c (fun W2 _ => rsound_no a _ c W2 hno)).mono ?_
      rintro e W' ⟨rfl, r⟩; exact ⟨.slice none 0 0, rfl, rowB_nil r⟩
    · refine (plive_no a _ c hno).mono ?_
      rintro e W' ⟨rfl, r⟩; exact ⟨_, rfl, rowB_nil r⟩
def stC (v : Value) (f : Nat → Int) : Array Value := #[v, .int .i64 (f 0), .int .i64 (f 1), .int .i64 (f 2), .int .i64 (f 3), .int .i64 (f 4), .int .i64 (f 5), .int .i64 (f 6), .int .i64 (f 7)]
set_option maxHeartbeats 4000000 in
set_option maxRecDepth 100000 in
theorem astates_main (t p s : Int) (sva svb : Value) (as1 bs1 : List Int) (w : World) (hRa : Rd w sva 1 as1.length (uints as1)) (hua : ∀ u ∈ as1, VS.U32 u) (hRb : Rd w svb 1 bs1.length (uints bs1)) (hub : ∀ u ∈ bs1, VS.U32 u) (hp : p ≤ 64) :
    Calls Tryz.prog 6 #[.agg #[.int .i64 t, .int .i64 p, .int .i64 s], sva, svb] w fun e W' => e = .returned (.bool true) ∧ Below w.heap.size w W' := by
  have HF := Lib.hid (fun w => few12_any t p s w)
  have HL := Lib.hid (fun w => alive_any w)
  have c0 := loc_alloc w #[.int .i64 t, .int .i64 p, .int .i64 s] 23
  have S0 := ((BS.start w).alloc (.cells #[.int .i64 t, .int .i64 p, .int .i64 s] 23))
  have hd : decide (p ≤ 64) = true := by simpa using hp
  rw [hd] at HF
  obtain ⟨l, f, ok, hll, h1, h2, h3⟩ := states_alike t p s sva as1 w hRa hua hp
  obtain ⟨m, g, ok2, hml, -, h5, -⟩ := states_alike t p s svb bs1 w hRb hub hp
  obtain ⟨sa, sc, rfl⟩ := rd12_len hRa
  obtain ⟨sb, sd, rfl⟩ := rd12_len hRb
  unfold stV at h1 h2 h5
  have H1 := Lib.hid h1
  have H2 := Lib.hid h2
  have H3 := Lib.hid h3
  have H5 := Lib.hid h5
  have HE := Lib.hid (fun va vb W ha hb => rsame_any l l va vb f f W ha hb (by omega) (by omega))
  have HE0 := Lib.hid (fun va vb W ha hb => rsame_any l l va vb (fun _ => 0) (fun _ => 0) W ha hb (by omega) (by omega))
  have HRm := Lib.hid (fun va vb W ha hb => rsame_any l m va vb f g W ha hb (by omega) (by omega))
  have HPm := Lib.hid (fun va vb W ha hb => psame_any l m va vb f g W ha hb (by omega) (by omega))
  have HPl := Lib.hid (fun va vb W ha hb => psame_any l l va vb f f W ha hb (by omega) (by omega))
  simp only [decide_true, Bool.true_and, eq8_self] at HE HE0 HPl
  unfold stV at HE HE0 HRm HPm HPl
  generalize (decide (l = m) && eq8 f g) = z at *
  have hokb : (ok != ok) = false := by simp
  clear h1 h2 h3 h5 hd hp hRa hRb hua hub hll hml
  have hzz : (z == z) = true := by simp
  cases ok
  all_goals
    go_enter Tryz.func6, Tryz.ntmps6
    go_wp2_with fail
    refine (calls_b S0 (HF.out _)).mono ?_
    rintro e w1 ⟨rfl, S1, S1l⟩
    have c1 := loc_step S1l (by simp) c0
    clear S1l
    clear S0 c0 HF
    go_wp2_with fail
    refine (H1.out _ S1.bel).mono ?_
    rintro e w2 ⟨v2, rfl, o2, -, b2⟩
    obtain ⟨a2, d2, rfl⟩ := row_shape o2
    have S2 := (S1.below b2).alloc (.cells (stC (.slice a2 l.length d2) f) 33)
    have c2 := loc_old (.cells (stC (.slice a2 l.length d2) f) 33) ((S1.below b2).ls w.heap.size (by simp)).1 (((BS.start _).below b2).oldbox c1 (S1.ls w.heap.size (by simp)).1)
    have x2 := loc_alloc w2 (stC (.slice a2 l.length d2) f) 33
    have o2a := o2.alloc (.cells (stC (.slice a2 l.length d2) f) 33)
    unfold stC at S2 c2 x2 o2a
    clear S1 c1 b2 o2 H1
    go_wp2_with fail
    refine (H2.out _ S2.bel).mono ?_
    rintro e w3 ⟨v3, rfl, o3, -, b3⟩
    obtain ⟨a3, d3, rfl⟩ := row_shape o3
    have S3 := (S2.below b3).alloc (.cells (stC (.slice a3 l.length d3) f) 33)
    have c3 := loc_old (.cells (stC (.slice a3 l.length d3) f) 33) ((S2.below b3).ls w.heap.size (by simp)).1 (((BS.start _).below b3).oldbox c2 (S2.ls w.heap.size (by simp)).1)
    have x3 := loc_old (.cells (stC (.slice a3 l.length d3) f) 33) ((S2.below b3).ls w2.heap.size (by simp)).1 (((BS.start _).below b3).oldbox x2 (S2.ls w2.heap.size (by simp)).1)
    have y3 := loc_alloc w3 (stC (.slice a3 l.length d3) f) 33
    have o3a := (((BS.start _).below b3).row o2a).alloc (.cells (stC (.slice a3 l.length d3) f) 33)
    have o3b := o3.alloc (.cells (stC (.slice a3 l.length d3) f) 33)
    unfold stC at S3 c3 x3 y3 o3a o3b
    clear S2 c2 x2 o2a b3 o3 H2
    go_wp2_with fail
    refine (H5.out _ S3.bel).mono ?_
    rintro e w4 ⟨v4, rfl, o4, -, b4⟩
    obtain ⟨a4, d4, rfl⟩ := row_shape o4
    have S4 := (S3.below b4).alloc (.cells (stC (.slice a4 m.length d4) g) 33)
    have c4 := loc_old (.cells (stC (.slice a4 m.length d4) g) 33) ((S3.below b4).ls w.heap.size (by simp)).1 (((BS.start _).below b4).oldbox c3 (S3.ls w.heap.size (by simp)).1)
    have x4 := loc_old (.cells (stC (.slice a4 m.length d4) g) 33) ((S3.below b4).ls w2.heap.size (by simp)).1 (((BS.start _).below b4).oldbox x3 (S3.ls w2.heap.size (by simp)).1)
    have y4 := loc_old (.cells (stC (.slice a4 m.length d4) g) 33) ((S3.below b4).ls w3.heap.size (by simp)).1 (((BS.start _).below b4).oldbox y3 (S3.ls w3.heap.size (by simp)).1)
    have z4 := loc_alloc w4 (stC (.slice a4 m.length d4) g) 33
    have o4a := (((BS.start _).below b4).row o3a).alloc (.cells (stC (.slice a4 m.length d4) g) 33)
    have o4b := (((BS.start _).below b4).row o3b).alloc (.cells (stC (.slice a4 m.length d4) g) 33)
    have o4c := o4.alloc (.cells (stC (.slice a4 m.length d4) g) 33)
    unfold stC at S4 c4 x4 y4 z4 o4a o4b o4c
    clear S3 c3 x3 y3 o3a o3b b4 o4 H5
    go_wp2_with fail
    refine (H3.out _ S4.bel).mono ?_
    rintro e w5 ⟨v5, rfl, o5, -, b5⟩
    obtain ⟨a5, d5, rfl⟩ := row_shape o5
    have S5 := S4.below b5
    have x5 := ((BS.start _).below b5).oldbox x4 (S4.ls w2.heap.size (by simp)).1
    have y5 := ((BS.start _).below b5).oldbox y4 (S4.ls w3.heap.size (by simp)).1
    have z5 := ((BS.start _).below b5).oldbox z4 (S4.ls w4.heap.size (by simp)).1
    have p5a := ((BS.start _).below b5).row o4a
    have p5b := ((BS.start _).below b5).row o4b
    have p5c := ((BS.start _).below b5).row o4c
    clear S4 c4 x4 y4 z4 o4a o4b o4c b5 H3
    go_wp2_with fail
    refine (HE.out _ _ _ p5a p5b).mono ?_
    rintro e w6 ⟨rfl, b6⟩
    have S6 := S5.below b6
    have x6 := ((BS.start _).below b6).oldbox x5 (S5.ls w2.heap.size (by simp)).1
    have y6 := ((BS.start _).below b6).oldbox y5 (S5.ls w3.heap.size (by simp)).1
    have z6 := ((BS.start _).below b6).oldbox z5 (S5.ls w4.heap.size (by simp)).1
    have p6a := ((BS.start _).below b6).row p5a
    have p6b := ((BS.start _).below b6).row p5b
    have p6c := ((BS.start _).below b6).row p5c
    have p6d := ((BS.start _).below b6).row o5
    clear S5 x5 y5 z5 p5a p5b p5c o5 b6 HE
    go_wp2_with fail
    refine (HE0.out _ _ _ p6d p6b).mono ?_
    rintro e w7 ⟨rfl, b7⟩
    have S7 := S6.below b7
    have x7 := ((BS.start _).below b7).oldbox x6 (S6.ls w2.heap.size (by simp)).1
    have y7 := ((BS.start _).below b7).oldbox y6 (S6.ls w3.heap.size (by simp)).1
    have z7 := ((BS.start _).below b7).oldbox z6 (S6.ls w4.heap.size (by simp)).1
    have p7a := ownsRow_block (w' := w7.drew) (((BS.start _).below b7).row p6a) (fun _ _ => rfl)
    have p7b := ownsRow_block (w' := w7.drew) (((BS.start _).below b7).row p6b) (fun _ _ => rfl)
    have p7c := ownsRow_block (w' := w7.drew) (((BS.start _).below b7).row p6c) (fun _ _ => rfl)
    clear S6 x6 y6 z6 p6a p6b p6c p6d b7 HE0
    go_wp2_with fail
    refine wp_region_noPanic ?_
    refine wp_region_held_drew (S := fun w' => (∀ o : Nat, w'.cell? ⟨w2.heap.size, o, none⟩ = (#[.slice a2 l.length d2, .int .i64 (f 0), .int .i64 (f 1), .int .i64 (f 2), .int .i64 (f 3), .int .i64 (f 4), .int .i64 (f 5), .int .i64 (f 6), .int .i64 (f 7)] : Array Value)[o]?) ∧ (∀ o : Nat, w'.cell? ⟨w3.heap.size, o, none⟩ = (#[.slice a3 l.length d3, .int .i64 (f 0), .int .i64 (f 1), .int .i64 (f 2), .int .i64 (f 3), .int .i64 (f 4), .int .i64 (f 5), .int .i64 (f 6), .int .i64 (f 7)] : Array Value)[o]?) ∧ (∀ o : Nat, w'.cell? ⟨w4.heap.size, o, none⟩ = (#[.slice a4 m.length d4, .int .i64 (g 0), .int .i64 (g 1), .int .i64 (g 2), .int .i64 (g 3), .int .i64 (g 4), .int .i64 (g 5), .int .i64 (g 6), .int .i64 (g 7)] : Array Value)[o]?)) (by kernel_rfl) ?_ (fun hHeld => ?_)
    · exact ⟨x7, y7, z7⟩
    refine wpAnyH_take (i := 0) (oi := _) (v := ?_) rfl (by kernel_rfl) (by kernel_rfl) (by kernel_rfl) (fun _ _ _ h => h) (Or.inl ⟨by rfl, ?_⟩) (by assumption) ?_
    rotate_left
    · intro w hSw; (try dsimp only at hSw); go_simp; try with_reducible rfl
    try simp only [Act.put, zA, zB, zD, zE, zF]
    refine wpAnyH_take (i := 1) (oi := _) (v := ?_) rfl (by kernel_rfl) (by kernel_rfl) (by kernel_rfl) (fun _ _ _ h => h) (Or.inl ⟨by rfl, ?_⟩) (by assumption) ?_
    rotate_left
    · intro w hSw; (try dsimp only at hSw); go_simp; try with_reducible rfl
    try simp only [Act.put, zA, zB, zC, zD, zE, zF]
    refine wpAnyH_take (i := 3) (oi := _) (v := ?_) rfl (by kernel_rfl) (by kernel_rfl) (by kernel_rfl) (fun _ _ _ h => h) (Or.inl ⟨by rfl, ?_⟩) (by assumption) ?_
    rotate_left
    · intro w hSw; (try dsimp only at hSw); go_simp; try with_reducible rfl
    try simp only [Act.put, zA, zB, zC, zD, zE, zF]
    refine wpAnyH_take (i := 4) (oi := _) (v := ?_) rfl (by kernel_rfl) (by kernel_rfl) (by kernel_rfl) (fun _ _ _ h => h) (Or.inl ⟨by rfl, ?_⟩) (by assumption) ?_
    rotate_left
    · intro w hSw; (try dsimp only at hSw); go_simp; try with_reducible rfl
    try simp only [Act.put, zA, zB, zC, zD, zE, zF]
    refine wpAnyH_ready (rs := [2]) (by kernel_rfl) (by simp) ?_
    refine AllReadyH.cons (o := _) rfl (fun K hK => ?_) AllReadyH.nil
    go_simp
    refine (HPm.out _ _ _ p7a p7c).mono ?_
    rintro e w8 ⟨rfl, b8⟩
    have S8 := S7.drew.below b8
    have p8b := ((BS.start _).below b8).row p7b
    have p8c := ((BS.start _).below b8).row p7c
    have p8a := ((BS.start _).below b8).row p7a
    have k8 := And.intro (((BS.start _).below b8).oldbox hHeld.1 (S7.drew.ls w2.heap.size (by simp)).1) (And.intro (((BS.start _).below b8).oldbox hHeld.2.1 (S7.drew.ls w3.heap.size (by simp)).1) (((BS.start _).below b8).oldbox hHeld.2.2 (S7.drew.ls w4.heap.size (by simp)).1))
    refine hK.out _ _ ?_ (fun hHeld => ?_)
    · exact k8
    clear hK K
    try simp only [Act.put, zA, zB, zC, zD, zE, zF]
    refine wpAnyH_ready (rs := [5]) (by kernel_rfl) (by simp) ?_
    refine AllReadyH.cons (o := _) rfl (fun K hK => ?_) AllReadyH.nil
    go_simp
    refine (HRm.out _ _ _ p8b p8c).mono ?_
    rintro e w9 ⟨rfl, b9⟩
    have S9 := S8.below b9
    have p9a := ((BS.start _).below b9).row p8a
    have k9 := And.intro (((BS.start _).below b9).oldbox hHeld.1 (S8.ls w2.heap.size (by simp)).1) (And.intro (((BS.start _).below b9).oldbox hHeld.2.1 (S8.ls w3.heap.size (by simp)).1) (((BS.start _).below b9).oldbox hHeld.2.2 (S8.ls w4.heap.size (by simp)).1))
    refine hK.out _ _ ?_ (fun hHeld => ?_)
    · exact k9
    clear hK K
    try simp only [Act.put, zA, zB, zC, zD, zE, zF]
    refine wpAnyH_take (i := 6) (oi := _) (v := ?_) rfl (by kernel_rfl) (by kernel_rfl) (by kernel_rfl) (fun _ _ _ h => h) (Or.inl ⟨by rfl, ?_⟩) (by assumption) ?_
    rotate_left
    · intro w hSw; (try dsimp only at hSw); go_simp; try with_reducible rfl
    try simp only [Act.put, zA, zB, zC, zD, zE, zF]
    refine wpAnyH_take (i := 7) (oi := _) (v := ?_) rfl (by kernel_rfl) (by kernel_rfl) (by kernel_rfl) (fun _ _ _ h => h) (Or.inl ⟨by rfl, ?_⟩) (by assumption) ?_
    rotate_left
    · intro w hSw; (try dsimp only at hSw); go_simp; try with_reducible rfl
    try simp only [Act.put, zA, zB, zC, zD, zE, zF]
    refine wpAnyH_take (i := 8) (oi := _) (v := ?_) rfl (by kernel_rfl) (by kernel_rfl) (by kernel_rfl) (fun _ _ _ h => h) (Or.inl ⟨by rfl, ?_⟩) (by assumption) ?_
    rotate_left
    · intro w hSw; (try dsimp only at hSw); go_simp; try with_reducible rfl
    try simp only [Act.put, zA, zB, zC, zD, zE, zF]
    refine wpAnyH_take (i := 9) (oi := _) (v := ?_) rfl (by kernel_rfl) (by kernel_rfl) (by kernel_rfl) (fun _ _ _ h => h) (Or.inl ⟨by rfl, ?_⟩) (by assumption) ?_
    rotate_left
    · intro w hSw; (try dsimp only at hSw); go_simp; try with_reducible rfl
    try simp only [Act.put, zA, zB, zC, zD, zE, zF]
    refine wpAnyH_ready (rs := [10]) (by kernel_rfl) (by simp) ?_
    refine AllReadyH.cons (o := _) rfl (fun K hK => ?_) AllReadyH.nil
    go_simp
    refine (HPl.out _ _ _ p9a p9a).mono ?_
    rintro e w10 ⟨rfl, b10⟩
    have S10 := S9.below b10
    have k10 := And.intro (((BS.start _).below b10).oldbox hHeld.1 (S9.ls w2.heap.size (by simp)).1) (And.intro (((BS.start _).below b10).oldbox hHeld.2.1 (S9.ls w3.heap.size (by simp)).1) (((BS.start _).below b10).oldbox hHeld.2.2 (S9.ls w4.heap.size (by simp)).1))
    refine hK.out _ _ ?_ (fun hHeld => ?_)
    · exact k10
    clear hK K
    try simp only [Act.put, zA, zB, zC, zD, zE, zF]
    refine wpAnyH_take (i := 11) (oi := _) (v := ?_) rfl (by kernel_rfl) (by kernel_rfl) (by kernel_rfl) (fun _ _ _ h => h) (Or.inl ⟨by rfl, ?_⟩) (by assumption) ?_
    rotate_left
    · intro w hSw; (try dsimp only at hSw); go_simp; try with_reducible rfl
    try simp only [Act.put, zA, zB, zC, zD, zE, zF]
    refine wpAnyH_take (i := 12) (oi := _) (v := ?_) rfl (by kernel_rfl) (by kernel_rfl) (by kernel_rfl) (fun _ _ _ h => h) (Or.inl ⟨by rfl, ?_⟩) (by assumption) ?_
    rotate_left
    · intro w hSw; (try dsimp only at hSw); go_simp; try with_reducible rfl
    try simp only [Act.put, zA, zB, zC, zD, zE, zF]
    refine wpAnyH_ready (rs := [13]) (by kernel_rfl) (by simp) ?_
    refine AllReadyH.cons (o := _) rfl (fun K hK => ?_) AllReadyH.nil
    go_simp
    refine (HL.out _).mono ?_
    rintro e w11 ⟨rfl, b11⟩
    have S11 := S10.below b11
    have k11 := And.intro (((BS.start _).below b11).oldbox hHeld.1 (S10.ls w2.heap.size (by simp)).1) (And.intro (((BS.start _).below b11).oldbox hHeld.2.1 (S10.ls w3.heap.size (by simp)).1) (((BS.start _).below b11).oldbox hHeld.2.2 (S10.ls w4.heap.size (by simp)).1))
    refine hK.out _ _ ?_ (fun hHeld => ?_)
    · exact k11
    clear hK K
    try simp only [Act.put, zA, zB, zC, zD, zE, zF]
    refine wpAnyH_take (i := 14) (oi := _) (v := ?_) rfl (by kernel_rfl) (by kernel_rfl) (by kernel_rfl) (fun _ _ _ h => h) (Or.inl ⟨by rfl, ?_⟩) (by assumption) ?_
    rotate_left
    · intro w hSw; (try dsimp only at hSw); go_simp; try with_reducible rfl
    try simp only [Act.put, zA, zB, zC, zD, zE, zF]
    refine wpAnyH_take (i := 15) (oi := _) (v := ?_) rfl (by kernel_rfl) (by kernel_rfl) (by kernel_rfl) (fun _ _ _ h => h) (Or.inl ⟨by rfl, ?_⟩) (by assumption) ?_
    rotate_left
    · intro w hSw; (try dsimp only at hSw); go_simp; try with_reducible rfl
    try simp only [Act.put, zA, zB, zC, zD, zE, zF]
    refine wpAnyH_done (by kernel_rfl) ?_ _
    refine NoPanic.normal ?_
    go_wp2
    go_ret
    exact ⟨rfl, S11.bel⟩
theorem astates_any (t p s : Int) (sva svb : Value) (as1 bs1 : List Int) (w : World) (hRa : Rd w sva 1 as1.length (uints as1)) (hua : ∀ u ∈ as1, VS.U32 u) (hRb : Rd w svb 1 bs1.length (uints bs1)) (hub : ∀ u ∈ bs1, VS.U32 u) :
    Calls Tryz.prog 6 #[.agg #[.int .i64 t, .int .i64 p, .int .i64 s], sva, svb] w fun e W' => e = .returned (.bool true) ∧ Below w.heap.size w W' := by
  by_cases hp : p ≤ 64
  · exact astates_main t p s sva svb as1 bs1 w hRa hua hRb hub hp
  · have HF := Lib.hid (fun w => few12_any t p s w)
    have HL := Lib.hid (fun w => alive_any w)
    have c0 := loc_alloc w #[.int .i64 t, .int .i64 p, .int .i64 s] 23
    have S0 := ((BS.start w).alloc (.cells #[.int .i64 t, .int .i64 p, .int .i64 s] 23))
    have hd : decide (p ≤ 64) = false := by simpa using hp
    rw [hd] at HF
    obtain ⟨sa, sc, rfl⟩ := rd12_len hRa
    obtain ⟨sb, sd, rfl⟩ := rd12_len hRb
    clear hd hp hRa hRb hua hub
    go_enter Tryz.func6, Tryz.ntmps6
    go_wp2_with fail
    refine (calls_b S0 (HF.out _)).mono ?_
    rintro e w1 ⟨rfl, S1, S1l⟩
    have c1 := loc_step S1l (by simp) c0
    clear S1l
    go_wp2_with fail
    refine (HL.out _).mono ?_
    rintro e w4 ⟨rfl, r4⟩
    go_wp2
    go_ret
    exact ⟨rfl, S1.bel.trans (r4.mono S1.bel.size)⟩
end Go.Proofs.YtcicmljnjdhkjaaGreat
