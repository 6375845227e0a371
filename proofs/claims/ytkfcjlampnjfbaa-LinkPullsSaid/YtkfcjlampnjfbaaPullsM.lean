/- LinkPulls: the law's walk on a heap. -/
import Derived.Test.YtkfcjlampnjfbaaWalksM
namespace Go.Proofs.Ytkfcjlampnjfbaa
open Go.RowKit
section
variable {t p s : Int} {ad : Addr} {n c : Nat} {vs : List Int}

theorem row_some {w : World} {e sz n : Nat} {v : Value} {xs : List Value} (h : w.ownsRow 0 e sz v n xs) (hn : v ≠ .slice none 0 0) : ∃ g cap, v = .slice (some ⟨g, 0, none⟩) n cap := by
  rcases h.2 with ⟨h1, h2⟩ | ⟨g, cap, cur, h1, -⟩
  · exact absurd h1 hn
  · exact ⟨g, cap, h1⟩

theorem row_past {w w' : World} {ob : Obj} {row : Option Nat} {e sz n : Nat} {v : Value} {xs : List Value} (hr : w.ownsRow 0 e sz v n xs) (hg : (w.alloc ob).grownBy w' row) (hrow : ∀ k, row = some k → w.heap.size ≤ k) : w'.ownsRow 0 e sz v n xs :=
  ownsRow_block hr fun k hk => by
    have hl := ownsRow_lt hr hk
    exact (hg.block k (by simp; omega) (fun e => by have := hrow k e.symm; omega)).trans (heap_alloc_old _ _ hl)
theorem loc_past {w w' : World} {ob : Obj} {row : Option Nat} {L : Nat} {cs : Array Value} (hc : ∀ o : Nat, w.cell? ⟨L, o, none⟩ = cs[o]?) (hl : L < w.heap.size) (hg : (w.alloc ob).grownBy w' row) (hrow : ∀ k, row = some k → w.heap.size ≤ k) : ∀ o : Nat, w'.cell? ⟨L, o, none⟩ = cs[o]? :=
  loc_grown hg (by simp; omega) (fun e => by have := hrow L e; omega) (loc_old _ hl hc)
/-- Walk, beside boxes; and where the new row lies. -/
theorem calls_walk2 {w0 w : World} {b : Nat} {S : Nat → Prop} {Ls : List Nat} {s : VS} {P : Program} {f : FuncId} {args : Array Value} {l : List Int} {u : VS} (h : VSt PV w0 b S Ls s w)
    (hc : ∀ S1, PV w b S1 s → Calls P f args w (WalkP w b S1 l u)) :
    Calls P f args w fun e w' => ∃ v, e = .returned v ∧ (VSt PV w0 b S (v.ownBlock.toList ++ Ls) u w' ∧ ∀ L ∈ Ls, w'.heap[L]? = w.heap[L]?) ∧ w'.ownsRow 0 3 1 v l.length (ints l) ∧ ∀ k, v.ownBlock = some k → w.heap.size ≤ k := by
  obtain ⟨S1, h1, h2, h4⟩ := h.ex
  refine (hc S1 h1).mono ?_
  rintro e w' ⟨v, he, ho, hV⟩
  obtain ⟨S2, k1, k2, k4⟩ := hV.ex
  refine ⟨v, he, ⟨⟨⟨S2, k1, fun k hk => ?_, fun L hL => ?_⟩, h.fr.trans hV.fr h2, fun L hL => ?_, h.s0⟩, fun L hL => hV.fr.block L (h.ls L hL).1 (h4 L hL)⟩, ho, fun k hk => (hV.ls k (by simp [hk])).2⟩
  · rcases k2 k hk with x | x
    · exact h2 k x
    · exact Or.inr (Nat.le_trans h.fr.size x)
  · simp at hL
    rcases hL with hL | hL
    · exact k4 L (by simp [hL])
    · intro x
      rcases k2 L x with y | y
      · exact h4 L hL y
      · have := (h.ls L hL).1; omega
  · simp at hL
    rcases hL with hL | hL
    · have := hV.ls L (by simp [hL]); have := h.fr.size; omega
    · have := h.ls L hL; have := hV.fr.size; omega
theorem VSt.right {w0 w : World} {b : Nat} {S : Nat → Prop} {A Ls : List Nat} {s : VS} (h : VSt PV w0 b S (A ++ Ls) s w) : VSt PV w0 b S Ls s w := h.sub _ fun _ hL => List.mem_append_right _ hL

set_option maxHeartbeats 3000000 in
set_option maxRecDepth 100000 in
theorem lpulls_main (x0 : Nat) (x1 : Int) (c : Nat) (w : World) (h : XV w t p s ad n vs) (hk : (chkF vs t p s).2 = true) (h2 : 2 ≤ x0) (h21 : x0 ≤ 21) :
    Calls Try.prog 4 #[.agg #[.int .i64 t, .int .i64 p, .int .i64 s], .slice (some ad) n c, .agg #[.int .i64 x0, .int .i64 x1]] w fun e w' => e = .returned (.bool true) ∧ Below w.heap.size w w' := by
  have HF := Lib.hid (show ∀ w, Calls Try.prog 19 #[.agg #[.int .i64 t, .int .i64 p, .int .i64 s]] w fun e w' => e = .returned (.bool true) ∧ Below w.heap.size w w' by
    intro w
    have := few_any t p s w
    rwa [show decide (p ≤ 64) = true by simp; exact h.few] at this)
  have HS := Lib.hid (show ∀ w, XV w t p s ad n vs → Calls Try.prog 20 #[.agg #[.int .i64 t, .int .i64 p, .int .i64 s], .slice (some ad) n c] w fun e w' => e = .returned (.bool true) ∧ Below w.heap.size w w' by
    intro w hw
    have := rsound_any c w hw
    rwa [hk] at this)
  have bd := h.bd
  have hlen := h.len
  have hp : p ≤ 64 := h.few
  have hok := sound_ok h.u32 (by omega) hk x0 h2 h21
  have hln := listF_len (vs := vs) (t := t) (p := p) (by omega) x0
  generalize (listF vs t p x0).1 = l at *
  obtain ⟨hw0, hv0⟩ := (whole_hv h.right (show (vs.length : Int) = 30 + 4 * t + 6 * p by rw [hlen]; omega)).walk (a := (x0 : Int)) (by omega) (by omega) hok
  have HV0 := Lib.hid hv0
  have HW0 := Lib.hid hw0
  have HOK := Lib.hid hok
  have hrd : ∀ W, Below w.heap.size w W → Rd W (.slice (some ad) n c) 1 vs.length (uints vs) := by
    intro W hb
    have hx := h.keep hb
    refine ⟨by simp [uints], Or.inr ⟨ad, c, by rw [hlen], fun j u hj => ?_⟩⟩
    have hjl : j < vs.length := by have := (List.getElem?_eq_some_iff.1 hj).1; simpa [uints] using this
    rw [hx.cells j (by omega), ← hj]
    simp [uints, hjl]
  have HRd := Lib.hid hrd
  have HU := Lib.hid h.u32
  have HX := Lib.hid h
  have HW := Lib.hid (fun (b : Nat) (W : World) (S1 : Nat → Prop) (st : VS) (h1 : PV W b S1 st) => walk_any b t p s x0 W S1 st h1 (by omega))
  have c0 := loc_old (.cells #[.int .i64 x0, .int .i64 x1] 28) (by simp) (loc_alloc w #[.int .i64 t, .int .i64 p, .int .i64 s] 23)
  have c1 := loc_alloc (w.alloc (.cells #[.int .i64 t, .int .i64 p, .int .i64 s] 23)) #[.int .i64 x0, .int .i64 x1] 28
  have S0 := ((BS.start w).alloc (.cells #[.int .i64 t, .int .i64 p, .int .i64 s] 23)).alloc (.cells #[.int .i64 x0, .int .i64 x1] 28)
  simp only [World.size_alloc] at c1 S0
  clear h hk hrd hw0 hv0 hok
  have hx1 : ¬ (x0 : Int) < 2 := by omega
  have hx2 : ¬ 21 < (x0 : Int) := by omega
  go_enter Try.func4, Try.ntmps4
  go_wp2_with fail
  refine (calls_b S0 (HF.out _)).mono ?_
  rintro e w1 ⟨rfl, S1, S1l⟩
  have d0 := loc_step S1l (by simp) c0
  have d1 := loc_step S1l (by simp) c1
  clear S1l
  go_wp2_with fail
  refine (calls_b S1 (HS.out _ (HX.out.keep S1.bel))).mono ?_
  rintro e w2 ⟨rfl, S2, S2l⟩
  have f0 := loc_step S2l (by simp) d0
  have f1 := loc_step S2l (by simp) d1
  clear S2l
  go_wp2_with fail
  refine (whole_any _ _ _ (HRd.out _ S2.bel) (by rw [hlen]; omega) HU.out).mono ?_
  rintro e w3 ⟨b, rfl, hP, hB⟩
  have hV : VSt PV w b NoS [w.heap.size + 1, w.heap.size] (wholeVS vs) w3 := VSt.of_new hP (S2.bel.trans (hB.mono S2.bel.size)) S2.bel.size (fun L hL => S2.ls L hL) hB.size
  have g0 := ((BS.start w2).below hB).oldbox f0 (S2.ls w.heap.size (by simp)).1
  have g1 := ((BS.start w2).below hB).oldbox f1 (S2.ls (w.heap.size + 1) (by simp)).1
  clear S0 S1 S2 c0 c1 d0 d1 f0 f1 hP hB HRd HU HS HF HX
  go_wp2_with fail
  refine (calls_walk hV (fun S1 h1 => HW.out b _ S1 _ h1)).mono ?_
  rintro e w4 ⟨v4, rfl, ⟨hv4, hv4l⟩, r4⟩
  have k0 := loc_step hv4l (by simp) g0
  have k1 := loc_step hv4l (by simp) g1
  rw [HW0.out] at r4
  have HR4 := Lib.hid r4
  have hHV := HV0.out
  generalize (walkF t p s (x0 : Int) (wholeVS vs)).2 = st at *
  clear hv4l g0 g1 hV HV0 HW0 r4
  go_wp2_with fail
  refine (in13_any l x1 v4 _ HR4.out (by omega)).mono ?_
  rintro e w5 ⟨i, rfl, hi, hb5⟩
  have hv5 := hv4.below keepsPV hb5
  have n0 := loc_step (fun L hL => hb5.block L (hv4.ls L hL).1) (by simp) k0
  have n1 := loc_step (fun L hL => hb5.block L (hv4.ls L hL).1) (by simp) k1
  have r5 := row_step (fun L hL => hb5.block L (hv4.ls L hL).1) (fun k hk => by simp [hk]) HR4.out
  have HR5 := Lib.hid r5
  clear k0 k1 hv4 HR4 hb5 r5
  rcases hi with ⟨rfl, hno⟩ | ⟨k, rfl, hkl, hkx⟩
  · clear hno
    go_wp2_with fail
    refine (live_any _).mono ?_
    rintro e w7 ⟨rfl, hb7⟩
    go_wp2
    go_ret
    exact ⟨rfl, hv5.bel.trans (hb7.mono hv5.bel.size)⟩
  · have hsp := split_at hkx
    obtain ⟨g, cap, rfl⟩ := Joins.ownsRow_form HR5.out (by omega)
    have hcap : l.length ≤ cap := by
      rcases HR5.out.2 with ⟨h1, -⟩ | ⟨g', cap', cur, h1, -, -, h3, -⟩
      · simp at h1
      · simp at h1; omega
    have hk0 : ¬ (k : Int) < 0 := by omega
    have HSp := Lib.hid hsp
    clear hsp
    have hkc : (k : Int) ≤ (cap : Int) := by omega
    have hk1 : (k : Int) + 1 ≤ (l.length : Int) := by omega
    have hwk : IntKind.i64.wrap ((k : Int) + 1) = (k : Int) + 1 := wrap_in _ (by omega)
    obtain ⟨i0, hi0, hi1, hi2, hi3⟩ := info_parts infoInt
    have HI := Lib.hid (And.intro hi0 (And.intro hi1 (And.intro hi2 hi3)))
    clear hi0 hi1 hi2 hi3
    have hcell : ∀ W, Below w5.heap.size w5 W → ∀ j u, (ints l)[j]? = some u → W.cell? ⟨g, j, none⟩ = some u := by
      intro W hb j u hj
      have hjl : j < l.length := by have := (List.getElem?_eq_some_iff.1 hj).1; simpa [ints] using this
      have := (HR5.out.cellAt j (by omega)).trans hj
      exact (hb.cell (World.block_lt_of_cell? _ _ this)).trans this
    have HN1 := Lib.hid (show ∀ W, Below w5.heap.size w5 W → ∀ j u, (ints (l.take k))[j]? = some u → W.cell? ((⟨g, 0, none⟩ : Addr).add j) = some u by
      intro W hb j u hj
      have e : (⟨g, 0, none⟩ : Addr).add j = ⟨g, j, none⟩ := by simp [Addr.add]; omega
      rw [e]
      refine hcell W hb j u ?_
      simp only [ints, List.getElem?_map, List.getElem?_take] at hj ⊢
      split at hj
      · exact hj
      · simp at hj)
    obtain ⟨ad2, had, hn2⟩ : ∃ ad2 : Addr, (if cap = k + 1 then some (⟨g, 0, none⟩ : Addr) else some ⟨g, k + 1, none⟩) = some ad2 ∧ ∀ W, Below w5.heap.size w5 W → ∀ j u, (ints (l.drop (k + 1)))[j]? = some u → W.cell? (ad2.add j) = some u := by
      by_cases hcc : cap = k + 1
      · refine ⟨⟨g, 0, none⟩, by rw [if_pos hcc], fun W _ j u hj => ?_⟩
        have : l.drop (k + 1) = [] := List.drop_eq_nil_of_le (by omega)
        rw [this] at hj
        simp [ints] at hj
      · refine ⟨⟨g, k + 1, none⟩, by rw [if_neg hcc], fun W hb j u hj => ?_⟩
        have e : (⟨g, k + 1, none⟩ : Addr).add j = ⟨g, k + 1 + j, none⟩ := by unfold Addr.add; split <;> simp_all
        rw [e]
        refine hcell W hb _ u ?_
        simp only [ints, List.getElem?_map, List.getElem?_drop] at hj ⊢
        exact hj
    have HN2 := Lib.hid hn2
    have HAd := Lib.hid had
    clear hn2 had
    have hk2 : 0 ≤ (k : Int) + 1 := by omega
    have hone : ∀ m : List Int, ∀ u ∈ ints m, u.oneCell' = true := by
      intro m u hu
      obtain ⟨x, -, rfl⟩ := List.mem_map.1 hu
      rfl
    have HOne := Lib.hid hone
    have htk : (ints (l.take k)).length = k * 1 := by simp [ints]; omega
    have hdk : (ints (l.drop (k + 1))).length = (l.length - (k + 1)) * 1 := by simp [ints]
    have HTk := Lib.hid htk
    have HDk := Lib.hid hdk
    clear hcell hone htk hdk
    go_wp2_with fail
    refine wp_region_noPanic ?_
    refine wp_region_held_drew (S := fun w' => True) (by kernel_rfl) ?_ (fun hHeld => ?_)
    · exact trivial
    refine wpAnyH_take (i := 1) (oi := _) (v := ?_) rfl (by kernel_rfl) (by kernel_rfl) (by kernel_rfl) (fun _ _ _ h => h) (Or.inl ⟨by rfl, ?_⟩) (by assumption) ?_
    rotate_left
    · intro w hSw; (try dsimp only at hSw); go_simp; try with_reducible rfl
    try simp only [Act.put, List.getElem_toArray, List.getElem_cons_zero, List.getElem_cons_succ, List.setIfInBounds_toArray, List.set_cons_zero, List.set_cons_succ]
    refine wpAnyH_take (i := 2) (oi := _) (v := ?_) rfl (by kernel_rfl) (by kernel_rfl) (by kernel_rfl) (fun _ _ _ h => h) (Or.inl ⟨by rfl, ?_⟩) (by assumption) ?_
    rotate_left
    · intro w hSw; (try dsimp only at hSw); go_simp; try with_reducible rfl
    try simp only [Act.put, List.getElem_toArray, List.getElem_cons_zero, List.getElem_cons_succ, List.setIfInBounds_toArray, List.set_cons_zero, List.set_cons_succ]
    refine wpAnyH_take (i := 3) (oi := _) (v := ?_) rfl (by kernel_rfl) (by kernel_rfl) (by kernel_rfl) (fun _ _ _ h => h) (Or.inl ⟨by rfl, ?_⟩) (by assumption) ?_
    rotate_left
    · intro w hSw; (try dsimp only at hSw); go_simp; try with_reducible rfl
    try simp only [Act.put, List.getElem_toArray, List.getElem_cons_zero, List.getElem_cons_succ, List.setIfInBounds_toArray, List.set_cons_zero, List.set_cons_succ]
    refine wpAnyH_take (i := 5) (oi := _) (v := ?_) rfl (by kernel_rfl) (by kernel_rfl) (by kernel_rfl) (fun _ _ _ h => h) (Or.inl ⟨by rfl, ?_⟩) (by assumption) ?_
    rotate_left
    · intro w hSw; (try dsimp only at hSw); go_simp; try with_reducible rfl
    try simp only [Act.put, List.getElem_toArray, List.getElem_cons_zero, List.getElem_cons_succ, List.setIfInBounds_toArray, List.set_cons_zero, List.set_cons_succ]
    refine wpAnyH_take (i := 6) (oi := _) (v := ?_) rfl (by kernel_rfl) (by kernel_rfl) (by kernel_rfl) (fun _ _ _ h => h) (Or.inl ⟨by rfl, ?_⟩) (by assumption) ?_
    rotate_left
    · intro w hSw; (try dsimp only at hSw); go_simp; try with_reducible rfl
    try simp only [Act.put, List.getElem_toArray, List.getElem_cons_zero, List.getElem_cons_succ, List.setIfInBounds_toArray, List.set_cons_zero, List.set_cons_succ]
    refine wpAnyH_take (i := 7) (oi := _) (v := ?_) rfl (by kernel_rfl) (by kernel_rfl) (by kernel_rfl) (fun _ _ _ h => h) (Or.inl ⟨by rfl, ?_⟩) (by assumption) ?_
    rotate_left
    · intro w hSw; (try dsimp only at hSw); go_simp; try with_reducible rfl
    try simp only [Act.put, List.getElem_toArray, List.getElem_cons_zero, List.getElem_cons_succ, List.setIfInBounds_toArray, List.set_cons_zero, List.set_cons_succ]
    refine wpAnyH_take (i := 8) (oi := _) (v := ?_) rfl (by kernel_rfl) (by kernel_rfl) (by kernel_rfl) (fun _ _ _ h => h) (Or.inl ⟨by rfl, ?_⟩) (by assumption) ?_
    rotate_left
    · intro w hSw; (try dsimp only at hSw); go_simp; try with_reducible rfl
    try simp only [Act.put, List.getElem_toArray, List.getElem_cons_zero, List.getElem_cons_succ, List.setIfInBounds_toArray, List.set_cons_zero, List.set_cons_succ]
    refine wpAnyH_ready (rs := [0]) (by kernel_rfl) (by simp) ?_
    refine AllReadyH.cons (o := _) rfl (fun K hK => ?_) AllReadyH.nil
    go_simp
    refine hK.out _ _ ?_ (fun hHeld => ?_)
    · exact trivial
    clear hK K
    try simp only [Act.put, List.getElem_toArray, List.getElem_cons_zero, List.setIfInBounds_toArray, List.set_cons_zero, List.set_cons_succ]
    refine wpAnyH_ready (rs := [4]) (by kernel_rfl) (by simp) ?_
    refine AllReadyH.cons (o := _) rfl (fun K hK => ?_) AllReadyH.nil
    refine step_append_new rfl (.tmp 45) (.tmp 48) rfl 3 i0 (.int .i64 0) 1 8 Try.underlying32 HI.out.1 HI.out.2.1 HI.out.2.2.1 HI.out.2.2.2 rfl (by decide) (.slice (some ⟨w5.heap.size, 0, none⟩) 0 0) 0 [] rfl (row_empty w5.drew _ _) ⟨g, 0, none⟩ k _ (ints (l.take k)) rfl HTk.out (HN1.out _ (((Below.refl _ _).drew).alloc (by simp) _)) (HOne.out _) ?c2 ?c3 ?_
    case c2 => (unfold maxLen; omega)
    case c3 => (omega)
    intro v6 w6 hown6 hg6 hnew6 hnil6
    obtain ⟨g6, c6, rfl⟩ := row_some hown6 (fun e => by have := (hnil6.1 e).1; simp at this)
    clear hnil6
    simp only [Nat.zero_add, List.nil_append] at hown6 hnew6
    have bel6 : Below w5.heap.size w5 w6 := ((Below.refl _ _).drew.alloc (by simp) _).grown hg6 (by simp) (fun k hk => by simp [Value.ownBlock] at hk; omega)
    refine hK.out _ _ ?_ (fun hHeld => ?_)
    · exact trivial
    clear hK K
    try simp only [Act.put, List.getElem_toArray, List.getElem_cons_zero, List.getElem_cons_succ, List.setIfInBounds_toArray, List.set_cons_zero, List.set_cons_succ]
    refine wpAnyH_ready (rs := [9]) (by kernel_rfl) (by simp) ?_
    refine AllReadyH.cons (o := _) rfl (fun K hK => ?_) AllReadyH.nil
    refine step_append_new rfl (.tmp 49) (.tmp 53) rfl 3 i0 (.int .i64 0) 1 8 Try.underlying32 HI.out.1 HI.out.2.1 HI.out.2.2.1 HI.out.2.2.2 rfl (by decide) (.slice (some ⟨g6, 0, none⟩) (0 + k) c6) k (ints (l.take k)) rfl (by simpa using hown6) ad2 (l.length - (k + 1)) (cap - (k + 1)) (ints (l.drop (k + 1))) (congrArg (fun z => Value.slice z (l.length - (k + 1)) (cap - (k + 1))) HAd.out) HDk.out (HN2.out _ bel6) (HOne.out _) ?c2 ?c3 ?_
    case c2 => (unfold maxLen; omega)
    case c3 => (omega)
    intro v7 w7 hown7 hg7 hnew7 hnil7
    obtain ⟨g7, c7, rfl⟩ := row_some hown7 (fun e => by have := (hnil7.1 e).1; simp at this)
    clear hnil7
    refine hK.out _ _ ?_ (fun hHeld => ?_)
    · exact trivial
    clear hK K
    try simp only [Act.put, List.getElem_toArray, List.getElem_cons_zero, List.getElem_cons_succ, List.setIfInBounds_toArray, List.set_cons_zero, List.set_cons_succ]
    refine wpAnyH_take (i := 10) (oi := _) (v := ?_) rfl (by kernel_rfl) (by kernel_rfl) (by kernel_rfl) (fun _ _ _ h => h) (Or.inl ⟨by rfl, ?_⟩) (by assumption) ?_
    rotate_left
    · intro w hSw; (try dsimp only at hSw); go_simp; try with_reducible rfl
    try simp only [Act.put, List.getElem_toArray, List.getElem_cons_zero, List.getElem_cons_succ, List.setIfInBounds_toArray, List.set_cons_zero, List.set_cons_succ]
    refine wpAnyH_done (by kernel_rfl) ?_ _
    refine NoPanic.normal ?_
    rw [HAd.out]
    have hg6 : w5.heap.size ≤ g6 := by
      rcases hnew6 g6 rfl with h | h
      · simp [Value.ownBlock] at h; omega
      · simp at h; omega
    have bel7 : Below w5.heap.size w5 w7 := bel6.grown hg7 bel6.size (fun k hk => by simp [Value.ownBlock] at hk; omega)
    have hg7' : w5.heap.size ≤ g7 := by
      rcases hnew7 g7 rfl with h | h
      · simp [Value.ownBlock] at h; omega
      · have := bel6.size; omega
    have hok2 : LsOK p (hd0 vs) (nx0 vs t) (pv0 vs t) (x0 : Int) (l.take k ++ x1 :: l.drop (k + 1)) := by rw [← HSp.out]; exact HOK.out
    have hrl : k + (l.length - (k + 1)) = (l.take k ++ l.drop (k + 1)).length := by simp; omega
    have hrow : w7.ownsRow 0 3 1 (.slice (some ⟨g7, 0, none⟩) (k + (l.length - (k + 1))) c7) (k + (l.length - (k + 1))) (ints (l.take k ++ l.drop (k + 1))) := by simpa [ints] using hown7
    rw [hrl] at hrow ⊢
    have hx1b := hok2.2.2 x1 (by simp)
    have hx1n : x1 ∉ l.take k ++ l.drop (k + 1) := by
      have := hok2.2.1
      simp only [List.nodup_append, List.nodup_cons, List.mem_cons, List.mem_append] at this ⊢
      rintro (h | h)
      · exact this.2.2 x1 h x1 (Or.inl rfl) rfl
      · exact this.2.1.1 h
    have hrn : (l.take k ++ l.drop (k + 1)).length ≤ 4294967296 := by rw [← hrl]; omega
    have v1 := hHV.pull (a := (x0 : Int)) (by omega) (by omega) hok2
    have l1 := pull_law hok2
    obtain ⟨wk1, u1⟩ := v1.walk (a := (x0 : Int)) (by omega) (by omega) l1
    have v2 := u1.push (a := (x0 : Int)) (by omega) (by omega) l1 hx1b.1 hx1b.2
    have l2 := push_law l1 hx1n hx1b.1 hx1b.2
    obtain ⟨wk2, u2⟩ := v2.walk (a := (x0 : Int)) (by omega) (by omega) l2
    have v3 := u2.pull (a := (x0 : Int)) (A := []) (by omega) (by omega) l2
    have l3 := pull_law (A := []) l2
    obtain ⟨wk3, -⟩ := v3.walk (a := (x0 : Int)) (by omega) (by omega) l3
    simp only [List.nil_append] at wk3
    have W1 := Lib.hid wk1
    have W2 := Lib.hid wk2
    have W3 := Lib.hid wk3
    have HNn := Lib.hid hrn
    have HLn2 := Lib.hid (show (l.take k ++ l.drop (k + 1)).length + 1 ≤ 4294967296 by rw [← hrl]; omega)
    have hv7 : VSt PV w b NoS ([g7] ++ [w.heap.size + 1, w.heap.size]) st w7 := by
      have := hv5.addrow (v := .slice (some ⟨g7, 0, none⟩) (k + (l.length - (k + 1))) c7) bel7 (fun j hj => by
        simp only [Value.ownBlock, Option.some.injEq] at hj
        subst hj
        exact ⟨hg7', ownsRow_lt hown7 rfl⟩)
      exact this.sub _ (by intro L hL; simp [Value.ownBlock] at hL ⊢; rcases hL with h | h | h <;> simp [h])
    have q0 := loc_step (fun L hL => bel7.block L (hv5.ls L hL).1) (by simp) n0
    have q1 := loc_step (fun L hL => bel7.block L (hv5.ls L hL).1) (by simp) n1
    clear v1 l1 wk1 u1 v2 l2 wk2 u2 v3 l3 wk3 hx1n hrn hok2 hHV HSp HOK HR5 hown6 hown7 hg7 hnew6 hnew7 bel6 bel7 hg7' hg6 n0 n1 hv5 hHeld HN1 HN2 HAd HTk HDk hkx hkl
    generalize l.take k ++ l.drop (k + 1) = rest at *
    clear hrl
    go_wp2_with fail
    go_wp2_with fail
    refine (calls_st hv7 (fun S1 h1 => pull_any b t p s x0 x1 _ S1 _ h1 (by omega))).mono ?_
    rintro e w8 ⟨rfl, hv8, hv8l⟩
    have a0 := loc_step hv8l (by simp) q0
    have a1 := loc_step hv8l (by simp) q1
    have r8 := row_step hv8l (fun k hk => by simp [Value.ownBlock] at hk; simp [hk]) hrow
    clear hv8l
    have R8 := Lib.hid r8
    clear hv7 q0 q1 hrow r8
    go_wp2_with fail
    refine (calls_walk hv8 (fun S1 h1 => HW.out b _ S1 _ h1)).mono ?_
    rintro e w9 ⟨v9, rfl, ⟨hv9, hv9l⟩, r9⟩
    have b0 := loc_step hv9l (by simp) a0
    have b1 := loc_step hv9l (by simp) a1
    have R89 := Lib.hid (row_step hv9l (fun k hk => by simp [Value.ownBlock] at hk; simp [hk]) R8.out)
    rw [W1.out] at r9
    have R9 := Lib.hid r9
    clear hv9l a0 a1 hv8 R8 r9
    go_wp2_with fail
    refine (calls_bl keepsPV hv9 (ints_same rest v9 _ _ R9.out R89.out HNn.out)).mono ?_
    rintro e w10 ⟨rfl, hv10, hv10l⟩
    have d0 := loc_step hv10l (by simp) b0
    have d1 := loc_step hv10l (by simp) b1
    have R10 := Lib.hid (row_step hv10l (fun k hk => by simp [Value.ownBlock] at hk; simp [hk]) R89.out)
    have hv10' := hv10.right
    clear hv10l b0 b1 hv9 R9 R89 hv10
    go_wp2_with fail
    go_wp2_with fail
    refine (calls_st hv10' (fun S1 h1 => push_any b t p s x0 x1 _ S1 _ h1 (by omega))).mono ?_
    rintro e w11 ⟨rfl, hv11, hv11l⟩
    have e0 := loc_step hv11l (by simp) d0
    have e1 := loc_step hv11l (by simp) d1
    have r11 := row_step hv11l (fun k hk => by simp [Value.ownBlock] at hk; simp [hk]) R10.out
    clear hv11l
    have R11 := Lib.hid r11
    have hv11d := hv11.drew keepsPV
    clear hv10' d0 d1 R10 r11
    go_wp2_with fail
    refine wp_region_noPanic ?_
    refine wp_region_held_drew (S := fun w' => (∀ o : Nat, w'.cell? ⟨w.heap.size, o, none⟩ = (#[.int .i64 t, .int .i64 p, .int .i64 s] : Array Value)[o]?) ∧ (∀ o : Nat, w'.cell? ⟨w.heap.size + 1, o, none⟩ = (#[.int .i64 x0, .int .i64 x1] : Array Value)[o]?)) (by kernel_rfl) ?_ (fun hHeld => ?_)
    · exact ⟨e0, e1⟩
    refine wpAnyH_take (i := 0) (oi := _) (v := ?_) rfl (by kernel_rfl) (by kernel_rfl) (by kernel_rfl) (fun _ _ _ h => h) (Or.inl ⟨by rfl, ?_⟩) (by assumption) ?_
    rotate_left
    · intro w hSw; (try dsimp only at hSw); go_simp; try with_reducible rfl
    try simp only [Act.put, List.getElem_toArray, List.getElem_cons_zero, List.setIfInBounds_toArray, List.set_cons_zero, List.set_cons_succ]
    refine wpAnyH_take (i := 1) (oi := _) (v := ?_) rfl (by kernel_rfl) (by kernel_rfl) (by kernel_rfl) (fun _ _ _ h => h) (Or.inl ⟨by rfl, ?_⟩) (by assumption) ?_
    rotate_left
    · intro w hSw; (try dsimp only at hSw); go_simp; try with_reducible rfl
    try simp only [Act.put, List.getElem_toArray, List.getElem_cons_zero, List.getElem_cons_succ, List.setIfInBounds_toArray, List.set_cons_zero, List.set_cons_succ]
    refine wpAnyH_take (i := 2) (oi := _) (v := ?_) rfl (by kernel_rfl) (by kernel_rfl) (by kernel_rfl) (fun _ _ _ h => h) (Or.inl ⟨by rfl, ?_⟩) (by assumption) ?_
    rotate_left
    · intro w hSw; (try dsimp only at hSw); go_simp; try with_reducible rfl
    try simp only [Act.put, List.getElem_toArray, List.getElem_cons_zero, List.getElem_cons_succ, List.setIfInBounds_toArray, List.set_cons_zero, List.set_cons_succ]
    refine wpAnyH_take (i := 3) (oi := _) (v := ?_) rfl (by kernel_rfl) (by kernel_rfl) (by kernel_rfl) (fun _ _ _ h => h) (Or.inl ⟨by rfl, ?_⟩) (by assumption) ?_
    rotate_left
    · intro w hSw; (try dsimp only at hSw); go_simp; try with_reducible rfl
    try simp only [Act.put, List.getElem_toArray, List.getElem_cons_zero, List.getElem_cons_succ, List.setIfInBounds_toArray, List.set_cons_zero, List.set_cons_succ]
    refine wpAnyH_take (i := 5) (oi := _) (v := ?_) rfl (by kernel_rfl) (by kernel_rfl) (by kernel_rfl) (fun _ _ _ h => h) (Or.inl ⟨by rfl, ?_⟩) (by assumption) ?_
    rotate_left
    · intro w hSw; (try dsimp only at hSw); go_simp; try with_reducible rfl
    try simp only [Act.put, List.getElem_toArray, List.getElem_cons_zero, List.getElem_cons_succ, List.setIfInBounds_toArray, List.set_cons_zero, List.set_cons_succ]
    refine wpAnyH_take (i := 6) (oi := _) (v := ?_) rfl (by kernel_rfl) (by kernel_rfl) (by kernel_rfl) (fun _ _ _ h => h) (Or.inl ⟨by rfl, ?_⟩) (by assumption) ?_
    rotate_left
    · intro w hSw; (try dsimp only at hSw); go_simp; try with_reducible rfl
    try simp only [Act.put, List.getElem_toArray, List.getElem_cons_zero, List.getElem_cons_succ, List.setIfInBounds_toArray, List.set_cons_zero, List.set_cons_succ]
    refine wpAnyH_take (i := 8) (oi := _) (v := ?_) rfl (by kernel_rfl) (by kernel_rfl) (by kernel_rfl) (fun _ _ _ h => h) (Or.inl ⟨by rfl, ?_⟩) (by assumption) ?_
    rotate_left
    · intro w hSw; (try dsimp only at hSw); go_simp; try with_reducible rfl
    try simp only [Act.put, List.getElem_toArray, List.getElem_cons_zero, List.getElem_cons_succ, List.setIfInBounds_toArray, List.set_cons_zero, List.set_cons_succ]
    refine wpAnyH_ready (rs := [4, 7]) (by kernel_rfl) (by simp) ?_
    refine AllReadyH.cons (o := _) rfl (fun K hK => ?_) (AllReadyH.cons (o := _) rfl (fun K hK => ?_) AllReadyH.nil)
    · go_simp
      refine (calls_walk2 hv11d (fun S1 h1 => HW.out b _ S1 _ h1)).mono ?_
      rintro e wA ⟨vA, rfl, ⟨hvA, hvAl⟩, rA, farA⟩
      have f0 := loc_step hvAl (by simp) hHeld.1
      have f1 := loc_step hvAl (by simp) hHeld.2
      have RA7 := row_step hvAl (fun k hk => by simp [Value.ownBlock] at hk; simp [hk]) (ownsRow_block (w' := w11.drew) R11.out (fun _ _ => rfl))
      rw [W2.out] at rA
      dsimp only
      refine hK.out _ _ ?_ (fun hHeld => ?_)
      · exact ⟨f0, f1⟩
      clear hK K
      try simp only [Act.put, List.getElem_toArray, List.getElem_cons_zero, List.getElem_cons_succ, List.setIfInBounds_toArray, List.set_cons_zero, List.set_cons_succ]
      refine wpAnyH_ready (rs := [7]) (by kernel_rfl) (by simp) ?_
      refine AllReadyH.cons (o := _) rfl (fun K hK => ?_) AllReadyH.nil
      go_simp
      refine hK.out _ _ ?_ (fun hHeld => ?_)
      · exact ⟨loc_old _ (hvA.ls w.heap.size (by simp)).1 f0, loc_old _ (hvA.ls (w.heap.size + 1) (by simp)).1 f1⟩
      clear hK K
      try simp only [Act.put, List.getElem_toArray, List.getElem_cons_zero, List.getElem_cons_succ, List.setIfInBounds_toArray, List.set_cons_zero, List.set_cons_succ]
      refine wpAnyH_ready (rs := [9]) (by kernel_rfl) (by simp) ?_
      refine AllReadyH.cons (o := _) rfl (fun K hK => ?_) AllReadyH.nil
      refine step_append_new rfl (.tmp 84) (.tmp 85) rfl 3 i0 (.int .i64 0) 1 8 Try.underlying32 HI.out.1 HI.out.2.1 HI.out.2.2.1 HI.out.2.2.2 rfl (by decide) (.slice (some ⟨wA.heap.size, 0, none⟩) 1 1) 1 [.int .i64 x1] rfl (row_one wA _ _) ⟨g7, 0, none⟩ rest.length c7 (ints rest) rfl (by simp [ints]) ((RA7.alloc _).cells (g := g7) rfl) (HOne.out _) ?c2 ?c3 ?_
      case c2 => (have := HNn.out; unfold maxLen; omega)
      case c3 => (have := HNn.out; omega)
      intro vB wB hownB hgB hnewB hnilB
      clear hnilB
      have hge : ∀ j, (Value.slice (some ⟨wA.heap.size, 0, none⟩) 1 1).ownBlock = some j → wA.heap.size ≤ j := (fun j hj => by simp [Value.ownBlock] at hj; omega)
      have RB := row_past rA hgB hge
      have RB7 := row_past RA7 hgB hge
      have f2 := loc_past f0 (hvA.ls w.heap.size (by simp)).1 hgB hge
      have f3 := loc_past f1 (hvA.ls (w.heap.size + 1) (by simp)).1 hgB hge
      have hvB := ((hvA.alloc keepsPV (.cells #[.int .i64 x1] 3)).grown keepsPV hgB (fun j hj => by simp [Value.ownBlock] at hj; simp [hj]) ([g7] ++ [w.heap.size + 1, w.heap.size]) (fun L hL => Or.inl (List.mem_cons_of_mem _ (List.mem_append_right _ hL))))
      refine hK.out _ _ ?_ (fun hHeld => ?_)
      · exact ⟨f2, f3⟩
      clear hK K
      try simp only [Act.put, List.getElem_toArray, List.getElem_cons_zero, List.getElem_cons_succ, List.setIfInBounds_toArray, List.set_cons_zero, List.set_cons_succ]
      refine wpAnyH_ready (rs := [10]) (by kernel_rfl) (by simp) ?_
      refine AllReadyH.cons (o := _) rfl (fun K hK => ?_) AllReadyH.nil
      go_simp
      refine (calls_bl keepsPV hvB (ints_same (x1 :: rest) vA vB _ RB (by simpa [ints, Nat.add_comm] using hownB) (by have := HLn2.out; simpa using this))).mono ?_
      rintro e wC ⟨rfl, hvC, hvCl⟩
      have f4 := loc_step hvCl (by simp) f2
      have f5 := loc_step hvCl (by simp) f3
      have RC := row_step hvCl (fun k hk => by simp [Value.ownBlock] at hk; simp [hk]) RB7
      clear hvCl
      dsimp only
      refine hK.out _ _ ?_ (fun hHeld => ?_)
      · exact ⟨f4, f5⟩
      clear hK K
      try simp only [Act.put, List.getElem_toArray, List.getElem_cons_zero, List.getElem_cons_succ, List.setIfInBounds_toArray, List.set_cons_zero, List.set_cons_succ]
      refine wpAnyH_take (i := 11) (oi := _) (v := ?_) rfl (by kernel_rfl) (by kernel_rfl) (by kernel_rfl) (fun _ _ _ h => h) (Or.inl ⟨by rfl, ?_⟩) (by assumption) ?_
      rotate_left
      · intro w hSw; (try dsimp only at hSw); go_simp; try with_reducible rfl
      try simp only [Act.put, List.getElem_toArray, List.getElem_cons_zero, List.getElem_cons_succ, List.setIfInBounds_toArray, List.set_cons_zero, List.set_cons_succ]
      refine wpAnyH_done (by kernel_rfl) ?_ _
      refine NoPanic.normal ?_
      go_wp2_with fail
      refine (calls_st hvC (fun S1 h1 => pull_any b t p s x0 x1 _ S1 _ h1 (by omega))).mono ?_
      rintro e wD ⟨rfl, hvD, hvDl⟩
      have h0 := loc_step hvDl (by simp) f4
      have h1' := loc_step hvDl (by simp) f5
      have RD := row_step hvDl (fun k hk => by simp [Value.ownBlock] at hk; simp [hk]) RC
      clear hvDl hvC f4 f5 RC RB RB7 rA RA7 hownB f0 f1 f2 f3 hvB hvA hHeld hgB hnewB
      go_wp2_with fail
      refine (calls_walk hvD (fun S1 h1 => HW.out b _ S1 _ h1)).mono ?_
      rintro e wE ⟨vE, rfl, ⟨hvE, hvEl⟩, rE⟩
      rw [W3.out] at rE
      have RE := row_step hvEl (fun k hk => by simp [Value.ownBlock] at hk; simp [hk]) RD
      have HRE := Lib.hid (And.intro rE RE)
      clear hvEl hvD RD rE RE
      go_wp2_with fail
      refine (calls_bl keepsPV hvE (ints_same rest vE _ _ HRE.out.1 HRE.out.2 HNn.out)).mono ?_
      rintro e wF ⟨rfl, hvF, -⟩
      have belF := hvF.bel
      clear hvE hvF HRE
      go_wp2_with fail
      refine (live_any _).mono ?_
      rintro e wG ⟨rfl, hbG⟩
      go_wp2
      go_ret
      exact ⟨rfl, belF.trans (hbG.mono belF.size)⟩
    · go_simp
      refine hK.out _ _ ?_ (fun hHeld => ?_)
      · exact ⟨loc_old _ (hv11d.ls w.heap.size (by simp)).1 e0, loc_old _ (hv11d.ls (w.heap.size + 1) (by simp)).1 e1⟩
      clear hK K
      try simp only [Act.put, List.getElem_toArray, List.getElem_cons_zero, List.getElem_cons_succ, List.setIfInBounds_toArray, List.set_cons_zero, List.set_cons_succ]
      refine wpAnyH_ready (rs := [4]) (by kernel_rfl) (by simp) ?_
      refine AllReadyH.cons (o := _) rfl (fun K hK => ?_) AllReadyH.nil
      go_simp
      have hvN := hv11d.alloc keepsPV (.cells #[.int .i64 x1] 3)
      have RX0 := row_one w11.drew (.int .i64 x1) 3
      have R70 := ((ownsRow_block (w' := w11.drew) R11.out (fun _ _ => rfl)).alloc (.cells #[.int .i64 x1] 3))
      simp only [World.size_drew] at hvN RX0
      refine (calls_walk2 hvN (fun S1 h1 => HW.out b _ S1 _ h1)).mono ?_
      rintro e wA ⟨vA, rfl, ⟨hvA, hvAl⟩, rA, farA⟩
      have f0 := loc_step hvAl (by simp) hHeld.1
      have f1 := loc_step hvAl (by simp) hHeld.2
      have RA7 := row_step hvAl (fun k hk => by simp [Value.ownBlock] at hk; simp [hk]) R70
      have RX := row_step hvAl (fun k hk => by simp [Value.ownBlock] at hk; simp [hk]) RX0
      rw [W2.out] at rA
      dsimp only
      refine hK.out _ _ ?_ (fun hHeld => ?_)
      · exact ⟨f0, f1⟩
      clear hK K
      try simp only [Act.put, List.getElem_toArray, List.getElem_cons_zero, List.getElem_cons_succ, List.setIfInBounds_toArray, List.set_cons_zero, List.set_cons_succ]
      refine wpAnyH_ready (rs := [9]) (by kernel_rfl) (by simp) ?_
      refine AllReadyH.cons (o := _) rfl (fun K hK => ?_) AllReadyH.nil
      refine step_append_new rfl (.tmp 84) (.tmp 85) rfl 3 i0 (.int .i64 0) 1 8 Try.underlying32 HI.out.1 HI.out.2.1 HI.out.2.2.1 HI.out.2.2.2 rfl (by decide) (.slice (some ⟨w11.heap.size, 0, none⟩) 1 1) 1 [.int .i64 x1] rfl RX ⟨g7, 0, none⟩ rest.length c7 (ints rest) rfl (by simp [ints]) (RA7.cells (g := g7) rfl) (HOne.out _) ?c2 ?c3 ?_
      case c2 => (have := HNn.out; unfold maxLen; omega)
      case c3 => (have := HNn.out; omega)
      intro vB wB hownB hgB hnewB hnilB
      clear hnilB
      have hl7 := ownsRow_lt R11.out (k := g7) rfl
      have hl0 := (hv11d.ls w.heap.size (by simp)).1
      have hl1 := (hv11d.ls (w.heap.size + 1) (by simp)).1
      have RB := ownsRow_block rA (fun k hk => hgB.block k (ownsRow_lt rA hk) (fun e => by have := farA k hk; simp [Value.ownBlock] at e this; omega))
      have RB7 := ownsRow_block RA7 (fun k hk => hgB.block k (ownsRow_lt RA7 hk) (fun e => by simp [Value.ownBlock] at e hk; omega))
      have f2 := loc_grown hgB (hvA.ls w.heap.size (by simp)).1 (fun e => by simp [Value.ownBlock] at e hl0; omega) f0
      have f3 := loc_grown hgB (hvA.ls (w.heap.size + 1) (by simp)).1 (fun e => by simp [Value.ownBlock] at e hl1; omega) f1
      have hvB := (hvA.grown keepsPV hgB (fun j hj => by simp [Value.ownBlock] at hj; simp [hj]) ([g7] ++ [w.heap.size + 1, w.heap.size]) (fun L hL => Or.inl (List.mem_append_right _ (List.mem_cons_of_mem _ hL))))
      refine hK.out _ _ ?_ (fun hHeld => ?_)
      · exact ⟨f2, f3⟩
      clear hK K
      try simp only [Act.put, List.getElem_toArray, List.getElem_cons_zero, List.getElem_cons_succ, List.setIfInBounds_toArray, List.set_cons_zero, List.set_cons_succ]
      refine wpAnyH_ready (rs := [10]) (by kernel_rfl) (by simp) ?_
      refine AllReadyH.cons (o := _) rfl (fun K hK => ?_) AllReadyH.nil
      go_simp
      refine (calls_bl keepsPV hvB (ints_same (x1 :: rest) vA vB _ RB (by simpa [ints, Nat.add_comm] using hownB) (by have := HLn2.out; simpa using this))).mono ?_
      rintro e wC ⟨rfl, hvC, hvCl⟩
      have f4 := loc_step hvCl (by simp) f2
      have f5 := loc_step hvCl (by simp) f3
      have RC := row_step hvCl (fun k hk => by simp [Value.ownBlock] at hk; simp [hk]) RB7
      clear hvCl
      dsimp only
      refine hK.out _ _ ?_ (fun hHeld => ?_)
      · exact ⟨f4, f5⟩
      clear hK K
      try simp only [Act.put, List.getElem_toArray, List.getElem_cons_zero, List.getElem_cons_succ, List.setIfInBounds_toArray, List.set_cons_zero, List.set_cons_succ]
      refine wpAnyH_take (i := 11) (oi := _) (v := ?_) rfl (by kernel_rfl) (by kernel_rfl) (by kernel_rfl) (fun _ _ _ h => h) (Or.inl ⟨by rfl, ?_⟩) (by assumption) ?_
      rotate_left
      · intro w hSw; (try dsimp only at hSw); go_simp; try with_reducible rfl
      try simp only [Act.put, List.getElem_toArray, List.getElem_cons_zero, List.getElem_cons_succ, List.setIfInBounds_toArray, List.set_cons_zero, List.set_cons_succ]
      refine wpAnyH_done (by kernel_rfl) ?_ _
      refine NoPanic.normal ?_
      go_wp2_with fail
      refine (calls_st hvC (fun S1 h1 => pull_any b t p s x0 x1 _ S1 _ h1 (by omega))).mono ?_
      rintro e wD ⟨rfl, hvD, hvDl⟩
      have h0 := loc_step hvDl (by simp) f4
      have h1' := loc_step hvDl (by simp) f5
      have RD := row_step hvDl (fun k hk => by simp [Value.ownBlock] at hk; simp [hk]) RC
      clear hvDl hvC f4 f5 RC RB RB7 rA RA7 hownB f0 f1 f2 f3 hvB hvA hHeld hgB hnewB
      go_wp2_with fail
      refine (calls_walk hvD (fun S1 h1 => HW.out b _ S1 _ h1)).mono ?_
      rintro e wE ⟨vE, rfl, ⟨hvE, hvEl⟩, rE⟩
      rw [W3.out] at rE
      have RE := row_step hvEl (fun k hk => by simp [Value.ownBlock] at hk; simp [hk]) RD
      have HRE := Lib.hid (And.intro rE RE)
      clear hvEl hvD RD rE RE
      go_wp2_with fail
      refine (calls_bl keepsPV hvE (ints_same rest vE _ _ HRE.out.1 HRE.out.2 HNn.out)).mono ?_
      rintro e wF ⟨rfl, hvF, -⟩
      have belF := hvF.bel
      clear hvE hvF HRE
      go_wp2_with fail
      refine (live_any _).mono ?_
      rintro e wG ⟨rfl, hbG⟩
      go_wp2
      go_ret
      exact ⟨rfl, belF.trans (hbG.mono belF.size)⟩
end
end Go.Proofs.Ytkfcjlampnjfbaa
