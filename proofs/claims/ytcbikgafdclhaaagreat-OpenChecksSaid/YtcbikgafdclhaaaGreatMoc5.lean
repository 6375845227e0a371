/- parts of the proof, merged by a program. -/
import Derived.Test.YtcbikgafdclhaaaGreatMoc1
import Derived.Test.YtcbikgafdclhaaaGreatMoc2
import Derived.Test.YtcbikgafdclhaaaGreatMoc3
import Derived.Test.YtcbikgafdclhaaaGreatMoc4
import Derived.Deep.MidRow
import Derived.ChangeMaps
set_option linter.unusedSimpArgs false
set_option linter.unusedVariables false
/- bytes as words: the program's Words. -/
set_option linter.unusedSimpArgs false
set_option linter.unusedVariables false
namespace Go.Proofs.YtcbikgafdclhaaaGreat
open Go.RowKit
attribute [local go_sem] Oper.semAt_some

theorem pwords_bad (a : Option Addr) (n c : Nat) (w : World) (hn : n ≤ 1000000000) (h : n % 8 ≠ 0 ∨ 524288 < n) : Calls Tryz.prog 6 #[.slice a n c] w (WdQ w none) := by
 by_cases h8 : n % 8 = 0
 ·have h8i : (n : Int) % 8 = 0 := by omega
  have hbig : (65536 : Int) < (n : Int) / 8 := by omega
  have h8b : ((n : Int) % 8 != 0) = false := by simp [h8i]
  clear h h8 h8i
  go_enter Tryz.func6, Tryz.ntmps6
  go_wp2
  refine bodyPost_ret (v := .tuple #[.slice none 0 0, .bool false]) (by simp [results, Tryz.results6, go_sem]) rfl ⟨rfl, Below.refl _ _⟩
 ·have h8b : ((n : Int) % 8 != 0) = true := by simp; omega
  clear h h8
  go_enter Tryz.func6, Tryz.ntmps6
  go_wp2
  refine bodyPost_ret (v := .tuple #[.slice none 0 0, .bool false]) (by simp [results, Tryz.results6, go_sem]) rfl ⟨rfl, Below.refl _ _⟩
theorem ulongs_app (a b : List Int) : ulongs (a ++ b) = ulongs a ++ ulongs b := by simp [ulongs]
theorem cell_list8 (W : World) (xs : List Value) (T : TypeId) {n : Nat} (hn : n = W.heap.size) : ∀ j u, xs[j]? = some u → (W.alloc (.cells xs.toArray T)).cell? ((⟨n, 0, none⟩ : Addr).add j) = some u := by
 subst hn
 intro j u hu
 rw [show (⟨W.heap.size, 0, none⟩ : Addr).add j = ⟨W.heap.size, j, none⟩ by by_cases h0 : j = 0 <;> simp [Addr.add, h0]]
 exact (cell?_of_heap (heap_alloc_new W _)).trans (by simpa using hu)
/-- a box holds a row of words of the call's own. -/
def OutW (W : World) (n0 B : Nat) (l : List Int) : Prop := ∃ v, Boxed W B 22 v ∧ W.ownsRow 0 61 1 v l.length (ulongs l) ∧ ∀ k, v.ownBlock = some k → n0 ≤ k
theorem row_isCells8 {w : World} {e sz n : Nat} {v : Value} {xs : List Value} (h : w.ownsRow 0 e sz v n xs) {k : Nat} (hk : v.ownBlock = some k) : ∃ o : Obj, w.heap[k]? = some o ∧ o.isCells = true := by
 rcases h.2 with ⟨rfl, -⟩ | ⟨g', cap, cur', rfl, -, hg', -⟩
 ·simp [Value.ownBlock] at hk
 ·simp [Value.ownBlock] at hk
  subst hk
  exact ⟨_, hg', rfl⟩
theorem row_other8 {X Y : World} {row : Option Nat} {e sz n : Nat} {v : Value} {xs : List Value} (h : X.ownsRow 0 e sz v n xs) (hg : X.grownBy Y row) (hr : ∀ r, row = some r → ∃ o : Obj, X.heap[r]? = some o ∧ o.isCells = false) : Y.ownsRow 0 e sz v n xs :=
 ownsRow_block h fun k hk => hg.block k (ownsRow_lt h hk) fun e => by
  obtain ⟨o, ho, hc⟩ := hr k e.symm
  obtain ⟨o', ho', hc'⟩ := row_isCells8 h hk
  rw [ho] at ho'
  cases ho'
  rw [hc] at hc'
  cases hc'
theorem OutW.own {β : Type} {n n0 B : Nat} {f : β → List Int} : OwnFrom n (fun (x : β) W => OutW W n0 B (f x)) := fun x X Y row hs hg hr => by
 obtain ⟨v, h1, h2, h3⟩ := hs
 refine ⟨v, ?_, row_other8 h2 hg (fun r e => (hr r e).2), h3⟩
 exact (Own.from (boxed_own B 22 (fun _ : Unit => v)) n) () X Y row h1 hg hr
/-- behind an append to a row, what is no cells is as it was. -/
theorem keepsFrom_row8 {B : Nat} {W W' : World} {e sz n : Nat} {v : Value} {xs : List Value} (h : W.ownsRow 0 e sz v n xs) (hg : W.grownBy W' v.ownBlock) : KeepsFrom B W W' :=
 ⟨hg.size, fun k o _ hk ho => (hg.block k (Array.getElem?_eq_some_iff.1 hk).1 (fun e => by
  obtain ⟨o', ho', hc'⟩ := row_isCells8 h e.symm
  rw [hk] at ho'
  cases ho'
  rw [ho] at hc'
  cases hc')).trans hk⟩
theorem box_grown8 {W W' : World} {B : Nat} {t e : TypeId} {u : Value} {sz n : Nat} {v : Value} {xs : List Value} (h : W.heap[B]? = some (.cells #[u] t)) (hr : W.ownsRow 0 e sz v n xs) (hne : e ≠ t) (hg : W.grownBy W' v.ownBlock) : W'.heap[B]? = some (.cells #[u] t) :=
 (hg.block B (Array.getElem?_eq_some_iff.1 h).1 (fun e => ownsRow_elem hr h hne e.symm)).trans h
theorem Boxed.keep8 {W W' : World} {B : Nat} {t : TypeId} {v : Value} (h : Boxed W B t v) (hb : Below W.heap.size W W') : Boxed W' B t v := (hb.block B h.lt).trans h
set_option maxHeartbeats 2000000 in
set_option maxRecDepth 100000 in
theorem pwords_good (va : Option Addr) (N vc : Nat) (bs : List Int) (w : World) (hR : Rd w (.slice va bs.length vc) 1 bs.length (ubytes bs)) (hu : ∀ x ∈ bs, U8 x) (hl : bs.length = 8 * N) (hN : N ≤ 65536) (hcap : bs.length ≤ vc) :
 Calls Tryz.prog 6 #[.slice va bs.length vc] w (WdQ w (some (chunks N bs))) := by
 rw [hl] at hR hcap ⊢
 have hsm : ¬ (65536 : Int) < ((8 * N : Nat) : Int) / 8 := by omega
 have h8b : (((8 * N : Nat) : Int) % 8 != 0) = false := by first | (simp; done) | (simp; omega)
 refine (callsIn_wide (n := 10)).1 ?_
 refine callsIn_of_wp_marks Tryz.func6 rfl trivial ?_ rfl
 simp only [Tryz.ntmps6, List.size_toArray, List.length_cons, List.length_nil, Nat.reduceAdd, Nat.reduceSub, Array.replicate_succ, Array.replicate_zero, List.push_toArray, List.append_toArray, List.nil_append, List.cons_append]
 obtain ⟨M, hM⟩ : ∃ M, 8 * N = M := ⟨_, rfl⟩
 rw [hM] at hsm h8b hcap hR ⊢
 have HM := Lib.hid hM
 clear hM
 gi_wp2_with (refine ⟨trivial, ?_⟩; gi_at_call 23; refine (callsIn_wide.2 (pchunk_any _ _ _ _)).mono ?_; rintro e w' ⟨rfl, rfl⟩)
 have bO := ((Boxed.new w 22 (.slice none 0 0)).alloc (.cells #[.slice va M vc] 23)).alloc (.cells #[.int .i64 8] 3)
 have bS := (Boxed.new (w.alloc (.cells #[.slice none 0 0] 22)) 23 (.slice va M vc)).alloc (.cells #[.int .i64 8] 3)
 have bN := Boxed.new ((w.alloc (.cells #[.slice none 0 0] 22)).alloc (.cells #[.slice va M vc] 23)) 3 (.int .i64 8)
 simp only [World.size_alloc] at bS bN
 have hB0 : Below w.heap.size w (((w.alloc (.cells #[.slice none 0 0] 22)).alloc (.cells #[.slice va M vc] 23)).alloc (.cells #[.int .i64 8] 3)) := (((Below.refl _ w).alloc (Nat.le_refl _) _).alloc (by simp) _).alloc (by simp; omega) _
 have hsz : (((w.alloc (.cells #[.slice none 0 0] 22)).alloc (.cells #[.slice va M vc] 23)).alloc (.cells #[.int .i64 8] 3)).heap.size = w.heap.size + 3 := by simp
 obtain ⟨W0, hW0⟩ : ∃ W0, (((w.alloc (.cells #[.slice none 0 0] 22)).alloc (.cells #[.slice va M vc] 23)).alloc (.cells #[.int .i64 8] 3)) = W0 := ⟨_, rfl⟩
 rw [hW0] at bO bS bN hB0 hsz ⊢
 clear hW0
 have hlM : bs.length = M := hl.trans HM.out
 have hrd := hR.2
 obtain ⟨i0, hi0, hi1, hi2, hi3⟩ := info_parts infoU64n
 have HI := Lib.hid (And.intro hi0 (And.intro hi1 (And.intro hi2 hi3)))
 obtain ⟨ad, hva, hcells⟩ : ∃ ad, (0 < N → va = some ad) ∧ ∀ k, k < M → w.cell? (ad.add k) = some (.int .u8 (bs.getD k 0)) := by
  rcases hrd with ⟨hv, h0⟩ | ⟨ad, c, hv, hc⟩
  ·exact ⟨⟨0, 0, none⟩, fun h => by have := HM.out; omega, fun k hk => by omega⟩
  ·injection hv with h1 h2 h3
   exact ⟨ad, fun _ => h1, fun k hk => hc k _ (by simp [ubytes, show k < bs.length by omega])⟩
 have HC := Lib.hid hcells
 have HU := Lib.hid hu
 have HL := Lib.hid hlM
 have hst := chunk_stops 9 (by omega) (w.heap.size + 1) (w.heap.size + 1 + 1) w.heap.size va ad N vc hva hN (by have := HM.out; omega) W0 (by omega) (by omega) (by rw [HM.out]; exact bS.cell) bN.cell
 clear hcells hu hlM hi0 hi1 hi2 hi3 hR hrd
 refine wpIn_rangeFunc_ownH rfl (by omega) (gf := 42) (lb := #[.pointer (some ⟨w.heap.size + 1, 0, none⟩), .pointer (some ⟨w.heap.size + 1 + 1, 0, none⟩)]) rfl trivial (enters_of Tryz.func42 (by kernel_rfl) rfl)
  hst
  kpC_t (kpC_b (by omega) (by omega) (by omega)) (Below.refl _ _) (fun _ => rfl)
  (fun pre W => OutW W (w.heap.size + 3) w.heap.size ((rawC pre).map (chF bs)) ∧ Below w.heap.size W0 W)
  (fun _ _ _ => False)
  (OwnFrom.and OutW.own (ownFrom_below (by omega) (by omega)))
  (fun _ _ _ _ _ hs _ _ => hs)
  ⟨⟨_, bO, World.ownsRow_nil _ _ _ _, by simp [Value.ownBlock]⟩, Below.refl _ _⟩
  (fun x a' W => a' = { tmps := #[.slice va M vc, undef, .slice none 0 0, .bool false, .pointer (some ⟨w.heap.size, 0, none⟩), .slice (some (ad.add (8 * x.1))) 8 8, .slice va M vc, .int .i64 M, .int .i64 ((M : Int) % 8), .bool false, .bool false, .slice va M vc, .int .i64 M, .int .i64 ((M : Int) / 8), .bool false, .bool false, .slice va M vc, .func (.func 42) #[] #[.pointer (some ⟨w.heap.size + 1, 0, none⟩), .pointer (some ⟨w.heap.size + 1 + 1, 0, none⟩)], .slice (some (ad.add (8 * x.1))) 8 8, undef, undef, undef, undef, undef, undef], defers := [] })
  (fun x a' _ X Y row hs _ _ => hs)
  ?assign ?body ?done ?stop
 case assign =>
  rintro l pre x W K ⟨i1, iB⟩ hK
  dsimp only [chV]
  gi_wp2
  exact hK _ _ (KeepsFrom.refl _ _) ⟨Below.refl _ _, rfl, rfl⟩ ⟨i1, iB⟩ rfl
 case body =>
  rintro l pre x a' W hl2 _ ⟨⟨v, i2, i3, i4⟩, iB0⟩ rfl hlt
  have iB := belowK_t hB0 iB0
  have hszW := iB0.size
  have c2 := i2.cell
  have f2 := i2.frozen
  have hsn := rawC_snoc pre x
  have hxN := x.2
  generalize pre ++ [x] = pn at *
  obtain ⟨q, hq⟩ := x
  dsimp only at hsn hxN ⊢
  have hlen : ((bs.drop (8 * q)).take 8).length = 8 := by have h1 := HM.out; have h2 := HL.out; simp; omega
  have hcx : ∀ k, k < 8 → W.cell? ((ad.add (8 * q)).add k) = some (.int .u8 (((bs.drop (8 * q)).take 8).getD k 0)) := fun k hk => by
   have h1 := HM.out
   have hc := HC.out (8 * q + k) (by omega)
   rw [addr_add_add]
   rw [(iB.cell (World.block_lt_of_cell? w _ hc)), hc]
   simp [List.getD_eq_getElem?_getD, List.getElem?_take, List.getElem?_drop, hk]
  have hux : ∀ y ∈ (bs.drop (8 * q)).take 8, U8 y := fun y hy => HU.out y (List.mem_of_mem_drop (List.mem_of_mem_take hy))
  have HCx := Lib.hid hcx
  have HUx := Lib.hid hux
  have HLe := Lib.hid hlen
  have HCh := Lib.hid (show chF bs q = wordOf ((bs.drop (8 * q)).take 8) from rfl)
  generalize (bs.drop (8 * q)).take 8 = sb at *
  have hL0 : ((rawC pre).map (chF bs)).length = pre.length := by simp [rawC]
  have hmp : ((rawC pn).map (chF bs)) = ((rawC pre).map (chF bs)) ++ [wordOf sb] := by rw [hsn]; simp [HCh.out]
  have HMp := Lib.hid hmp
  generalize ((rawC pre).map (chF bs)) = L0 at *
  obtain ⟨pa, pc, rfl⟩ := row_shape i3
  have hLL : L0.length ≤ 65536 := by omega
  have HRow := Lib.hid i3
  have HB2 := Lib.hid i2
  have hl2 := i2.lt
  have hUl : (ulongs L0).length = L0.length := by simp [ulongs]
  have HUl := Lib.hid hUl
  clear i3 hsn hq hcx hux hlen hmp hL0 hUl
  gi_wp2_with fail
  refine wpIn_region_held_drew (S := fun w' => True) (by kernel_rfl) (by kernel_rfl) ?_ (fun hHeld => ?_)
  ·exact trivial
  refine wT 1 ?_
  refine wpAnyH_ready (rs := [0, 2]) (by kernel_rfl) (by simp) ?_
  refine AllReadyH.cons (o := _) rfl (fun K hK => ?_) (AllReadyH.cons (o := _) rfl (fun K hK => ?_) AllReadyH.nil)
  ·go_simp
   refine hK.out _ _ ?_ (fun hHeld => ?_)
   ·exact trivial
   clear hK K
   try simp only [Act.put, zA, zB, zD, zE, zF]
   refine wR 2 fun K hK => ?_
   go_simp
   refine (word_any (ad.add (8 * q)) 8 8 sb W.drew HLe.out (by omega) HUx.out HCx.out (by omega)).mono ?_
   rintro e w1 ⟨rfl, r1⟩
   have cl1 := (r1.cell (p := ⟨w.heap.size, 0, none⟩) hl2).trans c2
   have R1 := ((BS.start W.drew).below r1).row (ownsRow_block (w' := W.drew) HRow.out (fun _ _ => rfl))
   dsimp only
   refine hK.out _ _ ?_ (fun hHeld => ?_)
   ·exact trivial
   clear hK K
   try simp only [Act.put, zA, zB, zC, zD, zE, zF]
   refine wR 3 fun K hK => ?_
   go_simp
   have cl3 := (World.cell?_alloc_lt (w := w1) (a := ⟨w.heap.size, 0, none⟩) (.cells #[.int .u64 (wordOf sb)] 61) (Nat.lt_of_lt_of_le hl2 r1.size)).trans cl1
   refine hK.out _ _ ?_ (fun hHeld => ?_)
   ·exact trivial
   clear hK K
   try simp only [Act.put, zA, zB, zC, zD, zE, zF]
   refine wR 4 fun K hK => ?_
   refine step_append_new rfl (.tmp 19) (.tmp 22) rfl 61 i0 (.int .u64 0) 1 8 Tryz.underlying22 HI.out.1 HI.out.2.1 HI.out.2.2.1 HI.out.2.2.2 rfl (by decide) (.slice pa L0.length pc) L0.length (ulongs L0) rfl (R1.alloc _) ⟨w1.heap.size, 0, none⟩ 1 1 [.int .u64 (wordOf sb)] rfl rfl (cell_list8 w1 _ _ rfl) ?c1 ?c2 ?c3 ?_
   case c1 => (intro u hu; simp at hu; subst hu; rfl)
   case c2 => (unfold maxLen; omega)
   case c3 => (omega)
   intro v2 w2 hown2 hg2 hnew2 hnil2
   clear hnil2
   have rD := (Below.refl W.heap.size W).drew.trans r1
   have rA := rD.alloc rD.size (.cells #[.int .u64 (wordOf sb)] 61)
   have RA := R1.alloc (.cells #[.int .u64 (wordOf sb)] 61)
   have B2 := box_grown8 (Boxed.keep8 HB2.out rA) RA (by decide) hg2
   have cB2 : w2.cell? ⟨w.heap.size, 0, none⟩ = some (.slice pa L0.length pc) := cell?_of_heap (o := 0) B2
   have fB2 := frozen?_of_heap (o := 0) B2
   have hvb : ∀ k, v2.ownBlock = some k → w.heap.size + 3 ≤ k := (fun k hk => (hnew2 k hk).elim (i4 k) (fun h => Nat.le_trans (Nat.le_trans (by omega) rA.size) h))
   have hne2 : ∀ k, v2.ownBlock = some k → k ≠ w.heap.size := (fun k hk e => ownsRow_elem hown2 B2 (by decide) (by rw [hk, e]))
   obtain ⟨g2, c2', rfl⟩ := Joins.ownsRow_form hown2 (by omega)
   refine hK.out _ _ ?_ (fun hHeld => ?_)
   ·exact trivial
   clear hK K
   try simp only [Act.put, zA, zB, zC, zD, zE, zF]
   refine wR 5 fun K hK => ?_
   go_simp
   refine hK.out _ _ ?_ (fun hHeld => ?_)
   ·exact trivial
   clear hK K
   try simp only [Act.put, zA, zB, zC, zD, zE, zF]
   refine wpAnyH_done (by kernel_rfl) (NoPanic.normal ?_) _
   refine Only.normal ?_
   have hk2 := hg2.size
   have r1m := rA.mono iB.size
   have hb2 : Below w.heap.size W w2 := r1m.grown hg2 (Nat.le_trans iB.size rA.size) (fun k hk => Nat.le_trans (by omega) (i4 k hk))
   have hr1 := (hg2.block (w.heap.size + 1) (by have := rA.size; omega) (fun e => by have := i4 _ e.symm; omega)).trans (rA.block (w.heap.size + 1) (by omega))
   have hr2 := (hg2.block (w.heap.size + 1 + 1) (by have := rA.size; omega) (fun e => by have := i4 _ e.symm; omega)).trans (rA.block (w.heap.size + 1 + 1) (by omega))
   refine ⟨((Below.from rA _).trans (keepsFrom_row8 RA hg2)).trans ((KeepsOthers.setCell _ _ _).from _), ⟨hb2.setCell (p := ⟨w.heap.size, 0, none⟩) (Nat.le_refl _) _, (heap_setCell_other (by omega)).trans hr1, (heap_setCell_other (by omega)).trans hr2⟩, ⟨_, (show Boxed w2 w.heap.size _ _ from B2).set _, ?_, hvb⟩, (belowK_t iB0 hb2).setCell (p := ⟨w.heap.size, 0, none⟩) (Nat.le_refl _) _⟩
   rw [HMp.out, List.length_append, ulongs_app]
   exact ownsRow_block hown2 fun k hk => heap_setCell_other (hne2 k hk)
  ·go_simp
   refine (word_any (ad.add (8 * q)) 8 8 sb W.drew HLe.out (by omega) HUx.out HCx.out (by omega)).mono ?_
   rintro e w1 ⟨rfl, r1⟩
   have cl1 := (r1.cell (p := ⟨w.heap.size, 0, none⟩) hl2).trans c2
   have R1 := ((BS.start W.drew).below r1).row (ownsRow_block (w' := W.drew) HRow.out (fun _ _ => rfl))
   dsimp only
   refine hK.out _ _ ?_ (fun hHeld => ?_)
   ·exact trivial
   clear hK K
   try simp only [Act.put, zA, zB, zC, zD, zE, zF]
   refine wpAnyH_ready (rs := [0, 3]) (by kernel_rfl) (by simp) ?_
   refine AllReadyH.cons (o := _) rfl (fun K hK => ?_) (AllReadyH.cons (o := _) rfl (fun K hK => ?_) AllReadyH.nil)
   ·go_simp
    refine hK.out _ _ ?_ (fun hHeld => ?_)
    ·exact trivial
    clear hK K
    try simp only [Act.put, zA, zB, zD, zE, zF]
    refine wR 3 fun K hK => ?_
    go_simp
    have cl3 := (World.cell?_alloc_lt (w := w1) (a := ⟨w.heap.size, 0, none⟩) (.cells #[.int .u64 (wordOf sb)] 61) (Nat.lt_of_lt_of_le hl2 r1.size)).trans cl1
    refine hK.out _ _ ?_ (fun hHeld => ?_)
    ·exact trivial
    clear hK K
    try simp only [Act.put, zA, zB, zC, zD, zE, zF]
    refine wR 4 fun K hK => ?_
    refine step_append_new rfl (.tmp 19) (.tmp 22) rfl 61 i0 (.int .u64 0) 1 8 Tryz.underlying22 HI.out.1 HI.out.2.1 HI.out.2.2.1 HI.out.2.2.2 rfl (by decide) (.slice pa L0.length pc) L0.length (ulongs L0) rfl (R1.alloc _) ⟨w1.heap.size, 0, none⟩ 1 1 [.int .u64 (wordOf sb)] rfl rfl (cell_list8 w1 _ _ rfl) ?c1 ?c2 ?c3 ?_
    case c1 => (intro u hu; simp at hu; subst hu; rfl)
    case c2 => (unfold maxLen; omega)
    case c3 => (omega)
    intro v2 w2 hown2 hg2 hnew2 hnil2
    clear hnil2
    have rD := (Below.refl W.heap.size W).drew.trans r1
    have rA := rD.alloc rD.size (.cells #[.int .u64 (wordOf sb)] 61)
    have RA := R1.alloc (.cells #[.int .u64 (wordOf sb)] 61)
    have B2 := box_grown8 (Boxed.keep8 HB2.out rA) RA (by decide) hg2
    have cB2 : w2.cell? ⟨w.heap.size, 0, none⟩ = some (.slice pa L0.length pc) := cell?_of_heap (o := 0) B2
    have fB2 := frozen?_of_heap (o := 0) B2
    have hvb : ∀ k, v2.ownBlock = some k → w.heap.size + 3 ≤ k := (fun k hk => (hnew2 k hk).elim (i4 k) (fun h => Nat.le_trans (Nat.le_trans (by omega) rA.size) h))
    have hne2 : ∀ k, v2.ownBlock = some k → k ≠ w.heap.size := (fun k hk e => ownsRow_elem hown2 B2 (by decide) (by rw [hk, e]))
    obtain ⟨g2, c2', rfl⟩ := Joins.ownsRow_form hown2 (by omega)
    refine hK.out _ _ ?_ (fun hHeld => ?_)
    ·exact trivial
    clear hK K
    try simp only [Act.put, zA, zB, zC, zD, zE, zF]
    refine wR 5 fun K hK => ?_
    go_simp
    refine hK.out _ _ ?_ (fun hHeld => ?_)
    ·exact trivial
    clear hK K
    try simp only [Act.put, zA, zB, zC, zD, zE, zF]
    refine wpAnyH_done (by kernel_rfl) (NoPanic.normal ?_) _
    refine Only.normal ?_
    have hk2 := hg2.size
    have r1m := rA.mono iB.size
    have hb2 : Below w.heap.size W w2 := r1m.grown hg2 (Nat.le_trans iB.size rA.size) (fun k hk => Nat.le_trans (by omega) (i4 k hk))
    have hr1 := (hg2.block (w.heap.size + 1) (by have := rA.size; omega) (fun e => by have := i4 _ e.symm; omega)).trans (rA.block (w.heap.size + 1) (by omega))
    have hr2 := (hg2.block (w.heap.size + 1 + 1) (by have := rA.size; omega) (fun e => by have := i4 _ e.symm; omega)).trans (rA.block (w.heap.size + 1 + 1) (by omega))
    refine ⟨((Below.from rA _).trans (keepsFrom_row8 RA hg2)).trans ((KeepsOthers.setCell _ _ _).from _), ⟨hb2.setCell (p := ⟨w.heap.size, 0, none⟩) (Nat.le_refl _) _, (heap_setCell_other (by omega)).trans hr1, (heap_setCell_other (by omega)).trans hr2⟩, ⟨_, (show Boxed w2 w.heap.size _ _ from B2).set _, ?_, hvb⟩, (belowK_t iB0 hb2).setCell (p := ⟨w.heap.size, 0, none⟩) (Nat.le_refl _) _⟩
    rw [HMp.out, List.length_append, ulongs_app]
    exact ownsRow_block hown2 fun k hk => heap_setCell_other (hne2 k hk)
   ·go_simp
    have cl3 := (World.cell?_alloc_lt (w := w1) (a := ⟨w.heap.size, 0, none⟩) (.cells #[.int .u64 (wordOf sb)] 61) (Nat.lt_of_lt_of_le hl2 r1.size)).trans cl1
    refine hK.out _ _ ?_ (fun hHeld => ?_)
    ·exact trivial
    clear hK K
    try simp only [Act.put, zA, zB, zC, zD, zE, zF]
    refine wR 0 fun K hK => ?_
    go_simp
    refine hK.out _ _ ?_ (fun hHeld => ?_)
    ·exact trivial
    clear hK K
    try simp only [Act.put, zA, zB, zD, zE, zF]
    refine wR 4 fun K hK => ?_
    refine step_append_new rfl (.tmp 19) (.tmp 22) rfl 61 i0 (.int .u64 0) 1 8 Tryz.underlying22 HI.out.1 HI.out.2.1 HI.out.2.2.1 HI.out.2.2.2 rfl (by decide) (.slice pa L0.length pc) L0.length (ulongs L0) rfl (R1.alloc _) ⟨w1.heap.size, 0, none⟩ 1 1 [.int .u64 (wordOf sb)] rfl rfl (cell_list8 w1 _ _ rfl) ?c1 ?c2 ?c3 ?_
    case c1 => (intro u hu; simp at hu; subst hu; rfl)
    case c2 => (unfold maxLen; omega)
    case c3 => (omega)
    intro v2 w2 hown2 hg2 hnew2 hnil2
    clear hnil2
    have rD := (Below.refl W.heap.size W).drew.trans r1
    have rA := rD.alloc rD.size (.cells #[.int .u64 (wordOf sb)] 61)
    have RA := R1.alloc (.cells #[.int .u64 (wordOf sb)] 61)
    have B2 := box_grown8 (Boxed.keep8 HB2.out rA) RA (by decide) hg2
    have cB2 : w2.cell? ⟨w.heap.size, 0, none⟩ = some (.slice pa L0.length pc) := cell?_of_heap (o := 0) B2
    have fB2 := frozen?_of_heap (o := 0) B2
    have hvb : ∀ k, v2.ownBlock = some k → w.heap.size + 3 ≤ k := (fun k hk => (hnew2 k hk).elim (i4 k) (fun h => Nat.le_trans (Nat.le_trans (by omega) rA.size) h))
    have hne2 : ∀ k, v2.ownBlock = some k → k ≠ w.heap.size := (fun k hk e => ownsRow_elem hown2 B2 (by decide) (by rw [hk, e]))
    obtain ⟨g2, c2', rfl⟩ := Joins.ownsRow_form hown2 (by omega)
    refine hK.out _ _ ?_ (fun hHeld => ?_)
    ·exact trivial
    clear hK K
    try simp only [Act.put, zA, zB, zC, zD, zE, zF]
    refine wR 5 fun K hK => ?_
    go_simp
    refine hK.out _ _ ?_ (fun hHeld => ?_)
    ·exact trivial
    clear hK K
    try simp only [Act.put, zA, zB, zC, zD, zE, zF]
    refine wpAnyH_done (by kernel_rfl) (NoPanic.normal ?_) _
    refine Only.normal ?_
    have hk2 := hg2.size
    have r1m := rA.mono iB.size
    have hb2 : Below w.heap.size W w2 := r1m.grown hg2 (Nat.le_trans iB.size rA.size) (fun k hk => Nat.le_trans (by omega) (i4 k hk))
    have hr1 := (hg2.block (w.heap.size + 1) (by have := rA.size; omega) (fun e => by have := i4 _ e.symm; omega)).trans (rA.block (w.heap.size + 1) (by omega))
    have hr2 := (hg2.block (w.heap.size + 1 + 1) (by have := rA.size; omega) (fun e => by have := i4 _ e.symm; omega)).trans (rA.block (w.heap.size + 1 + 1) (by omega))
    refine ⟨((Below.from rA _).trans (keepsFrom_row8 RA hg2)).trans ((KeepsOthers.setCell _ _ _).from _), ⟨hb2.setCell (p := ⟨w.heap.size, 0, none⟩) (Nat.le_refl _) _, (heap_setCell_other (by omega)).trans hr1, (heap_setCell_other (by omega)).trans hr2⟩, ⟨_, (show Boxed w2 w.heap.size _ _ from B2).set _, ?_, hvb⟩, (belowK_t iB0 hb2).setCell (p := ⟨w.heap.size, 0, none⟩) (Nat.le_refl _) _⟩
    rw [HMp.out, List.length_append, ulongs_app]
    exact ownsRow_block hown2 fun k hk => heap_setCell_other (hne2 k hk)
 case done =>
  rintro D ys W hD hys ⟨⟨v, i2, i3, i4⟩, iB0⟩ hK
  have iB := belowK_t hB0 iB0
  rw [hys] at i3
  have c2 := i2.cell
  gi_wp2
  refine ⟨by simp, .inl ⟨_, _, rfl, run_takeDeferred hK, ?_⟩⟩
  refine ⟨.tuple #[v, .bool true], by simp [results, Tryz.results6, go_sem], ?_⟩
  rw [chunks_range]
  refine ⟨v, rfl, row_other8 i3 (grownBy_putObj' _ D (.deferred none)) (fun r e => by cases e; exact ⟨_, hK, rfl⟩), fun k hk => Nat.le_trans (by omega) (i4 k hk), iB.trans (belowK_b (w := w) (Nat.le_refl _) _ D _ _ (by omega) hK rfl rfl)⟩
 case stop =>
  rintro D cd pre W hD _ h _
  exact h.elim
end Go.Proofs.YtcbikgafdclhaaaGreat
/- mend: a load is laid; Begin. -/
set_option linter.unusedSimpArgs false
set_option linter.unusedVariables false
namespace Go.Proofs.YtcbikgafdclhaaaGreat
open Go.RowKit

theorem cell_list_at (w : World) (xs : List Value) (T : TypeId) (k : Nat) (hk : k = w.heap.size) : ∀ (j : Nat) (x : Value), xs[j]? = some x → (w.alloc (.cells xs.toArray T)).cell? ((⟨k, 0, none⟩ : Addr).add j) = some x := by
 subst hk
 intro j x hj
 rw [show (⟨w.heap.size, 0, none⟩ : Addr).add j = ⟨w.heap.size, j, none⟩ by by_cases h0 : j = 0 <;> simp [Addr.add, h0]]
 exact (cell?_of_heap (heap_alloc_new w _)).trans (by simpa using hj)
theorem row_shapeM {w : World} {B e sz n : Nat} {v : Value} {xs : List Value} (h : w.ownsRow B e sz v n xs) : ∃ a c, v = .slice a n c := by
 rcases h.2 with ⟨h5, h6⟩ | ⟨g, cap, cur, h5, -⟩
 ·exact ⟨_, _, by rw [h5, h6]⟩
 ·exact ⟨_, _, h5⟩
def mendC (t p s : Int) (lv rest : Value) (st md pg : Int) : Array Value := #[.int .i64 t, .int .i64 p, .int .i64 s, lv, rest, .int .u32 st, .int .u32 md, .int .i64 pg]
def stepC (d z a v : Int) (told : Value) : List Value := [.int .i64 d, .int .i64 z, .int .i64 a, .int .i64 0, .int .u64 0, .int .u64 v, told]
theorem infoStep : (Tryz.prog.info? 215).map (fun i => (i.zero, i.size, i.bytes)) = some (some (.agg #[.int .i64 0, .int .i64 0, .int .i64 0, .int .i64 0, .int .u64 0, .int .u64 0, .nilFunc]), 7, 56) := by kernel_rfl
theorem memaker_any (b : Nat) (t : Int) (w : World) (h : w.cell? ⟨b, 0, none⟩ = some (.int .i64 t)) : Calls Tryz.prog 184 #[.pointer (some ⟨b, 0, none⟩)] w fun e w' => e = .returned (.int .i64 t) ∧ w = w' := by
 go_enter Tryz.func184, Tryz.ntmps184
 go_wp2
 go_ret
 exact ⟨rfl, rfl⟩
/-- the queue of a mending: a row of its own. -/
structure MeB (w : World) (b : Nat) (t p s : Int) (lv rest : Value) (st md pg : Int) (n : Nat) (xs : List Value) : Prop where
 box : w.heap[b]? = some (.cells (mendC t p s lv rest st md pg) 189)
 row : w.ownsRow 0 215 7 lv n xs
 ne : lv.ownBlock ≠ some b
set_option maxHeartbeats 1000000 in
set_option maxRecDepth 100000 in
theorem meload_any (b : Nat) (t p s : Int) (lv rest : Value) (st md pg : Int) (n : Nat) (xs : List Value) (at' : Int) (F : FuncId) (rc cp : Array Value) (w : World) (h : MeB w b t p s lv rest st md pg n xs) (hn : n ≤ 1000000) :
 Calls Tryz.prog 137 #[.pointer (some ⟨b, 0, none⟩), .int .i64 at', .func (.func F) rc cp] w fun e w' => e = .returned (.tuple #[]) ∧ (∃ lv', MeB w' b t p s lv' rest st md pg (n + 1) (xs ++ stepC 1 t at' 0 (.func (.func F) rc cp)) ∧ (∀ k, lv'.ownBlock = some k → lv.ownBlock = some k ∨ w.heap.size ≤ k)) ∧ Fr (fun k => k = b ∨ lv.ownBlock = some k) w w' := by
 obtain ⟨hb, hrow, hne⟩ := h
 obtain ⟨i0, hi0, hi1, hi2, hi3⟩ := info_parts infoStep
 have HI := Lib.hid (And.intro hi0 (And.intro hi1 (And.intro hi2 hi3)))
 obtain ⟨pa, pc, rfl⟩ := row_shapeM hrow
 have hc : ∀ o : Nat, w.cell? ⟨b, o, none⟩ = (mendC t p s (.slice pa n pc) rest st md pg)[o]? := fun o => cell?_of_heap hb
 have hblt : b < w.heap.size := (Array.getElem?_eq_some_iff.1 hb).1
 have HR := Lib.hid hrow
 have HB := Lib.hid hb
 unfold mendC at hc
 clear hi0 hi1 hi2 hi3 hrow hb
 go_enter Tryz.func137, Tryz.ntmps137
 go_wp2_with fail
 have q0 := hc 0
 have q3 := hc 3
 simp at q0 q3
 refine wp_region_noPanic ?_
 refine wp_region_held_drew (S := fun w' => True) (by kernel_rfl) ?_ (fun hHeld => ?_)
 ·exact trivial
 refine wT 0 ?_
 refine wT 1 ?_
 refine wT 2 ?_
 refine wT 3 ?_
 refine wT 5 ?_
 refine wT 7 ?_
 refine wT 9 ?_
 refine wpAnyH_ready (rs := [4, 6]) (by kernel_rfl) (by simp) ?_
 refine AllReadyH.cons (o := _) rfl (fun K hK => ?_) (AllReadyH.cons (o := _) rfl (fun K hK => ?_) AllReadyH.nil)
 ·go_simp
  refine hK.out _ _ ?_ (fun hHeld => ?_)
  ·exact trivial
  clear hK K
  try simp only [Act.put, zA, zB, zC, zD, zE, zF]
  refine wR 6 fun K hK => ?_
  go_simp
  refine (memaker_any b t _ (by simpa using q0)).mono ?_
  rintro e w1 ⟨rfl, rfl⟩
  refine hK.out _ _ ?_ (fun hHeld => ?_)
  ·exact trivial
  clear hK K
  try simp only [Act.put, zA, zB, zC, zD, zE, zF]
  refine wT 8 ?_
  refine wT 10 ?_
  refine wR 11 fun K hK => ?_
  go_simp
  refine hK.out _ _ ?_ (fun hHeld => ?_)
  ·exact trivial
  clear hK K
  try simp only [Act.put, zA, zB, zC, zD, zE, zF]
  refine wR 12 fun K hK => ?_
  refine step_append_new rfl (.tmp 10) (.tmp 17) rfl 215 i0 (.agg #[.int .i64 0, .int .i64 0, .int .i64 0, .int .i64 0, .int .u64 0, .int .u64 0, .nilFunc]) 7 56 Tryz.underlying187 HI.out.1 HI.out.2.1 HI.out.2.2.1 HI.out.2.2.2 rfl (by decide) (.slice pa n pc) n xs rfl ((ownsRow_block (w' := w.drew) HR.out (fun _ _ => rfl)).alloc _) ⟨w.heap.size, 0, none⟩ 1 1 (stepC 1 t at' 0 (.func (.func F) rc cp)) rfl rfl (cell_list_at w.drew _ _ _ rfl) ?c1 ?c2 ?c3 ?_
  case c1 => (intro u hu; simp [stepC] at hu; rcases hu with rfl | rfl | rfl | rfl | rfl | rfl | rfl <;> rfl)
  case c2 => (unfold maxLen; omega)
  case c3 => (omega)
  intro v' w5 hown5 hg5 hnew5 hnil5
  clear hnil5
  obtain ⟨g', cap', rfl⟩ := Joins.ownsRow_form hown5 (by omega)
  have hb5 := hg5.block b (by simp; omega) (fun e => hne e.symm)
  have hbx5 := hb5.trans ((Below.heap_alloc w.drew (.cells (stepC 1 t at' 0 (.func (.func F) rc cp)).toArray 215) _ hblt).trans HB.out)
  have c53 := cell?_of_heap (o := 3) hbx5
  have f5 := frozen?_of_heap (o := 3) hbx5
  have hne5 := (fun e : g' = b => (hnew5 b (by rw [← e]; rfl)).elim hne (fun h => by simp at h; omega))
  simp [mendC] at c53
  refine hK.out _ _ ?_ (fun hHeld => ?_)
  ·exact trivial
  clear hK K
  try simp only [Act.put, zA, zB, zC, zD, zE, zF]
  refine wT 13 ?_
  refine wT 14 ?_
  refine wR 15 fun K hK => ?_
  go_simp
  refine hK.out _ _ ?_ (fun hHeld => ?_)
  ·exact trivial
  clear hK K
  try simp only [Act.put, zA, zB, zC, zD, zE, zF]
  refine wpAnyH_done (by kernel_rfl) (NoPanic.normal ?_) _
  have hF5 : Fr (fun k => k = b ∨ (Value.slice pa n pc).ownBlock = some k) w w5 := (((Fr.refl _ w).drew).alloc (.cells (stepC 1 t at' 0 (.func (.func F) rc cp)).toArray 215)).grown hg5 (fun k hk => Or.inl (Or.inr hk))
  have hF6 := hF5.setCell ⟨b, 3, none⟩ (.slice (some ⟨g', 0, none⟩) (n + 1) cap') (Or.inl (Or.inl rfl))
  have hN := hnew5
  go_end0
  refine ⟨rfl, ⟨.slice (some ⟨g', 0, none⟩) (n + 1) cap', ⟨(heap_setCell_same hbx5).trans (by simp [mendC]), ownsRow_block hown5 fun k hk => heap_setCell_other (fun e => hne5 (by simp [Value.ownBlock] at hk; omega)), fun e => hne5 (by simpa [Value.ownBlock] using e)⟩, fun k hk => ?_⟩, hF6⟩
  rcases hN k hk with h | h
  ·exact Or.inl h
  ·exact Or.inr (by simp at h; omega)
 ·go_simp
  refine (memaker_any b t _ (by simpa using q0)).mono ?_
  rintro e w1 ⟨rfl, rfl⟩
  refine hK.out _ _ ?_ (fun hHeld => ?_)
  ·exact trivial
  clear hK K
  try simp only [Act.put, zA, zB, zC, zD, zE, zF]
  refine wT 8 ?_
  refine wT 10 ?_
  refine wpAnyH_ready (rs := [4, 11]) (by kernel_rfl) (by simp) ?_
  refine AllReadyH.cons (o := _) rfl (fun K hK => ?_) (AllReadyH.cons (o := _) rfl (fun K hK => ?_) AllReadyH.nil)
  ·go_simp
   refine hK.out _ _ ?_ (fun hHeld => ?_)
   ·exact trivial
   clear hK K
   try simp only [Act.put, zA, zB, zC, zD, zE, zF]
   refine wR 11 fun K hK => ?_
   go_simp
   refine hK.out _ _ ?_ (fun hHeld => ?_)
   ·exact trivial
   clear hK K
   try simp only [Act.put, zA, zB, zC, zD, zE, zF]
   refine wR 12 fun K hK => ?_
   refine step_append_new rfl (.tmp 10) (.tmp 17) rfl 215 i0 (.agg #[.int .i64 0, .int .i64 0, .int .i64 0, .int .i64 0, .int .u64 0, .int .u64 0, .nilFunc]) 7 56 Tryz.underlying187 HI.out.1 HI.out.2.1 HI.out.2.2.1 HI.out.2.2.2 rfl (by decide) (.slice pa n pc) n xs rfl ((ownsRow_block (w' := w.drew) HR.out (fun _ _ => rfl)).alloc _) ⟨w.heap.size, 0, none⟩ 1 1 (stepC 1 t at' 0 (.func (.func F) rc cp)) rfl rfl (cell_list_at w.drew _ _ _ rfl) ?c1 ?c2 ?c3 ?_
   case c1 => (intro u hu; simp [stepC] at hu; rcases hu with rfl | rfl | rfl | rfl | rfl | rfl | rfl <;> rfl)
   case c2 => (unfold maxLen; omega)
   case c3 => (omega)
   intro v' w5 hown5 hg5 hnew5 hnil5
   clear hnil5
   obtain ⟨g', cap', rfl⟩ := Joins.ownsRow_form hown5 (by omega)
   have hb5 := hg5.block b (by simp; omega) (fun e => hne e.symm)
   have hbx5 := hb5.trans ((Below.heap_alloc w.drew (.cells (stepC 1 t at' 0 (.func (.func F) rc cp)).toArray 215) _ hblt).trans HB.out)
   have c53 := cell?_of_heap (o := 3) hbx5
   have f5 := frozen?_of_heap (o := 3) hbx5
   have hne5 := (fun e : g' = b => (hnew5 b (by rw [← e]; rfl)).elim hne (fun h => by simp at h; omega))
   simp [mendC] at c53
   refine hK.out _ _ ?_ (fun hHeld => ?_)
   ·exact trivial
   clear hK K
   try simp only [Act.put, zA, zB, zC, zD, zE, zF]
   refine wT 13 ?_
   refine wT 14 ?_
   refine wR 15 fun K hK => ?_
   go_simp
   refine hK.out _ _ ?_ (fun hHeld => ?_)
   ·exact trivial
   clear hK K
   try simp only [Act.put, zA, zB, zC, zD, zE, zF]
   refine wpAnyH_done (by kernel_rfl) (NoPanic.normal ?_) _
   have hF5 : Fr (fun k => k = b ∨ (Value.slice pa n pc).ownBlock = some k) w w5 := (((Fr.refl _ w).drew).alloc (.cells (stepC 1 t at' 0 (.func (.func F) rc cp)).toArray 215)).grown hg5 (fun k hk => Or.inl (Or.inr hk))
   have hF6 := hF5.setCell ⟨b, 3, none⟩ (.slice (some ⟨g', 0, none⟩) (n + 1) cap') (Or.inl (Or.inl rfl))
   have hN := hnew5
   go_end0
   refine ⟨rfl, ⟨.slice (some ⟨g', 0, none⟩) (n + 1) cap', ⟨(heap_setCell_same hbx5).trans (by simp [mendC]), ownsRow_block hown5 fun k hk => heap_setCell_other (fun e => hne5 (by simp [Value.ownBlock] at hk; omega)), fun e => hne5 (by simpa [Value.ownBlock] using e)⟩, fun k hk => ?_⟩, hF6⟩
   rcases hN k hk with h | h
   ·exact Or.inl h
   ·exact Or.inr (by simp at h; omega)
  ·go_simp
   refine hK.out _ _ ?_ (fun hHeld => ?_)
   ·exact trivial
   clear hK K
   try simp only [Act.put, zA, zB, zC, zD, zE, zF]
   refine wR 4 fun K hK => ?_
   go_simp
   refine hK.out _ _ ?_ (fun hHeld => ?_)
   ·exact trivial
   clear hK K
   try simp only [Act.put, zA, zB, zC, zD, zE, zF]
   refine wR 12 fun K hK => ?_
   refine step_append_new rfl (.tmp 10) (.tmp 17) rfl 215 i0 (.agg #[.int .i64 0, .int .i64 0, .int .i64 0, .int .i64 0, .int .u64 0, .int .u64 0, .nilFunc]) 7 56 Tryz.underlying187 HI.out.1 HI.out.2.1 HI.out.2.2.1 HI.out.2.2.2 rfl (by decide) (.slice pa n pc) n xs rfl ((ownsRow_block (w' := w.drew) HR.out (fun _ _ => rfl)).alloc _) ⟨w.heap.size, 0, none⟩ 1 1 (stepC 1 t at' 0 (.func (.func F) rc cp)) rfl rfl (cell_list_at w.drew _ _ _ rfl) ?c1 ?c2 ?c3 ?_
   case c1 => (intro u hu; simp [stepC] at hu; rcases hu with rfl | rfl | rfl | rfl | rfl | rfl | rfl <;> rfl)
   case c2 => (unfold maxLen; omega)
   case c3 => (omega)
   intro v' w5 hown5 hg5 hnew5 hnil5
   clear hnil5
   obtain ⟨g', cap', rfl⟩ := Joins.ownsRow_form hown5 (by omega)
   have hb5 := hg5.block b (by simp; omega) (fun e => hne e.symm)
   have hbx5 := hb5.trans ((Below.heap_alloc w.drew (.cells (stepC 1 t at' 0 (.func (.func F) rc cp)).toArray 215) _ hblt).trans HB.out)
   have c53 := cell?_of_heap (o := 3) hbx5
   have f5 := frozen?_of_heap (o := 3) hbx5
   have hne5 := (fun e : g' = b => (hnew5 b (by rw [← e]; rfl)).elim hne (fun h => by simp at h; omega))
   simp [mendC] at c53
   refine hK.out _ _ ?_ (fun hHeld => ?_)
   ·exact trivial
   clear hK K
   try simp only [Act.put, zA, zB, zC, zD, zE, zF]
   refine wT 13 ?_
   refine wT 14 ?_
   refine wR 15 fun K hK => ?_
   go_simp
   refine hK.out _ _ ?_ (fun hHeld => ?_)
   ·exact trivial
   clear hK K
   try simp only [Act.put, zA, zB, zC, zD, zE, zF]
   refine wpAnyH_done (by kernel_rfl) (NoPanic.normal ?_) _
   have hF5 : Fr (fun k => k = b ∨ (Value.slice pa n pc).ownBlock = some k) w w5 := (((Fr.refl _ w).drew).alloc (.cells (stepC 1 t at' 0 (.func (.func F) rc cp)).toArray 215)).grown hg5 (fun k hk => Or.inl (Or.inr hk))
   have hF6 := hF5.setCell ⟨b, 3, none⟩ (.slice (some ⟨g', 0, none⟩) (n + 1) cap') (Or.inl (Or.inl rfl))
   have hN := hnew5
   go_end0
   refine ⟨rfl, ⟨.slice (some ⟨g', 0, none⟩) (n + 1) cap', ⟨(heap_setCell_same hbx5).trans (by simp [mendC]), ownsRow_block hown5 fun k hk => heap_setCell_other (fun e => hne5 (by simp [Value.ownBlock] at hk; omega)), fun e => hne5 (by simpa [Value.ownBlock] using e)⟩, fun k hk => ?_⟩, hF6⟩
   rcases hN k hk with h | h
   ·exact Or.inl h
   ·exact Or.inr (by simp at h; omega)
theorem mebegin_any (t p s : Int) (w : World) (hr : rightB t p s = true) :
 Calls Tryz.prog 91 #[.agg #[.int .i64 t, .int .i64 p, .int .i64 s]] w fun e w' => (∃ b, e = .returned (.pointer (some ⟨b, 0, none⟩)) ∧ w.heap.size ≤ b ∧ ∃ lv, MeB w' b t p s lv .nilFunc 0 0 0 1 (stepC 1 t 8 0 (.func (.func 138) #[.pointer (some ⟨b, 0, none⟩)] #[])) ∧ ∀ k, lv.ownBlock = some k → w.heap.size ≤ k) ∧ Below w.heap.size w w' := by
 have HC := Lib.hid (fun w => check_right t p s w hr)
 clear hr
 go_enter Tryz.func91, Tryz.ntmps91
 go_wp2_with fail
 refine (HC.out _).mono ?_
 rintro e w1 ⟨rfl, b1⟩
 obtain ⟨b1c, b1f⟩ := bcell b1
 have b1z0 : w.heap.size < w1.heap.size := by have := b1.size; first | omega | (simp at this; omega)
 have B1 : Below w.heap.size w w1 := by (repeat (first | exact Below.refl _ _ | assumption | refine Below.setCell ?_ (by first | omega | (simp; done) | (simp; omega)) _ | refine Below.alloc ?_ (by first | omega | (simp; done) | (simp; omega)) _ | refine Below.drew ?_ | refine Below.trans ?_ (Below.mono ‹Below _ _ _› (by first | omega | (simp; done) | (simp; omega)))))
 have B2 := B1.alloc B1.size (.cells (mendC t p s (.slice none 0 0) .nilFunc 0 0 0) 189)
 have hM : MeB (w1.alloc (.cells (mendC t p s (.slice none 0 0) .nilFunc 0 0 0) 189)) w1.heap.size t p s (.slice none 0 0) .nilFunc 0 0 0 0 [] := ⟨heap_alloc_new _ _, World.ownsRow_nil _ _ _ _, by simp [Value.ownBlock]⟩
 have HM := Lib.hid hM
 have HB2 := Lib.hid B2
 have hz := B1.size
 clear hM B1 B2 b1
 go_wp2_with fail
 refine (meload_any _ t p s _ _ _ _ _ _ _ _ _ _ _ _ HM.out (by omega)).mono ?_
 rintro e w3 ⟨rfl, ⟨lv, hM3, hlv⟩, hF⟩
 have hB3 := HB2.out.trans ((hF.below (B := w.heap.size) (by simp; omega) (fun i hi => by
  rcases hi with rfl | hi
  ·exact hz
  ·simp [Value.ownBlock] at hi)))
 go_wp2
 go_ret
 refine ⟨⟨_, rfl, hz, lv, by simpa using hM3, fun k hk => ?_⟩, hB3⟩
 rcases hlv k hk with h | h
 ·simp [Value.ownBlock] at h
 ·simp at h; omega
end Go.Proofs.YtcbikgafdclhaaaGreat
/- world: a crash of a world that has told nothing. -/
set_option linter.unusedSimpArgs false
set_option linter.unusedVariables false
namespace Go.Proofs.YtcbikgafdclhaaaGreat
open Go.RowKit

theorem cell_othW {W : World} {g L o : Nat} {x : Option Value} (h : L ≠ g) (k : Nat) (v : Value) (hc : W.cell? ⟨L, o, none⟩ = x) : (W.setCell ⟨g, k, none⟩ v).cell? ⟨L, o, none⟩ = x := (World.cell?_of_block (a := ⟨L, o, none⟩) (heap_setCell_other h)).trans hc

def worldC (t p s : Int) (m al md : Value) (ep : Int) (sv mk : Value) (ig st mn : Int) : Array Value := #[.int .i64 t, .int .i64 p, .int .i64 s, m, al, md, .int .i64 ep, sv, mk, .int .i64 ig, .int .i64 st, .int .i64 mn]
def ev4 : List Value := [.int .i64 4, .int .i64 0, .int .i64 0, .int .i64 0, .int .i64 0, .int .i64 0, .int .i64 0, .int .i64 0, .int .i64 0, .int .i64 0, .int .i64 0, .int .i64 0, .int .i64 0, .int .i64 0, .int .i64 0, .int .i64 0, .int .i64 0]
theorem infoEv : (Tryz.prog.info? 59).map (fun i => (i.zero, i.size, i.bytes)) = some (some (.agg #[.int .i64 0, .int .i64 0, .int .i64 0, .int .i64 0, .int .i64 0, .int .i64 0, .int .i64 0, .int .i64 0, .int .i64 0, .int .i64 0, .int .i64 0, .int .i64 0, .int .i64 0, .int .i64 0, .int .i64 0, .int .i64 0, .int .i64 0]), 17, 136) := by kernel_rfl
theorem ev4_one : ∀ u ∈ ev4, u.oneCell' = true := by decide
set_option maxHeartbeats 2000000 in
set_option maxRecDepth 100000 in
theorem wtell_any (b : Nat) (t p s : Int) (m al md mk : Value) (ig st mn : Int) (w : World) (hb : w.heap[b]? = some (.cells (worldC t p s m al md 0 (.slice none 0 0) mk ig st mn) 87)) :
 Calls Tryz.prog 85 #[.pointer (some ⟨b, 0, none⟩), .agg #[.int .i64 4, .int .i64 0, .int .i64 0, .int .i64 0, .int .i64 0, .int .i64 0, .int .i64 0, .int .i64 0, .int .i64 0, .int .i64 0, .int .i64 0, .int .i64 0, .int .i64 0, .int .i64 0, .int .i64 0, .int .i64 0, .int .i64 0]] w fun e w' => e = .returned (.tuple #[]) ∧ (∃ g c, w'.heap[b]? = some (.cells (worldC t p s m al md 0 (.slice (some ⟨g, 0, none⟩) 1 c) mk ig st mn) 87) ∧ w'.ownsRow 0 59 17 (.slice (some ⟨g, 0, none⟩) 1 c) 1 ev4 ∧ w.heap.size ≤ g) ∧ Fr (fun k => k = b) w w' := by
 obtain ⟨i0, hi0, hi1, hi2, hi3⟩ := info_parts infoEv
 have HI := Lib.hid (And.intro hi0 (And.intro hi1 (And.intro hi2 hi3)))
 have hc : ∀ o : Nat, w.cell? ⟨b, o, none⟩ = (worldC t p s m al md 0 (.slice none 0 0) mk ig st mn)[o]? := fun o => cell?_of_heap hb
 have hblt : b < w.heap.size := (Array.getElem?_eq_some_iff.1 hb).1
 have HB := Lib.hid hb
 have q6 := hc 6
 have q7 := hc 7
 simp [worldC] at q6 q7
 have d0 := loc_alloc w #[.int .i64 4, .int .i64 0, .int .i64 0, .int .i64 0, .int .i64 0, .int .i64 0, .int .i64 0, .int .i64 0, .int .i64 0, .int .i64 0, .int .i64 0, .int .i64 0, .int .i64 0, .int .i64 0, .int .i64 0, .int .i64 0, .int .i64 0] 59
 clear hi0 hi1 hi2 hi3 hb hc
 go_enter Tryz.func85, Tryz.ntmps85
 go_wp2_with fail
 refine wp_region_noPanic ?_
 refine wp_region_held_drew (S := fun w' => (∀ o : Nat, w'.cell? ⟨w.heap.size, o, none⟩ = (#[.int .i64 4, .int .i64 0, .int .i64 0, .int .i64 0, .int .i64 0, .int .i64 0, .int .i64 0, .int .i64 0, .int .i64 0, .int .i64 0, .int .i64 0, .int .i64 0, .int .i64 0, .int .i64 0, .int .i64 0, .int .i64 0, .int .i64 0] : Array Value)[o]?)) (by kernel_rfl) ?_ (fun hHeld => ?_)
 ·exact d0
 refine wT 0 ?_
 refine wT 1 ?_
 refine wT 2 ?_
 refine wT 3 ?_
 refine wpAnyH_take (i := 5) (oi := _) (v := .agg #[.int .i64 4, .int .i64 0, .int .i64 0, .int .i64 0, .int .i64 0, .int .i64 0, .int .i64 0, .int .i64 0, .int .i64 0, .int .i64 0, .int .i64 0, .int .i64 0, .int .i64 0, .int .i64 0, .int .i64 0, .int .i64 0, .int .i64 0]) rfl (by kernel_rfl) (by kernel_rfl) (by kernel_rfl) (fun _ _ _ h => h) (yieldsIf_load_mid (by rfl) 59 (.tmp 3) rfl w.heap.size 0 rfl [.int .i64 4, .int .i64 0, .int .i64 0, .int .i64 0, .int .i64 0, .int .i64 0, .int .i64 0, .int .i64 0, .int .i64 0, .int .i64 0, .int .i64 0, .int .i64 0, .int .i64 0, .int .i64 0, .int .i64 0, .int .i64 0, .int .i64 0] _ (fun wx hx j v hv => (hx (0 + j)).trans (by rw [Nat.zero_add, List.getElem?_toArray]; exact hv)) Tryz.underlying59 rfl (by kernel_rfl)) (by assumption) ?_
 try simp only [Act.put, zA, zB, zC, zD, zE, zF]
 refine wpAnyH_ready (rs := [4, 6]) (by kernel_rfl) (by simp) ?_
 refine AllReadyH.cons (o := _) rfl (fun K hK => ?_) (AllReadyH.cons (o := _) rfl (fun K hK => ?_) AllReadyH.nil)
 ·go_simp
  refine hK.out _ _ ?_ (fun hHeld => ?_)
  ·exact hHeld
  clear hK K
  try simp only [Act.put, zA, zB, zC, zD, zE, zF]
  refine wR 6 fun K hK => ?_
  go_simp
  refine hK.out _ _ ?_ (fun hHeld => ?_)
  ·exact (loc_old _ (by simp) hHeld)
  clear hK K
  try simp only [Act.put, zA, zB, zC, zD, zE, zF]
  refine wR 7 fun K hK => ?_
  refine step_append_new rfl (.tmp 13) (.tmp 15) rfl 59 i0 (.agg #[.int .i64 0, .int .i64 0, .int .i64 0, .int .i64 0, .int .i64 0, .int .i64 0, .int .i64 0, .int .i64 0, .int .i64 0, .int .i64 0, .int .i64 0, .int .i64 0, .int .i64 0, .int .i64 0, .int .i64 0, .int .i64 0, .int .i64 0]) 17 136 Tryz.underlying49 HI.out.1 HI.out.2.1 HI.out.2.2.1 HI.out.2.2.2 rfl (by decide) (.slice none 0 0) 0 [] rfl (World.ownsRow_nil _ _ _ _) ⟨w.heap.size + 1, 0, none⟩ 1 1 ev4 rfl rfl (cell_list_at (w.alloc (.cells #[.int .i64 4, .int .i64 0, .int .i64 0, .int .i64 0, .int .i64 0, .int .i64 0, .int .i64 0, .int .i64 0, .int .i64 0, .int .i64 0, .int .i64 0, .int .i64 0, .int .i64 0, .int .i64 0, .int .i64 0, .int .i64 0, .int .i64 0] 59)).drew _ _ _ (by simp)) ?c1 ?c2 ?c3 ?_
  case c1 => (exact ev4_one)
  case c2 => (unfold maxLen; omega)
  case c3 => (omega)
  intro v' w5 hown5 hg5 hnew5 hnil5
  clear hnil5
  obtain ⟨g', cap', rfl⟩ := Joins.ownsRow_form hown5 (by omega)
  have hb5 := hg5.block b (by simp; omega) (fun e => by simp [Value.ownBlock] at e)
  have hbx5 := hb5.trans ((Below.heap_alloc (w.alloc (.cells #[.int .i64 4, .int .i64 0, .int .i64 0, .int .i64 0, .int .i64 0, .int .i64 0, .int .i64 0, .int .i64 0, .int .i64 0, .int .i64 0, .int .i64 0, .int .i64 0, .int .i64 0, .int .i64 0, .int .i64 0, .int .i64 0, .int .i64 0] 59)).drew _ _ (by simp; omega)).trans ((Below.heap_alloc w _ _ hblt).trans HB.out))
  have c57 := cell?_of_heap (o := 7) hbx5
  have f5 := frozen?_of_heap (o := 7) hbx5
  simp [worldC] at c57
  have hc5 := (fun o : Nat => (World.cell?_of_block (a := ⟨w.heap.size, o, none⟩) (hg5.block w.heap.size (by simp; omega) (fun e => by simp [Value.ownBlock] at e))).trans (hHeld o))
  have hbne := (show w.heap.size ≠ b by omega)
  have hc6 := (fun o : Nat => cell_othW hbne 7 (.slice (some ⟨g', 0, none⟩) 1 cap') (hc5 o))
  refine hK.out _ _ ?_ (fun hHeld => ?_)
  ·exact hc5
  clear hK K
  try simp only [Act.put, zA, zB, zC, zD, zE, zF]
  refine wT 8 ?_
  refine wT 9 ?_
  refine wR 10 fun K hK => ?_
  go_simp
  refine hK.out _ _ ?_ (fun hHeld => ?_)
  ·exact hc6
  clear hK K
  try simp only [Act.put, zA, zB, zC, zD, zE, zF]
  refine wpAnyH_done (by kernel_rfl) (NoPanic.normal ?_) _
  have hF5 : Fr (fun k => k = b) w w5 := (((((Fr.refl _ w).alloc _).drew).alloc (.cells ev4.toArray 59)).grown hg5 (fun k hk => by simp [Value.ownBlock] at hk))
  have hF6 := hF5.setCell ⟨b, 7, none⟩ (.slice (some ⟨g', 0, none⟩) 1 cap') (Or.inl rfl)
  have hN := hnew5 g' rfl
  have hg9 : w.heap.size ≤ g' := hN.elim (fun h => by simp [Value.ownBlock] at h) (fun h => by simp at h; omega)
  clear hHeld hc5 hc6
  go_end0
  exact ⟨rfl, ⟨g', cap', (heap_setCell_same hbx5).trans (by simp [worldC]), ownsRow_block hown5 fun k hk => heap_setCell_other (fun e => by simp [Value.ownBlock] at hk; omega), hg9⟩, hF6⟩
 ·go_simp
  refine hK.out _ _ ?_ (fun hHeld => ?_)
  ·exact (loc_old _ (by simp) hHeld)
  clear hK K
  try simp only [Act.put, zA, zB, zC, zD, zE, zF]
  refine wR 4 fun K hK => ?_
  go_simp
  refine hK.out _ _ ?_ (fun hHeld => ?_)
  ·exact hHeld
  clear hK K
  try simp only [Act.put, zA, zB, zC, zD, zE, zF]
  refine wR 7 fun K hK => ?_
  refine step_append_new rfl (.tmp 13) (.tmp 15) rfl 59 i0 (.agg #[.int .i64 0, .int .i64 0, .int .i64 0, .int .i64 0, .int .i64 0, .int .i64 0, .int .i64 0, .int .i64 0, .int .i64 0, .int .i64 0, .int .i64 0, .int .i64 0, .int .i64 0, .int .i64 0, .int .i64 0, .int .i64 0, .int .i64 0]) 17 136 Tryz.underlying49 HI.out.1 HI.out.2.1 HI.out.2.2.1 HI.out.2.2.2 rfl (by decide) (.slice none 0 0) 0 [] rfl (World.ownsRow_nil _ _ _ _) ⟨w.heap.size + 1, 0, none⟩ 1 1 ev4 rfl rfl (cell_list_at (w.alloc (.cells #[.int .i64 4, .int .i64 0, .int .i64 0, .int .i64 0, .int .i64 0, .int .i64 0, .int .i64 0, .int .i64 0, .int .i64 0, .int .i64 0, .int .i64 0, .int .i64 0, .int .i64 0, .int .i64 0, .int .i64 0, .int .i64 0, .int .i64 0] 59)).drew _ _ _ (by simp)) ?c1 ?c2 ?c3 ?_
  case c1 => (exact ev4_one)
  case c2 => (unfold maxLen; omega)
  case c3 => (omega)
  intro v' w5 hown5 hg5 hnew5 hnil5
  clear hnil5
  obtain ⟨g', cap', rfl⟩ := Joins.ownsRow_form hown5 (by omega)
  have hb5 := hg5.block b (by simp; omega) (fun e => by simp [Value.ownBlock] at e)
  have hbx5 := hb5.trans ((Below.heap_alloc (w.alloc (.cells #[.int .i64 4, .int .i64 0, .int .i64 0, .int .i64 0, .int .i64 0, .int .i64 0, .int .i64 0, .int .i64 0, .int .i64 0, .int .i64 0, .int .i64 0, .int .i64 0, .int .i64 0, .int .i64 0, .int .i64 0, .int .i64 0, .int .i64 0] 59)).drew _ _ (by simp; omega)).trans ((Below.heap_alloc w _ _ hblt).trans HB.out))
  have c57 := cell?_of_heap (o := 7) hbx5
  have f5 := frozen?_of_heap (o := 7) hbx5
  simp [worldC] at c57
  have hc5 := (fun o : Nat => (World.cell?_of_block (a := ⟨w.heap.size, o, none⟩) (hg5.block w.heap.size (by simp; omega) (fun e => by simp [Value.ownBlock] at e))).trans (hHeld o))
  have hbne := (show w.heap.size ≠ b by omega)
  have hc6 := (fun o : Nat => cell_othW hbne 7 (.slice (some ⟨g', 0, none⟩) 1 cap') (hc5 o))
  refine hK.out _ _ ?_ (fun hHeld => ?_)
  ·exact hc5
  clear hK K
  try simp only [Act.put, zA, zB, zC, zD, zE, zF]
  refine wT 8 ?_
  refine wT 9 ?_
  refine wR 10 fun K hK => ?_
  go_simp
  refine hK.out _ _ ?_ (fun hHeld => ?_)
  ·exact hc6
  clear hK K
  try simp only [Act.put, zA, zB, zC, zD, zE, zF]
  refine wpAnyH_done (by kernel_rfl) (NoPanic.normal ?_) _
  have hF5 : Fr (fun k => k = b) w w5 := (((((Fr.refl _ w).alloc _).drew).alloc (.cells ev4.toArray 59)).grown hg5 (fun k hk => by simp [Value.ownBlock] at hk))
  have hF6 := hF5.setCell ⟨b, 7, none⟩ (.slice (some ⟨g', 0, none⟩) 1 cap') (Or.inl rfl)
  have hN := hnew5 g' rfl
  have hg9 : w.heap.size ≤ g' := hN.elim (fun h => by simp [Value.ownBlock] at h) (fun h => by simp at h; omega)
  clear hHeld hc5 hc6
  go_end0
  exact ⟨rfl, ⟨g', cap', (heap_setCell_same hbx5).trans (by simp [worldC]), ownsRow_block hown5 fun k hk => heap_setCell_other (fun e => by simp [Value.ownBlock] at hk; omega), hg9⟩, hF6⟩
end Go.Proofs.YtcbikgafdclhaaaGreat
/- world: what a crash does to a slice of threads, and to no marks. -/
set_option linter.unusedSimpArgs false
set_option linter.unusedVariables false
namespace Go.Proofs.YtcbikgafdclhaaaGreat
open Go.RowKit

theorem setCells_fr (b : Nat) : ∀ (vs : List Value) (o : Nat) (w : World), Fr (fun k => k = b) w (w.setCells b o vs)
 | [], _, w => Fr.refl _ w
 | v :: vs, o, w => by
  have h1 : Fr (fun k => k = b) w (w.setCell ⟨b, o, none⟩ v) := (Fr.refl _ w).setCell _ _ (Or.inl rfl)
  exact h1.trans (setCells_fr b vs (o + 1) _) (fun i hi => Or.inl hi)
section
variable {P : Program} {w : World} {t e : TypeId}
theorem run_clear_block (ht : P.underlying t = some (.slice e)) (z : Value) (hv : ∀ w, (zeroValue e).run P w = .ok z w) (ty : TypeId) (b n c : Nat) (cs : Array Value) (T : TypeId) (h : w.heap[b]? = some (.cells cs T)) (hn : 0 < n) (hsz : n * z.cells.size ≤ cs.size) (h1 : ∀ v ∈ (Builtin.zeroCells z.cells n).toList, v.oneCell' = true) :
 (Builtin.clear_ #[t] ty #[.slice (some ⟨b, 0, none⟩) n c]).run P w = .ok (.tuple #[]) (w.setCells b 0 (Builtin.zeroCells z.cells n).toList) := by
 have hl : (Builtin.zeroCells z.cells n).toList.length = n * z.cells.size := by simp [Builtin.zeroCells]
 have hst := run_storeCells_cells (P := P) b 0 (Builtin.zeroCells z.cells n).toList 0 w (fun j hj => by
  rw [cell?_of_heap h]
  have : 0 + 0 + j < cs.size := by omega
  simp only [Nat.zero_add] at this ⊢
  simp [this]) (fun j hj => frozen?_of_heap h) h1
 simp only [Nat.add_zero] at hst
 obtain ⟨m, rfl⟩ : ∃ m, n = m + 1 := ⟨n - 1, by omega⟩
 simp [Builtin.clear_, run_underlying ht, hv, hst]
end
theorem mkIndex0 (F : FuncId) (rc cp : Array Value) (w : World) : Calls Tryz.prog 136 #[.slice none 0 0, .func (.func F) rc cp] w fun e w' => e = .returned (.int .i64 (-1)) ∧ w = w' := by
 go_enter Tryz.func136, Tryz.ntmps136
 go_wp2
 go_loopw [5, 8] (fun _ v wr => v = .int .i64 0 ∧ w = wr) (fun _ _ _ => 0)
 case atStart => exact ⟨rfl, rfl⟩
 case round =>
  obtain ⟨rfl, rfl⟩ := hrel
  go_wp2
  go_ret
  exact ⟨rfl, rfl⟩
theorem mkDelete0 (F : FuncId) (rc cp : Array Value) (w : World) : Calls Tryz.prog 89 #[.slice none 0 0, .func (.func F) rc cp] w fun e w' => e = .returned (.slice none 0 0) ∧ w = w' := by
 go_enter Tryz.func89, Tryz.ntmps89
 go_wp2_with fail
 refine (mkIndex0 _ _ _ _).mono ?_
 rintro e w1 ⟨rfl, rfl⟩
 go_wp2
 go_ret
 exact ⟨rfl, rfl⟩
def zThread : Value := .agg #[.slice none 0 0, .slice none 0 0, .slice none 0 0, .slice none 0 0, .slice none 0 0, .slice none 0 0, .slice none 0 0, .slice none 0 0, .slice none 0 0, .int .i64 0, .pointer none]
theorem zeroTh (w : World) : (zeroValue 302).run Tryz.prog w = .ok zThread w := by kernel_rfl
theorem zeroTh_one (n : Nat) : ∀ v ∈ (Builtin.zeroCells zThread.cells n).toList, v.oneCell' = true := by
 intro v hv
 have hz : ∀ r : Fin 11, (zThread.cells[r.val]!).oneCell' = true := by decide
 simp only [Builtin.zeroCells, Array.toList_map, List.mem_map] at hv
 obtain ⟨i, -, rfl⟩ := hv
 exact hz ⟨i % zThread.cells.size, Nat.mod_lt _ (by decide)⟩
end Go.Proofs.YtcbikgafdclhaaaGreat
/- conf.Of of a word: the program's, the document's. -/
set_option linter.unusedSimpArgs false
set_option linter.unusedVariables false
namespace Go.Proofs.YtcbikgafdclhaaaGreat
open Go.RowKit

def ofW (v : Int) : Option (Int × Int × Int) := if rightB (v % 65536) (v / 65536 % 65536) (v / 4294967296) = true then some (v % 65536, v / 65536 % 65536, v / 4294967296) else none
theorem hget16w (v : Int) (w : World) (h : U64 v) :
 Calls Tryz.prog 77 #[.int .u64 v, .int .i64 16, .int .i64 16] w fun e w' => e = .returned (.int .u64 (v / 65536 % 65536)) ∧ Below w.heap.size w w' := by
 unfold U64 at h
 have ha : bits .and .u64 (v / 65536) 65535 = v / 65536 % 65536 := bits_mask .u64 64 (by decide) wrapsA_u64 16 (by decide) (v / 65536) (by omega) (by omega)
 go_enter Tryz.func77, Tryz.ntmps77
 go_wp2_with fail
 refine (hfield_any _ _ _ (by omega) (by omega) (by omega) (by omega)).mono ?_
 rintro e w1 ⟨rfl, b1⟩
 go_wp2
 refine wp_region_noPanic ?_
 refine wp_region_held_drew (S := fun w' => BS w1 ([] : List Nat) w') (by kernel_rfl) ?_ (fun hHeld => ?_)
 ·exact (BS.start w1).drew
 refine wT 0 ?_
 refine wT 1 ?_
 refine wT 2 ?_
 refine wT 3 ?_
 refine wR 4 fun K hK => ?_
 go_simp
 refine (calls_b hHeld (hmask16 _)).mono ?_
 rintro e wr1 ⟨rfl, hV, hVl⟩
 dsimp only
 refine hK.out _ _ ?_ (fun hHeld2 => ?_)
 ·exact hV
 clear hK K hV hVl hHeld
 have hHeld := hHeld2
 clear hHeld2
 try simp only [Act.put, zA, zB, zC, zD, zE, zF]
 refine wT 5 ?_
 refine wT 6 ?_
 refine wpAnyH_done (by kernel_rfl) (NoPanic.normal ?_) _
 refine world_gen ?_
 intro wz hwz
 rw [← hwz] at hHeld
 clear hwz
 go_wp2
 go_ret
 exact ⟨rfl, b1.trans (hHeld.bel.mono b1.size)⟩
theorem hget32w (v : Int) (w : World) (h : U64 v) :
 Calls Tryz.prog 77 #[.int .u64 v, .int .i64 32, .int .i64 16] w fun e w' => e = .returned (.int .u64 (v / 4294967296 % 65536)) ∧ Below w.heap.size w w' := by
 unfold U64 at h
 have ha : bits .and .u64 (v / 4294967296) 65535 = v / 4294967296 % 65536 := bits_mask .u64 64 (by decide) wrapsA_u64 16 (by decide) (v / 4294967296) (by omega) (by omega)
 go_enter Tryz.func77, Tryz.ntmps77
 go_wp2_with fail
 refine (hfield_any _ _ _ (by omega) (by omega) (by omega) (by omega)).mono ?_
 rintro e w1 ⟨rfl, b1⟩
 go_wp2
 refine wp_region_noPanic ?_
 refine wp_region_held_drew (S := fun w' => BS w1 ([] : List Nat) w') (by kernel_rfl) ?_ (fun hHeld => ?_)
 ·exact (BS.start w1).drew
 refine wT 0 ?_
 refine wT 1 ?_
 refine wT 2 ?_
 refine wT 3 ?_
 refine wR 4 fun K hK => ?_
 go_simp
 refine (calls_b hHeld (hmask16 _)).mono ?_
 rintro e wr1 ⟨rfl, hV, hVl⟩
 dsimp only
 refine hK.out _ _ ?_ (fun hHeld2 => ?_)
 ·exact hV
 clear hK K hV hVl hHeld
 have hHeld := hHeld2
 clear hHeld2
 try simp only [Act.put, zA, zB, zC, zD, zE, zF]
 refine wT 5 ?_
 refine wT 6 ?_
 refine wpAnyH_done (by kernel_rfl) (NoPanic.normal ?_) _
 refine world_gen ?_
 intro wz hwz
 rw [← hwz] at hHeld
 clear hwz
 go_wp2
 go_ret
 exact ⟨rfl, b1.trans (hHeld.bel.mono b1.size)⟩
section
variable {v : Int} {L : Nat} {w : World}
theorem cof0 (h : U64 v) (hc : w.cell? ⟨L, 0, none⟩ = some (.int .u64 v)) :
 Calls Tryz.prog 76 #[.int .i64 0, .pointer (some ⟨L, 0, none⟩)] w fun e w' => e = .returned (.int .i64 (v % 65536)) ∧ Below w.heap.size w w' := by
 have H := Lib.hid (fun w => hget0 v w h)
 have hb : 0 ≤ v % 65536 ∧ v % 65536 < 65536 := by omega
 generalize v % 65536 = y at *
 clear h
 go_enter Tryz.func76, Tryz.ntmps76
 go_wp2_with fail
 refine (H.out _).mono ?_
 rintro e w1 ⟨rfl, b1⟩
 obtain ⟨b1c, b1f⟩ := bcell b1
 go_wp2
 go_ret
 exact ⟨rfl, b1⟩
theorem cof1 (h : U64 v) (hc : w.cell? ⟨L, 0, none⟩ = some (.int .u64 v)) :
 Calls Tryz.prog 76 #[.int .i64 1, .pointer (some ⟨L, 0, none⟩)] w fun e w' => e = .returned (.int .i64 (v / 65536 % 65536)) ∧ Below w.heap.size w w' := by
 have H := Lib.hid (fun w => hget16w v w h)
 have hb : 0 ≤ v / 65536 % 65536 ∧ v / 65536 % 65536 < 65536 := by omega
 generalize v / 65536 % 65536 = y at *
 clear h
 go_enter Tryz.func76, Tryz.ntmps76
 go_wp2_with fail
 refine (H.out _).mono ?_
 rintro e w1 ⟨rfl, b1⟩
 obtain ⟨b1c, b1f⟩ := bcell b1
 go_wp2
 go_ret
 exact ⟨rfl, b1⟩
theorem cof2 (h : U64 v) (hc : w.cell? ⟨L, 0, none⟩ = some (.int .u64 v)) :
 Calls Tryz.prog 76 #[.int .i64 2, .pointer (some ⟨L, 0, none⟩)] w fun e w' => e = .returned (.int .i64 (v / 4294967296 % 65536)) ∧ Below w.heap.size w w' := by
 have H := Lib.hid (fun w => hget32w v w h)
 have hb : 0 ≤ v / 4294967296 % 65536 ∧ v / 4294967296 % 65536 < 65536 := by omega
 generalize v / 4294967296 % 65536 = y at *
 clear h
 go_enter Tryz.func76, Tryz.ntmps76
 go_wp2_with fail
 refine (H.out _).mono ?_
 rintro e w1 ⟨rfl, b1⟩
 obtain ⟨b1c, b1f⟩ := bcell b1
 go_wp2
 go_ret
 exact ⟨rfl, b1⟩
end
def OfQ (w : World) (r : Option (Int × Int × Int)) (e : Ending) (w' : World) : Prop := match r with
 | none => e = .returned (.tuple #[.agg #[.int .i64 0, .int .i64 0, .int .i64 0], .bool false]) ∧ Below w.heap.size w w'
 | some (t, p, s) => e = .returned (.tuple #[.agg #[.int .i64 t, .int .i64 p, .int .i64 s], .bool true]) ∧ Below w.heap.size w w'
theorem right_small {t p s : Int} (h : rightB t p s = true) : s < 65536 := by have := right_bd h; omega
set_option maxHeartbeats 1000000 in
theorem cof_any (v : Int) (w : World) (h : U64 v) : Calls Tryz.prog 45 #[.int .u64 v] w (OfQ w (ofW v)) := by
 have c1 := loc_old (.cells #[.int .i64 0, .int .i64 0, .int .i64 0] 44) (by simp) (loc_alloc w #[.int .u64 v] 61)
 have d1 := loc_alloc (w.alloc (.cells #[.int .u64 v] 61)) #[.int .i64 0, .int .i64 0, .int .i64 0] 44
 simp only [World.size_alloc] at d1
 have S1 := BS.start ((w.alloc (.cells #[.int .u64 v] 61)).alloc (.cells #[.int .i64 0, .int .i64 0, .int .i64 0] 44))
 have HB1 := Lib.hid (show ∀ W, Below ((w.alloc (.cells #[.int .u64 v] 61)).alloc (.cells #[.int .i64 0, .int .i64 0, .int .i64 0] 44)).heap.size ((w.alloc (.cells #[.int .u64 v] 61)).alloc (.cells #[.int .i64 0, .int .i64 0, .int .i64 0] 44)) W → Below w.heap.size w W from fun W hb => (((Below.refl _ w).alloc (Nat.le_refl _) _).alloc (by simp) _).trans (hb.mono (by simp; omega)))
 have H0 := Lib.hid (fun L (w : World) (hc : w.cell? ⟨L, 0, none⟩ = some (.int .u64 v)) => cof0 h hc)
 have H1 := Lib.hid (fun L (w : World) (hc : w.cell? ⟨L, 0, none⟩ = some (.int .u64 v)) => cof1 h hc)
 have H2 := Lib.hid (fun L (w : World) (hc : w.cell? ⟨L, 0, none⟩ = some (.int .u64 v)) => cof2 h hc)
 have hv48 : v / 281474976710656 = v / 4294967296 / 65536 := by omega
 have hvs : v / 4294967296 % 65536 = v / 4294967296 - 65536 * (v / 281474976710656) := by omega
 have hq0 : 0 ≤ v / 281474976710656 := by unfold U64 at h; omega
 obtain ⟨r, hr⟩ : ∃ r, ofW v = r := ⟨_, rfl⟩
 rw [hr]
 unfold ofW at hr
 have HC : Hid (∀ w, Calls Tryz.prog 78 #[.agg #[.int .i64 (v % 65536), .int .i64 (v / 65536 % 65536), .int .i64 (v / 4294967296 % 65536)]] w fun e w' => e = .returned (.int .i64 (if rightB (v % 65536) (v / 65536 % 65536) (v / 4294967296 % 65536) = true then 0 else 1)) ∧ Below w.heap.size w w') := Lib.hid (fun w => by
  cases hb : rightB (v % 65536) (v / 65536 % 65536) (v / 4294967296 % 65536)
  ·exact check_wrong _ _ _ w hb
  ·exact check_right _ _ _ w hb)
 have hiff : rightB (v % 65536) (v / 65536 % 65536) (v / 4294967296) = true ↔ rightB (v % 65536) (v / 65536 % 65536) (v / 4294967296 % 65536) = true ∧ v / 281474976710656 = 0 := by
  constructor
  ·intro hh
   have := right_small hh
   have h0 : v / 281474976710656 = 0 := by unfold U64 at h; omega
   refine ⟨?_, h0⟩
   rw [hvs, h0]; simpa using hh
  ·rintro ⟨hh, h0⟩
   rw [hvs, h0] at hh; simpa using hh
 have hs0 : v / 281474976710656 = 0 → v / 4294967296 = v / 4294967296 % 65536 := by omega
 clear hv48 hvs
 generalize v / 4294967296 % 65536 = zs at *
 generalize v / 4294967296 = zz at *
 have hu0 : 0 ≤ v ∧ v < 18446744073709551616 := h
 clear h
 generalize hzt : v % 65536 = zt at *
 generalize hzp : v / 65536 % 65536 = zp at *
 generalize hzq : v / 281474976710656 = zq at *
 cases hb : rightB zt zp zs
 ·rw [hb] at HC
  simp only [Bool.false_eq_true, if_false] at HC
  have hno : ¬ rightB zt zp zz = true := fun hh => by have := (hiff.1 hh).1; rw [hb] at this; cases this
  rw [if_neg hno] at hr
  subst hr
  clear hiff hs0 hno hb hzq hzt hzp
  go_enter Tryz.func45, Tryz.ntmps45
  go_wp2_with fail
  refine (calls_b S1 (H0.out _ _ (c1 0))).mono ?_
  rintro e w1 ⟨rfl, S2, -⟩
  go_wp2_with fail
  refine (calls_b S2 (H1.out _ _ (S2.oldbox c1 (by simp; omega) 0))).mono ?_
  rintro e w2 ⟨rfl, S3, -⟩
  go_wp2_with fail
  refine (calls_b S3 (H2.out _ _ (S3.oldbox c1 (by simp; omega) 0))).mono ?_
  rintro e w3 ⟨rfl, S4, -⟩
  have S5 := S4.alloc (.cells #[.int .i64 zt, .int .i64 zp, .int .i64 zs] 44)
  have e5 := loc_alloc w3 #[.int .i64 zt, .int .i64 zp, .int .i64 zs] 44
  clear S1 S2 S3 S4
  go_wp2_with fail
  refine (calls_b S5 (HC.out _)).mono ?_
  rintro e w6 ⟨rfl, S6, S6l⟩
  have e6 := loc_step S6l (by simp) e5
  have k3 := S6.oldbox d1 (by simp)
  have x0 := S6.oldbox c1 (by simp; omega) 0
  have x1 := e6 0
  have x2 := e6 1
  have x3 := e6 2
  have r0 := k3 0
  have r1 := k3 1
  have r2 := k3 2
  have f0 := S6.bel.frozen (p := ⟨w.heap.size + 1, 0, none⟩) (by simp)
  have f1 := S6.bel.frozen (p := ⟨w.heap.size + 1, 1, none⟩) (by simp)
  have f2 := S6.bel.frozen (p := ⟨w.heap.size + 1, 2, none⟩) (by simp)
  simp at x0 x1 x2 x3 r0 r1 r2 f0 f1 f2
  have gb := HB1.out _ S6.bel
  have gz := S6.bel.size
  simp at gz
  have g6 := (S6.ls w3.heap.size (by simp)).1
  clear k3 e6 e5 S6l S5
  go_wp2
  exact bodyPost_ret (v := .tuple #[.agg #[.int .i64 0, .int .i64 0, .int .i64 0], .bool false]) (by simp [results, Tryz.results45, go_sem, *]) rfl ⟨rfl, ((gb.setCell (p := ⟨w.heap.size + 1, 0, none⟩) (by simp) _).setCell (p := ⟨w.heap.size + 1, 1, none⟩) (by simp) _).setCell (p := ⟨w.heap.size + 1, 2, none⟩) (by simp) _⟩
 ·rw [hb] at HC
  simp only [if_true] at HC
  by_cases h0 : zq = 0
  ·have hyes : rightB zt zp zz = true := hiff.2 ⟨hb, h0⟩
   rw [if_pos hyes, hs0 h0] at hr
   subst hr
   subst h0
   clear hiff hs0 hyes hb hzt hzp
   go_enter Tryz.func45, Tryz.ntmps45
   go_wp2_with fail
   refine (calls_b S1 (H0.out _ _ (c1 0))).mono ?_
   rintro e w1 ⟨rfl, S2, -⟩
   go_wp2_with fail
   refine (calls_b S2 (H1.out _ _ (S2.oldbox c1 (by simp; omega) 0))).mono ?_
   rintro e w2 ⟨rfl, S3, -⟩
   go_wp2_with fail
   refine (calls_b S3 (H2.out _ _ (S3.oldbox c1 (by simp; omega) 0))).mono ?_
   rintro e w3 ⟨rfl, S4, -⟩
   have S5 := S4.alloc (.cells #[.int .i64 zt, .int .i64 zp, .int .i64 zs] 44)
   have e5 := loc_alloc w3 #[.int .i64 zt, .int .i64 zp, .int .i64 zs] 44
   clear S1 S2 S3 S4
   go_wp2_with fail
   refine (calls_b S5 (HC.out _)).mono ?_
   rintro e w6 ⟨rfl, S6, S6l⟩
   have e6 := loc_step S6l (by simp) e5
   have k3 := S6.oldbox d1 (by simp)
   have x0 := S6.oldbox c1 (by simp; omega) 0
   have x1 := e6 0
   have x2 := e6 1
   have x3 := e6 2
   have r0 := k3 0
   have r1 := k3 1
   have r2 := k3 2
   have f0 := S6.bel.frozen (p := ⟨w.heap.size + 1, 0, none⟩) (by simp)
   have f1 := S6.bel.frozen (p := ⟨w.heap.size + 1, 1, none⟩) (by simp)
   have f2 := S6.bel.frozen (p := ⟨w.heap.size + 1, 2, none⟩) (by simp)
   simp at x0 x1 x2 x3 r0 r1 r2 f0 f1 f2
   have gb := HB1.out _ S6.bel
   have gz := S6.bel.size
   simp at gz
   have g6 := (S6.ls w3.heap.size (by simp)).1
   clear k3 e6 e5 S6l S5
   go_wp2
   exact bodyPost_ret (v := .tuple #[.agg #[.int .i64 zt, .int .i64 zp, .int .i64 zs], .bool true]) (by simp [results, Tryz.results45, go_sem, *]) rfl ⟨rfl, ((gb.setCell (p := ⟨w.heap.size + 1, 0, none⟩) (by simp) _).setCell (p := ⟨w.heap.size + 1, 1, none⟩) (by simp) _).setCell (p := ⟨w.heap.size + 1, 2, none⟩) (by simp) _⟩
  ·have hno : ¬ rightB zt zp zz = true := fun hh => h0 (hiff.1 hh).2
   rw [if_neg hno] at hr
   subst hr
   have h0b : (zq != 0) = true := by simpa using h0
   clear hiff hs0 hno hb hzt hzp
   go_enter Tryz.func45, Tryz.ntmps45
   go_wp2_with fail
   refine (calls_b S1 (H0.out _ _ (c1 0))).mono ?_
   rintro e w1 ⟨rfl, S2, -⟩
   go_wp2_with fail
   refine (calls_b S2 (H1.out _ _ (S2.oldbox c1 (by simp; omega) 0))).mono ?_
   rintro e w2 ⟨rfl, S3, -⟩
   go_wp2_with fail
   refine (calls_b S3 (H2.out _ _ (S3.oldbox c1 (by simp; omega) 0))).mono ?_
   rintro e w3 ⟨rfl, S4, -⟩
   have S5 := S4.alloc (.cells #[.int .i64 zt, .int .i64 zp, .int .i64 zs] 44)
   have e5 := loc_alloc w3 #[.int .i64 zt, .int .i64 zp, .int .i64 zs] 44
   clear S1 S2 S3 S4
   go_wp2_with fail
   refine (calls_b S5 (HC.out _)).mono ?_
   rintro e w6 ⟨rfl, S6, S6l⟩
   have e6 := loc_step S6l (by simp) e5
   have k3 := S6.oldbox d1 (by simp)
   have x0 := S6.oldbox c1 (by simp; omega) 0
   have x1 := e6 0
   have x2 := e6 1
   have x3 := e6 2
   have r0 := k3 0
   have r1 := k3 1
   have r2 := k3 2
   have f0 := S6.bel.frozen (p := ⟨w.heap.size + 1, 0, none⟩) (by simp)
   have f1 := S6.bel.frozen (p := ⟨w.heap.size + 1, 1, none⟩) (by simp)
   have f2 := S6.bel.frozen (p := ⟨w.heap.size + 1, 2, none⟩) (by simp)
   simp at x0 x1 x2 x3 r0 r1 r2 f0 f1 f2
   have gb := HB1.out _ S6.bel
   have gz := S6.bel.size
   simp at gz
   have g6 := (S6.ls w3.heap.size (by simp)).1
   clear k3 e6 e5 S6l S5
   go_wp2
   exact bodyPost_ret (v := .tuple #[.agg #[.int .i64 0, .int .i64 0, .int .i64 0], .bool false]) (by simp [results, Tryz.results45, go_sem, *]) rfl ⟨rfl, ((gb.setCell (p := ⟨w.heap.size + 1, 0, none⟩) (by simp) _).setCell (p := ⟨w.heap.size + 1, 1, none⟩) (by simp) _).setCell (p := ⟨w.heap.size + 1, 2, none⟩) (by simp) _⟩

theorem rcof_any (v : Int) (w : World) (h : U64 v) : Calls Tryz.prog 44 #[.int .u64 v] w (OfQ w (ofW v)) := by
 have hu : 0 ≤ v ∧ v < 18446744073709551616 := h
 obtain ⟨r, hr⟩ : ∃ r, ofW v = r := ⟨_, rfl⟩
 rw [hr]
 unfold ofW at hr
 have HC := Lib.hid (fun w => rright_any (v % 65536) (v / 65536 % 65536) (v / 4294967296) w)
 have hb0 : 0 ≤ v % 65536 ∧ v % 65536 < 65536 := by omega
 have hb1 : 0 ≤ v / 65536 % 65536 ∧ v / 65536 % 65536 < 65536 := by omega
 have hb2 : 0 ≤ v / 4294967296 ∧ v / 4294967296 < 4294967296 := by omega
 have d0 := loc_alloc w #[.int .i64 0, .int .i64 0, .int .i64 0] 44
 obtain ⟨zt, hzt⟩ : ∃ zt, v % 65536 = zt := ⟨_, rfl⟩
 obtain ⟨zp, hzp⟩ : ∃ zp, v / 65536 % 65536 = zp := ⟨_, rfl⟩
 obtain ⟨zs, hzs⟩ : ∃ zs, v / 4294967296 = zs := ⟨_, rfl⟩
 rw [hzt, hzp, hzs] at HC hr
 rw [hzt] at hb0
 rw [hzp] at hb1
 rw [hzs] at hb2
 have c1 := loc_old (.cells #[.int .i64 zt, .int .i64 zp, .int .i64 zs] 44) (by simp) d0
 have S0 := BS.start (w.alloc (.cells #[.int .i64 0, .int .i64 0, .int .i64 0] 44))
 have S1 := S0.alloc (.cells #[.int .i64 zt, .int .i64 zp, .int .i64 zs] 44)
 have e1 := loc_alloc (w.alloc (.cells #[.int .i64 0, .int .i64 0, .int .i64 0] 44)) #[.int .i64 zt, .int .i64 zp, .int .i64 zs] 44
 simp only [World.size_alloc] at S1 e1 c1
 have HB1 := Lib.hid (show ∀ W, Below (w.alloc (.cells #[.int .i64 0, .int .i64 0, .int .i64 0] 44)).heap.size (w.alloc (.cells #[.int .i64 0, .int .i64 0, .int .i64 0] 44)) W → Below w.heap.size w W from fun W hb => ((Below.refl _ w).alloc (Nat.le_refl _) _).trans (hb.mono (by simp)))
 clear h
 cases hb : rightB zt zp zs
 ·have hr2 := hr
  rw [hb] at HC hr2
  simp only [Bool.false_eq_true, if_false] at hr2
  subst hr2
  clear hr hb
  by_cases hq : 20 < zs
  ·go_enter Tryz.func44, Tryz.ntmps44
   go_wp2
   exact bodyPost_ret (v := .tuple #[.agg #[.int .i64 0, .int .i64 0, .int .i64 0], .bool false]) (by simp [results, Tryz.results44, go_sem, *]) rfl ⟨rfl, by (repeat (first | exact Below.refl _ _ | assumption | refine Below.setCell ?_ (by first | omega | (simp; done) | (simp; omega)) _ | refine Below.alloc ?_ (by first | omega | (simp; done) | (simp; omega)) _ | refine Below.drew ?_ | refine Below.trans ?_ (Below.mono ‹Below _ _ _› (by first | omega | (simp; done) | (simp; omega)))))⟩
  ·go_enter Tryz.func44, Tryz.ntmps44
   go_wp2_with fail
   refine (calls_b S1 (HC.out _)).mono ?_
   rintro e w2 ⟨rfl, S2, S2l⟩
   have e2 := loc_step S2l (by simp) e1
   have k3 := S2.oldbox d0 (by simp)
   have x1 := e2 0
   have x2 := e2 1
   have x3 := e2 2
   have r0 := k3 0
   have r1 := k3 1
   have r2 := k3 2
   have f0 := S2.bel.frozen (p := ⟨w.heap.size, 0, none⟩) (by simp)
   have f1 := S2.bel.frozen (p := ⟨w.heap.size, 1, none⟩) (by simp)
   have f2 := S2.bel.frozen (p := ⟨w.heap.size, 2, none⟩) (by simp)
   simp at x1 x2 x3 r0 r1 r2 f0 f1 f2
   have gb := HB1.out _ S2.bel
   have gz := S2.bel.size
   simp at gz
   have g6 := (S2.ls (w.heap.size + 1) (by simp)).1
   clear k3 e2 S2l
   go_wp2
   exact bodyPost_ret (v := .tuple #[.agg #[.int .i64 0, .int .i64 0, .int .i64 0], .bool false]) (by simp [results, Tryz.results44, go_sem, *]) rfl ⟨rfl, ((gb.setCell (p := ⟨w.heap.size, 0, none⟩) (by simp) _).setCell (p := ⟨w.heap.size, 1, none⟩) (by simp) _).setCell (p := ⟨w.heap.size, 2, none⟩) (by simp) _⟩
 ·have hr2 := hr
  rw [hb] at HC hr2
  simp only [if_true] at hr2
  subst hr2
  have hq : ¬ 20 < zs := by have := right_bd hb; omega
  clear hr hb
  go_enter Tryz.func44, Tryz.ntmps44
  go_wp2_with fail
  refine (calls_b S1 (HC.out _)).mono ?_
  rintro e w2 ⟨rfl, S2, S2l⟩
  have e2 := loc_step S2l (by simp) e1
  have k3 := S2.oldbox d0 (by simp)
  have x1 := e2 0
  have x2 := e2 1
  have x3 := e2 2
  have r0 := k3 0
  have r1 := k3 1
  have r2 := k3 2
  have f0 := S2.bel.frozen (p := ⟨w.heap.size, 0, none⟩) (by simp)
  have f1 := S2.bel.frozen (p := ⟨w.heap.size, 1, none⟩) (by simp)
  have f2 := S2.bel.frozen (p := ⟨w.heap.size, 2, none⟩) (by simp)
  simp at x1 x2 x3 r0 r1 r2 f0 f1 f2
  have gb := HB1.out _ S2.bel
  have gz := S2.bel.size
  simp at gz
  have g6 := (S2.ls (w.heap.size + 1) (by simp)).1
  clear k3 e2 S2l
  go_wp2
  exact bodyPost_ret (v := .tuple #[.agg #[.int .i64 zt, .int .i64 zp, .int .i64 zs], .bool true]) (by simp [results, Tryz.results44, go_sem, *]) rfl ⟨rfl, ((gb.setCell (p := ⟨w.heap.size, 0, none⟩) (by simp) _).setCell (p := ⟨w.heap.size, 1, none⟩) (by simp) _).setCell (p := ⟨w.heap.size, 2, none⟩) (by simp) _⟩
end Go.Proofs.YtcbikgafdclhaaaGreat
/- maps from number to word: look-up, update, delete. -/
set_option linter.unusedSimpArgs false
set_option linter.unusedVariables false
namespace Go.Proofs.YtcbikgafdclhaaaGreat
open Go.RowKit

def delKU (l : List (Int × Int)) (k : Int) : List (Int × Int) := match look l k 0 with
 | some (i, _) => l.eraseIdx i
 | none => l
def rowsOfU (l : List (Int × Int)) : List (Value × Value) := l.map fun p => (.int .i64 p.1, .int .u64 p.2)
def MapIsU (w : World) (b : Nat) (l : List (Int × Int)) : Prop := ∃ es clk, w.heap[b]? = some (.map es clk) ∧ es.toList.map (fun e => (e.key, e.val)) = rowsOfU l

theorem findNow_lookU (k : Int) : ∀ (es : List MapEntry) (l : List (Int × Int)) (i : Nat), es.map (fun e => (e.key, e.val)) = rowsOfU l →
 Instr.findNow (.int .i64) (.int .i64 k) es i = some ((look l k i).map fun x => (x.1, .int .u64 x.2))
 | [], [], _, _ => rfl
 | [], _ :: _, _, h => by simp [rowsOfU] at h
 | _ :: _, [], _, h => by simp [rowsOfU] at h
 | e :: es, p :: l, i, h => by
  simp only [rowsOfU, List.map_cons, List.cons.injEq, Prod.mk.injEq] at h
  obtain ⟨⟨h1, h2⟩, h3⟩ := h
  simp only [Instr.findNow, h1, Instr.sameNow, if_true, look, h2]
  by_cases hk : p.1 = k
  ·simp [hk]
  ·have : (k == p.1) = false := by simp; exact fun x => hk x.symm
   simp only [this, if_neg hk]
   exact findNow_lookU k es l (i + 1) h3

section
variable {P : Program} {w : World} {t K E : TypeId}

theorem run_lookup_okU {b : Nat} {l : List (Int × Int)} (h : MapIsU w b l) (ht : P.underlying t = some (.map K E)) (hK : P.underlying K = some (.int .i64)) (hz : (zeroValue E).run P w = .ok (.int .u64 0) w) (k : Int) (ok : Bool) :
 (Instr.lookup t (.map (some b)) (.int .i64 k) ok).run P w = .ok (if ok then .tuple #[.int .u64 ((assoc l k).getD 0), .bool (assoc l k).isSome] else .int .u64 ((assoc l k).getD 0)) w := by
 obtain ⟨es, clk, hb, hes⟩ := h
 have hf := findNow_lookU k es.toList l 0 hes
 have hck : ∀ e, (Instr.checkKey e 10000 K (.int .i64 k)).run P w = .ok () w := fun e => MapKept.run_checkKey hK (isKey_int k) e 9999
 have hfk : (Instr.findKey K (.int .i64 k) es.toList).run P w = .ok ((look l k 0).map fun x => (x.1, .int .u64 x.2)) w := by
  simp [Instr.findKey, run_underlying hK, hf]
 cases hl : look l k 0 with
 | none =>
  simp [hl] at hfk
  cases ok <;> simp [Instr.lookup, run_underlying ht, hck, hfk, MapKept.run_getObj_map hb, hz, assoc, hl, Result.andThen]
 | some x =>
  simp [hl] at hfk
  cases ok <;> simp [Instr.lookup, run_underlying ht, hck, hfk, MapKept.run_getObj_map hb, assoc, hl, Result.andThen]

theorem run_updateU {b : Nat} {l : List (Int × Int)} (h : MapIsU w b l) (ht : P.underlying t = some (.map K E)) (hK : P.underlying K = some (.int .i64)) (k v : Int) :
 ∃ w', (Instr.mapUpdate t (.map (some b)) (.int .i64 k) (.int .u64 v)).run P w = .ok () w' ∧ MapIsU w' b (upsert l k v) ∧ w.grownBy w' (some b) := by
 obtain ⟨es, clk, hb, hes⟩ := h
 have hf := findNow_lookU k es.toList l 0 hes
 have hck : ∀ e, (Instr.checkKey e 10000 K (.int .i64 k)).run P w = .ok () w := fun e => MapKept.run_checkKey hK (isKey_int k) e 9999
 have hfk : (Instr.findKey K (.int .i64 k) es.toList).run P w = .ok ((look l k 0).map fun x => (x.1, .int .u64 x.2)) w := by
  simp [Instr.findKey, run_underlying hK, hf]
 have hlt : b < w.heap.size := (Array.getElem?_eq_some_iff.1 hb).1
 have gr : ∀ o, w.grownBy { w with heap := w.heap.setIfInBounds b o } (some b) := fun o =>
  ⟨rfl, rfl, rfl, by simp, fun i _ hi => by simp only [Array.getElem?_setIfInBounds]; rw [if_neg (fun e => hi (by rw [e]))]⟩
 have at_ : ∀ o : Obj, ({ w with heap := w.heap.setIfInBounds b o } : World).heap[b]? = some o := fun o => by simp [hlt]
 cases hl : look l k 0 with
 | none =>
  simp [hl] at hfk
  refine ⟨{ w with heap := w.heap.setIfInBounds b (.map (es.push { key := .int .i64 k, val := .int .u64 v, born := clk }) (clk + 1)) }, ?_, ⟨_, _, at_ _, ?_⟩, gr _⟩
  ·simp [Instr.mapUpdate, run_underlying ht, hck, hfk, MapKept.run_getObj_map hb, MapKept.run_setObj_map _ hb, Result.andThen]
  ·simp [upsert, hl, hes, rowsOfU]
 | some x =>
  obtain ⟨j, u⟩ := x
  simp [hl] at hfk
  obtain ⟨_, hj, hg⟩ := look_lt hl
  simp only [Nat.sub_zero, Nat.zero_add] at hg hj
  have hkey : (es[j]?).map (·.key) = some (.int .i64 k) := by
   have h1 : (es.toList.map (fun e => (e.key, e.val)))[j]? = some (.int .i64 k, .int .u64 u) := by rw [hes]; simp [rowsOfU, hg]
   rw [List.getElem?_map] at h1
   simp at h1
   obtain ⟨e, he, h2, _⟩ := h1
   simp [he, h2]
  have hkey' : (Option.map (fun x => x.key) es[j]?) = some (.int .i64 k) := hkey
  have hst : (Instr.keyThatStays (((es[j]?).map (·.key)).getD (.int .i64 k)) (.int .i64 k)).run P w = .ok (.int .i64 k) w := by
   rw [hkey]; simp [Instr.keyThatStays, Instr.sameBits]
  refine ⟨{ w with heap := w.heap.setIfInBounds b (.map (es.modify j fun e => { e with key := .int .i64 k, val := .int .u64 v }) clk) }, ?_, ⟨_, _, at_ _, ?_⟩, gr _⟩
  ·rw [hkey, Option.getD_some] at hst
   simp only [Instr.mapUpdate]
   simp [run_underlying ht, hck, hfk, MapKept.run_getObj_map hb, MapKept.run_setObj_map _ hb, hkey', hst, Result.andThen]
  ·simp only [upsert, hl]
   apply List.ext_getElem?
   intro i
   have hi : (es.toList.map (fun e => (e.key, e.val)))[i]? = (rowsOfU l)[i]? := by rw [hes]
   simp only [rowsOfU, List.getElem?_map, Array.toList_modify, List.getElem?_modify, List.getElem?_set] at hi ⊢
   by_cases hij : j = i
   ·subst hij
    rw [hg] at hi
    cases he : es.toList[j]? with
    | none => rw [he] at hi; simp at hi
    | some e => simp [hj]
   ·simp only [if_neg hij]
    cases he : es.toList[i]? with
    | none => rw [he] at hi; simpa using hi
    | some e => rw [he] at hi; simpa using hi

/-- 'v, ok := m[k]' (ok true) | 'm[k]' (ok false), at the operation. -/
theorem wpL_lookupU {ops : Array Oper} {rest : List Oper} {o : Oper} {a : Act} {Q : Exit → Act → World → Prop}
 (hg : o.guard = none) (m x : Operand) (ok : Bool) (hop : o.op = Op.lookup t m x ok)
 (ht : P.underlying t = some (.map K E)) (hK : P.underlying K = some (.int .i64)) (hz : (zeroValue E).run P w = .ok (.int .u64 0) w) (b : Nat) (l : List (Int × Int)) (k : Int)
 (hm : a.eval m = .map (some b)) (h : MapIsU w b l) (hx : a.eval x = .int .i64 k)
 (hK' : wpList P ops Q rest (a.put o.dst (if ok then .tuple #[.int .u64 ((assoc l k).getD 0), .bool (assoc l k).isSome] else .int .u64 ((assoc l k).getD 0))) w) :
 wpList P ops Q (o :: rest) a w := by
 refine wpList_plain hg fun K2 hK2 => ?_
 have hrun := run_lookup_okU (P := P) h ht hK hz k ok
 unfold Oper.wp
 simp [execOp, hop, hm, hx, hrun, Result.andThen]
 exact hK2 _ _ hK'

/-- 'm[k] = v', at the operation. -/
theorem wpL_updateU {ops : Array Oper} {rest : List Oper} {o : Oper} {a : Act} {Q : Exit → Act → World → Prop}
 (hg : o.guard = none) (m x y : Operand) (hop : o.op = Op.mapUpdate t m x y)
 (ht : P.underlying t = some (.map K E)) (hK : P.underlying K = some (.int .i64)) (b : Nat) (l : List (Int × Int)) (k v : Int)
 (hm : a.eval m = .map (some b)) (h : MapIsU w b l) (hx : a.eval x = .int .i64 k) (hy : a.eval y = .int .u64 v)
 (hK' : ∀ w', MapIsU w' b (upsert l k v) → w.grownBy w' (some b) → wpList P ops Q rest (a.put o.dst undef) w') :
 wpList P ops Q (o :: rest) a w := by
 refine wpList_plain hg fun K2 hK2 => ?_
 obtain ⟨w', hrun, h1, h2⟩ := run_updateU (P := P) h ht hK k v
 unfold Oper.wp
 simp [execOp, hop, hm, hx, hy, hrun, Result.andThen]
 exact hK2 _ _ (hK' w' h1 h2)

theorem run_mdeleteU {b : Nat} {l : List (Int × Int)} (h : MapIsU w b l) (ht : P.underlying t = some (.map K E)) (hK : P.underlying K = some (.int .i64)) (k : Int) (ty : TypeId) :
 ∃ w', (Builtin.delete_ #[t, K] ty #[.map (some b), .int .i64 k]).run P w = .ok (.tuple #[]) w' ∧ MapIsU w' b (delKU l k) ∧ w.grownBy w' (some b) := by
 obtain ⟨es, clk, hb, hes⟩ := h
 have hf := findNow_lookU k es.toList l 0 hes
 have hck : ∀ e, (Instr.checkKey e 10000 K (.int .i64 k)).run P w = .ok () w := fun e => MapKept.run_checkKey hK (isKey_int k) e 9999
 have hfk : (Instr.findKey K (.int .i64 k) es.toList).run P w = .ok ((look l k 0).map fun x => (x.1, .int .u64 x.2)) w := by
  simp [Instr.findKey, run_underlying hK, hf]
 have hlt : b < w.heap.size := (Array.getElem?_eq_some_iff.1 hb).1
 have gr : ∀ o, w.grownBy { w with heap := w.heap.setIfInBounds b o } (some b) := fun o =>
  ⟨rfl, rfl, rfl, by simp, fun i _ hi => by simp only [Array.getElem?_setIfInBounds]; rw [if_neg (fun e => hi (by rw [e]))]⟩
 have at_ : ∀ o : Obj, ({ w with heap := w.heap.setIfInBounds b o } : World).heap[b]? = some o := fun o => by simp [hlt]
 cases hl : look l k 0 with
 | none =>
  simp [hl] at hfk
  refine ⟨_, ?_, ⟨es, clk, at_ _, by simpa [delKU, hl] using hes⟩, gr _⟩
  simp [Builtin.delete_, run_underlying ht, hck, hfk, MapKept.run_getObj_map hb, MapKept.run_setObj_map _ hb, Result.andThen]
 | some x =>
  obtain ⟨j, u⟩ := x
  simp [hl] at hfk
  obtain ⟨_, hj, hg⟩ := look_lt hl
  simp only [Nat.sub_zero, Nat.zero_add] at hg hj
  have hsz : es.size = l.length := by
   have := congrArg List.length hes
   simpa [rowsOfU] using this
  have htl : (es.eraseIdxIfInBounds j).toList = es.toList.eraseIdx j := by
   simp [Array.eraseIdxIfInBounds, hsz, hj]
  refine ⟨_, ?_, ⟨es.eraseIdxIfInBounds j, clk, at_ _, ?_⟩, gr _⟩
  ·simp [Builtin.delete_, run_underlying ht, hck, hfk, MapKept.run_getObj_map hb, MapKept.run_setObj_map _ hb, Result.andThen]
  ·unfold delKU
   rw [hl, htl, Go.ChangeMaps.map_eraseIdx, hes]
   unfold rowsOfU
   rw [Go.ChangeMaps.map_eraseIdx]
/-- 'delete(m, k)', at the operation. -/
theorem wpL_mdeleteU {ops : Array Oper} {rest : List Oper} {o : Oper} {a : Act} {Q : Exit → Act → World → Prop} (hg : o.guard = none) (m x : Operand) (hop : o.op = Op.call { callee := Callee.builtin Builtin.delete, args := #[m, x], argTypes := #[t, K] })
 (ht : P.underlying t = some (.map K E)) (hK : P.underlying K = some (.int .i64)) (b : Nat) (l : List (Int × Int)) (k : Int)
 (hm : a.eval m = .map (some b)) (h : MapIsU w b l) (hx : a.eval x = .int .i64 k)
 (hK' : ∀ w', MapIsU w' b (delKU l k) → w.grownBy w' (some b) → wpList P ops Q rest (a.put o.dst (.tuple #[])) w') :
 wpList P ops Q (o :: rest) a w := by
 refine wpList_plain hg fun K2 hK2 => ?_
 obtain ⟨w', hrun, h1, h2⟩ := run_mdeleteU (P := P) h ht hK k o.type
 unfold Oper.wp
 simp [execOp, hop, resolve, invoke, builtin, hm, hx, hrun, Result.andThen]
 exact hK2 _ _ (hK' w' h1 h2)
theorem MapIsU.len {w : World} {b : Nat} {l : List (Int × Int)} (h : MapIsU w b l) : ∃ es clk, w.heap[b]? = some (.map es clk) ∧ es.size = l.length := by
 obtain ⟨es, clk, hb, hes⟩ := h
 refine ⟨es, clk, hb, ?_⟩
 have := congrArg List.length hes
 simpa [rowsOfU] using this
end
end Go.Proofs.YtcbikgafdclhaaaGreat
/- head: the program's Decode. -/
set_option linter.unusedSimpArgs false
set_option linter.unusedVariables false
namespace Go.Proofs.YtcbikgafdclhaaaGreat
open Go.RowKit

def enumF : Int → List Int → List (Int × Int)
 | _, [] => []
 | i, a :: r => (i, a) :: enumF (i + 1) r
/-- what is left of the wanted words. -/
def dlF (ws : List Int) (L : List (Int × Int)) : Nat → List (Int × Int)
 | 0 => L
 | k + 1 => if (assoc (dlF ws L k) k).getD 0 = ws.getD k 0 then delKU (dlF ws L k) k else dlF ws L k
def preF (hs ws : List Int) : Nat → List (Int × Int)
 | 0 => []
 | k + 1 => if hs.getD k 0 = ws.getD k 0 then preF hs ws k else preF hs ws k ++ [((k : Int), hs.getD k 0)]
theorem enumF_get (hs : List Int) : ∀ (i : Int), ∀ x ∈ enumF i hs, i ≤ x.1 ∧ x.1 < i + hs.length := by
 induction hs with
 | nil => intro i x hx; cases hx
 | cons a r ih =>
  intro i x hx
  rcases List.mem_cons.1 hx with rfl | hx
  ·simp; omega
  ·have := ih (i + 1) x hx
   simp; omega
theorem look_app {k : Int} {a : Int} {rest : List (Int × Int)} : ∀ {pre : List (Int × Int)} {i : Nat}, (∀ p ∈ pre, p.1 ≠ k) → look (pre ++ (k, a) :: rest) k i = some (i + pre.length, a)
 | [], i, _ => by simp [look]
 | p :: pre, i, h => by
  show look (p :: (pre ++ (k, a) :: rest)) k i = _
  unfold look
  rw [if_neg (h p (by simp)), look_app (fun q hq => h q (by simp [hq]))]
  simp; omega
theorem look_noU {k : Int} : ∀ {l : List (Int × Int)} {i : Nat}, (∀ p ∈ l, p.1 ≠ k) → look l k i = none
 | [], i, _ => rfl
 | p :: l, i, h => by
  unfold look
  rw [if_neg (h p (by simp)), look_noU (fun q hq => h q (by simp [hq]))]
theorem preF_lt (hs ws : List Int) : ∀ k, ∀ p ∈ preF hs ws k, p.1 < k
 | 0, p, hp => by cases hp
 | k + 1, p, hp => by
  unfold preF at hp
  split at hp
  ·have := preF_lt hs ws k p hp; omega
  ·rcases List.mem_append.1 hp with h | h
   ·have := preF_lt hs ws k p h; omega
   ·simp at h; subst h; simp; omega
theorem dl_pre (hs ws : List Int) : ∀ k, k ≤ hs.length → dlF ws (enumF 0 hs) k = preF hs ws k ++ enumF k (hs.drop k)
 | 0, _ => by simp [dlF, preF]
 | k + 1, hk => by
  have ih := dl_pre hs ws k (by omega)
  have hd : hs.drop k = hs.getD k 0 :: hs.drop (k + 1) := drop_at (by omega)
  rw [hd] at ih
  have he : enumF k (hs.getD k 0 :: hs.drop (k + 1)) = ((k : Int), hs.getD k 0) :: enumF ((k : Int) + 1) (hs.drop (k + 1)) := rfl
  rw [he] at ih
  have hl : look (preF hs ws k ++ ((k : Int), hs.getD k 0) :: enumF ((k : Int) + 1) (hs.drop (k + 1))) k 0 = some (0 + (preF hs ws k).length, hs.getD k 0) := look_app (fun p hp => by have := preF_lt hs ws k p hp; omega)
  have hcast : ((k + 1 : Nat) : Int) = (k : Int) + 1 := by omega
  unfold dlF preF
  rw [ih]
  unfold assoc delKU
  rw [hl]
  simp only [Option.map_some, Option.getD_some, Nat.zero_add]
  rw [hcast]
  split
  ·rw [List.eraseIdx_append_of_length_le (Nat.le_refl _), Nat.sub_self]
   rfl
  ·simp
theorem preF_nil (hs ws : List Int) : ∀ k, preF hs ws k = [] ↔ ∀ j, j < k → hs.getD j 0 = ws.getD j 0
 | 0 => by simp [preF]
 | k + 1 => by
  unfold preF
  split
  ·rename_i h
   rw [preF_nil hs ws k]
   constructor
   ·intro hh j hj
    by_cases e : j = k
    ·subst e; exact h
    ·exact hh j (by omega)
   ·intro hh j hj
    exact hh j (by omega)
  ·rename_i h
   constructor
   ·intro hh; simp at hh
   ·intro hh; exact absurd (hh k (by omega)) h
theorem dl_same {hs ws : List Int} (h1 : hs.length = 8) (h2 : 8 ≤ ws.length) : dlF ws (enumF 0 hs) 8 = [] ↔ hs = ws.take 8 := by
 rw [dl_pre hs ws 8 (by omega), List.drop_of_length_le (by omega)]
 simp only [enumF, List.append_nil]
 rw [preF_nil]
 constructor
 ·intro h
  apply List.ext_getElem?
  intro j
  by_cases hj : j < 8
  ·have := h j hj
   rw [List.getElem?_take, if_pos hj]
   rw [List.getD_eq_getElem?_getD, List.getD_eq_getElem?_getD, List.getElem?_eq_getElem (by omega), List.getElem?_eq_getElem (by omega)] at this
   rw [List.getElem?_eq_getElem (by omega), List.getElem?_eq_getElem (by omega)]
   simpa using this
  ·rw [List.getElem?_eq_none (by omega), List.getElem?_eq_none (by simp; omega)]
 ·intro h j hj
  rw [h, List.getD_eq_getElem?_getD, List.getElem?_take, if_pos hj, ← List.getD_eq_getElem?_getD]
theorem enumF_snoc (a : Int) : ∀ (l : List Int) (i : Int), enumF i (l ++ [a]) = enumF i l ++ [(i + l.length, a)]
 | [], i => by simp [enumF]
 | x :: l, i => by
  show (i, x) :: enumF (i + 1) (l ++ [a]) = _
  rw [enumF_snoc a l (i + 1)]
  simp [enumF]; omega
theorem upsert_enum (hs : List Int) (k : Nat) (hk : k < hs.length) : upsert (enumF 0 (hs.take k)) k (hs.getD k 0) = enumF 0 (hs.take (k + 1)) := by
 have hl : (hs.take k).length = k := by simp; omega
 have hn : look (enumF 0 (hs.take k)) k 0 = none := look_noU fun p hp => by
  have := enumF_get (hs.take k) 0 p hp
  rw [hl] at this; omega
 have ht : hs.take (k + 1) = hs.take k ++ [hs.getD k 0] := by
  rw [List.take_succ_eq_append_getElem hk]
  simp [hk]
 rw [ht, enumF_snoc, hl]
 unfold upsert
 rw [hn]
 simp

theorem uMapU : Tryz.prog.underlying 97 = some (.map 3 61) := by kernel_rfl
theorem zU64 (w : World) : (zeroValue 61).run Tryz.prog w = .ok (.int .u64 0) w := by kernel_rfl
def WtP (w : World) (hs : List Int) (e : Ending) (w' : World) : Prop := ∃ b, e = .returned (.map (some b)) ∧ MapIsU w' b (enumF 0 hs) ∧ w.heap.size ≤ b ∧ Below w.heap.size w w'
def WtR (w : World) (hs : List Int) (a : Option Addr) (c mb : Nat) (v : Value) (wr : World) : Prop :=
 ∃ k : Nat, k ≤ hs.length ∧ v = .int .i64 k ∧ MapIsU wr mb (enumF 0 (hs.take k)) ∧ wr.ownsRow 0 61 1 (.slice a hs.length c) hs.length (ulongs hs) ∧ Below w.heap.size w wr
theorem wanted_any (t p s : Int) (hs : List Int) (w : World) (hE : ∀ w, Calls Tryz.prog 79 #[.agg #[.int .i64 t, .int .i64 p, .int .i64 s]] w (WordsP w hs)) (h8 : hs.length ≤ 8) :
 Calls Tryz.prog 46 #[.agg #[.int .i64 t, .int .i64 p, .int .i64 s]] w (WtP w hs) := by
 have HE := Lib.hid hE
 have hmk : ∀ W : World, (Instr.makeMap 97 none).run Tryz.prog W = .ok (.map (some W.heap.size)) (W.alloc (.map #[] 0)) := fun W => run_makeMap _ W
 have S1 := BS.start ((w.alloc (.cells #[.int .i64 t, .int .i64 p, .int .i64 s] 44)).alloc (.map #[] 0))
 have hM : MapIsU ((w.alloc (.cells #[.int .i64 t, .int .i64 p, .int .i64 s] 44)).alloc (.map #[] 0)) (w.heap.size + 1) [] := ⟨#[], 0, by rw [← World.size_alloc w (.cells #[.int .i64 t, .int .i64 p, .int .i64 s] 44)]; exact heap_alloc_new _ _, rfl⟩
 have hB : Below w.heap.size w ((w.alloc (.cells #[.int .i64 t, .int .i64 p, .int .i64 s] 44)).alloc (.map #[] 0)) := ((Below.refl _ w).alloc (Nat.le_refl _) _).alloc (by simp) _
 clear hE
 go_enter Tryz.func46, Tryz.ntmps46
 go_wp2_with fail
 refine (HE.out _).mono ?_
 rintro e w1 ⟨v1, rfl, o1, f1, b1⟩
 obtain ⟨a1, c1, rfl⟩ := row_shape o1
 have hM1 : MapIsU w1 (w.heap.size + 1) [] := by
  obtain ⟨es, clk, h1, h2⟩ := hM
  exact ⟨es, clk, (b1.block _ (by simp)).trans h1, h2⟩
 have hB1 := hB.trans (b1.mono (by simp; omega))
 have hne : ∀ k, (Value.slice a1 hs.length c1).ownBlock = some k → k ≠ w.heap.size + 1 := fun k hk => by have := f1 k hk; simp at this; omega
 have hA : WtR w hs a1 c1 (w.heap.size + 1) (.int .i64 0) w1 := ⟨0, by omega, rfl, by simpa [enumF] using hM1, o1, hB1⟩
 clear S1 hM hB b1 f1 o1 hM1 hB1
 go_wp2
 go_loopw [4, 5, 10] (fun _ _ v wr => WtR w hs a1 c1 (w.heap.size + 1) v wr) (fun _ _ v _ => hs.length - (intOf v).toNat)
 case atStart => exact hA
 case round =>
  clear hA
  obtain ⟨k, hk, rfl, hm, hr, hb⟩ := hrel
  by_cases hlt : k < hs.length
  ·have hkl : (k : Int) < hs.length := by omega
   obtain ⟨g, cap, e⟩ := Joins.ownsRow_form hr (by omega)
   simp only [Value.slice.injEq] at e
   obtain ⟨rfl, -, rfl⟩ := e
   have ck := (hr.cellAt k (by omega)).trans (show (ulongs hs)[k]? = some (.int .u64 (hs.getD k 0)) by simp [ulongs, hlt])
   have hup := upsert_enum hs k hlt
   have HUp := Lib.hid hup
   have HM := Lib.hid hm
   have HRow := Lib.hid hr
   have HB := Lib.hid hb
   clear hup hm hr hb
   generalize hs.getD k 0 = y at *
   go_wp2_with (at_mapUpdate; go_must (refine wpL_updateU rfl _ _ _ rfl uMapU Tryz.underlying3 (w.heap.size + 1) (enumF 0 (hs.take k)) k y rfl HM.out rfl rfl ?_); go_must (intro w2 hm2 hg2))
   rw [HUp.out] at hm2
   go_roundw
   case rel =>
    refine ⟨k + 1, by omega, by go_num, hm2, ownsRow_keep HRow.out fun j hj => hg2.block j (ownsRow_lt HRow.out hj) (fun e => hne j hj (by simpa using e.symm : w.heap.size + 1 = j).symm), HB.out.grown hg2 HB.out.size (fun j hj => by simp at hj; omega)⟩
   case measure => simp [intOf]; omega
  ·have hke : k = hs.length := by omega
   subst hke
   rw [List.take_length] at hm
   have HM := Lib.hid hm
   go_wp2
   go_ret
   exact ⟨_, rfl, HM.out, by omega, hb⟩
end Go.Proofs.YtcbikgafdclhaaaGreat
/- head: the program's Decode. -/
set_option linter.unusedSimpArgs false
set_option linter.unusedVariables false
namespace Go.Proofs.YtcbikgafdclhaaaGreat
open Go.RowKit

/-- words at a slice. -/
structure WZ (w : World) (ad : Addr) (n : Nat) (ws : List Int) : Prop where
 len : ws.length = n
 u64 : ∀ v ∈ ws, U64 v
 cells : ∀ k, k < n → w.cell? (ad.add k) = some (.int .u64 (ws.getD k 0))
theorem WZ.keep {w w' : World} {ad : Addr} {n : Nat} {ws : List Int} (h : WZ w ad n ws) (hb : Below w.heap.size w w') : WZ w' ad n ws :=
 ⟨h.len, h.u64, fun k hk => (hb.cell (World.block_lt_of_cell? w _ (h.cells k hk))).trans (h.cells k hk)⟩
theorem WZ.wx {w : World} {ad : Addr} {n : Nat} {ws : List Int} (h : WZ w ad n ws) {t p s : Int} (hr : rightB t p s = true) (hn : (n : Int) = wordsN t p) : WX w t p s ad n ws := ⟨hr, h.len, hn, h.u64, h.cells⟩
def DeR (W1 : World) (ws : List Int) (L : List (Int × Int)) (mb cb : Nat) (t p s : Int) (v : Value) (wr : World) : Prop :=
 ∃ k : Nat, k ≤ 8 ∧ v = .int .i64 k ∧ MapIsU wr mb (dlF ws L k) ∧ (∀ o : Nat, wr.cell? ⟨cb, o, none⟩ = (#[.int .i64 t, .int .i64 p, .int .i64 s] : Array Value)[o]?) ∧ BS W1 [mb, cb] wr
def DecQ (w : World) (r : Option (Int × Int × Int)) (e : Ending) (w' : World) : Prop := match r with
 | none => e = .returned (.tuple #[.agg #[.int .i64 0, .int .i64 0, .int .i64 0], .int .i64 9]) ∧ Below w.heap.size w w'
 | some (t, p, s) => e = .returned (.tuple #[.agg #[.int .i64 t, .int .i64 p, .int .i64 s], .int .i64 0]) ∧ Below w.heap.size w w'
theorem decode_short (a : Option Addr) (n c : Nat) (w : World) (h : n < 8) : Calls Tryz.prog 27 #[.slice a n c] w (DecQ w none) := by
 have hn : (n : Int) < 8 := by omega
 go_enter Tryz.func27, Tryz.ntmps27
 go_wp2
 exact bodyPost_ret (v := .tuple #[.agg #[.int .i64 0, .int .i64 0, .int .i64 0], .int .i64 9]) (by simp [results, Tryz.results27, go_sem]) rfl ⟨rfl, by (repeat (first | exact Below.refl _ _ | assumption | refine Below.setCell ?_ (by first | omega | (simp; done) | (simp; omega)) _ | refine Below.alloc ?_ (by first | omega | (simp; done) | (simp; omega)) _ | refine Below.drew ?_ | refine Below.trans ?_ (Below.mono ‹Below _ _ _› (by first | omega | (simp; done) | (simp; omega)))))⟩
section
variable {w : World} {ad : Addr} {n : Nat} {ws : List Int}
set_option maxHeartbeats 2000000 in
set_option maxRecDepth 100000 in
theorem decode_walk (h : WZ w ad n ws) (c : Nat) (h8 : 8 ≤ n) (hc : n ≤ c) (t p s : Int) (ok : Bool) (hs : List Int) (hl : hs.length ≤ 8)
 (hO : ∀ w, Calls Tryz.prog 45 #[.int .u64 (ws.getD 2 0)] w fun e w' => e = .returned (.tuple #[.agg #[.int .i64 t, .int .i64 p, .int .i64 s], .bool ok]) ∧ Below w.heap.size w w')
 (hE : ∀ w, Calls Tryz.prog 79 #[.agg #[.int .i64 t, .int .i64 p, .int .i64 s]] w (WordsP w hs)) :
 Calls Tryz.prog 27 #[.slice (some ad) n c] w (DecQ w (if ok = true ∧ dlF ws (enumF 0 hs) 8 = [] then some (t, p, s) else none)) := by
 obtain ⟨res, hres⟩ : ∃ res, (if ok = true ∧ dlF ws (enumF 0 hs) 8 = [] then some (t, p, s) else none) = res := ⟨_, rfl⟩
 rw [hres]
 have HRes := Lib.hid hres
 have HO := Lib.hid hO
 have HWa := Lib.hid (fun w => wanted_any t p s hs w hE hl)
 have HC := Lib.hid (show ∀ k, k < 8 → ∀ W, Below w.heap.size w W → W.cell? (ad.add k) = some (.int .u64 (ws.getD k 0)) from fun k hk W hb => (h.keep hb).cells k (by omega))
 have H2 := Lib.hid (show ∀ W, Below w.heap.size w W → W.cell? ⟨ad.block, ad.off + 2, none⟩ = some (.int .u64 (ws.getD 2 0)) from fun W hb => by
  have := (h.keep hb).cells 2 (by omega)
  rwa [show ad.add 2 = ⟨ad.block, ad.off + 2, none⟩ by simp [Addr.add]] at this)
 have c1 := loc_alloc w #[.int .i64 0, .int .i64 0, .int .i64 0] 44
 have S1 := BS.start (w.alloc (.cells #[.int .i64 0, .int .i64 0, .int .i64 0] 44))
 have HB1 := Lib.hid (show ∀ W, Below (w.alloc (.cells #[.int .i64 0, .int .i64 0, .int .i64 0] 44)).heap.size (w.alloc (.cells #[.int .i64 0, .int .i64 0, .int .i64 0] 44)) W → Below w.heap.size w W from fun W hb => ((Below.refl _ w).alloc (Nat.le_refl _) _).trans (hb.mono (by simp)))
 have e2 := H2.out _ (HB1.out _ S1.bel)
 have hn8 : ¬ (n : Int) < 8 := by omega
 have hn2 : (2 : Int) < n := by omega
 have hc8 : 8 ≤ c := by omega
 clear h hres hO hE hl
 generalize hx2 : ws.getD 2 0 = x2 at *
 clear hx2
 go_enter Tryz.func27, Tryz.ntmps27
 go_wp2_with fail
 refine (calls_b S1 (HO.out _)).mono ?_
 rintro e w2 ⟨rfl, S2, -⟩
 have S3 := S2.alloc (.cells #[.int .i64 t, .int .i64 p, .int .i64 s] 44)
 have d3 := loc_alloc w2 #[.int .i64 t, .int .i64 p, .int .i64 s] 44
 clear S2 e2 S1
 go_wp2_with fail
 refine (HWa.out _).mono ?_
 rintro e w4 ⟨mb, rfl, m4, hmb, b4⟩
 have S4 := S3.below b4
 have d4 := ((BS.start _).below b4).oldbox d3 (S3.ls w2.heap.size (by simp)).1
 have S4m : BS (w.alloc (.cells #[.int .i64 0, .int .i64 0, .int .i64 0] 44)) [mb, w2.heap.size] w4 := ⟨S4.bel, fun L hL => by
  simp at hL
  rcases hL with e | e
  ·rw [e]
   obtain ⟨es, clk, h1, -⟩ := m4
   exact ⟨(Array.getElem?_eq_some_iff.1 h1).1, by have := S3.bel.size; omega⟩
  ·rw [e]; exact S4.ls _ (by simp)⟩
 have hmne : mb ≠ w2.heap.size := by simp at hmb; omega
 generalize enumF 0 hs = L at *
 have hA : DeR (w.alloc (.cells #[.int .i64 0, .int .i64 0, .int .i64 0] 44)) ws L mb w2.heap.size t p s (.int .i64 0) w4 := ⟨0, by omega, rfl, m4, d4, S4m⟩
 clear S3 d3 S4 d4 S4m m4 b4 HWa HO
 go_wp2
 go_loopw [7, 8, 25] (fun _ _ v wr => DeR (w.alloc (.cells #[.int .i64 0, .int .i64 0, .int .i64 0] 44)) ws L mb w2.heap.size t p s v wr) (fun _ _ v _ => 8 - (intOf v).toNat)
 case atStart => exact hA
 case round =>
  clear hA
  obtain ⟨k, hk, rfl, hm, hd, hS⟩ := hrel
  by_cases hlt : k < 8
  ·have hk8 : (k : Int) < 8 := by omega
   have ck := HC.out k hlt _ (HB1.out _ hS.bel)
   have hdl : dlF ws L (k + 1) = if (assoc (dlF ws L k) k).getD 0 = ws.getD k 0 then delKU (dlF ws L k) k else dlF ws L k := rfl
   have HDl := Lib.hid hdl
   have HM := Lib.hid hm
   have HD := Lib.hid hd
   have HS := Lib.hid hS
   clear hdl hm hd hS
   generalize dlF ws L k = dk at *
   generalize ws.getD k 0 = x at *
   generalize hy : (assoc dk k).getD 0 = y at *
   have HY := Lib.hid hy
   clear hy
   by_cases hxy : y = x
   ·subst hxy
    have HDn := Lib.hid (show dlF ws L (k + 1) = delKU dk k by rw [HDl.out, if_pos rfl])
    clear HDl
    go_wp2_with (first | (at_lookup; go_must (refine wpL_lookupU rfl _ _ false rfl uMapU Tryz.underlying3 (zU64 _) mb dk k rfl HM.out rfl ?_); go_must (simp only [HY.out, Bool.false_eq_true, if_false])) | (refine wpL_mdeleteU rfl _ _ rfl uMapU Tryz.underlying3 mb dk k rfl HM.out rfl ?_; intro w7 hm7 hg7))
    go_roundw
    case rel =>
     refine ⟨k + 1, by omega, by go_num, by rw [HDn.out]; exact hm7, loc_grown hg7 (HS.out.ls w2.heap.size (by simp)).1 (fun e => hmne (by simpa using e)) HD.out, HS.out.grown hg7 (fun j hj => by simp at hj; simp [hj]) _ (fun L hL => Or.inl hL)⟩
    case measure => simp [intOf]; omega
   ·have HDn := Lib.hid (show dlF ws L (k + 1) = dk by rw [HDl.out, if_neg hxy])
    clear HDl
    have hxb : (y == x) = false := by simpa using hxy
    clear hxy
    go_wp2_with (at_lookup; go_must (refine wpL_lookupU rfl _ _ false rfl uMapU Tryz.underlying3 (zU64 _) mb dk k rfl HM.out rfl ?_); go_must (simp only [HY.out, Bool.false_eq_true, if_false]))
    go_roundw
    case rel => exact ⟨k + 1, by omega, by go_num, by rw [HDn.out]; exact HM.out, HD.out, HS.out⟩
    case measure => simp [intOf]; omega
  ·have hk8 : k = 8 := by omega
   subst hk8
   have e4 := hd 0
   have e5 := hd 1
   have e6 := hd 2
   have k3 := hS.oldbox c1 (by simp)
   have r0 := k3 0
   have r1 := k3 1
   have r2 := k3 2
   have f0 := hS.bel.frozen (p := ⟨w.heap.size, 0, none⟩) (by simp)
   have f1 := hS.bel.frozen (p := ⟨w.heap.size, 1, none⟩) (by simp)
   have f2 := hS.bel.frozen (p := ⟨w.heap.size, 2, none⟩) (by simp)
   simp at e4 e5 e6 r0 r1 r2 f0 f1 f2
   have gb := HB1.out _ hS.bel
   have gz := hS.bel.size
   simp at gz
   have g6 := (hS.ls w2.heap.size (by simp)).1
   have hset := ((gb.setCell (p := ⟨w.heap.size, 0, none⟩) (by simp) (.int .i64 t)).setCell (p := ⟨w.heap.size, 1, none⟩) (by simp) (.int .i64 p)).setCell (p := ⟨w.heap.size, 2, none⟩) (by simp) (.int .i64 s)
   have hset0 := ((gb.setCell (p := ⟨w.heap.size, 0, none⟩) (by simp) (.int .i64 0)).setCell (p := ⟨w.heap.size, 1, none⟩) (by simp) (.int .i64 0)).setCell (p := ⟨w.heap.size, 2, none⟩) (by simp) (.int .i64 0)
   have HSe := Lib.hid hset
   have HSe0 := Lib.hid hset0
   have hres := HRes.out
   clear HRes k3 hd hset hset0
   cases ok
   ·simp only [Bool.false_eq_true, false_and, if_false] at hres
    subst hres
    clear hm
    go_wp2
    exact bodyPost_ret (v := .tuple #[.agg #[.int .i64 0, .int .i64 0, .int .i64 0], .int .i64 9]) (by simp [results, Tryz.results27, go_sem, *]) rfl ⟨rfl, HSe0.out⟩
   ·obtain ⟨es, clk, hbm, hel⟩ := hm
    have hsz : es.size = (dlF ws L 8).length := by
     have := congrArg List.length hel
     simpa [rowsOfU] using this
    have hlm := fun ty => run_len_map (P := Tryz.prog) wr 97 ty mb es clk (by kernel_rfl) hbm
    by_cases hd0 : dlF ws L 8 = []
    ·rw [if_pos ⟨rfl, hd0⟩] at hres
     subst hres
     have hes : (es.size : Int) = 0 := by rw [hsz, hd0]; rfl
     have hesn : es.size = 0 := by omega
     rw [hesn] at hlm
     clear hel hbm hsz hd0 hes hesn
     go_wp2
     exact bodyPost_ret (v := .tuple #[.agg #[.int .i64 t, .int .i64 p, .int .i64 s], .int .i64 0]) (by simp [results, Tryz.results27, go_sem, *]) rfl ⟨rfl, HSe.out⟩
    ·rw [if_neg (fun hh => hd0 hh.2)] at hres
     subst hres
     have hes : (0 : Int) < es.size := by
      have : dlF ws L 8 ≠ [] := hd0
      have := List.length_pos_iff.2 this
      omega
     have hz : es.size = es.size := rfl
     clear hel hbm hsz hd0 hz
     generalize es.size = z at *
     go_wp2
     exact bodyPost_ret (v := .tuple #[.agg #[.int .i64 0, .int .i64 0, .int .i64 0], .int .i64 9]) (by simp [results, Tryz.results27, go_sem, *]) rfl ⟨rfl, HSe0.out⟩
end
end Go.Proofs.YtcbikgafdclhaaaGreat
/- world: of. -/
set_option linter.unusedSimpArgs false
set_option linter.unusedVariables false
namespace Go.Proofs.YtcbikgafdclhaaaGreat
open Go.RowKit

theorem infoThb : (Tryz.prog.info? 302).map (fun i => (i.zero, i.size, i.bytes)) = some (some zThread, 11, 232) := by kernel_rfl
/-- a world that is new. -/
def OfP (w : World) (t p s : Int) (ws : List Int) (e : Ending) (w' : World) : Prop := ∃ b mb g N, ∃ S : Nat → Prop, e = .returned (.pointer (some ⟨b, 0, none⟩)) ∧
 w'.heap[b]? = some (.cells (worldC t p s (.pointer (some ⟨mb, 0, none⟩)) (.slice (some ⟨g, 0, none⟩) N N) (.pointer none) 0 (.slice none 0 0) (.slice none 0 0) 0 0 0) 87) ∧
 PM w' mb S ⟨ws, ws, []⟩ ∧ (∃ tc : Array Value, w'.heap[g]? = some (.cells tc 302) ∧ tc.size = N * 11) ∧ 0 < N ∧ w.heap.size ≤ b ∧ w.heap.size ≤ g ∧ (∀ k, S k → w.heap.size ≤ k) ∧ ¬ S b ∧ ¬ S g ∧ b ≠ g ∧ Below w.heap.size w w'
section
variable {w Wd w2 : World} {mb T : Nat} {S : Nat → Prop} {tc : Array Value} {p s : Int} {ws : List Int}
theorem ofA (hd : Below w.heap.size w Wd) (b2 : Below Wd.heap.size Wd w2) (hpm : PM w2 mb S ⟨ws, ws, []⟩) (hS : ∀ k, S k → Wd.heap.size ≤ k) (htc : tc.size = T * 11) (hT : 0 < T) :
 OfP w T p s ws (.returned (.pointer (some ⟨w2.heap.size + 1, 0, none⟩))) ((w2.alloc (.cells tc 302)).alloc (.cells (worldC T p s (.pointer (some ⟨mb, 0, none⟩)) (.slice (some ⟨w2.heap.size, 0, none⟩) T T) (.pointer none) 0 (.slice none 0 0) (.slice none 0 0) 0 0 0) 87)) := by
 have h1 := hd.size
 have h2 := b2.size
 have hlt := keepsPM.lt hpm
 refine ⟨w2.heap.size + 1, mb, w2.heap.size, T, S, rfl, ?_, keepsPM.keep hpm (T := fun _ => False) (((Fr.refl _ w2).alloc _).alloc _) (fun _ _ h => h), ⟨tc, ?_, htc⟩, hT, by omega, by omega, fun k hk => by have := hS k hk; omega, fun h => by have := hlt _ h; omega, fun h => by have := hlt _ h; omega, by omega, ?_⟩
 ·rw [← World.size_alloc w2 (.cells tc 302)]
  exact heap_alloc_new _ _
 ·exact (Below.heap_alloc _ _ _ (by simp)).trans (heap_alloc_new _ _)
 ·exact ((hd.trans (b2.mono h1)).alloc (by omega) _).alloc (by simp; omega) _
theorem ofB {gg : Nat} (hgg : gg = Wd.heap.size) (hd : Below w.heap.size w Wd) (b2 : Below (Wd.alloc (.cells tc 302)).heap.size (Wd.alloc (.cells tc 302)) w2) (hpm : PM w2 mb S ⟨ws, ws, []⟩) (hS : ∀ k, S k → (Wd.alloc (.cells tc 302)).heap.size ≤ k) (htc : tc.size = T * 11) (hT : 0 < T) :
 OfP w T p s ws (.returned (.pointer (some ⟨w2.heap.size, 0, none⟩))) (w2.alloc (.cells (worldC T p s (.pointer (some ⟨mb, 0, none⟩)) (.slice (some ⟨gg, 0, none⟩) T T) (.pointer none) 0 (.slice none 0 0) (.slice none 0 0) 0 0 0) 87)) := by
 subst hgg
 have h1 := hd.size
 have h2 := b2.size
 simp at h2
 have hlt := keepsPM.lt hpm
 refine ⟨w2.heap.size, mb, Wd.heap.size, T, S, rfl, heap_alloc_new _ _, keepsPM.keep hpm (T := fun _ => False) ((Fr.refl _ w2).alloc _) (fun _ _ h => h), ⟨tc, ?_, htc⟩, hT, by omega, by omega, fun k hk => by have := hS k hk; simp at this; omega, fun h => by have := hlt _ h; omega, fun h => by have := hS _ h; simp at this; omega, by omega, ?_⟩
 ·exact (Below.heap_alloc _ _ _ (by omega)).trans ((b2.block _ (by simp)).trans (heap_alloc_new _ _))
 ·exact ((hd.alloc h1 (.cells tc 302)).trans (b2.mono (by simp; omega))).alloc (by omega) _
end
set_option maxHeartbeats 2000000 in
set_option maxRecDepth 100000 in
theorem wof_any (t p s : Int) (ad : Addr) (n c : Nat) (ws : List Int) (w : World) (hr : rightB t p s = true) (hz : WZ w ad n ws) (hn : (n : Int) = wordsN t p) :
 Calls Tryz.prog 48 #[.agg #[.int .i64 t, .int .i64 p, .int .i64 s], .slice (some ad) n c] w (OfP w t p s ws) := by
 have bd := right_bd hr
 have hb := makers_bd hr
 have h8 : makersN t p % 8 = 0 := by unfold makersN; omega
 obtain ⟨T, rfl⟩ : ∃ T : Nat, t = T := ⟨t.toNat, by omega⟩
 have HN := Lib.hid (fun W (hb : Below w.heap.size w W) => mnew_any ad n c ws W hz.len (by omega) (by omega) (by omega) hz.u64 (hz.keep hb).cells)
 obtain ⟨tc, htc⟩ : ∃ tc, madeCells zThread.cells (T * 11) = tc := ⟨_, rfl⟩
 have htz : tc.size = T * 11 := by rw [← htc]; simp [size_madeCells]
 have hmk : ∀ w : World, (Instr.makeSlice 83 (.int .i64 (T : Int)) (.int .i64 (T : Int))).run Tryz.prog w = .ok (.slice (some ⟨w.heap.size, 0, none⟩) T T) (w.alloc (.cells tc 302)) := fun w => by
  obtain ⟨i, hi, hzz⟩ := Option.map_eq_some_iff.1 infoThb
  simp only [Prod.mk.injEq] at hzz
  obtain ⟨hz1, hs1, hb1⟩ := hzz
  have hr1 := run_make (P := Tryz.prog) w 83 302 i zThread Tryz.underlying83 hi hz1 .i64 .i64 T T (by omega) (Int.le_refl _) (by rw [hb1]; omega) (by omega)
  simp only [Int.toNat_natCast, hs1] at hr1
  rw [htc] at hr1
  exact hr1
 have HTz := Lib.hid htz
 have hT : 0 < T := by omega
 have c0 := loc_alloc w #[.int .i64 T, .int .i64 p, .int .i64 s] 44
 have S0 := ((BS.start w).alloc (.cells #[.int .i64 T, .int .i64 p, .int .i64 s] 44))
 clear hr bd hb h8 hz hn htc htz
 go_enter Tryz.func48, Tryz.ntmps48
 go_wp2_with fail
 refine wp_region_noPanic ?_
 refine wp_region_held_drew (S := fun w' => (∀ o : Nat, w'.cell? ⟨w.heap.size, o, none⟩ = (#[.int .i64 T, .int .i64 p, .int .i64 s] : Array Value)[o]?) ∧ BS w [w.heap.size] w') (by kernel_rfl) ?_ (fun hHeld => ?_)
 ·exact ⟨c0, S0.drew⟩
 refine wT 0 ?_
 refine wT 1 ?_
 refine wT 3 ?_
 refine wT 4 ?_
 refine wpAnyH_ready (rs := [2, 5]) (by kernel_rfl) (by simp) ?_
 refine AllReadyH.cons (o := _) rfl (fun K hK => ?_) (AllReadyH.cons (o := _) rfl (fun K hK => ?_) AllReadyH.nil)
 ·go_simp
  have hd2 := hHeld.2.bel
  refine (HN.out _ hd2).mono ?_
  rintro e w2 ⟨mb, rfl, hmb, ⟨S, hpm, hS⟩, b2⟩
  have hzk := (hHeld.2.ls w.heap.size (by simp)).1
  have S2 := hHeld.2.below b2
  have c2 := ((BS.start _).below b2).oldbox hHeld.1 hzk
  refine hK.out _ _ ?_ (fun hHeld => ?_)
  ·exact ⟨c2, S2⟩
  clear hK K
  try simp only [Act.put, zA, zB, zC, zD, zE, zF]
  refine wR 5 fun K hK => ?_
  have hd5 := hHeld.2.bel
  have hzl := (hHeld.2.ls w.heap.size (by simp)).1
  have cg := loc_old (.cells tc 302) hzl hHeld.1
  have Sg := (hHeld.2.alloc (.cells tc 302)).sub [w.heap.size] (by simp)
  go_simp
  refine hK.out _ _ ?_ (fun hHeld => ?_)
  ·exact ⟨cg, Sg⟩
  clear hK K
  try simp only [Act.put, zA, zB, zC, zD, zE, zF]
  refine wT 6 ?_
  refine wR 7 fun K hK => ?_
  go_simp
  refine hK.out _ _ ?_ (fun hHeld => ?_)
  ·exact ⟨loc_old _ (hHeld.2.ls w.heap.size (by simp)).1 hHeld.1, (hHeld.2.alloc _).sub _ (by simp)⟩
  clear hK K
  try simp only [Act.put, zA, zB, zC, zD, zE, zF]
  refine wT 8 ?_
  refine wpAnyH_done (by kernel_rfl) (NoPanic.normal ?_) _
  go_wp2
  go_ret
  first | exact ofA hd2 b2 hpm hS HTz.out hT | exact ofB (gg := w.heap.size + 1) (by simp) hd5 b2 hpm hS HTz.out hT
 ·have hd5 := hHeld.2.bel
  have hzl := (hHeld.2.ls w.heap.size (by simp)).1
  have cg := loc_old (.cells tc 302) hzl hHeld.1
  have Sg := (hHeld.2.alloc (.cells tc 302)).sub [w.heap.size] (by simp)
  go_simp
  refine hK.out _ _ ?_ (fun hHeld => ?_)
  ·exact ⟨cg, Sg⟩
  clear hK K
  try simp only [Act.put, zA, zB, zC, zD, zE, zF]
  refine wR 2 fun K hK => ?_
  go_simp
  have hd2 := hHeld.2.bel
  refine (HN.out _ hd2).mono ?_
  rintro e w2 ⟨mb, rfl, hmb, ⟨S, hpm, hS⟩, b2⟩
  have hzk := (hHeld.2.ls w.heap.size (by simp)).1
  have S2 := hHeld.2.below b2
  have c2 := ((BS.start _).below b2).oldbox hHeld.1 hzk
  refine hK.out _ _ ?_ (fun hHeld => ?_)
  ·exact ⟨c2, S2⟩
  clear hK K
  try simp only [Act.put, zA, zB, zC, zD, zE, zF]
  refine wT 6 ?_
  refine wR 7 fun K hK => ?_
  go_simp
  refine hK.out _ _ ?_ (fun hHeld => ?_)
  ·exact ⟨loc_old _ (hHeld.2.ls w.heap.size (by simp)).1 hHeld.1, (hHeld.2.alloc _).sub _ (by simp)⟩
  clear hK K
  try simp only [Act.put, zA, zB, zC, zD, zE, zF]
  refine wT 8 ?_
  refine wpAnyH_done (by kernel_rfl) (NoPanic.normal ?_) _
  go_wp2
  go_ret
  first | exact ofA hd2 b2 hpm hS HTz.out hT | exact ofB (gg := w.heap.size + 1) (by simp) hd5 b2 hpm hS HTz.out hT
end Go.Proofs.YtcbikgafdclhaaaGreat
/- world: a crash of a new world; Of. -/
set_option linter.unusedSimpArgs false
set_option linter.unusedVariables false
namespace Go.Proofs.YtcbikgafdclhaaaGreat
open Go.RowKit

theorem Fr.heap {S : Nat → Prop} {a b : World} (h : Fr S a b) {k : Nat} {x : Obj} (hk : a.heap[k]? = some x) (hn : ¬ S k) : b.heap[k]? = some x := (h.block k (Array.getElem?_eq_some_iff.1 hk).1 hn).trans hk
/-- a world of words, behind a crash. -/
def WOx (w : World) (b : Nat) (ws : List Int) : Prop := ∃ t p s mb al md ep g c mk ig st mn, ∃ S : Nat → Prop, w.heap[b]? = some (.cells (worldC t p s (.pointer (some ⟨mb, 0, none⟩)) al (.pointer (some ⟨md, 0, none⟩)) ep (.slice (some ⟨g, 0, none⟩) 1 c) mk ig st mn) 87) ∧
 PM w mb S ⟨ws, ws, []⟩ ∧ w.ownsRow 0 59 17 (.slice (some ⟨g, 0, none⟩) 1 c) 1 ev4
set_option maxHeartbeats 2000000 in
set_option maxRecDepth 100000 in
theorem wcrash_any (b mb g N : Nat) (S : Nat → Prop) (t p s : Int) (ws : List Int) (w : World) (hr : rightB t p s = true)
 (hb : w.heap[b]? = some (.cells (worldC t p s (.pointer (some ⟨mb, 0, none⟩)) (.slice (some ⟨g, 0, none⟩) N N) (.pointer none) 0 (.slice none 0 0) (.slice none 0 0) 0 0 0) 87))
 (hpm : PM w mb S ⟨ws, ws, []⟩) (tc : Array Value) (htc : w.heap[g]? = some (.cells tc 302)) (htz : tc.size = N * 11) (hN : 0 < N) (hSb : ¬ S b) (hSg : ¬ S g) (hbg : b ≠ g) (h8 : 8 < ws.length) :
 Calls Tryz.prog 49 #[.pointer (some ⟨b, 0, none⟩), .agg #[.int .i64 0, .int .i64 0, .int .i64 0, .int .i64 0, .int .i64 0, .int .i64 0, .int .i64 0, .int .i64 0]] w fun e w' => e = .returned (.bool true) ∧ WOx w' b ws ∧ Fr (fun k => k = b ∨ k = g ∨ S k) w w' := by
 have HBg := Lib.hid (fun w => mebegin_any t p s w hr)
 have hu := NM.getD_u hpm.inv.wu 8
 have HSt := Lib.hid (fun w => mstamp_any (ws.getD 8 0) w hu)
 have hload : (⟨ws, ws, []⟩ : NM).load 8 = (ws.getD 8 0, true) := by
  unfold NM.load
  rw [if_pos (NM.th_iff.2 ⟨by omega, by show (8 : Int) < (ws.length : Int); omega⟩)]
  rfl
 generalize ws.getD 8 0 = v8 at *
 have hcr : (⟨ws, ws, []⟩ : NM).crash = ⟨ws, ws, []⟩ := rfl
 have hblt : b < w.heap.size := (Array.getElem?_eq_some_iff.1 hb).1
 have hglt : g < w.heap.size := (Array.getElem?_eq_some_iff.1 htc).1
 obtain ⟨ob, hob⟩ : ∃ ob, Obj.cells #[.int .i64 0, .int .i64 0, .int .i64 0, .int .i64 0, .int .i64 0, .int .i64 0, .int .i64 0, .int .i64 0] 101 = ob := ⟨_, rfl⟩
 have hb1 := (Below.heap_alloc w ob b hblt).trans hb
 have hpm1 : PM (w.alloc ob) mb S ⟨ws, ws, []⟩ := keepsPM.keep hpm (T := fun _ => False) ((Fr.refl _ w).alloc _) (fun _ _ h => h)
 have HTl := Lib.hid (fun w hb => wtell_any b t p s (.pointer (some ⟨mb, 0, none⟩)) (.slice (some ⟨g, 0, none⟩) N N) (.pointer none) (.slice none 0 0) 0 0 0 w hb)
 have htc1 := (Below.heap_alloc w ob g hglt).trans htc
 clear hr hb hpm hu htc
 go_enter Tryz.func49, Tryz.ntmps49
 go_wp2_with fail
 refine (HTl.out _ hb1).mono ?_
 rintro e w2 ⟨rfl, ⟨eg, ec, hb2, hev2, heg2⟩, hF2⟩
 have hpm2 := keepsPM.keep hpm1 hF2 (fun k hk e => hSb (e ▸ hk))
 have htc2 := hF2.heap htc1 (fun e => hbg e.symm)
 have x3 := cell?_of_heap (o := 3) hb2
 simp [worldC] at x3
 have hlt2 : b < w2.heap.size := (Array.getElem?_eq_some_iff.1 hb2).1
 have hlg2 : g < w2.heap.size := (Array.getElem?_eq_some_iff.1 htc2).1
 go_wp2_with fail
 refine (mcrash_any mb w2 S _ hpm2).mono ?_
 rintro e w3 ⟨rfl, hpm3, hF3⟩
 rw [hcr] at hpm3
 have hb3 := hF3.heap hb2 hSb
 have htc3 := hF3.heap htc2 hSg
 have hev3 : w3.ownsRow 0 59 17 (.slice (some ⟨eg, 0, none⟩) 1 ec) 1 ev4 := ownsRow_block hev2 fun k hk => hF3.block k (ownsRow_lt hev2 hk) (fun hs => by
  simp [Value.ownBlock] at hk
  have := keepsPM.lt hpm1 k hs
  omega)
 have y3 := cell?_of_heap (o := 3) hb3
 simp [worldC] at y3
 clear x3
 go_wp2_with fail
 refine (mload_any mb 8 w3 _ _ hpm3).mono ?_
 rintro e w4 ⟨rfl, rfl⟩
 rw [hload]
 dsimp only
 go_wp2_with fail
 refine (HSt.out _).mono ?_
 rintro e w5 ⟨rfl, b5⟩
 have hb5 := (b5.block b (Array.getElem?_eq_some_iff.1 hb3).1).trans hb3
 have htc5 := (b5.block g (Array.getElem?_eq_some_iff.1 htc3).1).trans htc3
 have hz5 : b < w5.heap.size := (Array.getElem?_eq_some_iff.1 hb5).1
 have hgz5 : g < w5.heap.size := (Array.getElem?_eq_some_iff.1 htc5).1
 have hpm5 := keepsPM.keep hpm3 (Fr.of_below (S := fun _ => False) b5) (fun _ _ h => h)
 have hev5 := ((BS.start _).below b5).row hev3
 generalize hiW v8 = hw at *
 have hb6 := (Below.heap_alloc w5 (.cells #[.int .u32 hw] 90) b hz5).trans hb5
 have htc6 := (Below.heap_alloc w5 (.cells #[.int .u32 hw] 90) g hgz5).trans htc5
 have z0 := cell?_of_heap (o := 0) hb5
 have z1 := cell?_of_heap (o := 1) hb5
 have z2 := cell?_of_heap (o := 2) hb5
 have z4 := cell?_of_heap (o := 4) hb5
 have z5 := cell?_of_heap (o := 5) hb5
 have z6 := cell?_of_heap (o := 6) hb5
 have z8 := cell?_of_heap (o := 8) hb5
 have z11 := cell?_of_heap (o := 11) hb5
 have f5 := frozen?_of_heap (o := 5) hb5
 have f6 := frozen?_of_heap (o := 6) hb5
 have f8 := frozen?_of_heap (o := 8) hb5
 have f11 := frozen?_of_heap (o := 11) hb5
 simp [worldC] at z0 z1 z2 z4 z5 z6 z8 z11
 clear y3
 have hbc0 : (((w5.setCell ⟨b, 8, none⟩ (.slice none 0 0)).setCell ⟨b, 6, none⟩ (.int .i64 1)).alloc (.cells #[.int .u32 hw] 90)).heap[b]? = some (.cells (worldC t p s (.pointer (some ⟨mb, 0, none⟩)) (.slice (some ⟨g, 0, none⟩) N N) (.pointer none) 1 (.slice (some ⟨eg, 0, none⟩) 1 ec) (.slice none 0 0) 0 0 0) 87) := by
  refine (Below.heap_alloc _ _ _ (by simp; omega)).trans ?_
  refine (heap_setCell_same (heap_setCell_same hb5)).trans ?_
  simp [worldC]
 have htcc : (((w5.setCell ⟨b, 8, none⟩ (.slice none 0 0)).setCell ⟨b, 6, none⟩ (.int .i64 1)).alloc (.cells #[.int .u32 hw] 90)).heap[g]? = some (.cells tc 302) := by
  refine (Below.heap_alloc _ _ _ (by simp; omega)).trans ?_
  exact (heap_setCell_other (fun e => hbg e.symm)).trans ((heap_setCell_other (fun e => hbg e.symm)).trans htc5)
 have hFr6 : Fr (fun k => k = b) w5 (((w5.setCell ⟨b, 8, none⟩ (.slice none 0 0)).setCell ⟨b, 6, none⟩ (.int .i64 1)).alloc (.cells #[.int .u32 hw] 90)) := (((Fr.refl (fun k => k = b) w5).setCell ⟨b, 8, none⟩ (.slice none 0 0) (Or.inl rfl)).setCell ⟨b, 6, none⟩ (.int .i64 1) (Or.inl rfl)).alloc _
 have hcl := fun ty => run_clear_block (P := Tryz.prog) (w := (((w5.setCell ⟨b, 8, none⟩ (.slice none 0 0)).setCell ⟨b, 6, none⟩ (.int .i64 1)).alloc (.cells #[.int .u32 hw] 90))) Tryz.underlying83 zThread zeroTh ty g N N tc _ htcc hN (by rw [htz]; exact Nat.le_refl _) (zeroTh_one N)
 obtain ⟨wc, hwc⟩ : ∃ wc, wc = (((w5.setCell ⟨b, 8, none⟩ (.slice none 0 0)).setCell ⟨b, 6, none⟩ (.int .i64 1)).alloc (.cells #[.int .u32 hw] 90)).setCells g 0 (Builtin.zeroCells zThread.cells N).toList := ⟨_, rfl⟩
 rw [← hwc] at hcl
 have hFc : Fr (fun k => k = g) (((w5.setCell ⟨b, 8, none⟩ (.slice none 0 0)).setCell ⟨b, 6, none⟩ (.int .i64 1)).alloc (.cells #[.int .u32 hw] 90)) wc := by rw [hwc]; exact setCells_fr g _ 0 _
 have hbc := hFc.heap hbc0 hbg
 have hF8 : Fr (fun k => k = b ∨ k = g) w5 wc := (hFr6.mono (S1 := fun k => k = b ∨ k = g) (fun i hi => Or.inl hi)).trans hFc (fun i hi => Or.inl (Or.inr hi))
 clear hwc
 have q0 := cell?_of_heap (o := 0) hbc
 have q1 := cell?_of_heap (o := 1) hbc
 have q2 := cell?_of_heap (o := 2) hbc
 simp [worldC] at q0 q1 q2
 go_wp2_with (go_at_call 89; refine (mkDelete0 _ _ _ _).mono ?_; rintro e w6 ⟨rfl, rfl⟩)
 refine (HBg.out _).mono ?_
 rintro e w9 ⟨⟨mdb, rfl, hmdb, -⟩, b9⟩
 have hb9 := (b9.block b (Array.getElem?_eq_some_iff.1 hbc).1).trans hbc
 have r5 := cell?_of_heap (o := 5) hb9
 have r11 := cell?_of_heap (o := 11) hb9
 have g5 := frozen?_of_heap (o := 5) hb9
 have g11 := frozen?_of_heap (o := 11) hb9
 simp [worldC] at r5 r11
 have hF9 : Fr (fun k => k = b ∨ k = g) w5 ((w9.setCell ⟨b, 5, none⟩ (.pointer (some ⟨mdb, 0, none⟩))).setCell ⟨b, 11, none⟩ (.int .i64 0)) := ((hF8.trans (Fr.of_below (S := fun _ => False) b9) (fun i hi => hi.elim)).setCell ⟨b, 5, none⟩ _ (Or.inl (Or.inl rfl))).setCell ⟨b, 11, none⟩ _ (Or.inl (Or.inl rfl))
 go_wp2
 go_ret
 have hbf := heap_setCell_same (o := 11) (v := .int .i64 0) (heap_setCell_same (o := 5) (v := .pointer (some ⟨mdb, 0, none⟩)) hb9)
 have hSb' : ¬ upd S w2 w3 b := fun h => h.elim hSb (fun h => by omega)
 have hSg' : ¬ upd S w2 w3 g := fun h => h.elim hSg (fun h => by omega)
 have hpm9 := keepsPM.keep hpm5 hF9 (fun k hk e => e.elim (fun h => hSb' (h ▸ hk)) (fun h => hSg' (h ▸ hk)))
 have hegb : eg ≠ b := fun h => by rw [h] at heg2; simp at heg2; omega
 have hegg : eg ≠ g := fun h => by rw [h] at heg2; simp at heg2; omega
 have hev9 := ownsRow_block hev5 (w' := ((w9.setCell ⟨b, 5, none⟩ (.pointer (some ⟨mdb, 0, none⟩))).setCell ⟨b, 11, none⟩ (.int .i64 0))) fun k hk => hF9.block k (ownsRow_lt hev5 hk) (fun e => by
  simp [Value.ownBlock] at hk
  rcases e with e | e
  ·exact hegb (by omega)
  ·exact hegg (by omega))
 refine ⟨rfl, ⟨t, p, s, mb, .slice (some ⟨g, 0, none⟩) N N, mdb, 1, eg, ec, .slice none 0 0, 0, 0, 0, _, hbf.trans (by simp [worldC]), hpm9, hev9⟩, ?_⟩
 have k1 : Fr (fun k => k = b ∨ k = g ∨ S k) w (w.alloc ob) := (Fr.refl _ w).alloc _
 have k2 := k1.trans hF2 (fun i hi => Or.inl (Or.inl hi))
 have k3 := k2.trans hF3 (fun i hi => Or.inl (Or.inr (Or.inr hi)))
 have k5 := k3.trans (Fr.of_below (S := fun _ => False) b5) (fun i hi => hi.elim)
 exact k5.trans hF9 (fun i hi => Or.inl (hi.elim Or.inl (fun h => Or.inr (Or.inl h))))
end Go.Proofs.YtcbikgafdclhaaaGreat
/- head: Decode of both. -/
set_option linter.unusedSimpArgs false
set_option linter.unusedVariables false
namespace Go.Proofs.YtcbikgafdclhaaaGreat
open Go.RowKit

def headX (t p s : Int) : List Int := headL (t + p * 65536 + s * 4294967296).toNat (wordsN t p)
def decF (ws : List Int) : Option (Int × Int × Int) := if ws.length < 8 then none else match ofW (ws.getD 2 0) with
 | some (t, p, s) => if headX t p s = ws.take 8 then some (t, p, s) else none
 | none => none
theorem ofW_right {v t p s : Int} (h : ofW v = some (t, p, s)) : rightB t p s = true := by
 unfold ofW at h
 split at h
 ·simp only [Option.some.injEq, Prod.mk.injEq] at h
  obtain ⟨rfl, rfl, rfl⟩ := h
  assumption
 ·cases h
theorem dec_right {ws : List Int} {t p s : Int} (h : decF ws = some (t, p, s)) : rightB t p s = true ∧ headX t p s = ws.take 8 := by
 unfold decF at h
 split at h
 ·cases h
 ·split at h
  ·rename_i q hq
   split at h
   ·rename_i hh
    simp only [Option.some.injEq, Prod.mk.injEq] at h
    obtain ⟨rfl, rfl, rfl⟩ := h
    exact ⟨ofW_right hq, hh⟩
   ·cases h
  ·cases h
theorem encodeX {t p s : Int} (hr : rightB t p s = true) (w : World) : Calls Tryz.prog 79 #[.agg #[.int .i64 t, .int .i64 p, .int .i64 s]] w (WordsP w (headX t p s)) := by
 have bd := right_bd hr
 obtain ⟨T, rfl⟩ : ∃ T : Nat, t = T := ⟨t.toNat, by omega⟩
 obtain ⟨P, rfl⟩ : ∃ P : Nat, p = P := ⟨p.toNat, by omega⟩
 obtain ⟨S, rfl⟩ : ∃ S : Nat, s = S := ⟨s.toNat, by omega⟩
 have e : ((T : Int) + P * 65536 + S * 4294967296).toNat = T + P * 65536 + S * 4294967296 := by omega
 unfold headX
 rw [e]
 exact encode_right T P S _ _ w hr rfl rfl
theorem rencodeX {t p s : Int} (hr : rightB t p s = true) (w : World) : Calls Tryz.prog 39 #[.agg #[.int .i64 t, .int .i64 p, .int .i64 s]] w (WordsP w (headX t p s)) := by
 have bd := right_bd hr
 obtain ⟨T, rfl⟩ : ∃ T : Nat, t = T := ⟨t.toNat, by omega⟩
 obtain ⟨P, rfl⟩ : ∃ P : Nat, p = P := ⟨p.toNat, by omega⟩
 obtain ⟨S, rfl⟩ : ∃ S : Nat, s = S := ⟨s.toNat, by omega⟩
 have e : ((T : Int) + P * 65536 + S * 4294967296).toNat = T + P * 65536 + S * 4294967296 := by omega
 unfold headX
 rw [e]
 exact rencode_right T P S _ _ w hr rfl rfl
theorem headX_len (t p s : Int) : (headX t p s).length = 8 := rfl
section
variable {w : World} {ad : Addr} {n : Nat} {ws : List Int}
theorem decode_any (h : WZ w ad n ws) (c : Nat) (hc : n ≤ c) : Calls Tryz.prog 27 #[.slice (some ad) n c] w (DecQ w (decF ws)) := by
 unfold decF
 rw [h.len]
 by_cases h8 : n < 8
 ·rw [if_pos h8]
  exact decode_short _ n c w h8
 ·rw [if_neg h8]
  have hO := fun w => cof_any (ws.getD 2 0) w (getD_u64 h.u64 2)
  cases hof : ofW (ws.getD 2 0) with
  | none =>
   rw [hof] at hO
   have := decode_walk h c (by omega) hc 0 0 0 false [] (by simp) hO (fun w => encode_wrong 0 0 0 w rfl)
   simpa using this
  | some q =>
   obtain ⟨t, p, s⟩ := q
   rw [hof] at hO
   have := decode_walk h c (by omega) hc t p s true (headX t p s) (by rw [headX_len]; omega) hO (fun w => encodeX (ofW_right hof) w)
   simp only [true_and] at this
   by_cases he : headX t p s = ws.take 8
   ·rw [if_pos ((dl_same (headX_len t p s) (by rw [h.len]; omega)).2 he)] at this
    dsimp only
    rw [if_pos he]
    exact this
   ·rw [if_neg (fun hh => he ((dl_same (headX_len t p s) (by rw [h.len]; omega)).1 hh))] at this
    dsimp only
    rw [if_neg he]
    exact this
end
theorem row_take {w : World} {e g n c m : Nat} {xs : List Value} (h : w.ownsRow 0 e 1 (.slice (some ⟨g, 0, none⟩) n c) n xs) (hm : m ≤ n) : w.ownsRow 0 e 1 (.slice (some ⟨g, 0, none⟩) m c) m (xs.take m) := by
 have hx := h.1
 rcases h.2 with ⟨h0, -⟩ | ⟨g', cap, cur, h0, h1, hg, hnc, hcm, hcs, htake⟩
 ·cases h0
 ·simp only [Value.slice.injEq, Option.some.injEq, Addr.mk.injEq, and_true, true_and] at h0
  obtain ⟨rfl, rfl⟩ := h0
  refine ⟨by simp; omega, Or.inr ⟨g, c, cur, rfl, h1, hg, by omega, hcm, hcs, ?_⟩⟩
  rw [← htake, List.take_take]
  congr 1
  omega
theorem row_wz {w : World} {g n c : Nat} {ws : List Int} (h : w.ownsRow 0 61 1 (.slice (some ⟨g, 0, none⟩) n c) n (ulongs ws)) (hu : ∀ v ∈ ws, U64 v) : WZ w ⟨g, 0, none⟩ n ws ∧ n ≤ c := by
 have hl : ws.length = n := by have := h.1; simpa [ulongs] using this
 refine ⟨⟨hl, hu, fun k hk => ?_⟩, ?_⟩
 ·rw [show (⟨g, 0, none⟩ : Addr).add k = ⟨g, k, none⟩ by by_cases h0 : k = 0 <;> simp [Addr.add, h0]]
  exact (h.cellAt k (by omega)).trans (by simp [ulongs, hl, hk])
 ·rcases h.2 with ⟨h0, -⟩ | ⟨g', cap, cur, h0, h1, hg, hnc, -⟩
  ·cases h0
  ·simp only [Value.slice.injEq] at h0
   omega
theorem ulongs_take (l : List Int) (k : Nat) : (ulongs l).take k = ulongs (l.take k) := by simp [ulongs, List.map_take]

theorem rdecode_short (a : Option Addr) (n c : Nat) (w : World) (h : n < 8) : Calls Tryz.prog 25 #[.slice a n c] w (DecQ w none) := by
 have hn : (n : Int) < 8 := by omega
 go_enter Tryz.func25, Tryz.ntmps25
 go_wp2
 exact bodyPost_ret (v := .tuple #[.agg #[.int .i64 0, .int .i64 0, .int .i64 0], .int .i64 9]) (by simp [results, Tryz.results25, go_sem]) rfl ⟨rfl, by (repeat (first | exact Below.refl _ _ | assumption | refine Below.setCell ?_ (by first | omega | (simp; done) | (simp; omega)) _ | refine Below.alloc ?_ (by first | omega | (simp; done) | (simp; omega)) _ | refine Below.drew ?_ | refine Below.trans ?_ (Below.mono ‹Below _ _ _› (by first | omega | (simp; done) | (simp; omega)))))⟩
theorem slice8_64 (W : World) (ad : Addr) (n c : Nat) (h2 : 8 ≤ c) :
 (Instr.slice 22 (.slice (some ad) n c) none (some (.int .i64 8)) none).run Tryz.prog W = .ok (.slice (some ad) 8 c) W := by
 have ht : Tryz.prog.underlying 22 = some (.slice (Tryz.prog.elem 22)) := by simp [Program.elem, Tryz.underlying22]
 have he : Tryz.prog.elem 22 = 61 := by simp [Program.elem, Tryz.underlying22]
 rw [run_slice_h W _ _ _ _ ht .i64 _ (by omega) (by omega), he]
 have hs : (Go.sizeOf 61).run Tryz.prog W = .ok 1 W := by kernel_rfl
 rw [hs]
 have hc : ¬ c = 0 := by omega
 simp [Result.andThen, sliced, hc, Addr.add]
section
variable {w : World} {g n c : Nat} {ws : List Int}
set_option maxHeartbeats 1000000 in
theorem rdecode_any (R : w.ownsRow 0 61 1 (.slice (some ⟨g, 0, none⟩) n c) n (ulongs ws)) (hu : ∀ v ∈ ws, U64 v) : Calls Tryz.prog 25 #[.slice (some ⟨g, 0, none⟩) n c] w (DecQ w (decF ws)) := by
 obtain ⟨hz, hc⟩ := row_wz R hu
 have hlen := hz.len
 unfold decF
 rw [hlen]
 by_cases h8 : n < 8
 ·rw [if_pos h8]
  exact rdecode_short _ n c w h8
 ·rw [if_neg h8]
  have H2 := Lib.hid (show ∀ W, Below w.heap.size w W → W.cell? ⟨g, 2, none⟩ = some (.int .u64 (ws.getD 2 0)) from fun W hb => by
   have := (hz.keep hb).cells 2 (by omega)
   rwa [show (⟨g, 0, none⟩ : Addr).add 2 = ⟨g, 2, none⟩ by simp [Addr.add]] at this)
  have HT := Lib.hid (show ∀ W, Below w.heap.size w W → W.ownsRow 0 61 1 (.slice (some ⟨g, 0, none⟩) 8 c) (ws.take 8).length (ulongs (ws.take 8)) from fun W hb => by
   have h1 := row_take (((BS.start _).below hb).row R) (m := 8) (by omega)
   rw [ulongs_take] at h1
   rwa [show (ws.take 8).length = 8 by simp; omega])
  have hsl := fun W => slice8_64 W ⟨g, 0, none⟩ n c (by omega)
  have hO := fun w => rcof_any (ws.getD 2 0) w (getD_u64 hu 2)
  have hn8 : ¬ (n : Int) < 8 := by omega
  have hn2 : (2 : Int) < n := by omega
  have h8l : (ws.take 8).length = 8 := by simp; omega
  have c1 := loc_alloc w #[.int .i64 0, .int .i64 0, .int .i64 0] 44
  have S1 := BS.start (w.alloc (.cells #[.int .i64 0, .int .i64 0, .int .i64 0] 44))
  have HB1 := Lib.hid (show ∀ W, Below (w.alloc (.cells #[.int .i64 0, .int .i64 0, .int .i64 0] 44)).heap.size (w.alloc (.cells #[.int .i64 0, .int .i64 0, .int .i64 0] 44)) W → Below w.heap.size w W from fun W hb => ((Below.refl _ w).alloc (Nat.le_refl _) _).trans (hb.mono (by simp)))
  have e2 := H2.out _ (HB1.out _ S1.bel)
  generalize hx2 : ws.getD 2 0 = x2 at *
  clear hx2 hz hu R hlen
  cases hof : ofW x2 with
  | none =>
   rw [hof] at hO
   have HO := Lib.hid hO
   clear hO hof
   dsimp only
   go_enter Tryz.func25, Tryz.ntmps25
   go_wp2_with fail
   refine (HO.out _).mono ?_
   rintro e w2 ⟨rfl, b2⟩
   have S3 := (S1.below b2).alloc (.cells #[.int .i64 0, .int .i64 0, .int .i64 0] 44)
   clear S1 e2 b2
   go_wp2_with fail
   refine wp_region_noPanic ?_
   refine wp_region_held_drew (S := fun w' => True) (by kernel_rfl) ?_ (fun hHeld => ?_)
   ·exact trivial
   refine wT 0 ?_
   refine wT 1 ?_
   refine wT 2 ?_
   refine wU 3 ?_
   refine wU 4 ?_
   refine wU 5 ?_
   refine wU 6 ?_
   refine wU 7 ?_
   refine wU 8 ?_
   refine wT 9 ?_
   refine wpAnyH_done (by kernel_rfl) (NoPanic.normal ?_) _
   have k3 := S3.drew.oldbox c1 (by simp)
   have r0 := k3 0
   have r1 := k3 1
   have r2 := k3 2
   have f0 := S3.drew.bel.frozen (p := ⟨w.heap.size, 0, none⟩) (by simp)
   have f1 := S3.drew.bel.frozen (p := ⟨w.heap.size, 1, none⟩) (by simp)
   have f2 := S3.drew.bel.frozen (p := ⟨w.heap.size, 2, none⟩) (by simp)
   simp at r0 r1 r2 f0 f1 f2
   have gb := HB1.out _ S3.drew.bel
   have gz := S3.drew.bel.size
   simp at gz
   clear k3
   go_wp2
   exact bodyPost_ret (v := .tuple #[.agg #[.int .i64 0, .int .i64 0, .int .i64 0], .int .i64 9]) (by simp [results, Tryz.results25, go_sem, *]) rfl ⟨rfl, ((gb.setCell (p := ⟨w.heap.size, 0, none⟩) (by simp) _).setCell (p := ⟨w.heap.size, 1, none⟩) (by simp) _).setCell (p := ⟨w.heap.size, 2, none⟩) (by simp) _⟩
  | some q =>
   obtain ⟨t, p, s⟩ := q
   rw [hof] at hO
   have HO := Lib.hid hO
   have hr := ofW_right hof
   have HE := Lib.hid (fun w => rencodeX hr w)
   have hxl := headX_len t p s
   clear hO hof
   dsimp only
   generalize headX t p s = hd at *
   have HW := Lib.hid (fun va vb (W : World) (ha : W.ownsRow 0 61 1 va hd.length (ulongs hd)) (hb : W.ownsRow 0 61 1 vb (ws.take 8).length (ulongs (ws.take 8))) => hwords_any hd (ws.take 8) va vb W ha hb (by rw [hxl]; omega) (by rw [h8l]; omega))
   clear hxl h8l hr
   by_cases he : hd = ws.take 8
   ·rw [show decide (hd = ws.take 8) = true by simpa using he] at HW
    rw [if_pos he]
    clear he
    go_enter Tryz.func25, Tryz.ntmps25
    go_wp2_with fail
    refine (HO.out _).mono ?_
    rintro e w2 ⟨rfl, b2⟩
    have S3 := (S1.below b2).alloc (.cells #[.int .i64 t, .int .i64 p, .int .i64 s] 44)
    have d3 := loc_alloc w2 #[.int .i64 t, .int .i64 p, .int .i64 s] 44
    clear S1 e2 b2
    go_wp2_with fail
    refine wp_region_noPanic ?_
    refine wp_region_held_drew (S := fun w' => (∀ o : Nat, w'.cell? ⟨w2.heap.size, o, none⟩ = (#[.int .i64 t, .int .i64 p, .int .i64 s] : Array Value)[o]?)) (by kernel_rfl) ?_ (fun hHeld => ?_)
    ·exact d3
    refine wT 0 ?_
    refine wT 1 ?_
    refine wT 2 ?_
    refine wT 3 ?_
    refine wT 5 ?_
    refine wT 6 ?_
    refine wR 4 fun K hK => ?_
    go_simp
    refine (HE.out _).mono ?_
    rintro e w5 ⟨v5, rfl, o5, f5, b5⟩
    have S5 := S3.drew.below b5
    have d5 := ((BS.start _).below b5).oldbox hHeld (S3.drew.ls w2.heap.size (by simp)).1
    refine hK.out _ _ ?_ (fun hHeld => ?_)
    ·exact d5
    clear hK K
    try simp only [Act.put, zA, zB, zC, zD, zE, zF]
    refine wR 7 fun K hK => ?_
    go_simp
    refine (HW.out _ _ _ o5 (HT.out _ (HB1.out _ S5.bel))).mono ?_
    rintro e w6 ⟨rfl, b6⟩
    have S6 := S5.below b6
    have d6 := ((BS.start _).below b6).oldbox hHeld (S5.ls w2.heap.size (by simp)).1
    refine hK.out _ _ ?_ (fun hHeld => ?_)
    ·exact d6
    clear hK K
    try simp only [Act.put, zA, zB, zC, zD, zE, zF]
    refine wT 8 ?_
    refine wT 9 ?_
    refine wpAnyH_done (by kernel_rfl) (NoPanic.normal ?_) _
    have e4 := d6 0
    have e5 := d6 1
    have e6 := d6 2
    simp at e4 e5 e6
    have g6 := (S6.ls w2.heap.size (by simp)).1
    have k3 := S6.oldbox c1 (by simp)
    have r0 := k3 0
    have r1 := k3 1
    have r2 := k3 2
    have f0 := S6.bel.frozen (p := ⟨w.heap.size, 0, none⟩) (by simp)
    have f1 := S6.bel.frozen (p := ⟨w.heap.size, 1, none⟩) (by simp)
    have f2 := S6.bel.frozen (p := ⟨w.heap.size, 2, none⟩) (by simp)
    simp at r0 r1 r2 f0 f1 f2
    have gb := HB1.out _ S6.bel
    have gz := S6.bel.size
    simp at gz
    clear k3
    go_wp2
    exact bodyPost_ret (v := .tuple #[.agg #[.int .i64 t, .int .i64 p, .int .i64 s], .int .i64 0]) (by simp [results, Tryz.results25, go_sem, *]) rfl ⟨rfl, ((gb.setCell (p := ⟨w.heap.size, 0, none⟩) (by simp) _).setCell (p := ⟨w.heap.size, 1, none⟩) (by simp) _).setCell (p := ⟨w.heap.size, 2, none⟩) (by simp) _⟩
   ·rw [show decide (hd = ws.take 8) = false by simpa using he] at HW
    rw [if_neg he]
    clear he
    go_enter Tryz.func25, Tryz.ntmps25
    go_wp2_with fail
    refine (HO.out _).mono ?_
    rintro e w2 ⟨rfl, b2⟩
    have S3 := (S1.below b2).alloc (.cells #[.int .i64 t, .int .i64 p, .int .i64 s] 44)
    have d3 := loc_alloc w2 #[.int .i64 t, .int .i64 p, .int .i64 s] 44
    clear S1 e2 b2
    go_wp2_with fail
    refine wp_region_noPanic ?_
    refine wp_region_held_drew (S := fun w' => (∀ o : Nat, w'.cell? ⟨w2.heap.size, o, none⟩ = (#[.int .i64 t, .int .i64 p, .int .i64 s] : Array Value)[o]?)) (by kernel_rfl) ?_ (fun hHeld => ?_)
    ·exact d3
    refine wT 0 ?_
    refine wT 1 ?_
    refine wT 2 ?_
    refine wT 3 ?_
    refine wT 5 ?_
    refine wT 6 ?_
    refine wR 4 fun K hK => ?_
    go_simp
    refine (HE.out _).mono ?_
    rintro e w5 ⟨v5, rfl, o5, f5, b5⟩
    have S5 := S3.drew.below b5
    have d5 := ((BS.start _).below b5).oldbox hHeld (S3.drew.ls w2.heap.size (by simp)).1
    refine hK.out _ _ ?_ (fun hHeld => ?_)
    ·exact d5
    clear hK K
    try simp only [Act.put, zA, zB, zC, zD, zE, zF]
    refine wR 7 fun K hK => ?_
    go_simp
    refine (HW.out _ _ _ o5 (HT.out _ (HB1.out _ S5.bel))).mono ?_
    rintro e w6 ⟨rfl, b6⟩
    have S6 := S5.below b6
    have d6 := ((BS.start _).below b6).oldbox hHeld (S5.ls w2.heap.size (by simp)).1
    refine hK.out _ _ ?_ (fun hHeld => ?_)
    ·exact d6
    clear hK K
    try simp only [Act.put, zA, zB, zC, zD, zE, zF]
    refine wT 8 ?_
    refine wT 9 ?_
    refine wpAnyH_done (by kernel_rfl) (NoPanic.normal ?_) _
    have e4 := d6 0
    have e5 := d6 1
    have e6 := d6 2
    simp at e4 e5 e6
    have k3 := S6.oldbox c1 (by simp)
    have r0 := k3 0
    have r1 := k3 1
    have r2 := k3 2
    have f0 := S6.bel.frozen (p := ⟨w.heap.size, 0, none⟩) (by simp)
    have f1 := S6.bel.frozen (p := ⟨w.heap.size, 1, none⟩) (by simp)
    have f2 := S6.bel.frozen (p := ⟨w.heap.size, 2, none⟩) (by simp)
    simp at r0 r1 r2 f0 f1 f2
    have gb := HB1.out _ S6.bel
    have gz := S6.bel.size
    simp at gz
    clear k3
    go_wp2
    exact bodyPost_ret (v := .tuple #[.agg #[.int .i64 0, .int .i64 0, .int .i64 0], .int .i64 9]) (by simp [results, Tryz.results25, go_sem, *]) rfl ⟨rfl, ((gb.setCell (p := ⟨w.heap.size, 0, none⟩) (by simp) _).setCell (p := ⟨w.heap.size, 1, none⟩) (by simp) _).setCell (p := ⟨w.heap.size, 2, none⟩) (by simp) _⟩
end
end Go.Proofs.YtcbikgafdclhaaaGreat
/- redo: the document's right and Log. -/
set_option linter.unusedSimpArgs false
set_option linter.unusedVariables false
namespace Go.Proofs.YtcbikgafdclhaaaGreat
open Go.RowKit

section
variable {w : World} {t p s : Int} {ad : Addr} {n : Nat} {ws : List Int}
theorem rright27_any (hr : rightB t p s = true) (a : Option Addr) (n c : Nat) (w : World) :
 Calls Tryz.prog 162 #[.agg #[.int .i64 t, .int .i64 p, .int .i64 s], .slice a n c] w fun e w' => e = .returned (.bool (decide ((n : Int) = wordsN t p))) ∧ Below w.heap.size w w' := by
 have HW := Lib.hid (fun w => rwords_right t p s w hr)
 have hN := makers_bd hr
 have ht := right_bd hr
 have hpos : 0 < wordsN t p := by omega
 clear hN hr
 generalize wordsN t p = N at *
 have hb : ((n : Int) == N) = decide ((n : Int) = N) := rfl
 by_cases h0 : n = 0
 ·subst h0
  rw [show decide (((0 : Nat) : Int) = N) = false by simp; omega]
  clear hb
  go_enter Tryz.func162, Tryz.ntmps162
  go_wp2
  go_ret
  exact ⟨rfl, (Below.refl _ _).alloc (Nat.le_refl _) _⟩
 ·rw [← hb]
  have hn0 : (0 : Int) < n := by omega
  clear hb h0
  go_enter Tryz.func162, Tryz.ntmps162
  go_wp2_with fail
  refine (HW.out _).mono ?_
  rintro e w1 ⟨rfl, ha⟩
  obtain ⟨hac, haf⟩ := bcell ha
  have haz0 : w.heap.size < w1.heap.size := by have := ha.size; first | omega | (simp at this; omega)
  go_wp2
  go_ret
  refine ⟨rfl, ?_⟩
  (repeat (first | exact Below.refl _ _ | assumption | refine Below.setCell ?_ (by first | omega | (simp; done) | (simp; omega)) _ | refine Below.alloc ?_ (by first | omega | (simp; done) | (simp; omega)) _ | refine Below.drew ?_ | refine Below.trans ?_ (Below.mono ‹Below _ _ _› (by first | omega | (simp; done) | (simp; omega)))))
structure RlR (W1 : World) (N : Int) (xs : List Int) (res : Option (List (Int × Int))) (nb M : Nat) (st : Int) (op : Bool) (v11 v12 : Value) (wr : World) (k : Nat) (out : List (Int × Int)) : Prop where
 le : k ≤ M
 eq : v12 = .int .i64 k
 ol : out.length = k
 row : wr.ownsRow 0 147 2 v11 out.length (prCells out)
 bs : BS W1 (nb :: v11.ownBlock.toList) wr
 nt : ∀ o : Nat, wr.cell? ⟨nb, o, none⟩ = (#[.int .u32 st, .bool op, .int .i64 M] : Array Value)[o]?
 res : (entriesF N (xs.drop k)).map (out ++ ·) = res
 far : ∀ j, v11.ownBlock = some j → nb < j
def RlRel (W1 : World) (N : Int) (xs : List Int) (res : Option (List (Int × Int))) (nb M : Nat) (st : Int) (op : Bool) (v11 v12 : Value) (wr : World) : Prop := ∃ k out, RlR W1 N xs res nb M st op v11 v12 wr k out
set_option maxHeartbeats 2000000 in
set_option maxRecDepth 100000 in
theorem rlogs_any (h : WX w t p s ad n ws) (c : Nat) (u st m : Int) (op : Bool) (h1 : 0 ≤ u) (h2 : u ≤ t) (hn : noteW (ws.getD (noteAt t p u).toNat 0) = some (st, op, m)) :
 Calls Tryz.prog 164 #[.agg #[.int .i64 t, .int .i64 p, .int .i64 s], .slice (some ad) n c, .int .i64 u] w (LogQ w st m op (entriesF (cellsN t p) ((ws.drop (logAt t p u 0).toNat).take m.toNat))) := by
 have bd := h.bd
 have hr := h.right
 obtain ⟨-, m0, m1, -, -⟩ := note_bd (getD_u64 h.u64 _) hn
 obtain ⟨M, rfl⟩ : ∃ M : Nat, m = M := ⟨m.toNat, by omega⟩
 obtain ⟨F, hF⟩ : ∃ F : Nat, logAt t p u 0 = F := ⟨(logAt t p u 0).toNat, by unfold logAt; omega⟩
 obtain ⟨K, hK⟩ : ∃ K : Nat, noteAt t p u = K := ⟨(noteAt t p u).toNat, by unfold noteAt; omega⟩
 have hFn : F + M ≤ n := by unfold logAt at hF; omega
 have hKn : K < n := by unfold noteAt at hK; omega
 have hlen := h.len
 have hxl : ((ws.drop F).take M).length = M := by simp; omega
 have hxg : ∀ k, k < M → ((ws.drop F).take M).getD k 0 = ws.getD (F + k) 0 := fun k hk => by
  simp [List.getD_eq_getElem?_getD, List.getElem?_take, hk, List.getElem?_drop]
 have HR := Lib.hid (fun w => rright27_any hr (some ad) n c w)
 rw [show decide ((n : Int) = wordsN t p) = true by simpa using h.num] at HR
 have HN := Lib.hid (fun w => rnoteat_any hr u w h1 h2)
 have HLg := Lib.hid (fun (k j : Nat) (hj : F + k = j) (hk : k < M) w => by
  have := rlogat_any hr u k w h1 h2 (by omega) (by omega)
  rw [show logAt t p u k = (j : Int) by unfold logAt at hF ⊢; omega] at this
  exact this)
 rw [hK] at HN hn
 rw [Int.toNat_natCast] at hn
 have HO := Lib.hid (fun w => ronote_yes _ st (M : Int) op w (getD_u64 h.u64 K) hn)
 have HK := Lib.hid (show ∀ W, Below w.heap.size w W → W.cell? (ad.add K) = some (.int .u64 (ws.getD K 0)) from fun W hb => h.at hb hKn)
 have HJ := Lib.hid (show ∀ k j, F + k = j → k < M → ∀ W, Below w.heap.size w W → W.cell? (ad.add j) = some (.int .u64 (((ws.drop F).take M).getD k 0)) from fun k j hj hk W hb => by
  rw [hxg k hk, hj]; exact h.at hb (by omega))
 rw [hF, Int.toNat_natCast, Int.toNat_natCast]
 have HC := Lib.hid (fun w => rcells_any t p s w)
 rw [show cellsF t p s = cellsN t p by simp [cellsF, hr]] at HC
 have hu : ∀ v ∈ (ws.drop F).take M, U64 v := fun v hv => h.u64 v (List.mem_of_mem_drop (List.mem_of_mem_take hv))
 generalize cellsN t p = N at *
 generalize (ws.drop F).take M = xs at *
 have HL := Lib.hid hxl
 have HU := Lib.hid (getD_u64 hu)
 obtain ⟨res, hres⟩ : ∃ res, entriesF N xs = res := ⟨_, rfl⟩
 rw [hres]
 have HR0 := Lib.hid hres
 generalize ws.getD K 0 = x0 at *
 obtain ⟨i0, hi0, hi1, hi2, hi3⟩ := info_parts infoPr
 have HI := Lib.hid (And.intro hi0 (And.intro hi1 (And.intro hi2 hi3)))
 have c1 := loc_old (.cells #[.int .u32 0, .bool false, .int .i64 0] 142) (by simp) (loc_alloc w #[.int .i64 t, .int .i64 p, .int .i64 s] 44)
 have d1 := loc_alloc (w.alloc (.cells #[.int .i64 t, .int .i64 p, .int .i64 s] 44)) #[.int .u32 0, .bool false, .int .i64 0] 142
 simp only [World.size_alloc] at d1
 have S1 := BS.start ((w.alloc (.cells #[.int .i64 t, .int .i64 p, .int .i64 s] 44)).alloc (.cells #[.int .u32 0, .bool false, .int .i64 0] 142))
 have HB1 := Lib.hid (show ∀ W, Below ((w.alloc (.cells #[.int .i64 t, .int .i64 p, .int .i64 s] 44)).alloc (.cells #[.int .u32 0, .bool false, .int .i64 0] 142)).heap.size ((w.alloc (.cells #[.int .i64 t, .int .i64 p, .int .i64 s] 44)).alloc (.cells #[.int .u32 0, .bool false, .int .i64 0] 142)) W → Below w.heap.size w W from fun W hb => (((Below.refl _ w).alloc (Nat.le_refl _) _).alloc (by simp) _).trans (hb.mono (by simp; omega)))
 have hKi : (K : Int) < n := by omega
 have hut : ¬ t < u := by omega
 clear hn h hr hF hK hlen hxl hxg hKn hres hu hi0 hi1 hi2 hi3
 go_enter Tryz.func164, Tryz.ntmps164
 go_wp2_with fail
 refine (calls_b S1 (HR.out _)).mono ?_
 rintro e w1 ⟨rfl, S2, -⟩
 have c2 := S2.oldbox c1 (by simp; omega)
 go_wp2_with fail
 refine (calls_b S2 (HN.out _)).mono ?_
 rintro e w3 ⟨rfl, S4, -⟩
 have k4 := HK.out _ (HB1.out _ S4.bel)
 clear S1 c2
 go_wp2_with fail
 refine (calls_b S4 (HO.out _)).mono ?_
 rintro e w4 ⟨rfl, S5, -⟩
 have e5 := loc_old (.cells #[] 147) (by simp) (loc_alloc w4 #[.int .u32 st, .bool op, .int .i64 M] 142)
 have S6 := (S5.alloc (.cells #[.int .u32 st, .bool op, .int .i64 M] 142)).alloc (.cells #[] 147)
 have r6 := row_empty (w4.alloc (.cells #[.int .u32 st, .bool op, .int .i64 M] 142)) 147 2
 simp only [World.size_alloc] at r6 S6
 have hA : RlRel ((w.alloc (.cells #[.int .i64 t, .int .i64 p, .int .i64 s] 44)).alloc (.cells #[.int .u32 0, .bool false, .int .i64 0] 142)) N xs res w4.heap.size M st op (.slice (some ⟨w4.heap.size + 1, 0, none⟩) 0 0) (.int .i64 0) ((w4.alloc (.cells #[.int .u32 st, .bool op, .int .i64 M] 142)).alloc (.cells #[] 147)) :=
  ⟨0, [], by omega, rfl, rfl, r6, S6.sub _ (by simp [Value.ownBlock]), e5, by rw [← HR0.out]; simp, by simp [Value.ownBlock]⟩
 clear S2 S4 S5 k4 e5 S6 r6 HO HN HR HK HR0
 go_wp2
 go_loopw [11, 12, 13, 14] (fun v11 v12 _ _ wr => RlRel ((w.alloc (.cells #[.int .i64 t, .int .i64 p, .int .i64 s] 44)).alloc (.cells #[.int .u32 0, .bool false, .int .i64 0] 142)) N xs res w4.heap.size M st op v11 v12 wr) (fun _ v12 _ _ _ => M - (intOf v12).toNat)
 case atStart => exact hA
 case round =>
  clear hA
  obtain ⟨k, out, hk, rfl, hol, hrow, hbs, hnt, hrs, hfar⟩ := hrel
  obtain ⟨pa, pc, rfl⟩ := row_shape2 hrow
  have HB := Lib.hid hbs
  have HS := Lib.hid hrs
  have HF := Lib.hid hfar
  have HRow := Lib.hid hrow
  have HOL := Lib.hid hol
  have HNt := Lib.hid hnt
  have n2 := hnt 2
  simp at n2
  have cc := hbs.oldbox c1 (by simp; omega)
  clear hbs hrs hrow hol hnt hfar
  by_cases hlt : k < M
  ·have hkM : (k : Int) < M := by omega
   obtain ⟨j, hj⟩ : ∃ j, F + k = j := ⟨_, rfl⟩
   have hjn : (j : Int) < n := by omega
   have hxu := HU.out k
   have HD := Lib.hid (drop_at (l := xs) (k := k) (by rw [HL.out]; exact hlt))
   have HJk := Lib.hid (HJ.out k j hj hlt)
   generalize xs.getD k 0 = x at *
   cases hx : entryW x with
   | none =>
    have HE := Lib.hid (fun w => rentry_no x w hxu hx)
    have hnone : res = none := by rw [← HS.out, HD.out]; simp [entriesF, hx]
    subst hnone
    clear hx hxu
    go_wp2_with fail
    refine (calls_b HB.out (HLg.out k j hj hlt _)).mono ?_
    rintro e w5 ⟨rfl, S5, -⟩
    have cj := HJk.out _ (HB1.out _ S5.bel)
    go_wp2_with fail
    refine (calls_b S5 (HE.out _)).mono ?_
    rintro e w6 ⟨rfl, S6, -⟩
    have S7 := S6.alloc (.cells #[.int .i64 0, .int .u32 0] 147)
    have d7 := loc_alloc w6 #[.int .i64 0, .int .u32 0] 147
    clear cj S5
    go_wp2_with fail
    refine wp_region_noPanic ?_
    refine wp_region_held_drew (S := fun w' => (∀ o : Nat, w'.cell? ⟨w6.heap.size, o, none⟩ = (#[.int .i64 0, .int .u32 0] : Array Value)[o]?) ∧ (∀ o : Nat, w'.cell? ⟨w.heap.size, o, none⟩ = (#[.int .i64 t, .int .i64 p, .int .i64 s] : Array Value)[o]?)) (by kernel_rfl) ?_ (fun hHeld => ?_)
    ·exact ⟨d7, S7.oldbox c1 (by simp; omega)⟩
    refine wT 0 ?_
    refine wT 1 ?_
    refine wT 2 ?_
    refine wU 3 ?_
    refine wU 4 ?_
    refine wU 5 ?_
    refine wU 6 ?_
    refine wU 7 ?_
    refine wT 8 ?_
    refine wpAnyH_done (by kernel_rfl) (NoPanic.normal ?_) _
    have k3 := S7.drew.oldbox d1 (by simp)
    have r0 := k3 0
    have r1 := k3 1
    have r2 := k3 2
    have f0 := S7.drew.bel.frozen (p := ⟨w.heap.size + 1, 0, none⟩) (by simp)
    have f1 := S7.drew.bel.frozen (p := ⟨w.heap.size + 1, 1, none⟩) (by simp)
    have f2 := S7.drew.bel.frozen (p := ⟨w.heap.size + 1, 2, none⟩) (by simp)
    simp at r0 r1 r2 f0 f1 f2
    have gb := HB1.out _ S7.drew.bel
    have gz := S7.drew.bel.size
    simp at gz
    clear k3
    go_wp2
    exact bodyPost_ret (v := .tuple #[.agg #[.int .u32 0, .bool false, .int .i64 0], .slice none 0 0, .bool false]) (by simp [results, Tryz.results164, go_sem, *]) rfl ⟨rfl, ((gb.setCell (p := ⟨w.heap.size + 1, 0, none⟩) (by simp) _).setCell (p := ⟨w.heap.size + 1, 1, none⟩) (by simp) _).setCell (p := ⟨w.heap.size + 1, 2, none⟩) (by simp) _⟩
   | some q =>
    obtain ⟨qc, qv⟩ := q
    have HE := Lib.hid (fun w => rentry_yes x qc qv w hxu hx)
    have hEn : entriesF N (xs.drop k) = if qc < N then (entriesF N (xs.drop (k + 1))).map ((qc, qv) :: ·) else none := by rw [HD.out]; simp [entriesF, hx]
    have HEn := Lib.hid hEn
    clear hx hxu hEn
    go_wp2_with fail
    refine (calls_b HB.out (HLg.out k j hj hlt _)).mono ?_
    rintro e w5 ⟨rfl, S5, S5l⟩
    have cj := HJk.out _ (HB1.out _ S5.bel)
    have n5 := loc_step S5l (by simp) HNt.out
    have R5 := row_step S5l (fun k hk => by simp [hk]) HRow.out
    clear n2 S5l
    go_wp2_with fail
    refine (calls_b S5 (HE.out _)).mono ?_
    rintro e w6 ⟨rfl, S6, S6l⟩
    have S7 := S6.alloc (.cells #[.int .i64 qc, .int .u32 qv] 147)
    have d7 := loc_alloc w6 #[.int .i64 qc, .int .u32 qv] 147
    have n7 := loc_old (.cells #[.int .i64 qc, .int .u32 qv] 147) (S6.ls w4.heap.size (by simp)).1 (loc_step S6l (by simp) n5)
    have R7 := ownsRow_block (w' := (w6.alloc (.cells #[.int .i64 qc, .int .u32 qv] 147)).drew) ((row_step S6l (fun k hk => by simp [hk]) R5).alloc (.cells #[.int .i64 qc, .int .u32 qv] 147)) (fun _ _ => rfl)
    clear cj n5 R5 S6l S5
    by_cases hcN : qc < N
    ·have hS2 : (entriesF N (xs.drop (k + 1))).map ((out ++ [(qc, qv)]) ++ ·) = res := by
      rw [← HS.out, HEn.out, if_pos hcN, Option.map_map]
      congr 1
      funext z
      simp
     have HS2 := Lib.hid hS2
     clear hS2 HS HEn
     go_wp2_with fail
     refine wp_region_noPanic ?_
     refine wp_region_held_drew (S := fun w' => (∀ o : Nat, w'.cell? ⟨w6.heap.size, o, none⟩ = (#[.int .i64 qc, .int .u32 qv] : Array Value)[o]?) ∧ (∀ o : Nat, w'.cell? ⟨w.heap.size, o, none⟩ = (#[.int .i64 t, .int .i64 p, .int .i64 s] : Array Value)[o]?) ∧ (∀ o : Nat, w'.cell? ⟨w4.heap.size, o, none⟩ = (#[.int .u32 st, .bool op, .int .i64 M] : Array Value)[o]?)) (by kernel_rfl) ?_ (fun hHeld => ?_)
     ·exact ⟨d7, S7.oldbox c1 (by simp; omega), n7⟩
     refine wT 0 ?_
     refine wT 1 ?_
     refine wT 2 ?_
     refine wT 3 ?_
     refine wT 4 ?_
     refine wT 5 ?_
     refine wR 6 fun K hK => ?_
     go_simp
     refine (calls_b S7.drew (HC.out _)).mono ?_
     rintro e w8 ⟨rfl, S8, S8l⟩
     have d8 := loc_step S8l (by simp) hHeld.1
     have n8 := loc_step S8l (by simp) hHeld.2.2
     have R8 := row_step S8l (fun k hk => by simp [hk]) R7
     have k8 := And.intro d8 (And.intro (S8.oldbox c1 (by simp; omega)) n8)
     refine hK.out _ _ ?_ (fun hHeld => ?_)
     ·exact k8
     clear hK K
     try simp only [Act.put, zA, zB, zC, zD, zE, zF]
     refine wT 7 ?_
     refine wT 8 ?_
     refine wpAnyH_done (by kernel_rfl) (NoPanic.normal ?_) _
     have d80 := d8 0
     have d81 := d8 1
     simp at d80 d81
     have HR8 := Lib.hid R8
     have HS8 := Lib.hid S8
     have HN8 := Lib.hid n8
     have hz1 := (S8.ls w6.heap.size (by simp)).1
     clear R8 S8 n8 d8 R7 S7 d7 n7 hHeld HRow HB HNt k8 S8l S6
     go_wp2_with (at_builtin; go_must (refine wpL_append rfl _ _ rfl 147 i0 (.agg #[.int .i64 0, .int .u32 0]) 2 16 Tryz.underlying143 HI.out.1 HI.out.2.1 HI.out.2.2.1 HI.out.2.2.2 rfl (by decide) (.slice pa out.length pc) out.length (prCells out) rfl (HR8.out.alloc _) ⟨w8.heap.size, 0, none⟩ 1 1 [.int .i64 qc, .int .u32 qv] rfl rfl (cell_two_at _ _ _ _ _ rfl) ?c1 ?c2 ?c3 ?_); go_must (case c1 => (simp [Value.oneCell'])); go_must (case c2 => (have := HOL.out; unfold maxLen; omega)); go_must (case c3 => (have := HOL.out; omega)); go_must (intro v' w9 hown5 hg5 hnew5 hnil5); clear hnil5)
     have hown6 : w9.ownsRow 0 147 2 v' (out ++ [(qc, qv)]).length (prCells (out ++ [(qc, qv)])) := by rw [prCells_snoc, List.length_append]; exact hown5
     obtain ⟨g', cap', rfl⟩ := Joins.ownsRow_form hown6 (by simp)
     have S9 := (HS8.out.sub (w4.heap.size :: (Value.slice pa out.length pc).ownBlock.toList) (fun L hL => List.mem_cons_of_mem _ hL)).append hg5 hnew5 hown6
     have n9 := loc_grown hg5 (by have := (HS8.out.ls w4.heap.size (by simp)).1; simp; omega) (fun e => by have := HF.out _ e; omega) (loc_old (.cells #[.int .i64 qc, .int .u32 qv] 147) (HS8.out.ls w4.heap.size (by simp)).1 HN8.out)
     have hfar9 : ∀ j, (Value.slice (some ⟨g', 0, none⟩) (out ++ [(qc, qv)]).length cap').ownBlock = some j → w4.heap.size < j := fun j hj => by
      rcases hnew5 j (by simpa [Value.ownBlock] using hj) with h | h
      ·exact HF.out j h
      ·have := (HS8.out.ls w4.heap.size (by simp)).1
       simp at h; omega
     go_wp2
     go_roundw
     case rel => exact ⟨k + 1, out ++ [(qc, qv)], by omega, by go_num, by simp [HOL.out], hown6, S9, n9, HS2.out, hfar9⟩
     case measure => simp [intOf]; omega
    ·have hnone : res = none := by rw [← HS.out, HEn.out, if_neg hcN]; rfl
     subst hnone
     go_wp2_with fail
     refine wp_region_noPanic ?_
     refine wp_region_held_drew (S := fun w' => (∀ o : Nat, w'.cell? ⟨w6.heap.size, o, none⟩ = (#[.int .i64 qc, .int .u32 qv] : Array Value)[o]?) ∧ (∀ o : Nat, w'.cell? ⟨w.heap.size, o, none⟩ = (#[.int .i64 t, .int .i64 p, .int .i64 s] : Array Value)[o]?)) (by kernel_rfl) ?_ (fun hHeld => ?_)
     ·exact ⟨d7, S7.oldbox c1 (by simp; omega)⟩
     refine wT 0 ?_
     refine wT 1 ?_
     refine wT 2 ?_
     refine wT 3 ?_
     refine wT 4 ?_
     refine wT 5 ?_
     refine wR 6 fun K hK => ?_
     go_simp
     refine (calls_b S7.drew (HC.out _)).mono ?_
     rintro e w8 ⟨rfl, S8, S8l⟩
     have d8 := loc_step S8l (by simp) hHeld.1
     have k8 := And.intro d8 (S8.oldbox c1 (by simp; omega))
     refine hK.out _ _ ?_ (fun hHeld => ?_)
     ·exact k8
     clear hK K
     try simp only [Act.put, zA, zB, zC, zD, zE, zF]
     refine wT 7 ?_
     refine wT 8 ?_
     refine wpAnyH_done (by kernel_rfl) (NoPanic.normal ?_) _
     have k3 := S8.oldbox d1 (by simp)
     have r0 := k3 0
     have r1 := k3 1
     have r2 := k3 2
     have f0 := S8.bel.frozen (p := ⟨w.heap.size + 1, 0, none⟩) (by simp)
     have f1 := S8.bel.frozen (p := ⟨w.heap.size + 1, 1, none⟩) (by simp)
     have f2 := S8.bel.frozen (p := ⟨w.heap.size + 1, 2, none⟩) (by simp)
     simp at r0 r1 r2 f0 f1 f2
     have gb := HB1.out _ S8.bel
     have gz := S8.bel.size
     simp at gz
     clear k3 d8 k8 S8l n7 R7 d7
     go_wp2
     exact bodyPost_ret (v := .tuple #[.agg #[.int .u32 0, .bool false, .int .i64 0], .slice none 0 0, .bool false]) (by simp [results, Tryz.results164, go_sem, *]) rfl ⟨rfl, ((gb.setCell (p := ⟨w.heap.size + 1, 0, none⟩) (by simp) _).setCell (p := ⟨w.heap.size + 1, 1, none⟩) (by simp) _).setCell (p := ⟨w.heap.size + 1, 2, none⟩) (by simp) _⟩
  ·have hkm : k = M := by omega
   subst hkm
   have hres : res = some out := by
    rw [← HS.out, List.drop_of_length_le (by rw [HL.out]; omega)]
    simp [entriesF]
   subst hres
   have n0 := HNt.out 0
   have n1 := HNt.out 1
   simp at n0 n1
   have k3 := HB.out.oldbox d1 (by simp)
   have r0 := k3 0
   have r1 := k3 1
   have r2 := k3 2
   have f0 := HB.out.bel.frozen (p := ⟨w.heap.size + 1, 0, none⟩) (by simp)
   have f1 := HB.out.bel.frozen (p := ⟨w.heap.size + 1, 1, none⟩) (by simp)
   have f2 := HB.out.bel.frozen (p := ⟨w.heap.size + 1, 2, none⟩) (by simp)
   simp at r0 r1 r2 f0 f1 f2
   have gb := HB1.out _ HB.out.bel
   have gz := HB.out.bel.size
   simp at gz
   clear k3
   go_wp2
   have hne : (Value.slice pa out.length pc).ownBlock ≠ some (w.heap.size + 1) := fun hk => by
    have h9 := (HB.out.ls (w.heap.size + 1) (by simp [hk])).2
    simp at h9; omega
   refine bodyPost_ret (v := .tuple #[.agg #[.int .u32 st, .bool op, .int .i64 k], .slice pa out.length pc, .bool true]) (by simp [results, Tryz.results164, go_sem, *]) rfl ⟨_, rfl, row_set (row_set (row_set HRow.out hne) hne) hne, fun j hj => ?_, ((gb.setCell (p := ⟨w.heap.size + 1, 0, none⟩) (by simp) _).setCell (p := ⟨w.heap.size + 1, 1, none⟩) (by simp) _).setCell (p := ⟨w.heap.size + 1, 2, none⟩) (by simp) _⟩
   have h9 := (HB.out.ls j (by simp [hj])).2
   simp at h9; omega
end
end Go.Proofs.YtcbikgafdclhaaaGreat
/- redo: the document's Last. -/
set_option linter.unusedSimpArgs false
set_option linter.unusedVariables false
namespace Go.Proofs.YtcbikgafdclhaaaGreat
open Go.RowKit

def LastQ (w : World) (r : Option (Int × Int × Option (List (Int × Int)))) (e : Ending) (w' : World) : Prop := match r with
 | none => ∃ a b, e = .returned (.tuple #[.int .u32 a, .int .i64 b, .slice none 0 0, .bool false]) ∧ Below w.heap.size w w'
 | some (s, u, l) => ∃ v, e = .returned (.tuple #[.int .u32 s, .int .i64 u, v, .bool true]) ∧ w'.ownsRow 0 147 2 v (l.getD []).length (prCells (l.getD [])) ∧ (∀ k, v.ownBlock = some k → w.heap.size ≤ k) ∧ Below w.heap.size w w'
section
variable {w : World} {t p s : Int} {ad : Addr} {n : Nat} {ws : List Int}
set_option maxHeartbeats 2000000 in
set_option maxRecDepth 100000 in
theorem rlast_any (h : WX w t p s ad n ws) (c : Nat) :
 Calls Tryz.prog 113 #[.agg #[.int .i64 t, .int .i64 p, .int .i64 s], .slice (some ad) n c] w (LastQ w (lastF t p ws)) := by
 have bd := h.bd
 have hr := h.right
 have HR := Lib.hid (fun w => rright27_any hr (some ad) n c w)
 rw [show decide ((n : Int) = wordsN t p) = true by simpa using h.num] at HR
 have hcell : ∀ k, k < n → ∀ W, Below w.heap.size w W → W.cell? (ad.add k) = some (.int .u64 (ws.getD k 0)) := fun k hk W hb => h.at hb hk
 have HW := Lib.hid hcell
 have H8 := Lib.hid (show ∀ W, Below w.heap.size w W → W.cell? ⟨ad.block, ad.off + 8, none⟩ = some (.int .u64 (ws.getD 8 0)) from fun W hb => by
  have := hcell 8 (by omega) W hb
  rwa [show ad.add 8 = ⟨ad.block, ad.off + 8, none⟩ by simp [Addr.add]] at this)
 have HH := Lib.hid h
 have hu := getD_u64 h.u64
 have HUx := Lib.hid hu
 have hn8 : (8 : Int) < n := by omega
 have c0 := loc_alloc w #[.int .i64 t, .int .i64 p, .int .i64 s] 44
 have S0 := ((BS.start w).alloc (.cells #[.int .i64 t, .int .i64 p, .int .i64 s] 44))
 obtain ⟨res, hres⟩ : ∃ res, lastF t p ws = res := ⟨_, rfl⟩
 rw [hres]
 unfold lastF at hres
 cases ht : tipW (ws.getD 8 0) with
 | none =>
  have HT := Lib.hid (fun w => rotip_no _ w (hu 8) ht)
  rw [ht] at hres
  subst hres
  clear hcell h hu ht
  generalize ws.getD 8 0 = x at *
  go_enter Tryz.func113, Tryz.ntmps113
  go_wp2_with fail
  refine (calls_b S0 (HR.out _)).mono ?_
  rintro e w1 ⟨rfl, S1, S1l⟩
  have c1 := loc_step S1l (by simp) c0
  clear S1l
  have e8 := H8.out _ S1.bel
  go_wp2_with fail
  refine (calls_b S1 (HT.out _)).mono ?_
  rintro e w2 ⟨rfl, S2, S2l⟩
  have c2 := loc_step S2l (by simp) c1
  clear S2l
  go_wp2
  refine bodyPost_ret (v := .tuple #[.int .u32 0, .int .i64 0, .slice none 0 0, .bool false]) (by simp [results, Tryz.results113, go_sem]) rfl ⟨0, 0, rfl, S2.bel⟩
 | some q =>
  obtain ⟨st, u⟩ := q
  have hub : 0 ≤ u ∧ u ≤ 16 := by
   unfold tipW at ht
   split at ht
   ·simp only [Option.some.injEq, Prod.mk.injEq] at ht
    obtain ⟨-, rfl⟩ := ht
    have := lo_bd (ws.getD 8 0)
    exact ⟨this.1, by assumption⟩
   ·cases ht
  have HT := Lib.hid (fun w => rotip_yes _ st u w (hu 8) ht)
  rw [ht] at hres
  dsimp only at hres
  generalize ws.getD 8 0 = x at *
  by_cases hut : u ≤ t
  ·rw [if_pos hut] at hres
   have HC := Lib.hid (fun w => rcells_any t p s w)
   obtain ⟨N, hN⟩ : ∃ N : Nat, cellsN t p = N := ⟨(cellsN t p).toNat, by omega⟩
   rw [show cellsF t p s = cellsN t p by simp [cellsF, hr], hN] at HC
   have HSt := Lib.hid (fun k w => rhiw_any (ws.getD k 0) w (hu k))
   have hNn : 16 + N ≤ n := by omega
   rw [hN, Int.toNat_natCast] at hres
   have HNote := Lib.hid (fun w => rnoteat_any hr u w hub.1 hut)
   obtain ⟨K, hK⟩ : ∃ K : Nat, noteAt t p u = K := ⟨(noteAt t p u).toNat, by unfold noteAt; omega⟩
   have hKn : K < n := by unfold noteAt at hK; omega
   have HKx := Lib.hid (hu K)
   rw [hK] at HNote hres
   rw [Int.toNat_natCast] at hres
   have HRes2 := Lib.hid hres
   have hKi : (K : Int) < n := by omega
   have HKN := Lib.hid hK
   have hut2 : ¬ t < u := by omega
   clear hres hcell h hu ht hN hK
   go_enter Tryz.func113, Tryz.ntmps113
   go_wp2_with fail
   refine (calls_b S0 (HR.out _)).mono ?_
   rintro e w1 ⟨rfl, S1, S1l⟩
   have c1 := loc_step S1l (by simp) c0
   clear S1l
   have e8 := H8.out _ S1.bel
   go_wp2_with fail
   refine (calls_b S1 (HT.out _)).mono ?_
   rintro e w2 ⟨rfl, S2, S2l⟩
   have c2 := loc_step S2l (by simp) c1
   clear S2l
   have hA : SlwRel w t p s ws st N (.int .i64 0) w2 := ⟨0, by omega, rfl, by intro j hj; omega, c2, S2⟩
   clear S0 S1 S2 c0 c1 e8
   go_wp2
   go_loopw [11] (fun v wr => SlwRel w t p s ws st N v wr) (fun v _ => N - (intOf v).toNat)
   case atStart => exact hA
   case round =>
    clear hA c2
    obtain ⟨k, hk, rfl, hall, cb, Sb⟩ := hrel
    have HAl := Lib.hid hall
    clear hall
    go_wp2_with fail
    refine (calls_b Sb (HC.out _)).mono ?_
    rintro e w5 ⟨rfl, S5, S5l⟩
    have c5 := loc_step S5l (by simp) cb
    clear S5l
    by_cases hlt : k < N
    ·have hki : (k : Int) < N := by omega
     obtain ⟨j, hj⟩ : ∃ j : Nat, 16 + k = j := ⟨_, rfl⟩
     have hjn : (j : Int) < n := by omega
     have hwj : IntKind.i64.wrap (16 + (k : Int)) = (j : Int) := by rw [show (16 : Int) + k = (j : Int) by omega]; exact wrap_in _ (by omega)
     have hwj2 : (16 + (k : Int)) = (j : Int) := by omega
     have ej := HW.out j (by omega) _ S5.bel
     have hjx : hiW (ws.getD (16 + k) 0) = hiW (ws.getD j 0) := by rw [hj]
     have HJK := Lib.hid hj
     have HJX := Lib.hid hjx
     clear hj hjx
     go_wp2_with fail
     refine (calls_b S5 (HSt.out j _)).mono ?_
     rintro e w6 ⟨rfl, S6, S6l⟩
     have c6 := loc_step S6l (by simp) c5
     clear S6l hwj hwj2
     by_cases hs : hiW (ws.getD j 0) ≤ st
     ·have HHs := Lib.hid hs
      generalize hiW (ws.getD j 0) = y at *
      go_wp2
      go_roundw
      case rel =>
       refine ⟨k + 1, by omega, by go_num, fun i hi => ?_, c6, S6⟩
       by_cases e : i = k
       ·subst e; rw [HJX.out]; exact HHs.out
       ·exact HAl.out i (by omega)
      case measure => simp [intOf]; omega
     ·have hno : stampsB ws st N = false := by
       cases e : stampsB ws st N
       ·rfl
       ·exact absurd (stamps_iff.1 e k hlt) (by rw [HJX.out]; exact hs)
      have hres := HRes2.out
      rw [hno] at hres
      simp at hres
      subst hres
      clear hno
      generalize hiW (ws.getD j 0) = y at *
      go_wp2
      refine bodyPost_ret (v := .tuple #[.int .u32 0, .int .i64 0, .slice none 0 0, .bool false]) (by simp [results, Tryz.results113, go_sem]) rfl ⟨0, 0, rfl, S6.bel⟩
    ·have hkN : k = N := by omega
     subst hkN
     have hres := HRes2.out
     rw [stamps_iff.2 HAl.out, if_pos rfl] at hres
     clear HAl HRes2
     cases ho : openW (ws.getD K 0) st with
     | none =>
      rw [ho] at hres
      dsimp only at hres
      subst hres
      have HO := Lib.hid (fun w => ropen_no _ st w HKx.out ho)
      clear ho
      go_wp2_with fail
      refine (calls_b S5 (HNote.out _)).mono ?_
      rintro e w6 ⟨rfl, S6, S6l⟩
      have c6 := loc_step S6l (by simp) c5
      clear S6l
      have ej := HW.out K hKn _ S6.bel
      go_wp2_with fail
      refine (calls_b S6 (HO.out _)).mono ?_
      rintro e w7 ⟨rfl, S7, S7l⟩
      have c7 := loc_step S7l (by simp) c6
      clear S7l
      go_wp2
      refine bodyPost_ret (v := .tuple #[.int .u32 st, .int .i64 u, .slice none 0 0, .bool true]) (by simp [results, Tryz.results113, go_sem]) rfl ⟨_, rfl, World.ownsRow_nil _ _ _ _, by simp [Value.ownBlock], S7.bel⟩
     | some m =>
      have HO := Lib.hid (fun w => ropen_yes _ st m w HKx.out ho)
      have hno := open_note ho
      rw [ho] at hres
      dsimp only at hres
      unfold mlogF at hres
      rw [HKN.out, Int.toNat_natCast, hno] at hres
      dsimp only at hres
      rw [Option.map_map] at hres
      obtain ⟨er, her⟩ : ∃ er, entriesF (cellsN t p) ((ws.drop (logAt t p u 0).toNat).take m.toNat) = er := ⟨_, rfl⟩
      have HLog := Lib.hid (fun W (hb : Below w.heap.size w W) => (by
       have := rlogs_any (HH.out.keep hb) c u st m true hub.1 hut (by rw [HKN.out, Int.toNat_natCast]; exact hno)
       rwa [her] at this : Calls Tryz.prog 164 #[.agg #[.int .i64 t, .int .i64 p, .int .i64 s], .slice (some ad) n c, .int .i64 u] W (LogQ W st m true er)))
      rw [her] at hres
      clear ho hno her
      go_wp2_with fail
      refine (calls_b S5 (HNote.out _)).mono ?_
      rintro e w6 ⟨rfl, S6, S6l⟩
      have c6 := loc_step S6l (by simp) c5
      clear S6l
      have ej := HW.out K hKn _ S6.bel
      go_wp2_with fail
      refine (calls_b S6 (HO.out _)).mono ?_
      rintro e w7 ⟨rfl, S7, S7l⟩
      have c7 := loc_step S7l (by simp) c6
      clear S7l
      go_wp2_with fail
      refine (HLog.out _ S7.bel).mono ?_
      cases er with
      | none =>
       simp only [Option.map_none] at hres
       subst hres
       rintro e w8 ⟨rfl, b8⟩
       have S8 := S7.below b8
       go_wp2
       refine bodyPost_ret (v := .tuple #[.int .u32 st, .int .i64 u, .slice none 0 0, .bool false]) (by simp [results, Tryz.results113, go_sem]) rfl ⟨_, _, rfl, S8.bel.alloc S8.bel.size _⟩
      | some l =>
       simp only [Option.map_some, Function.comp] at hres
       subst hres
       rintro e w8 ⟨v8, rfl, o8, f8, b8⟩
       have S8 := S7.below b8
       obtain ⟨a8, c8, rfl⟩ := row_shape2 o8
       go_wp2
       refine bodyPost_ret (v := .tuple #[.int .u32 st, .int .i64 u, .slice a8 l.length c8, .bool true]) (by simp [results, Tryz.results113, go_sem]) rfl ⟨_, rfl, o8.alloc _, fun j hj => ?_, S8.bel.alloc S8.bel.size _⟩
       have := f8 j hj
       have := S7.bel.size
       omega
  ·rw [if_neg hut] at hres
   subst hres
   have hut2 : t < u := by omega
   clear hcell h hu ht
   go_enter Tryz.func113, Tryz.ntmps113
   go_wp2_with fail
   refine (calls_b S0 (HR.out _)).mono ?_
   rintro e w1 ⟨rfl, S1, S1l⟩
   have c1 := loc_step S1l (by simp) c0
   clear S1l
   have e8 := H8.out _ S1.bel
   go_wp2_with fail
   refine (calls_b S1 (HT.out _)).mono ?_
   rintro e w2 ⟨rfl, S2, S2l⟩
   have c2 := loc_step S2l (by simp) c1
   clear S2l
   go_wp2
   refine bodyPost_ret (v := .tuple #[.int .u32 0, .int .i64 0, .slice none 0 0, .bool false]) (by simp [results, Tryz.results113, go_sem]) rfl ⟨0, 0, rfl, S2.bel⟩
end
end Go.Proofs.YtcbikgafdclhaaaGreat
/- redo: the document's Tidy, Vals, Settle. -/
set_option linter.unusedSimpArgs false
set_option linter.unusedVariables false
namespace Go.Proofs.YtcbikgafdclhaaaGreat
open Go.RowKit

theorem behind_turn (s : Int) (l : Option (List (Int × Int))) (ws : List Int) : behindF s l ws = turnL s (l.getD []) ws := by cases l <;> rfl
def TidyQ (w : World) (n N : Nat) (r : Option (List Int)) (e : Ending) (w' : World) : Prop := match r with
 | none => e = .returned (.tuple #[.slice none 0 0, .bool false]) ∧ Below w.heap.size w w'
 | some vs => ∃ g cap ws', e = .returned (.tuple #[.slice (some ⟨g, 0, none⟩) n cap, .bool true]) ∧ w'.ownsRow 0 61 1 (.slice (some ⟨g, 0, none⟩) n cap) n (ulongs ws') ∧ ws'.length = n ∧ (∀ v ∈ ws', U64 v) ∧ valsW N ws' = vs ∧ w.heap.size ≤ g ∧ Below w.heap.size w w'
def TtRel (w : World) (t p s : Int) (ws : List Int) (st : Int) (n : Nat) (l : List (Int × Int)) (g cap : Nat) (rv : Value) (v : Value) (wr : World) : Prop :=
 ∃ k : Nat, k ≤ l.length ∧ v = .int .i64 k ∧ wr.ownsRow 0 61 1 (.slice (some ⟨g, 0, none⟩) n cap) n (ulongs (turnL st (l.take k) ws)) ∧ wr.ownsRow 0 147 2 rv l.length (prCells l) ∧ (∀ o : Nat, wr.cell? ⟨w.heap.size, o, none⟩ = (#[.int .i64 t, .int .i64 p, .int .i64 s] : Array Value)[o]?) ∧ BS w (g :: w.heap.size :: rv.ownBlock.toList) wr
theorem cell_other2 {W : World} {g L o : Nat} {x : Value} (h : L ≠ g) (k : Nat) (v : Value) (hc : W.cell? ⟨L, o, none⟩ = some x) : (W.setCell ⟨g, k, none⟩ v).cell? ⟨L, o, none⟩ = some x := (World.cell?_of_block (a := ⟨L, o, none⟩) (heap_setCell_other h)).trans hc
theorem cell_otherE {W : World} {g L o : Nat} {x : Option Value} (h : L ≠ g) (k : Nat) (v : Value) (hc : W.cell? ⟨L, o, none⟩ = x) : (W.setCell ⟨g, k, none⟩ v).cell? ⟨L, o, none⟩ = x := (World.cell?_of_block (a := ⟨L, o, none⟩) (heap_setCell_other h)).trans hc
section
variable {w : World} {t p s : Int} {ad : Addr} {n : Nat} {ws : List Int}
set_option maxHeartbeats 2000000 in
set_option maxRecDepth 100000 in
theorem rtidy_any (h : WX w t p s ad n ws) (c : Nat) :
 Calls Tryz.prog 58 #[.agg #[.int .i64 t, .int .i64 p, .int .i64 s], .slice (some ad) n c] w (TidyQ w n (cellsN t p).toNat (settleF t p s ws)) := by
 have bd := h.bd
 have hr := h.right
 have HLa := Lib.hid (fun W (hb : Below w.heap.size w W) => rlast_any (h.keep hb) c)
 have hF : settleF t p s ws = (lastF t p ws).map fun x => valsW (cellsN t p).toNat (behindF x.1 x.2.2 ws) := by
  unfold settleF rightW
  rw [hr, h.len, show decide ((n : Int) = wordsN t p) = true by simpa using h.num]
  rfl
 rw [hF]
 have c0 := loc_alloc w #[.int .i64 t, .int .i64 p, .int .i64 s] 44
 have S0 := ((BS.start w).alloc (.cells #[.int .i64 t, .int .i64 p, .int .i64 s] 44))
 have hlb := fun st u l (hl : lastF t p ws = some (st, u, l)) => last_bd h.u64 hl
 obtain ⟨lr, hlr⟩ : ∃ lr, lastF t p ws = lr := ⟨_, rfl⟩
 rw [hlr] at HLa ⊢
 cases lr with
 | none =>
  simp only [Option.map_none]
  clear h hF hlr hlb hr
  go_enter Tryz.func58, Tryz.ntmps58
  go_wp2_with fail
  refine (HLa.out _ S0.bel).mono ?_
  rintro e w1 ⟨x1, x2, rfl, b1⟩
  go_wp2
  refine bodyPost_ret (v := .tuple #[.slice none 0 0, .bool false]) (by simp [results, Tryz.results58, go_sem]) rfl ⟨rfl, (S0.below b1).bel⟩
 | some q =>
  obtain ⟨st, u, l⟩ := q
  obtain ⟨hsb, hub, hlx⟩ := hlb st u l hlr
  simp only [Option.map_some]
  rw [behind_turn]
  have hbx : ∀ x ∈ l.getD [], 0 ≤ x.1 ∧ x.1 < cellsN t p ∧ 0 ≤ x.2 ∧ x.2 < 4294967296 := by
   cases l with
   | none => intro x hx; cases hx
   | some k => exact hlx k rfl
  have hll : (l.getD []).length ≤ 96 := by
   cases l with
   | none => simp
   | some k =>
    unfold lastF at hlr
    revert hlr
    cases tipW (ws.getD 8 0) with
    | none => intro h; cases h
    | some q =>
     dsimp only
     split
     ·split
      ·split
       ·intro hlr
        obtain ⟨y, hy, he⟩ := Option.map_eq_some_iff.1 hlr
        simp only [Prod.mk.injEq, Option.some.injEq] at he
        obtain ⟨-, -, rfl⟩ := he
        unfold mlogF at hy
        split at hy
        ·rename_i hno
         obtain ⟨z, hz, rfl⟩ := Option.map_eq_some_iff.1 hy
         have h1 := (entriesF_bd (fun v hv => h.u64 v (List.mem_of_mem_drop (List.mem_of_mem_take hv))) hz).1
         have h2 := (note_bd (getD_u64 h.u64 _) hno).2
         show z.length ≤ 96
         rw [h1]
         exact Nat.le_trans (List.length_take_le _ _) (by omega)
        ·cases hy
       ·intro h; simp at h
      ·intro h; cases h
     ·intro h; cases h
  unfold LastQ at HLa
  dsimp only at HLa
  generalize l.getD [] = ll at *
  have HBd := Lib.hid hbx
  obtain ⟨N, hN⟩ : ∃ N : Nat, cellsN t p = N := ⟨(cellsN t p).toNat, by omega⟩
  have HNote := Lib.hid (fun w => rnoteat_any hr u w hub.1 hub.2)
  obtain ⟨Kz, hK⟩ : ∃ Kz : Nat, noteAt t p u = Kz := ⟨(noteAt t p u).toNat, by unfold noteAt; omega⟩
  have hKn : Kz < n := by unfold noteAt at hK; omega
  have hKN : 16 + N ≤ Kz := by unfold noteAt at hK; omega
  rw [hK] at HNote
  rw [hN, Int.toNat_natCast]
  have hKi : (Kz : Int) < n := by omega
  have HW := Lib.hid (fun W (hb : Below w.heap.size w W) => h.at hb hKn)
  have HKx := Lib.hid (getD_u64 h.u64 Kz)
  have HA := Lib.hid (show ∀ W, Below w.heap.size w W → ∀ j v, (ulongs ws)[j]? = some v → W.cell? (ad.add j) = some v from fun W hb j v hj => by
   have hjn : j < n := by
    have := (List.getElem?_eq_some_iff.1 hj).1
    have e := h.len
    simp [ulongs] at this
    omega
   have := h.at hb hjn
   rw [this, ← hj]
   have e := h.len
   simp [ulongs, show j < ws.length by omega])
  have HLe := Lib.hid h.len
  have HUw := Lib.hid h.u64
  have hNn : 16 + N ≤ n := by omega
  have hn1 : n ≤ 20000 := by omega
  have hn0 : 0 < n := by omega
  obtain ⟨i0, hi0, hi1, hi2, hi3⟩ := info_parts infoU64
  have HI := Lib.hid (And.intro hi0 (And.intro hi1 (And.intro hi2 hi3)))
  have HBd0 := Lib.hid bd
  clear h hF hlr hlb hr hK hbx hlx hi0 hi1 hi2 hi3 bd
  generalize hx0 : ws.getD Kz 0 = x0 at *
  clear hx0
  go_enter Tryz.func58, Tryz.ntmps58
  go_wp2_with fail
  refine (HLa.out _ S0.bel).mono ?_
  rintro e w1 ⟨v1, rfl, o1, f1, b1⟩
  obtain ⟨a1, cp1, rfl⟩ := row_shape2 o1
  have S1 := S0.below b1
  have c1 := ((BS.start _).below b1).oldbox c0 (by simp)
  have S1g : BS w (w.heap.size :: (Value.slice a1 ll.length cp1).ownBlock.toList) w1 := ⟨S1.bel, fun L hL => by
   simp at hL
   rcases hL with h | h
   ·rw [h]; exact S1.ls _ (by simp)
   ·exact ⟨ownsRow_lt o1 h, by have := f1 L h; simp at this; omega⟩⟩
  have hne1 : ∀ k, (Value.slice a1 ll.length cp1).ownBlock = some k → k < w1.heap.size := fun k hk => ownsRow_lt o1 hk
  clear S0 S1 c0 HLa b1
  go_wp2_with (at_builtin; go_must (refine wpL_append rfl _ _ rfl 61 i0 (.int .u64 0) 1 8 Tryz.underlying22 HI.out.1 HI.out.2.1 HI.out.2.2.1 HI.out.2.2.2 rfl (by decide) (.slice (some ⟨w1.heap.size, 0, none⟩) 0 0) 0 [] rfl (row_empty _ _ _) ad n c (ulongs ws) rfl ?c0 (HA.out _ ?cB) ?c1 ?c2 ?c3 ?_); go_must (case c0 => (have := HLe.out; simp [ulongs, this])); go_must (case cB => (exact S1g.bel.alloc S1g.bel.size _)); go_must (case c1 => (intro v hv; obtain ⟨z, -, rfl⟩ := List.mem_map.1 hv; rfl)); go_must (case c2 => (unfold maxLen; omega)); go_must (case c3 => (omega)); go_must (intro v' w2 hown2 hg2 hnew2 hnil2); clear hnil2)
  rw [Nat.zero_add, List.nil_append] at hown2
  obtain ⟨g2, cap2, rfl⟩ := Joins.ownsRow_form hown2 hn0
  have hg2b : w1.heap.size ≤ g2 := by
   rcases hnew2 g2 rfl with h | h
   ·simp [Value.ownBlock] at h; omega
   ·simp at h; omega
  have S2a := S1g.alloc (.cells #[] 61)
  have S2 : BS w (g2 :: w.heap.size :: (Value.slice a1 ll.length cp1).ownBlock.toList) w2 := S2a.grown hg2 (fun k hk => by simp [Value.ownBlock] at hk; simp [hk]) _ (fun L hL => by
   simp at hL
   rcases hL with h | h | h
   ·have := S1g.bel.size
    rcases hnew2 g2 rfl with h2 | h2
    ·simp [Value.ownBlock] at h2
     exact Or.inl (by simp [h, h2])
    ·exact Or.inr ⟨by rw [h]; exact h2, by rw [h]; exact ownsRow_lt hown2 rfl⟩
   ·exact Or.inl (by simp [h])
   ·exact Or.inl (by simp [h]))
  have c2 := loc_grown hg2 (by have := (S1g.ls w.heap.size (by simp)).1; simp; omega) (fun e => by have := (S1g.ls w.heap.size (by simp)).1; simp [Value.ownBlock] at e; omega) (loc_old (.cells #[] 61) (S1g.ls w.heap.size (by simp)).1 c1)
  have o2 := ownsRow_keep (o1.alloc (.cells #[] 61)) (fun k hk => hg2.block k (by have := hne1 k hk; simp; omega) (fun e => by have := hne1 k hk; simp [Value.ownBlock] at e; omega))
  have hne : ∀ k, (Value.slice a1 ll.length cp1).ownBlock = some k → k ≠ g2 := fun k hk => by have := hne1 k hk; omega
  have hgw : w.heap.size ≤ g2 := by have := S1g.bel.size; omega
  have hgwne : w.heap.size ≠ g2 := by have := (S1g.ls w.heap.size (by simp)).1; omega
  have hA : TtRel w t p s ws st n ll g2 cap2 (.slice a1 ll.length cp1) (.int .i64 0) w2 := ⟨0, by omega, rfl, hown2, o2, c2, S2⟩
  clear S1g o1 c1 hown2 hg2 hnew2 S2a S2 c2 o2 hne1 hg2b f1
  go_wp2
  go_loopw [11] (fun v wr => TtRel w t p s ws st n ll g2 cap2 (.slice a1 ll.length cp1) v wr) (fun v _ => ll.length - (intOf v).toNat)
  case atStart => exact hA
  case round =>
   clear hA
   obtain ⟨k, hk, rfl, R9, P9, cb9, S9⟩ := hrel
   by_cases hlt : k < ll.length
   ·have hkl : (k : Int) < ll.length := by omega
    obtain ⟨g, rfl, q0, q1⟩ := prow_cell P9 hlt
    have hgne : g ≠ g2 := hne g rfl
    have hx : ll[k]? = some (ll.getD k (0, 0)) := by simp [hlt]
    have htk : ll.take (k + 1) = ll.take k ++ [ll.getD k (0, 0)] := by rw [List.take_add_one, hx]; rfl
    have hsn := turnL_snoc st (ll.take k) (ll.getD k (0, 0)) ws
    rw [← htk] at hsn
    have hxb := HBd.out _ (List.mem_of_getElem? hx)
    have hl' : (turnL st (ll.take k) ws).length = n := by rw [turnL_len]; exact HLe.out
    have hu' := turnL_u64 hsb (ll.take k) ws (fun y hy => (HBd.out y (List.mem_of_mem_take hy)).2.2) HUw.out
    generalize turnL st (ll.take k) ws = ws' at *
    have HSn : Hid (turnL st (ll.take (k + 1)) ws = if hiW (ws'.getD (16 + (ll.getD k (0, 0)).1).toNat 0) < st then ws'.set (16 + (ll.getD k (0, 0)).1).toNat (joinW st (ll.getD k (0, 0)).2) else ws') := Lib.hid hsn
    clear hsn htk hx
    generalize ll.getD k (0, 0) = x at *
    obtain ⟨xc, xv⟩ := x
    dsimp only at hxb q0 q1
    obtain ⟨J, hJ⟩ : ∃ J : Nat, 16 + xc = J := ⟨(16 + xc).toNat, by omega⟩
    have hJn : (J : Int) < n := by have := HBd0.out; omega
    have HSn3 : Hid (turnL st (ll.take (k + 1)) ws = if hiW (ws'.getD J 0) < st then ws'.set J (joinW st xv) else ws') := Lib.hid (by
     have := HSn.out
     dsimp only at this
     rwa [hJ, Int.toNat_natCast] at this)
    have hwJ : IntKind.i64.wrap (16 + xc) = (J : Int) := by rw [hJ]; exact wrap_in _ (by omega)
    have hJe : (16 : Int) + xc = (J : Int) := hJ
    have HuJ := Lib.hid (getD_u64 hu' J)
    have hxv := hxb.2.2
    have hJn2 : J < n := by omega
    have hxc0 : 0 ≤ xc := hxb.1
    clear HSn hJ hu' hxb
    have cJ := (R9.cellAt J (by simpa using hJn2)).trans (show (ulongs ws')[J]? = some (.int .u64 (ws'.getD J 0)) by simp [ulongs, hl', hJn2])
    have HSt2 := Lib.hid (fun w => rhiw_any _ w HuJ.out)
    generalize ws'.getD J 0 = z at *
    go_wp2_with fail
    refine (calls_b S9 (HSt2.out _)).mono ?_
    rintro e w11 ⟨rfl, S11, S11l⟩
    have c11 := loc_step S11l (by simp) cb9
    have R11 := row_step S11l (fun k hk => by simp [Value.ownBlock] at hk; simp [hk]) R9
    have P11 := row_step S11l (fun k hk => by simp [hk]) P9
    have q0' := (World.cell?_of_block (a := ⟨g, k * 2, none⟩) (S11l g (by simp [Value.ownBlock]))).trans q0
    have q1' := (World.cell?_of_block (a := ⟨g, k * 2 + 1, none⟩) (S11l g (by simp [Value.ownBlock]))).trans q1
    clear S11l q0 q1 R9 P9 cb9 S9 HSt2 cJ
    by_cases hs : hiW z < st
    ·have HSn4 := HSn3.out
     rw [if_pos hs] at HSn4
     have HSn5 := Lib.hid HSn4
     have HCe := Lib.hid (fun w => rjoin_any st xv w hsb hxv)
     have HJE := Lib.hid hJe
     clear HSn4 HSn3 hJe
     generalize hiW z = y at *
     generalize joinW st xv = jw at *
     go_wp2_with fail
     refine wp_region_noPanic ?_
     refine wp_region_held_drew (S := fun w' => w'.cell? ⟨g, k * 2, none⟩ = some (.int .i64 xc) ∧ w'.cell? ⟨g, k * 2 + 1, none⟩ = some (.int .u32 xv)) (by kernel_rfl) ?_ (fun hHeld => ?_)
     ·exact ⟨q0', q1'⟩
     refine wT 0 ?_
     refine wT 1 ?_
     refine wT 2 ?_
     refine wT 3 ?_
     refine wT 4 ?_
     refine wT 5 ?_
     refine wT 6 ?_
     refine wT 7 ?_
     refine wT 8 ?_
     refine wT 9 ?_
     refine wT 10 ?_
     refine wT 11 ?_
     refine wT 12 ?_
     refine wR 13 fun K hK => ?_
     go_simp
     refine (calls_b S11.drew (HCe.out _)).mono ?_
     rintro e w12 ⟨rfl, S12, S12l⟩
     have c12 := loc_step S12l (by simp) c11
     have R12 := row_step S12l (fun k hk => by simp [Value.ownBlock] at hk; simp [hk]) R11
     have P12 := row_step S12l (fun k hk => by simp [hk]) P11
     have p0 := (World.cell?_of_block (a := ⟨g, k * 2, none⟩) (S12l g (by simp [Value.ownBlock]))).trans hHeld.1
     have p1 := (World.cell?_of_block (a := ⟨g, k * 2 + 1, none⟩) (S12l g (by simp [Value.ownBlock]))).trans hHeld.2
     obtain ⟨zz, cJ⟩ := urow_cell R12 (i := J) hJn2
     have fJ := R12.frozenAt J
     refine hK.out _ _ ?_ (fun hHeld => ?_)
     ·exact ⟨p0, p1⟩
     clear hK K
     try simp only [Act.put, zA, zB, zC, zD, zE, zF]
     refine wT 14 ?_
     refine wR 15 fun K hK => ?_
     go_simp
     refine hK.out _ _ ?_ (fun hHeld => ?_)
     ·exact ⟨cell_other2 hgne _ _ p0, cell_other2 hgne _ _ p1⟩
     clear hK K
     try simp only [Act.put, zA, zB, zC, zD, zE, zF]
     refine wpAnyH_done (by kernel_rfl) (NoPanic.normal ?_) _
     go_wp2
     go_roundw
     case rel =>
      refine ⟨k + 1, by omega, by go_num, ?_, row_set P12 (fun e => hne _ e rfl), ?_, S12.setCell (L := g2) (by simp) J (.int .u64 jw)⟩
      ·rw [HSn5.out]
       have := (R12.stored J (.int .u64 jw)).1
       rw [ulongs_set] at this
       exact this
      ·exact fun o => (World.cell?_of_block (a := ⟨w.heap.size, o, none⟩) (heap_setCell_other (L := g2) (M := w.heap.size) hgwne)).trans (c12 o)
     case measure => simp [intOf]; omega
    ·have HSn4 := HSn3.out
     rw [if_neg hs] at HSn4
     have HSn5 := Lib.hid HSn4
     clear HSn4 HSn3
     generalize hiW z = y at *
     go_wp2
     go_roundw
     case rel => exact ⟨k + 1, by omega, by go_num, by rw [HSn5.out]; exact R11, P11, c11, S11⟩
     case measure => simp [intOf]; omega
   ·have hkl : k = ll.length := by omega
    subst hkl
    rw [List.take_length] at R9
    have hl' : (turnL st ll ws).length = n := by rw [turnL_len]; exact HLe.out
    have hu' := turnL_u64 hsb ll ws (fun y hy => (HBd.out y hy).2.2) HUw.out
    generalize turnL st ll ws = ws' at *
    have S9s := S9.sub [g2, w.heap.size] (by intro L hL; simp at hL ⊢; rcases hL with h | h <;> simp [h])
    clear P9 S9
    go_wp2_with fail
    refine (calls_b S9s (HNote.out _)).mono ?_
    rintro e w10 ⟨rfl, S10, S10l⟩
    have c10 := loc_step S10l (by simp) cb9
    have R10 := row_step S10l (fun k hk => by simp [Value.ownBlock] at hk; simp [hk]) R9
    clear S10l
    have ek := HW.out _ S10.bel
    cases hno : noteW x0 with
    | none =>
     have HO := Lib.hid (fun w => ronote_no x0 w HKx.out hno)
     clear hno
     go_wp2_with fail
     refine (calls_b S10 (HO.out _)).mono ?_
     rintro e w11 ⟨rfl, S11, S11l⟩
     have R11 := row_step S11l (fun k hk => by simp [Value.ownBlock] at hk; simp [hk]) R10
     have bel := S11.bel.alloc S11.bel.size (.cells #[.int .u32 0, .bool false, .int .i64 0] 142)
     go_wp2
     exact bodyPost_ret (v := .tuple #[.slice (some ⟨g2, 0, none⟩) n cap2, .bool true]) (by simp [results, Tryz.results58, go_sem]) rfl ⟨g2, cap2, ws', rfl, R11.alloc _, hl', hu', rfl, hgw, bel⟩
    | some q =>
     obtain ⟨sn, op, m⟩ := q
     have HO := Lib.hid (fun w => ronote_yes x0 sn m op w HKx.out hno)
     obtain ⟨e1, m0, m1, -, -⟩ := note_bd HKx.out hno
     have hsn : 0 ≤ sn ∧ sn < 4294967296 := by rw [e1]; exact hi_bd HKx.out
     clear hno e1
     go_wp2_with fail
     refine (calls_b S10 (HO.out _)).mono ?_
     rintro e w11 ⟨rfl, S11, S11l⟩
     have R11 := row_step S11l (fun k hk => by simp [Value.ownBlock] at hk; simp [hk]) R10
     have c11 := loc_step S11l (by simp) c10
     clear S11l R10 c10 ek S10 R9 cb9
     by_cases hc : op = true ∧ sn = st
     ·obtain ⟨rfl, rfl⟩ := hc
      have HNw := Lib.hid (fun w => rnote_any sn m false w hsn m0 m1)
      have hNu : U64 (noteWord sn m false) := by unfold noteWord; exact join_u64 hsn (by simp; omega)
      generalize noteWord sn m false = nw at *
      have hvs : valsW N (ws'.set Kz nw) = valsW N ws' := valsW_congr fun i hi => by rw [List.getElem?_set_ne (by omega)]
      have hsu : ∀ v ∈ ws'.set Kz nw, U64 v := fun v hv => by
       rcases List.mem_or_eq_of_mem_set hv with h | h
       ·exact hu' v h
       ·rw [h]; exact hNu
      have HVs := Lib.hid hvs
      have HSu := Lib.hid hsu
      clear hvs hsu hNu hu'
      have S12 := S11.alloc (.cells #[.int .u32 sn, .bool false, .int .i64 m] 142)
      have R12 := ownsRow_block (w' := (w11.alloc (.cells #[.int .u32 sn, .bool false, .int .i64 m] 142)).drew) (R11.alloc (.cells #[.int .u32 sn, .bool false, .int .i64 m] 142)) (fun _ _ => rfl)
      have c12 := loc_old (.cells #[.int .u32 sn, .bool false, .int .i64 m] 142) (S11.ls w.heap.size (by simp)).1 c11
      have d12 := loc_alloc w11 #[.int .u32 sn, .bool false, .int .i64 m] 142
      have hw11 : w11.heap.size ≠ g2 := by have := (S11.ls g2 (by simp)).1; omega
      clear S11 R11 c11
      go_wp2_with fail
      refine wp_region_noPanic ?_
      refine wp_region_held_drew (S := fun w' => (∀ o : Nat, w'.cell? ⟨w11.heap.size, o, none⟩ = (#[.int .u32 sn, .bool false, .int .i64 m] : Array Value)[o]?) ∧ (∀ o : Nat, w'.cell? ⟨w.heap.size, o, none⟩ = (#[.int .i64 t, .int .i64 p, .int .i64 s] : Array Value)[o]?)) (by kernel_rfl) ?_ (fun hHeld => ?_)
      ·exact ⟨d12, c12⟩
      refine wT 0 ?_
      refine wT 1 ?_
      refine wT 2 ?_
      refine wT 4 ?_
      refine wR 3 fun K hK => ?_
      go_simp
      refine (calls_b S12.drew (HNote.out _)).mono ?_
      rintro e w13 ⟨rfl, S13, S13l⟩
      have d13 := loc_step S13l (by simp) hHeld.1
      have c13 := loc_step S13l (by simp) hHeld.2
      have R13 := row_step S13l (fun k hk => by simp [Value.ownBlock] at hk; simp [hk]) R12
      refine hK.out _ _ ?_ (fun hHeld => ?_)
      ·exact ⟨d13, c13⟩
      clear hK K
      try simp only [Act.put, zA, zB, zC, zD, zE, zF]
      refine wR 5 fun K hK => ?_
      go_simp
      refine (calls_b S13 (HNw.out _)).mono ?_
      rintro e w14 ⟨rfl, S14, S14l⟩
      have d14 := loc_step S14l (by simp) hHeld.1
      have c14 := loc_step S14l (by simp) hHeld.2
      have R14 := row_step S14l (fun k hk => by simp [Value.ownBlock] at hk; simp [hk]) R13
      obtain ⟨zz, cK⟩ := urow_cell R14 (i := Kz) hKn
      have fK := R14.frozenAt Kz
      refine hK.out _ _ ?_ (fun hHeld => ?_)
      ·exact ⟨d14, c14⟩
      clear hK K
      try simp only [Act.put, zA, zB, zC, zD, zE, zF]
      refine wT 6 ?_
      refine wT 7 ?_
      refine wT 8 ?_
      refine wT 9 ?_
      refine wR 10 fun K hK => ?_
      have d15 := (fun o : Nat => cell_otherE hw11 Kz (.int .u64 nw) (d14 o))
      have c15 := (fun o : Nat => cell_otherE hgwne Kz (.int .u64 nw) (c14 o))
      go_simp
      refine hK.out _ _ ?_ (fun hHeld => ?_)
      ·exact ⟨d15, c15⟩
      clear hK K
      try simp only [Act.put, zA, zB, zC, zD, zE, zF]
      refine wpAnyH_done (by kernel_rfl) (NoPanic.normal ?_) _
      have R15 := (R14.stored Kz (.int .u64 nw)).1
      rw [ulongs_set] at R15
      have bel := (S14.setCell (L := g2) (by simp) Kz (.int .u64 nw)).bel
      go_wp2
      exact bodyPost_ret (v := .tuple #[.slice (some ⟨g2, 0, none⟩) n cap2, .bool true]) (by simp [results, Tryz.results58, go_sem]) rfl ⟨g2, cap2, _, rfl, R15, by rw [List.length_set]; exact hl', HSu.out, HVs.out, hgw, bel⟩
     ·have bel := S11.bel.alloc S11.bel.size (.cells #[.int .u32 sn, .bool op, .int .i64 m] 142)
      have R12 := R11.alloc (.cells #[.int .u32 sn, .bool op, .int .i64 m] 142)
      cases op
      ·clear hc
       go_wp2
       exact bodyPost_ret (v := .tuple #[.slice (some ⟨g2, 0, none⟩) n cap2, .bool true]) (by simp [results, Tryz.results58, go_sem]) rfl ⟨g2, cap2, ws', rfl, R12, hl', hu', rfl, hgw, bel⟩
      ·have hsb2 : (sn == st) = false := by simpa using hc
       clear hc
       go_wp2
       exact bodyPost_ret (v := .tuple #[.slice (some ⟨g2, 0, none⟩) n cap2, .bool true]) (by simp [results, Tryz.results58, go_sem]) rfl ⟨g2, cap2, ws', rfl, R12, hl', hu', rfl, hgw, bel⟩
end
end Go.Proofs.YtcbikgafdclhaaaGreat
/- redo: the document's Vals and Settle. -/
set_option linter.unusedSimpArgs false
set_option linter.unusedVariables false
namespace Go.Proofs.YtcbikgafdclhaaaGreat
open Go.RowKit

structure VlR (w : World) (t p s : Int) (vs : List Int) (N : Nat) (v5 v6 : Value) (wr : World) (k : Nat) : Prop where
 le : k ≤ N
 eq : v6 = .int .i64 k
 row : wr.ownsRow 0 90 1 v5 k (uints (vs.take k))
 bs : BS w (w.heap.size :: v5.ownBlock.toList) wr
 box : ∀ o : Nat, wr.cell? ⟨w.heap.size, o, none⟩ = (#[.int .i64 t, .int .i64 p, .int .i64 s] : Array Value)[o]?
 far : ∀ j, v5.ownBlock = some j → w.heap.size < j
def VlRel (w : World) (t p s : Int) (vs : List Int) (N : Nat) (v5 v6 : Value) (wr : World) : Prop := ∃ k, VlR w t p s vs N v5 v6 wr k
def VlQ (w : World) (vs : List Int) (e : Ending) (w' : World) : Prop := ∃ v, e = .returned v ∧ w'.ownsRow 0 90 1 v vs.length (uints vs) ∧ (∀ k, v.ownBlock = some k → w.heap.size ≤ k) ∧ Below w.heap.size w w'
section
variable {w : World} {t p s : Int} {ad : Addr} {n : Nat} {ws : List Int}
set_option maxHeartbeats 1000000 in
set_option maxRecDepth 100000 in
theorem rvals27_any (h : WX w t p s ad n ws) (c : Nat) :
 Calls Tryz.prog 59 #[.agg #[.int .i64 t, .int .i64 p, .int .i64 s], .slice (some ad) n c] w (VlQ w (valsW (cellsN t p).toNat ws)) := by
 have bd := h.bd
 have hr := h.right
 have HC := Lib.hid (fun w => rcells_any t p s w)
 obtain ⟨N, hN⟩ : ∃ N : Nat, cellsN t p = N := ⟨(cellsN t p).toNat, by omega⟩
 rw [show cellsF t p s = cellsN t p by simp [cellsF, hr], hN] at HC
 have hNn : 16 + N ≤ n := by omega
 have hN1 : N ≤ 10000 := by omega
 rw [hN, Int.toNat_natCast]
 have HW := Lib.hid (fun k (hk : k < n) W (hb : Below w.heap.size w W) => h.at hb hk)
 have HLo := Lib.hid (fun k w => rlow_any (ws.getD k 0) w (getD_u64 h.u64 k))
 have HVg := Lib.hid (show ∀ k, k < N → (valsW N ws)[k]? = some (loW (ws.getD (16 + k) 0)) from fun k hk => by simp [valsW, hk])
 have HVl := Lib.hid (valsW_len N ws)
 obtain ⟨i0, hi0, hi1, hi2, hi3⟩ := info_parts infoU32
 have HI := Lib.hid (And.intro hi0 (And.intro hi1 (And.intro hi2 hi3)))
 generalize valsW N ws = vs at *
 have c0 := loc_old (.cells #[] 90) (by simp) (loc_alloc w #[.int .i64 t, .int .i64 p, .int .i64 s] 44)
 have S0 := ((BS.start w).alloc (.cells #[.int .i64 t, .int .i64 p, .int .i64 s] 44)).alloc (.cells #[] 90)
 have r0 := row_empty (w.alloc (.cells #[.int .i64 t, .int .i64 p, .int .i64 s] 44)) 90 1
 simp only [World.size_alloc] at S0 r0
 have hA : VlRel w t p s vs N (.slice (some ⟨w.heap.size + 1, 0, none⟩) 0 0) (.int .i64 0) ((w.alloc (.cells #[.int .i64 t, .int .i64 p, .int .i64 s] 44)).alloc (.cells #[] 90)) := ⟨0, by omega, rfl, r0, S0.sub _ (by simp [Value.ownBlock]), c0, by simp [Value.ownBlock]⟩
 clear h bd hr hN c0 S0 r0 hi0 hi1 hi2 hi3
 go_enter Tryz.func59, Tryz.ntmps59
 go_wp2
 go_loopw [5, 6] (fun v5 v6 wr => VlRel w t p s vs N v5 v6 wr) (fun _ v6 _ => N - (intOf v6).toNat)
 case atStart => exact hA
 case round =>
  clear hA
  obtain ⟨k, hk, rfl, hrow, hbs, hbox, hfar⟩ := hrel
  obtain ⟨pa, pc, rfl⟩ := row_shape2 hrow
  have HF := Lib.hid hfar
  clear hfar
  go_wp2_with fail
  refine (calls_b hbs (HC.out _)).mono ?_
  rintro e w1 ⟨rfl, S1, S1l⟩
  have c1 := loc_step S1l (by simp) hbox
  have R1 := row_step S1l (fun k hk => by simp [hk]) hrow
  clear S1l
  clear hbs hbox hrow
  by_cases hlt : k < N
  ·have hkN : (k : Int) < N := by omega
   obtain ⟨j, hj⟩ : ∃ j : Nat, 16 + k = j := ⟨_, rfl⟩
   have hjn : (j : Int) < n := by omega
   have hwj : IntKind.i64.wrap (16 + (k : Int)) = (j : Int) := by rw [show (16 : Int) + k = (j : Int) by omega]; exact wrap_in _ (by omega)
   have hwj2 : (16 + (k : Int)) = (j : Int) := by omega
   have ej := HW.out j (by omega) _ S1.bel
   have htk : vs.take (k + 1) = vs.take k ++ [loW (ws.getD j 0)] := by
    rw [List.take_add_one, HVg.out k hlt, hj]; rfl
   have HTk := Lib.hid htk
   have HLj := Lib.hid (HLo.out j)
   clear hj htk
   generalize loW (ws.getD j 0) = y at *
   go_wp2_with fail
   refine (calls_b S1 (HLj.out _)).mono ?_
   rintro e w2 ⟨rfl, S2, S2l⟩
   have c2 := loc_step S2l (by simp) c1
   have R2 := row_step S2l (fun k hk => by simp [hk]) R1
   have HR2 := Lib.hid R2
   have HS2 := Lib.hid S2
   have HC2 := Lib.hid c2
   clear S2l c1 R1 S1 c2 R2 S2 hwj hwj2 ej
   go_wp2_with (at_builtin; go_must (refine wpL_append rfl _ _ rfl 90 i0 (.int .u32 0) 1 4 Tryz.underlying73 HI.out.1 HI.out.2.1 HI.out.2.2.1 HI.out.2.2.2 rfl (by decide) (.slice pa k pc) k (uints (vs.take k)) rfl (HR2.out.alloc _) ⟨w2.heap.size, 0, none⟩ 1 1 [.int .u32 y] rfl rfl (cell_one_new _ _ _) ?c1 ?c2 ?c3 ?_); go_must (case c1 => (simp [Value.oneCell'])); go_must (case c2 => (unfold maxLen; omega)); go_must (case c3 => (omega)); go_must (intro v' w5 hown5 hg5 hnew5 hnil5); clear hnil5)
   have hown6 : w5.ownsRow 0 90 1 v' (k + 1) (uints (vs.take (k + 1))) := by rw [HTk.out]; simpa [uints] using hown5
   obtain ⟨g', cap', rfl⟩ := Joins.ownsRow_form hown6 (by omega)
   have S5 := HS2.out.append hg5 hnew5 hown6
   have c5 := loc_grown hg5 (by have := (HS2.out.ls w.heap.size (by simp)).1; simp; omega) (fun e => by have := HF.out _ e; omega) (loc_old (.cells #[.int .u32 y] 90) (HS2.out.ls w.heap.size (by simp)).1 HC2.out)
   have hfar5 : ∀ j, (Value.slice (some ⟨g', 0, none⟩) (k + 1) cap').ownBlock = some j → w.heap.size < j := fun j hj => by
    rcases hnew5 j (by simpa [Value.ownBlock] using hj) with h | h
    ·exact HF.out j h
    ·have := (HS2.out.ls w.heap.size (by simp)).1
     simp at h; omega
   go_wp2
   go_roundw
   case rel => exact ⟨k + 1, by omega, by go_num, hown6, S5, c5, hfar5⟩
   case measure => simp [intOf]; omega
  ·have hkN : k = N := by omega
   subst hkN
   have hvt : vs.take k = vs := List.take_of_length_le (by rw [HVl.out]; omega)
   rw [hvt] at R1
   have HL9 := Lib.hid R1
   clear hvt
   go_wp2
   go_ret
   refine ⟨_, rfl, by rw [HVl.out]; exact HL9.out, fun j hj => Nat.le_of_lt (HF.out j hj), S1.bel⟩
theorem rsettle_any (h : WX w t p s ad n ws) (c : Nat) :
 Calls Tryz.prog 31 #[.agg #[.int .i64 t, .int .i64 p, .int .i64 s], .slice (some ad) n c] w (SetQ w (settleF t p s ws)) := by
 have bd := h.bd
 have hr := h.right
 have hnum := h.num
 have HT := Lib.hid (fun W (hb : Below w.heap.size w W) => rtidy_any (h.keep hb) c)
 have HVl := Lib.hid (valsW_len (cellsN t p).toNat)
 have HVals := Lib.hid (fun W (g cap : Nat) (ws' : List Int) (hw : W.ownsRow 0 61 1 (.slice (some ⟨g, 0, none⟩) n cap) n (ulongs ws')) (hl : ws'.length = n) (hu : ∀ v ∈ ws', U64 v) => rvals27_any (w := W) (ws := ws') (ad := ⟨g, 0, none⟩) (n := n) ⟨hr, hl, hnum, hu, fun k hk => by
  rw [show (⟨g, 0, none⟩ : Addr).add k = ⟨g, k, none⟩ by by_cases h0 : k = 0 <;> simp [Addr.add, h0]]
  exact (hw.cellAt k (by omega)).trans (by simp [ulongs, hl, hk])⟩ cap)
 generalize settleF t p s ws = r at *
 have c0 := loc_alloc w #[.int .i64 t, .int .i64 p, .int .i64 s] 44
 have S0 := ((BS.start w).alloc (.cells #[.int .i64 t, .int .i64 p, .int .i64 s] 44))
 clear h hr hnum bd
 cases r with
 | none =>
  go_enter Tryz.func31, Tryz.ntmps31
  go_wp2_with fail
  refine (HT.out _ S0.bel).mono ?_
  rintro e w1 ⟨rfl, b1⟩
  go_wp2
  refine bodyPost_ret (v := .tuple #[.slice none 0 0, .bool false]) (by simp [results, Tryz.results31, go_sem]) rfl ⟨rfl, (S0.below b1).bel⟩
 | some vs =>
  go_enter Tryz.func31, Tryz.ntmps31
  go_wp2_with fail
  refine (HT.out _ S0.bel).mono ?_
  rintro e w1 ⟨g, cap, ws', rfl, R1, hl, hu, hv, hg, b1⟩
  have S1 := S0.below b1
  have c1 := ((BS.start _).below b1).oldbox c0 (by simp)
  have HVs := Lib.hid (HVals.out w1 g cap ws' R1 hl hu)
  have HHv := Lib.hid hv
  have hz := S1.bel.size
  clear hl hu hv HVals HT
  go_wp2_with fail
  refine HVs.out.mono ?_
  rintro e w2 ⟨v2, rfl, o2, f2, b2⟩
  rw [HHv.out] at o2
  obtain ⟨a2, c2, rfl⟩ := row_shape2 o2
  go_wp2
  refine bodyPost_ret (v := .tuple #[.slice a2 vs.length c2, .bool true]) (by simp [results, Tryz.results31, go_sem]) rfl ⟨_, rfl, o2, fun j hj => ?_, (S1.below b2).bel⟩
  have := f2 j hj
  omega
end
end Go.Proofs.YtcbikgafdclhaaaGreat
/- the document's audit: apart. -/
set_option linter.unusedSimpArgs false
set_option linter.unusedVariables false
namespace Go.Proofs.YtcbikgafdclhaaaGreat
open Go.RowKit
section
variable {t p s : Int} {ad : Addr} {n c : Nat} {vs : List Int}

def apB (vs : List Int) (t : Int) (l : List Int) (k : Nat) : Bool := !(iK (gv vs t (l.getD (k + 1) 0) 0) == 1 && iK (gv vs t (l.getD k 0) 0) == 1)
def apartF (vs : List Int) (t p : Int) : Bool := allN (apB vs t (startsF (fun q => gv vs t q 0) p).1) ((startsF (fun q => gv vs t q 0) p).1.length - 1)
def ApRel (f : Nat → Bool) (N : Nat) (W0 : World) (v : Value) (wr : World) : Prop := ∃ k : Nat, (k ≤ N) ∧ v = .int .i64 ((k + 1 : Nat) : Int) ∧ allN f k = true ∧ Below W0.heap.size W0 wr

set_option maxHeartbeats 1000000 in
set_option maxRecDepth 100000 in
theorem apart_any (c : Nat) (w : World) (h : XV w t p s ad n vs) :
 Calls Tryz.prog 168 #[.agg #[.int .i64 t, .int .i64 p, .int .i64 s, .slice (some ad) n c]] w fun e w' => e = .returned (.bool (apartF vs t p)) ∧ Below w.heap.size w w' := by
 have X0 := h.boxed c
 have bd : 4 ≤ p ∧ p ≤ 1024 := by have := h.bd; omega
 have HS := Lib.hid (fun (w : World) (h : XV w t p s ad n vs) => starts_any c w h)
 obtain ⟨hm1, -, hlen⟩ := startsF_mem (g := fun q => gv vs t q 0) (p := p) (by omega)
 have HM := Lib.hid hm1
 have HI := Lib.hid (fun (q : Int) (w : World) (h : XV w t p s ad n vs) (h0 : 0 ≤ q) (h1 : q < p) => xinfo_any q c w h h0 h1)
 generalize hr : apartF vs t p = r
 have hr2 : allN (apB vs t (startsF (fun q => gv vs t q 0) p).1) ((startsF (fun q => gv vs t q 0) p).1.length - 1) = r := hr
 have HR := Lib.hid hr2
 have HLen := Lib.hid hlen
 clear h hr hr2 hm1 hlen
 generalize startsF (fun q => gv vs t q 0) p = st at *
 obtain ⟨l, lb⟩ := st
 go_enter Tryz.func168, Tryz.ntmps168
 go_wp2_with fail
 refine (HS.out _ X0.xv).mono ?_
 rintro e w1 ⟨lv, rfl, hlv⟩
 have X1 := X0.keep hlv.2.2
 obtain ⟨la, lc, rfl⟩ := hlv.row
 have HL := Lib.hid hlv
 clear hlv X0
 obtain ⟨x0, x1, x2, x3⟩ := X1.cells
 go_wp2_with fail
 go_loopw [5] (fun v5 wr => ApRel (apB vs t l) (l.length - 1) w1 v5 wr) (fun v5 _ => l.length - (intOf v5).toNat)
 case atStart => exact ⟨0, by omega, rfl, rfl, Below.refl _ _⟩
 case round =>
  obtain ⟨k, hk, rfl, hall, hbq⟩ := hrel
  have X3 := X1.keep hbq
  have HT := Lib.hid hall
  have HB := Lib.hid hbq
  clear hall hbq x0 x1 x2 x3
  have HLen2 := HLen.out
  by_cases hl : k + 1 < l.length
  ·obtain ⟨g, rfl, hc0⟩ := HL.out.cell hl
   obtain ⟨g', hg', hd0⟩ := HL.out.cell (k := k) (by omega)
   simp only [Option.some.injEq, Addr.mk.injEq, and_true] at hg'
   subst hg'
   have hc1 := (HB.out.cell (World.block_lt_of_cell? _ _ hc0)).trans hc0
   have hd1 := (HB.out.cell (World.block_lt_of_cell? _ _ hd0)).trans hd0
   have m1 := HM.out (l.getD (k + 1) 0) (by simp [hl])
   have m2 := HM.out (l.getD k 0) (by simp [show k < l.length by omega])
   have hap : apB vs t l k = !(iK (gv vs t (l.getD (k + 1) 0) 0) == 1 && iK (gv vs t (l.getD k 0) 0) == 1) := rfl
   have HAP := Lib.hid hap
   have HBox := Lib.hid X3.box
   have hxl := X3.lt
   clear hap hc0 hd0
   generalize l.getD (k + 1) 0 = y at *
   generalize l.getD k 0 = z at *
   have I1 := Lib.hid (fun (w : World) (h : XV w t p s ad n vs) => HI.out y w h m1.1 m1.2)
   have I2 := Lib.hid (fun (w : World) (h : XV w t p s ad n vs) => HI.out z w h m2.1 m2.2)
   clear m1 m2
   generalize iK (gv vs t y 0) = a1 at *
   generalize iL (gv vs t y 0) = a2 at *
   generalize iC (gv vs t y 0) = a3 at *
   generalize iK (gv vs t z 0) = b1 at *
   generalize iL (gv vs t z 0) = b2 at *
   generalize iC (gv vs t z 0) = b3 at *
   have hk1 : 0 ≤ (k : Int) + 1 := by omega
   have hkl : k < l.length := by omega
   have hwk : IntKind.i64.wrap (k : Int) = k := wrap_in _ (by omega)
   have hfa := fieldInfo0 (.int .i64 a1) (.int .i64 a2) (.int .i64 a3)
   have hfb := fieldInfo0 (.int .i64 b1) (.int .i64 b2) (.int .i64 b3)
   by_cases h1 : a1 = 1
   ·have hb1 : (a1 == 1) = true := by simp [h1]
    by_cases h2 : b1 = 1
    ·have hb2 : (b1 == 1) = true := by simp [h2]
     have hno : apB vs t l k = false := by rw [HAP.out, hb1, hb2]; rfl
     have hres : r = false := by rw [← HR.out]; exact allN_no (by omega) hno
     subst hres
     clear hno h1 h2
     go_wp2_with fail
     refine wp_region_noPanic ?_
     refine wp_region_held_drew (S := fun w' => BS wr ([] : List Nat) w' ∧ (∀ o : Nat, w'.cell? ⟨w.heap.size, o, none⟩ = (#[.int .i64 t, .int .i64 p, .int .i64 s, .slice (some ad) n c] : Array Value)[o]?) ∧ w'.cell? ⟨g, k + 1, none⟩ = some (.int .i64 y) ∧ w'.cell? ⟨g, k, none⟩ = some (.int .i64 z)) (by kernel_rfl) ?_ (fun hHeld => ?_)
     ·exact ⟨(BS.start wr).drew, HBox.out, hc1, hd1⟩
     refine wT 0 ?_
     refine wT 1 ?_
     refine wT 2 ?_
     refine wT 3 ?_
     refine wT 4 ?_
     refine wR 5 fun K hK => ?_
     go_simp
     refine (calls_b hHeld.1 (I1.out _ (X3.xv.keep hHeld.1.bel))).mono ?_
     rintro e wr1 ⟨rfl, hV, hVl⟩
     dsimp only
     refine hK.out _ _ ?_ (fun hHeld2 => ?_)
     ·exact ⟨hV, hV.oldbox HBox.out hxl, hV.old hc1, hV.old hd1⟩
     clear hK K hV hVl hHeld
     have hHeld := hHeld2
     clear hHeld2
     try simp only [Act.put, zA, zB, zC, zD, zE, zF]
     refine wT 6 ?_
     refine wT 7 ?_
     refine wT 8 ?_
     refine wT 9 ?_
     refine wT 10 ?_
     refine wT 11 ?_
     refine wT 12 ?_
     refine wT 13 ?_
     refine wT 14 ?_
     refine wR 15 fun K hK => ?_
     go_simp
     refine (calls_b hHeld.1 (I2.out _ (X3.xv.keep hHeld.1.bel))).mono ?_
     rintro e wr2 ⟨rfl, hV, hVl⟩
     dsimp only
     refine hK.out _ _ ?_ (fun hHeld2 => ?_)
     ·exact ⟨hV, hV.oldbox HBox.out hxl, hV.old hc1, hV.old hd1⟩
     clear hK K hV hVl hHeld
     have hHeld := hHeld2
     clear hHeld2
     try simp only [Act.put, zA, zB, zC, zD, zE, zF]
     refine wT 16 ?_
     refine wT 17 ?_
     refine wT 18 ?_
     refine wpAnyH_done (by kernel_rfl) (NoPanic.normal ?_) _
     refine world_gen ?_
     intro wz hwz
     rw [← hwz] at hHeld
     clear hwz
     have hbz := X3.keep hHeld.1.bel
     clear hHeld
     go_wp2
     go_ret
     exact ⟨rfl, hbz.bel⟩
    ·have hb2 : (b1 == 1) = false := by simp [h2]
     have hyes : apB vs t l k = true := by rw [HAP.out, hb1, hb2]; rfl
     have HY := Lib.hid hyes
     clear hyes h1 h2
     go_wp2_with fail
     refine wp_region_noPanic ?_
     refine wp_region_held_drew (S := fun w' => BS wr ([] : List Nat) w' ∧ (∀ o : Nat, w'.cell? ⟨w.heap.size, o, none⟩ = (#[.int .i64 t, .int .i64 p, .int .i64 s, .slice (some ad) n c] : Array Value)[o]?) ∧ w'.cell? ⟨g, k + 1, none⟩ = some (.int .i64 y) ∧ w'.cell? ⟨g, k, none⟩ = some (.int .i64 z)) (by kernel_rfl) ?_ (fun hHeld => ?_)
     ·exact ⟨(BS.start wr).drew, HBox.out, hc1, hd1⟩
     refine wT 0 ?_
     refine wT 1 ?_
     refine wT 2 ?_
     refine wT 3 ?_
     refine wT 4 ?_
     refine wR 5 fun K hK => ?_
     go_simp
     refine (calls_b hHeld.1 (I1.out _ (X3.xv.keep hHeld.1.bel))).mono ?_
     rintro e wr1 ⟨rfl, hV, hVl⟩
     dsimp only
     refine hK.out _ _ ?_ (fun hHeld2 => ?_)
     ·exact ⟨hV, hV.oldbox HBox.out hxl, hV.old hc1, hV.old hd1⟩
     clear hK K hV hVl hHeld
     have hHeld := hHeld2
     clear hHeld2
     try simp only [Act.put, zA, zB, zC, zD, zE, zF]
     refine wT 6 ?_
     refine wT 7 ?_
     refine wT 8 ?_
     refine wT 9 ?_
     refine wT 10 ?_
     refine wT 11 ?_
     refine wT 12 ?_
     refine wT 13 ?_
     refine wT 14 ?_
     refine wR 15 fun K hK => ?_
     go_simp
     refine (calls_b hHeld.1 (I2.out _ (X3.xv.keep hHeld.1.bel))).mono ?_
     rintro e wr2 ⟨rfl, hV, hVl⟩
     dsimp only
     refine hK.out _ _ ?_ (fun hHeld2 => ?_)
     ·exact ⟨hV, hV.oldbox HBox.out hxl, hV.old hc1, hV.old hd1⟩
     clear hK K hV hVl hHeld
     have hHeld := hHeld2
     clear hHeld2
     try simp only [Act.put, zA, zB, zC, zD, zE, zF]
     refine wT 16 ?_
     refine wT 17 ?_
     refine wT 18 ?_
     refine wpAnyH_done (by kernel_rfl) (NoPanic.normal ?_) _
     refine world_gen ?_
     intro wz hwz
     rw [← hwz] at hHeld
     clear hwz
     have hbz := HB.out.trans (hHeld.1.bel.mono HB.out.size)
     clear hHeld
     go_wp2_with fail
     go_roundw
     case rel => exact ⟨k + 1, by omega, by go_num, by simp [allN, HT.out, HY.out], hbz⟩
     case measure => simp [intOf]; omega
   ·have hb1 : (a1 == 1) = false := by simp [h1]
    have hyes : apB vs t l k = true := by rw [HAP.out, hb1]; rfl
    have HY := Lib.hid hyes
    clear hyes h1
    go_wp2_with fail
    refine wp_region_noPanic ?_
    refine wp_region_held_drew (S := fun w' => BS wr ([] : List Nat) w' ∧ (∀ o : Nat, w'.cell? ⟨w.heap.size, o, none⟩ = (#[.int .i64 t, .int .i64 p, .int .i64 s, .slice (some ad) n c] : Array Value)[o]?) ∧ w'.cell? ⟨g, k + 1, none⟩ = some (.int .i64 y) ∧ w'.cell? ⟨g, k, none⟩ = some (.int .i64 z)) (by kernel_rfl) ?_ (fun hHeld => ?_)
    ·exact ⟨(BS.start wr).drew, HBox.out, hc1, hd1⟩
    refine wT 0 ?_
    refine wT 1 ?_
    refine wT 2 ?_
    refine wT 3 ?_
    refine wT 4 ?_
    refine wR 5 fun K hK => ?_
    go_simp
    refine (calls_b hHeld.1 (I1.out _ (X3.xv.keep hHeld.1.bel))).mono ?_
    rintro e wr1 ⟨rfl, hV, hVl⟩
    dsimp only
    refine hK.out _ _ ?_ (fun hHeld2 => ?_)
    ·exact ⟨hV, hV.oldbox HBox.out hxl, hV.old hc1, hV.old hd1⟩
    clear hK K hV hVl hHeld
    have hHeld := hHeld2
    clear hHeld2
    try simp only [Act.put, zA, zB, zC, zD, zE, zF]
    refine wT 6 ?_
    refine wT 7 ?_
    refine wT 8 ?_
    refine wU 9 ?_
    refine wU 10 ?_
    refine wU 11 ?_
    refine wU 12 ?_
    refine wU 13 ?_
    refine wU 14 ?_
    refine wU 15 ?_
    refine wU 16 ?_
    refine wU 17 ?_
    refine wT 18 ?_
    refine wpAnyH_done (by kernel_rfl) (NoPanic.normal ?_) _
    refine world_gen ?_
    intro wz hwz
    rw [← hwz] at hHeld
    clear hwz
    have hbz := HB.out.trans (hHeld.1.bel.mono HB.out.size)
    clear hHeld
    go_wp2_with fail
    go_roundw
    case rel => exact ⟨k + 1, by omega, by go_num, by simp [allN, HT.out, HY.out], hbz⟩
    case measure => simp [intOf]; omega
  ·obtain rfl : k = l.length - 1 := by omega
   have hres : r = true := by rw [← HR.out]; exact HT.out
   subst hres
   go_wp2
   go_ret
   exact ⟨rfl, X3.bel⟩
end
end Go.Proofs.YtcbikgafdclhaaaGreat
