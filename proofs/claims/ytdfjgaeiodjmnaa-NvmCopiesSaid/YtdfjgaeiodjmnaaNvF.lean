/- the program's memories: a line is pending; a crash; copies of words. -/
import Derived.Test.YtdfjgaeiodjmnaaNvK
import Derived.Lib.Walk
import Derived.Lib.SliceRun
set_option linter.unusedSimpArgs false
set_option linter.unusedVariables false
namespace Go.Proofs.Ytdfjgaeiodjmnaa
open Go.RowKit

theorem fLaid : laidOutB Try.prog = true := by kernel_rfl
theorem fWide : (match Try.prog.underlying 58 with | some (.array _ _) | some (.struct _) => true | _ => false) = true := by rw [Try.underlying58]
theorem fLaw : WideMaps.KeyLaw Try.prog 58 := deep_law_laid fLaid (m := 2) (by omega) (of_decide_eq_true (by kernel_rfl)) (by kernel_rfl) fWide
theorem fCells : Try.prog.cellsOf 58 = 2 := by kernel_rfl
theorem iCells : Try.prog.cellsOf 3 = 1 := by kernel_rfl
theorem fType : Try.prog.keyType 58 = true := by kernel_rfl
theorem fSize : ∃ m, Try.prog.types.size = m + 1 := ⟨_, (by kernel_rfl : Try.prog.types.size = (204 - 101) + 1)⟩
theorem fKey (p : Int × Int) (h : I64p p) : ∃ l, keyOf Try.prog 58 (pairKey p) = some l := by
  obtain ⟨⟨a1, a2⟩, a3, a4⟩ := h
  obtain ⟨m, hm⟩ := fSize
  have hf : (pairKey p).formed Try.prog 58 = true := by simp [pairKey, Value.formed, Try.underlying58, fCells]
  unfold keyOf
  simp only [Try.underlying58, fType, hf, hm, Bool.and_true, if_true]
  have wf : ∀ n : Int, -9223372036854775808 ≤ n → n ≤ 9223372036854775807 → (Lit.int .i64 n).wf = true := fun n h1 h2 => by
    simp [Lit.wf]
    exact ⟨h1, h2⟩
  have w1 := wf _ a1 a2
  have w2 := wf _ a3 a4
  simp [pairKey, Value.cells, Program.keyLits, Try.underlying58, Try.underlying3, fCells, iCells, w1, w2]
theorem fPair : PairLaw Try.prog 58 := ⟨fLaw, fKey⟩
theorem uPend : Try.prog.underlying 52 = some (.map 58 3) := Try.underlying52

theorem PMs.pendI {w w' : World} {b pb : Nat} {S : Nat → Prop} {s : NM} {wv kv : Value} {P' : List (Int × Int)} (h : PMs w b S s wv kv pb) (hm : PMap w' pb P') (hg : w.grownBy w' (some pb)) (hi : ({ s with P := P' } : NM).Inv) : PMs w' b S { s with P := P' } wv kv pb ∧ Fr S w w' := by
  have F : Fr S w w' := (Fr.refl _ _).grown hg (fun k hk => by cases hk; exact Or.inl h.inp)
  have hw := h.wp_ne
  have hk := h.kp_ne
  refine ⟨⟨(hg.block b (h.lt b h.inb) (fun e => h.pb_ne (Option.some.inj e.symm))).trans h.cells, ownsRow_block h.wr fun j x => hg.block j (h.lt j (h.inw j x)) (fun e => hw (x.trans e)), ownsRow_block h.kr fun j x => hg.block j (h.lt j (h.ink j x)) (fun e => hk (x.trans e)), hm, h.ne, h.inb, h.inp, h.inw, h.ink, fun j x => Nat.lt_of_lt_of_le (h.lt j x) hg.size, hi⟩, F⟩

theorem mflush_any (b : Nat) (who i : Int) (w : World) (S : Nat → Prop) (s : NM) (h : PM w b S s) :
    Calls Try.prog 11 #[.pointer (some ⟨b, 0, none⟩), .int .i64 who, .int .i64 i] w fun e w' => e = .returned (.bool (s.flush who i).1) ∧ (PM w' b (upd S w w') (s.flush who i).2 ∧ Fr S w w') := by
  have H := mthere_any b i w S s h
  have H2 := msome_any who w
  have hi := h.inv
  obtain ⟨wv, kv, pb, hv⟩ := h
  have h0 := hv.cell 2
  simp at h0
  unfold NM.flush
  cases ht : s.th i
  · rw [ht] at H
    have HH := Lib.hid H
    have HV := Lib.hid hv
    simp only [Bool.false_eq_true, false_and, if_false]
    clear H hv
    go_enter Try.func11, Try.ntmps11
    go_wp2_with fail
    refine HH.out.mono ?_
    rintro e w1 ⟨rfl, rfl⟩
    go_wp2
    go_ret
    exact ⟨rfl, HV.out.same⟩
  · rw [ht] at H
    have HH := Lib.hid H
    cases hs : NM.som who
    · rw [hs] at H2
      have HH2 := Lib.hid H2
      have HV := Lib.hid hv
      simp only [Bool.false_eq_true, and_false, if_false]
      clear H hv H2
      go_enter Try.func11, Try.ntmps11
      go_wp2_with fail
      refine HH.out.mono ?_
      rintro e w1 ⟨rfl, rfl⟩
      go_wp2_with fail
      refine HH2.out.mono ?_
      rintro e w1 ⟨rfl, rfl⟩
      go_wp2
      go_ret
      exact ⟨rfl, HV.out.same⟩
    · rw [hs] at H2
      have HH2 := Lib.hid H2
      obtain ⟨h1, h2⟩ := NM.th_iff.1 ht
      have hsm := hi.small
      have hwho : 0 ≤ who ∧ who ≤ 16 := by simpa [NM.som] using hs
      have hfl := hi.flush who i
      unfold NM.flush at hfl
      rw [if_pos ⟨ht, hs⟩] at hfl
      have HF := Lib.hid hfl
      have HV := Lib.hid hv
      have HM := Lib.hid hv.mp
      have hp : I64p (who, i / 8) := ⟨by dsimp only; omega, by dsimp only; omega⟩
      have HPr := Lib.hid hp
      simp only [true_and, if_true]
      clear H hv H2 hfl hi hp
      go_enter Try.func11, Try.ntmps11
      go_wp2_with fail
      refine HH.out.mono ?_
      rintro e w1 ⟨rfl, rfl⟩
      go_wp2_with fail
      refine HH2.out.mono ?_
      rintro e w1 ⟨rfl, rfl⟩
      go_wp2_with (at_mapUpdate; refine wpL_pupdate rfl _ _ _ rfl HM.out fPair uPend (who, i / 8) HPr.out rfl rfl rfl ?_; intro w2 hm2 hg2)
      obtain ⟨n1, n2⟩ := HV.out.pendI (P' := NM.addP s.P (who, i / 8)) hm2 hg2 HF.out
      have HN := Lib.hid (n1.up n2)
      clear n1 n2 hm2 hg2
      go_wp2
      go_ret
      exact ⟨rfl, HN.out⟩

/-! ### copies of words -/
theorem infoU64 : (Try.prog.info? 24).map (fun i => (i.zero, i.size, i.bytes)) = some (some (.int .u64 0), 1, 8) := by kernel_rfl
set_option maxHeartbeats 1000000 in
set_option maxRecDepth 100000 in
theorem clone64 (ad : Addr) (n c : Nat) (xs : List Int) (w : World) (hl : xs.length = n) (hb : n * 8 ≤ 140737488355328) (hc : ∀ j, j < n → w.cell? (ad.add j) = some (.int .u64 (xs.getD j 0))) :
    Calls Try.prog 27 #[.slice (some ad) n c] w fun e w' => ∃ v', e = .returned v' ∧ w'.ownsRow w.heap.size 24 1 v' n (u64s xs) ∧ v' ≠ .slice none 0 0 ∧ Below w.heap.size w w' := by
  have A := Lib.hid hc
  have q22 : ∀ (w : World) (a : Option Addr) (n c n' c' : Nat), (binOp .eql 22 (.slice a n c) (.slice none n' c')).run Try.prog w = .ok (.bool a.isNone) w := fun w a n c n' c' => Lib.run_eql_slice_nil w _ _ a n c n' c' Try.underlying22
  obtain ⟨i0, hi, hz0, hz1, hz2⟩ := info_parts infoU64
  clear hc
  go_enter Try.func27, Try.ntmps27
  go_wp2_with (at_builtin; refine wpList_append_own _ rfl _ _ 22 rfl w.heap.size 24 i0 (.int .u64 0) 1 8 Try.underlying22 hi hz0 hz1 hz2 rfl (by decide) _ _ _ rfl (World.ownsRow_made w #[] 0 (Nat.le_refl _) (Nat.zero_le _) rfl) ad n c (u64s xs) rfl ?qc1 ?qc2 ?qc3 ?qc4 ?qc5 ?qc6 ?_)
  case qc1 => simp [u64s, hl]
  case qc2 =>
    intro j u hj
    have hjn : j < n := by
      have := (List.getElem?_eq_some_iff.1 hj).1
      simp [u64s] at this
      omega
    refine Lib.cell?_alloc_some _ ?_
    rw [A.out j hjn, ← hj, u64s_get (by omega)]
  case qc3 => intro u hu; obtain ⟨x, _, rfl⟩ := List.mem_map.1 hu; rfl
  case qc4 => unfold maxLen; omega
  case qc5 => omega
  case qc6 => simp
  intro v' w1 hown hgrow hnil
  have HO := Lib.hid (show w1.ownsRow w.heap.size 24 1 v' n (u64s xs) by simpa using hown)
  have HG := Lib.hid hgrow
  have HN := Lib.hid hnil
  clear hown hgrow hnil
  go_wp2
  go_ret
  exact ⟨v', rfl, HO.out, HN.out, ((Below.refl _ w).alloc (Nat.le_refl _) _).grown HG.out (by simp) (by intro k hk; simp [Value.ownBlock] at hk; omega)⟩
end Go.Proofs.Ytdfjgaeiodjmnaa
