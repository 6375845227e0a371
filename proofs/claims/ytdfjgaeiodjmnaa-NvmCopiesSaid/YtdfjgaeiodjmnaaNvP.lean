/- the program's memories: which lines are pending of somebody. -/
import Derived.Test.YtdfjgaeiodjmnaaNvW
import Derived.Test.YtdfjgaeiodjmnaaSort
import Derived.Sort.OwnSortedInts
set_option linter.unusedSimpArgs false
set_option linter.unusedVariables false
namespace Go.Proofs.Ytdfjgaeiodjmnaa
open Go.RowKit

/-! ### plain -/
theorem NM.Inv.pcount {s : NM} (h : s.Inv) : s.P.length ≤ 17 * 8192 := by
  have h1 : s.P.length ≤ ((List.range 17).flatMap fun a : Nat => (List.range 8192).map fun b : Nat => ((a : Int), (b : Int))).length := by
    refine List.Nodup.length_le_of_subset h.nd fun p hp => ?_
    obtain ⟨a0, a1, a2, a3⟩ := h.pb p hp
    have hs := h.small
    refine List.mem_flatMap.2 ⟨p.1.toNat, List.mem_range.2 (by omega), List.mem_map.2 ⟨p.2.toNat, List.mem_range.2 (by omega), ?_⟩⟩
    refine Prod.ext ?_ ?_
    · show ((p.1.toNat : Nat) : Int) = p.1; omega
    · show ((p.2.toNat : Nat) : Int) = p.2; omega
  have h2 : ((List.range 17).flatMap fun a : Nat => (List.range 8192).map fun b : Nat => ((a : Int), (b : Int))).length = 17 * 8192 := by rw [List.length_flatMap]; simp only [List.length_map, List.length_range]; rfl
  omega

/-- the lines of somebody that were met. -/
structure Coll (P rem : List (Int × Int)) (who : Int) (ls : List Int) : Prop where
  nd : ls.Nodup
  mem : ∀ l, l ∈ ls ↔ (who, l) ∈ P ∧ (who, l) ∉ rem
  len : ls.length + rem.length ≤ P.length
theorem Coll.start (P : List (Int × Int)) (who : Int) : Coll P P who [] := ⟨by simp, by simp, by simp⟩
theorem filter_lt {rem : List (Int × Int)} {p : Int × Int} (hp : p ∈ rem) : (rem.filter fun q => !decide (q = p)).length < rem.length := by
  have h1 := List.length_filter_lt_length_iff_exists (l := rem) (p := fun q => !decide (q = p))
  exact h1.2 ⟨p, hp, by simp⟩
theorem Coll.skip {P rem : List (Int × Int)} {who : Int} {ls : List Int} (h : Coll P rem who ls) {p : Int × Int} (hp : p ∈ rem) (hw : p.1 ≠ who) : Coll P (rem.filter fun q => !decide (q = p)) who ls := by
  refine ⟨h.nd, fun l => ?_, ?_⟩
  · rw [h.mem l]
    have hne : (who, l) ≠ p := fun e => hw (by rw [← e])
    simp [List.mem_filter, hne]
  · have := filter_lt hp
    have := h.len
    omega
theorem Coll.take {P rem : List (Int × Int)} {who : Int} {ls : List Int} (h : Coll P rem who ls) {p : Int × Int} (hp : p ∈ rem) (hw : p.1 = who) (hP : p ∈ P) : Coll P (rem.filter fun q => !decide (q = p)) who (ls ++ [p.2]) := by
  have hpe : (who, p.2) = p := by rw [← hw]
  have hno : p.2 ∉ ls := fun hm => ((h.mem _).1 hm).2 (by rw [hpe]; exact hp)
  refine ⟨?_, fun l => ?_, ?_⟩
  · rw [List.nodup_append]
    exact ⟨h.nd, by simp, fun a ha b hb => by simp at hb; subst hb; exact fun e => hno (e ▸ ha)⟩
  · rw [List.mem_append, h.mem l]
    by_cases hl : l = p.2
    · subst hl
      rw [hpe]
      simp [hP]
    · have hne : (who, l) ≠ p := fun e => hl (by rw [← e])
      simp [List.mem_filter, hne, hl]
  · have := filter_lt hp
    have := h.len
    rw [List.length_append]
    simp only [List.length_cons, List.length_nil]
    omega
theorem pend_ints (s : NM) (who : Int) : intCells (s.pend who) = ints ((s.pend who).map fun (n : Nat) => (n : Int)) := by simp [intCells, ints]
theorem Coll.sorted {s : NM} (hi : s.Inv) {who : Int} {ls : List Int} (h : Coll s.P [] who ls) : (ls.mergeSort fun x y => decide (x ≤ y)) = (s.pend who).map fun (n : Nat) => (n : Int) := by
  have tr : ∀ a b c : Int, decide (a ≤ b) = true → decide (b ≤ c) = true → decide (a ≤ c) = true := fun a b c h1 h2 => by simp at *; omega
  have to : ∀ a b : Int, (decide (a ≤ b) || decide (b ≤ a)) = true := fun a b => by simp; omega
  have hnp : ((s.pend who).map fun (n : Nat) => (n : Int)).Nodup := by
    unfold List.Nodup
    rw [List.pairwise_map]
    exact (List.Pairwise.filter _ List.nodup_range).imp fun hne e => hne (by exact_mod_cast e)
  have hp : ls.Perm ((s.pend who).map fun (n : Nat) => (n : Int)) := by
    refine (List.perm_ext_iff_of_nodup h.nd hnp).2 fun l => ?_
    rw [h.mem l]
    constructor
    · rintro ⟨h1, -⟩
      obtain ⟨a0, a1, a2, a3⟩ := hi.pb _ h1
      refine List.mem_map.2 ⟨l.toNat, ?_, by show ((l.toNat : Nat) : Int) = l; dsimp only at a2; omega⟩
      have e : ((l.toNat : Nat) : Int) = l := by dsimp only at a2; omega
      dsimp only at a3
      simp only [NM.pend, List.mem_filter, List.mem_range, decide_eq_true_eq, e]
      exact ⟨by omega, h1⟩
    · intro hm
      obtain ⟨n, hn, rfl⟩ := List.mem_map.1 hm
      exact ⟨(NM.pend_lt hn).2, by simp⟩
  refine List.Perm.eq_of_pairwise (le := fun a b => decide (a ≤ b) = true) (fun a b _ _ h1 h2 => by simp at h1 h2; omega) (List.pairwise_mergeSort tr to ls) ?_ ((List.mergeSort_perm ls _).trans hp)
  rw [List.pairwise_map]
  exact (List.Pairwise.filter _ List.pairwise_lt_range).imp fun hlt => by simp; omega

theorem cell_one_at (w : World) (u : Value) (T : TypeId) (k : Nat) (hk : k = w.heap.size) : ∀ (j : Nat) (x : Value), [u][j]? = some x → (w.alloc (.cells #[u] T)).cell? ((⟨k, 0, none⟩ : Addr).add j) = some x := by
  subst hk
  exact cell_one_new w u T
/-! ### the walk -/
/-- the lines, newly made. -/
def PendP (w : World) (s : NM) (who : Int) (e : Ending) (w' : World) : Prop := ∃ v, e = .returned v ∧ w'.ownsRow w.heap.size 3 1 v (s.pend who).length (intCells (s.pend who)) ∧ Below w.heap.size w w'

structure PeRel (w : World) (pb : Nat) (P : List (Int × Int)) (who : Int) (v5 : Value) (wr : World) (rem : List (Int × Int)) (ls : List Int) : Prop where
  rg : PRng wr pb w.heap.size P rem
  row : wr.ownsRow 0 3 1 v5 ls.length (ints ls)
  own : ∀ k, v5.ownBlock = some k → w.heap.size < k
  bel : Below w.heap.size w wr
  col : Coll P rem who ls
def PeRelE (w : World) (pb : Nat) (P : List (Int × Int)) (who : Int) (v5 : Value) (wr : World) : Prop := ∃ rem ls, PeRel w pb P who v5 wr rem ls
noncomputable def remLen (w : World) (pb r : Nat) : Nat := match w.heap[r]? with
  | some (.mapIter _ _ seen _) => (match w.heap[pb]? with | some (.map es _) => (leftOf es seen).size | _ => 0)
  | _ => 0
theorem PRng.rem_len {w : World} {pb r : Nat} {P rem : List (Int × Int)} (h : PRng w pb r P rem) : remLen w pb r = rem.length := by
  obtain ⟨es, clk, s, n, c, h1, -, h2, -, -, -, h3, -⟩ := h
  unfold remLen
  rw [h2, h1]
  have := congrArg List.length h3
  simpa using this

theorem insort_nil (w : World) : Calls Try.prog 46 #[.slice none 0 0, .int .i64 0, .int .i64 0] w fun e w' => e = .returned (.tuple #[]) ∧ w = w' := by
  go_enter Try.func46, Try.ntmps46
  go_wp2
  refine wp_loop_rounds 1 ?_
  rw [rounds_succ]
  go_wp2
  go_end0
  exact ⟨rfl, rfl⟩
set_option maxRecDepth 100000 in
theorem pdq_nil (w : World) : Calls Try.prog 43 #[.slice none 0 0, .int .i64 0, .int .i64 0, .int .i64 0] w fun e w' => e = .returned (.tuple #[]) ∧ w = w' := by
  go_enter Try.func43, Try.ntmps43
  go_wp2
  refine wp_loop_rounds 1 ?_
  rw [rounds_succ]
  go_wp2_with fail
  refine (insort_nil _).mono ?_
  rintro e w' ⟨rfl, rfl⟩
  go_wp2
  refine bodyPost_ret (results_none rfl _ _ _) rfl ?_
  exact ⟨rfl, rfl⟩
theorem len64_nil (w : World) : Calls Try.prog 56 #[.int .u64 0] w fun e w' => e = .returned (.int .i64 0) ∧ w = w' := by
  have h8 : Go.Lib.len8 0 = 0 := by kernel_rfl
  go_enter Try.func56, Try.ntmps56
  go_wp2
  go_ret
  exact ⟨rfl, rfl⟩
theorem len_nil (w : World) : Calls Try.prog 44 #[.int .u64 0] w fun e w' => e = .returned (.int .i64 0) ∧ w = w' := by
  go_enter Try.func44, Try.ntmps44
  go_wp2_with fail
  refine (len64_nil _).mono ?_
  rintro e w' ⟨rfl, rfl⟩
  go_wp2
  go_ret
  exact ⟨rfl, rfl⟩
set_option maxRecDepth 100000 in
theorem sort_nil (w : World) : Calls Try.prog 40 #[.slice none 0 0] w fun e w' => e = .returned (.tuple #[]) ∧ w = w' := by
  go_enter Try.func40, Try.ntmps40
  go_wp2_with fail
  refine (len_nil _).mono ?_
  rintro e w' ⟨rfl, rfl⟩
  go_wp2_with fail
  refine (pdq_nil _).mono ?_
  rintro e w' ⟨rfl, rfl⟩
  go_wp2
  go_end0
  exact ⟨rfl, rfl⟩

theorem mpend_any (b : Nat) (who : Int) (w : World) (S : Nat → Prop) (s : NM) (h : PM w b S s) :
    Calls Try.prog 22 #[.pointer (some ⟨b, 0, none⟩), .int .i64 who] w (PendP w s who) := by
  obtain ⟨wv, kv, pb, hv⟩ := h
  have h2 := hv.cell 2
  simp at h2
  have hpl := hv.lt pb hv.inp
  have HM := Lib.hid hv.mp
  have HI := Lib.hid hv.inv
  have hcount := hv.inv.pcount
  have HCnt := Lib.hid hcount
  clear hv hcount
  obtain ⟨i0, hi0, hi1, hi2, hi3⟩ := info_parts infoInt
  have HT := Lib.hid (And.intro hi0 (And.intro hi1 (And.intro hi2 hi3)))
  clear hi0 hi1 hi2 hi3
  go_enter Try.func22, Try.ntmps22
  go_wp2_with (at_range; refine wpL_prange rfl _ rfl HM.out uPend rfl ?_; intro w1 hr1 hb1 hz1)
  have HR1 := Lib.hid hr1
  have HB1 := Lib.hid hb1
  clear hr1 hb1 hz1
  go_frame
  go_loopw [5] (fun v5 wr => PeRelE w pb s.P who v5 wr) (fun _ wr => remLen wr pb w.heap.size)
  case atStart => exact ⟨s.P, [], HR1.out, ⟨by simp [ints], Or.inl ⟨rfl, rfl⟩⟩, by simp [Value.ownBlock], HB1.out, Coll.start _ _⟩
  case round =>
    obtain ⟨rem, ls, hrg, hrow, hown, hbel, hcol⟩ := hrel
    have HRg := Lib.hid hrg
    have HRow := Lib.hid hrow
    have HOwn := Lib.hid hown
    have HBel := Lib.hid hbel
    have HCol := Lib.hid hcol
    clear hrg hrow hown hbel hcol
    go_wp2_with (at_next; refine wpL_pnext rfl _ rfl HRg.out rfl ?_ ?_)
    · intro h0
      subst h0
      have HSo := Lib.hid (HCol.out.sorted HI.out)
      have hlen : ls.length = (s.pend who).length := by
        have := congrArg List.length HSo.out
        simpa using this
      rcases HRow.out.2 with ⟨rfl, hn⟩ | ⟨g, cap, cur, rfl, -, hbk, q1, q2, q3, q4⟩
      · have HL := Lib.hid hlen
        have HN := Lib.hid hn
        clear hlen hn
        go_wp2_with fail
        refine (sort_nil _).mono ?_
        rintro e w3 ⟨rfl, rfl⟩
        go_wp2
        go_ret
        have hz : (s.pend who) = [] := List.eq_nil_of_length_eq_zero (by have := HL.out; have := HN.out; omega)
        exact ⟨_, rfl, by rw [hz]; exact ⟨by simp [intCells], Or.inl ⟨rfl, rfl⟩⟩, HBel.out⟩
      · have hg0 := HOwn.out g rfl
        have hlb : ls.length ≤ 17 * 8192 := by
          have := HCol.out.len
          have := HCnt.out
          omega
        have hso := sort_any g cap ls wr (holds_of_blockI hbk (by simpa [ints] using q4)) (Array.getElem?_eq_some_iff.1 hbk).1 (by omega)
        have HS := Lib.hid hso
        have HOs := fun n os => ownsRow_sortedI (n := n) (os := os) (ss := ls) (ts := ls.mergeSort fun x y => decide (x ≤ y)) (base := w.heap.size) (by simp) (by omega) hbk q1 q2 q3
        have HO2 := Lib.hid HOs
        have HL := Lib.hid hlen
        clear hso HOs hbk q1 q2 q3 q4 hlb hlen
        go_wp2_with fail
        refine HS.out.mono ?_
        rintro e w3 ⟨rfl, nn, os, rfl⟩
        have ho := HO2.out nn os
        have hb3 : Below w.heap.size w (Go.Sort.grow (Go.Sort.putRow (Value.int .i64) (Go.Sort.ahead wr nn) g 0 (ls.mergeSort fun x y => decide (x ≤ y)).toArray) os) := HBel.out.grown (grownBy_sortedI _) HBel.out.size (fun k hk => by cases hk; omega)
        generalize Go.Sort.grow (Go.Sort.putRow (Value.int .i64) (Go.Sort.ahead wr nn) g 0 (ls.mergeSort fun x y => decide (x ≤ y)).toArray) os = w4 at ho hb3 ⊢
        rw [HSo.out, HL.out] at ho
        have HO3 := Lib.hid ho
        have HB3 := Lib.hid hb3
        clear ho hb3
        go_wp2
        go_ret
        exact ⟨_, rfl, by rw [pend_ints, HL.out]; exact HO3.out, HB3.out⟩
    · intro p1 p2 w2 hp hr2 hg2 hs2 hen
      have hen2 : (Instr.entry (.pointer (some ⟨w.heap.size, 0, none⟩))).run Try.prog w2 = .ok (.tuple #[.agg #[.int .i64 p1, .int .i64 p2], .int .i64 1]) w2 := hen
      have hkey : pairKey (p1, p2) = .agg #[.int .i64 p1, .int .i64 p2] := rfl
      rw [hkey]
      have HP := Lib.hid hp
      have HR2 := Lib.hid hr2
      have HB2 := Lib.hid (HBel.out.grown hg2 HBel.out.size (fun k hk => by cases hk; exact Nat.le_refl _))
      have HRow2 := Lib.hid (ownsRow_block (w' := w2) HRow.out fun k hk => hg2.block k (ownsRow_lt HRow.out hk) (fun e => by have := HOwn.out k hk; cases e; omega))
      have hpP : (p1, p2) ∈ s.P := by
        obtain ⟨_, _, _, _, _, _, _, _, _, _, _, _, hsub⟩ := HRg.out
        exact hsub _ hp
      have HPP := Lib.hid hpP
      clear hp hr2 hg2 hs2 hen hkey hpP
      have hlb : ls.length ≤ 17 * 8192 := by
        have := HCol.out.len
        have := HCnt.out
        omega
      have hz2 : w.heap.size < w2.heap.size := HR2.out.lt
      obtain ⟨pa, pc, rfl⟩ := row_shape HRow2.out
      by_cases hw : p1 = who
      · subst hw
        have HCo := Lib.hid (HCol.out.take HP.out rfl HPP.out)
        go_wp2_with (at_builtin; go_must (refine wpL_append rfl _ _ rfl 3 i0 (.int .i64 0) 1 8 Try.underlying48 HT.out.1 HT.out.2.1 HT.out.2.2.1 HT.out.2.2.2 rfl (by decide) (.slice pa ls.length pc) ls.length (ints ls) rfl ((HRow2.out.alloc _).alloc _) ⟨_, 0, none⟩ 1 1 [.int .i64 p2] rfl rfl (cell_one_at _ _ _ _ (by simp)) ?c1 ?c2 ?c3 ?_); go_must (case c1 => (simp [Value.oneCell'])); go_must (case c2 => (unfold maxLen; omega)); go_must (case c3 => (omega)); go_must (intro v' w5 hown5 hg5 hnew5 hnil5); clear hnil5; go_must (obtain ⟨g', cap', rfl⟩ := Joins.ownsRow_form hown5 (by omega)))
        have hR5 := HR2.out.block (w' := w5) ((hg5.block pb (by simp; omega) (fun e => by have := HOwn.out pb e.symm; omega)).trans ((Below.heap_alloc _ _ _ (by simp; omega)).trans (Below.heap_alloc _ _ _ (by omega)))) ((hg5.block w.heap.size (by simp; omega) (fun e => by have := HOwn.out _ e.symm; omega)).trans ((Below.heap_alloc _ _ _ (by simp; omega)).trans (Below.heap_alloc _ _ _ hz2)))
        have hl5 : remLen w5 pb w.heap.size < remLen wr pb w.heap.size := by
          rw [hR5.rem_len, HRg.out.rem_len]
          exact filter_lt HP.out
        have HR5 := Lib.hid hR5
        have HL5 := Lib.hid hl5
        have HRw := Lib.hid (show w5.ownsRow 0 3 1 (.slice (some ⟨g', 0, none⟩) (ls.length + 1) cap') (ls ++ [p2]).length (ints (ls ++ [p2])) by rw [List.length_append]; simpa [ints] using hown5)
        have HOw := Lib.hid (show ∀ k, (Value.slice (some ⟨g', 0, none⟩) (ls.length + 1) cap').ownBlock = some k → w.heap.size < k from fun k hk => by
          rcases hnew5 k hk with h1 | h1
          · exact HOwn.out k h1
          · simp at h1; omega)
        have HB5 := Lib.hid (((HB2.out.alloc HB2.out.size _).alloc (by simp; omega) _).grown hg5 (by simp; omega) (fun k hk => Nat.le_of_lt (HOwn.out k hk)))
        clear hR5 hl5 hown5 hg5 hnew5
        go_wp2
        go_roundw
        case rel => exact ⟨_, ls ++ [p2], HR5.out, HRw.out, HOw.out, HB5.out, HCo.out⟩
        case measure => exact HL5.out
      · have HCo := Lib.hid (HCol.out.skip HP.out hw)
        have hwb : (p1 == who) = false := by simpa using hw
        go_wp2
        go_roundw
        case rel => exact ⟨_, ls, HR2.out.block (Below.heap_alloc _ _ _ (by omega)) (Below.heap_alloc _ _ _ hz2), HRow2.out.alloc _, HOwn.out, HB2.out.alloc HB2.out.size _, HCo.out⟩
        case measure =>
          rw [(HR2.out.block (Below.heap_alloc _ _ _ (by omega)) (Below.heap_alloc _ _ _ hz2)).rem_len, HRg.out.rem_len]
          exact filter_lt HP.out
end Go.Proofs.Ytdfjgaeiodjmnaa
