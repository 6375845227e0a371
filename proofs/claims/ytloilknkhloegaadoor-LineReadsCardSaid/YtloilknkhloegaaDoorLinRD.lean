/- lines: the document's Read. -/
import Derived.Test.YtloilknkhloegaaDoorLinRF
import Derived.Test.YtloilknkhloegaaDoorLinPD
set_option linter.unusedSimpArgs false
set_option linter.unusedVariables false
namespace Go.Proofs.YtloilknkhloegaaDoor
open Go.RowKit

structure RQ (w : World) (s : List UInt8) (k m n : Nat) (l : List PEn) (out : Value) (wr : World) : Prop where
  f : RdF s k m n l
  row : wr.ownsRow 0 54 8 out l.length (entL l)
  own : ∀ x, out.ownBlock = some x → w.heap.size ≤ x
  bel : Below w.heap.size w wr
def RQR (w : World) (s : List UInt8) (out nv fr i : Value) (wr : World) : Prop := ∃ (k m n : Nat) (l : List PEn), fr = .int .i64 m ∧ i = .int .i64 k ∧ nv = .int .i64 n ∧ k ≤ s.length + 1 ∧ out ≠ .slice none 0 0 ∧ RQ w s k m n l out wr
/-- what Read answers: the answer as plain data in memory. -/
def ReadIs (w : World) (R : List PEn × Nat × Int) (en : Ending) (w' : World) : Prop := ∃ pa cap, en = .returned (.tuple #[.slice pa R.1.length cap, .int .i64 R.2.1, .int .i64 R.2.2]) ∧ w'.ownsRow 0 54 8 (.slice pa R.1.length cap) R.1.length (entL R.1) ∧ (∀ x, (Value.slice pa R.1.length cap).ownBlock = some x → w.heap.size ≤ x) ∧ Below w.heap.size w w'
theorem read_nil {w w' : World} {R : List PEn × Nat × Int} {n : Nat} {x : Int} (h : R = ([], n, x)) (hb : Below w.heap.size w w') : ReadIs w R (.returned (.tuple #[.slice none 0 0, .int .i64 n, .int .i64 x])) w' := by
  subst h
  exact ⟨none, 0, rfl, ⟨by simp [entL], Or.inl ⟨rfl, rfl⟩⟩, by simp [Value.ownBlock], hb⟩
theorem rq_next {w wr W2 w5 : World} {s : List UInt8} {k m n : Nat} {l : List PEn} {e : PEn} {pa : Option Addr} {pc : Nat} {v' : Value} {ob1 ob2 : Obj} (hF : RdF s k m n (l ++ [e])) (hown : ∀ x, (Value.slice pa l.length pc).ownBlock = some x → w.heap.size ≤ x) (hb : Below w.heap.size w wr) (b2 : Below wr.heap.size wr W2)
    (h5 : w5.ownsRow 0 54 8 v' (l.length + 1) (entL l ++ entC e)) (hg : ((W2.alloc ob1).alloc ob2).grownBy w5 (Value.slice pa l.length pc).ownBlock) (hnew : ∀ x, v'.ownBlock = some x → (Value.slice pa l.length pc).ownBlock = some x ∨ ((W2.alloc ob1).alloc ob2).heap.size ≤ x) :
    RQ w s k m n (l ++ [e]) v' w5 := by
  have hz := hb.size
  have hz2 := b2.size
  have b3 : Below w.heap.size w ((W2.alloc ob1).alloc ob2) := ((hb.trans (b2.mono hz)).alloc (by omega) _).alloc (by simp; omega) _
  refine ⟨hF, by rw [entL_snoc]; simpa using h5, fun x hx => ?_, b3.grown hg (by simp; omega) (fun x hx => hown x hx)⟩
  rcases hnew x hx with h1 | h1
  · exact hown x h1
  · simp at h1
    omega
set_option maxHeartbeats 4000000 in
set_option maxRecDepth 100000 in
theorem rread_any (s : List UInt8) (w : World) (hsl : s.length ≤ maxLen) :
    Calls Tryd.prog 20 #[.string (bs s)] w (ReadIs w (readF s)) := by
  unfold maxLen at hsl
  by_cases hl : s.length ≤ 65536
  · have HR : Hid (readF s = readL (cutAt 10 s) 0 []) := Lib.hid (if_pos hl)
    obtain ⟨i0, hi0, hi1, hi2, hi3⟩ := info_parts infoEnt
    have HI := Lib.hid (And.intro hi0 (And.intro hi1 (And.intro hi2 hi3)))
    clear hi0 hi1 hi2 hi3
    go_enter Tryd.func20, Tryd.ntmps20
    go_wp2
    go_loopw [5, 6, 7, 8] (fun out nv fr i wr => RQR w s out nv fr i wr) (fun _ _ _ i _ => s.length + 1 - (intOf i).toNat)
    case atStart => exact ⟨0, 0, 0, [], rfl, rfl, rfl, by omega, by simp, rd_start s, by simpa [entL] using lrow_empty w 54 8, by simp [Value.ownBlock], (Below.refl _ _).alloc (Nat.le_refl _) _⟩
    case round =>
      obtain ⟨k, m, n, l, rfl, rfl, rfl, hk1, hnn, hp⟩ := hrel
      obtain ⟨pa, pc, rfl⟩ := srow_shape hp.row
      have HRow := Lib.hid hp.row
      have HF := Lib.hid hp.f
      have HOwn := Lib.hid hp.own
      have HB := Lib.hid hp.bel
      have hmk := hp.f.mle
      have hnk := hp.f.nk
      have hfew := hp.f.few
      clear hp
      by_cases hk : k ≤ s.length
      · have hex := bs_cut s m k
        obtain ⟨t, ht⟩ : ∃ t, t = (s.drop m).take (k - m) := ⟨_, rfl⟩
        have htl : t.length ≤ 65536 := by rw [ht]; simp; omega
        rw [← ht] at hex
        by_cases hpass : k < s.length ∧ s[k]? ≠ some 10
        · obtain ⟨hlt, hc10⟩ := hpass
          have hsz : k < (bs s).size := by simpa [ByteArray.size] using hlt
          obtain ⟨c, hc⟩ : ∃ c, s[k]? = some c := ⟨_, List.getElem?_eq_getElem hlt⟩
          have hcb : (bs s)[k]'hsz = c := by
            obtain ⟨h1, h2⟩ := List.getElem?_eq_some_iff.1 hc
            rw [← h2]
            rfl
          have h10 : c ≠ 10 := fun e => hc10 (by rw [hc, e])
          have hq : ((c.toNat : Int) != 10) = true := by
            rw [bne_iff_ne]
            intro e
            exact h10 (UInt8.toNat_inj.1 (by simpa using (by omega : c.toNat = 10)))
          have HW := Lib.hid (rd_pass HF.out hlt hc10)
          clear hc hc10 ht
          go_wp2
          go_roundw
          case rel => exact ⟨k + 1, m, n, l, rfl, by go_num, rfl, by omega, hnn, HW.out, HRow.out, HOwn.out, HB.out⟩
          case measure => simp [intOf] <;> omega
        · have hc10 : k < s.length → s[k]? = some 10 := fun h => Classical.not_not.1 fun h2 => hpass ⟨h, h2⟩
          obtain ⟨r, hr, hnext⟩ := rd_line HF.out hk hc10
          rw [← ht] at hr
          have HRd := Lib.hid hr
          have HNx := Lib.hid hnext
          clear hr hnext hpass ht
          have HPar := Lib.hid (fun w => rparse_any t w (by omega))
          by_cases hlt : k < s.length
          · have hsz : k < (bs s).size := by simpa [ByteArray.size] using hlt
            have hcb : (bs s)[k]'hsz = 10 := by
              obtain ⟨h1, h2⟩ := List.getElem?_eq_some_iff.1 (hc10 hlt)
              rw [← h2]
              rfl
            clear hc10
            cases t with
            | nil =>
              have HW := Lib.hid (HNx.out (n + 1) l (by omega) hfew (by rw [← HRd.out]; exact (read_skip r n l rfl).symm))
              go_wp2
              go_roundw
              case rel => exact ⟨k + 1, k + 1, n + 1, l, by go_num, by go_num, by go_num, by omega, hnn, HW.out, HRow.out, HOwn.out, HB.out⟩
              case measure => simp [intOf] <;> omega
            | cons c q =>
              have hsz0 : 0 < (bs (c :: q)).size := by simp [ByteArray.size]
              have hcb0 : (bs (c :: q))[0]'hsz0 = c := rfl
              by_cases h35 : c = 35
              · subst h35
                have HW := Lib.hid (HNx.out (n + 1) l (by omega) hfew (by rw [← HRd.out]; exact (read_skip r n l rfl).symm))
                go_wp2
                go_roundw
                case rel => exact ⟨k + 1, k + 1, n + 1, l, by go_num, by go_num, by go_num, by omega, hnn, HW.out, HRow.out, HOwn.out, HB.out⟩
                case measure => simp [intOf] <;> omega
              · have hq35 : ((c.toNat : Int) == 35) = false := by
                  rw [beq_eq_false_iff_ne]
                  intro e
                  exact h35 (UInt8.toNat_inj.1 (by simpa using (by omega : c.toNat = 35)))
                have hsk : skipB (c :: q) = false := by simpa [skipB] using h35
                have HSk := Lib.hid hsk
                clear hsk
                go_wp2_with fail
                refine (HPar.out _).mono ?_
                rintro en W2 (⟨z, hz2, rfl, b2⟩ | ⟨hz2, rfl, b2⟩)
                · have HZ := Lib.hid hz2
                  have HB2 := Lib.hid b2
                  have HR2 := Lib.hid (row_below HRow.out b2)
                  clear hz2 b2
                  unfold enV
                  by_cases h400 : l.length = 400
                  · have hq4 : ((l.length : Int) == 400) = true := by simp; omega
                    have HD := Lib.hid (HR.out.trans (HRd.out.symm.trans (read_many r n l HSk.out HZ.out h400)))
                    go_wp2
                    refine bodyPost_ret (v := .tuple #[.slice none 0 0, .int .i64 ((n : Int) + 1), .int .i64 11]) (by simp [results, Tryd.results20, go_sem]) rfl ?_
                    exact read_nil (n := n + 1) HD.out ((HB.out.trans (HB2.out.mono HB.out.size)).alloc (Nat.le_trans HB.out.size HB2.out.size) _)
                  · have hq4 : ((l.length : Int) == 400) = false := by simp; omega
                    have HD := Lib.hid (HNx.out (n + 1) (l ++ [z]) (by omega) (by simp; omega) (by rw [← HRd.out]; exact (read_more r n l HSk.out HZ.out h400).symm))
                    go_wp2_with (at_builtin; go_must (refine wpL_append rfl _ _ rfl 54 i0 (.agg #[.int .i64 0, .int .i64 0, .int .i64 0, .int .i64 0, .int .i64 0, .int .i64 0, .int .i64 0, .int .i64 0]) 8 64 Tryd.underlying45 HI.out.1 HI.out.2.1 HI.out.2.2.1 HI.out.2.2.2 rfl (by decide) (.slice pa l.length pc) l.length (entL l) rfl ((HR2.out.alloc _).alloc _) ⟨W2.heap.size + 1, 0, none⟩ 1 1 (entC z) rfl rfl ?c0 ?c1 ?c2 ?c3 ?_); go_must (case c0 => (have := cell_news (W2.alloc (.cells (entC z).toArray 54)) (entC z) 54; simpa [entC] using this)); go_must (case c1 => (simp [entC, Value.oneCell'])); go_must (case c2 => (unfold maxLen; omega)); go_must (case c3 => (omega)); go_must (intro v' w5 hown5 hg5 hnew5 hnil5))
                    have hnn5 : v' ≠ .slice none 0 0 := fun e => by have := (hnil5.1 e).2; cases this
                    have HQ := Lib.hid (rq_next HD.out HOwn.out HB.out HB2.out hown5 hg5 hnew5)
                    clear hown5 hg5 hnew5 hnil5
                    go_wp2
                    go_roundw
                    case rel => exact ⟨k + 1, k + 1, n + 1, l ++ [z], by go_num, by go_num, by go_num, by omega, hnn5, HQ.out⟩
                    case measure => simp [intOf] <;> omega
                · have HD := Lib.hid (HR.out.trans (HRd.out.symm.trans (read_none r n l HSk.out hz2)))
                  have HB2 := Lib.hid b2
                  clear hz2 b2
                  unfold enV PEn.none
                  go_wp2
                  refine bodyPost_ret (v := .tuple #[.slice none 0 0, .int .i64 ((n : Int) + 1), .int .i64 10]) (by simp [results, Tryd.results20, go_sem]) rfl ?_
                  exact read_nil (n := n + 1) HD.out ((HB.out.trans (HB2.out.mono HB.out.size)).alloc (Nat.le_trans HB.out.size HB2.out.size) _)
          · obtain rfl : k = s.length := by omega
            clear hc10
            cases t with
            | nil =>
              have HW := Lib.hid (HNx.out (n + 1) l (by omega) hfew (by rw [← HRd.out]; exact (read_skip r n l rfl).symm))
              go_wp2
              go_roundw
              case rel => exact ⟨s.length + 1, s.length + 1, n + 1, l, by go_num, by go_num, by go_num, by omega, hnn, HW.out, HRow.out, HOwn.out, HB.out⟩
              case measure => simp [intOf] <;> omega
            | cons c q =>
              have hsz0 : 0 < (bs (c :: q)).size := by simp [ByteArray.size]
              have hcb0 : (bs (c :: q))[0]'hsz0 = c := rfl
              by_cases h35 : c = 35
              · subst h35
                have HW := Lib.hid (HNx.out (n + 1) l (by omega) hfew (by rw [← HRd.out]; exact (read_skip r n l rfl).symm))
                go_wp2
                go_roundw
                case rel => exact ⟨s.length + 1, s.length + 1, n + 1, l, by go_num, by go_num, by go_num, by omega, hnn, HW.out, HRow.out, HOwn.out, HB.out⟩
                case measure => simp [intOf] <;> omega
              · have hq35 : ((c.toNat : Int) == 35) = false := by
                  rw [beq_eq_false_iff_ne]
                  intro e
                  exact h35 (UInt8.toNat_inj.1 (by simpa using (by omega : c.toNat = 35)))
                have hsk : skipB (c :: q) = false := by simpa [skipB] using h35
                have HSk := Lib.hid hsk
                clear hsk
                go_wp2_with fail
                refine (HPar.out _).mono ?_
                rintro en W2 (⟨z, hz2, rfl, b2⟩ | ⟨hz2, rfl, b2⟩)
                · have HZ := Lib.hid hz2
                  have HB2 := Lib.hid b2
                  have HR2 := Lib.hid (row_below HRow.out b2)
                  clear hz2 b2
                  unfold enV
                  by_cases h400 : l.length = 400
                  · have hq4 : ((l.length : Int) == 400) = true := by simp; omega
                    have HD := Lib.hid (HR.out.trans (HRd.out.symm.trans (read_many r n l HSk.out HZ.out h400)))
                    go_wp2
                    refine bodyPost_ret (v := .tuple #[.slice none 0 0, .int .i64 ((n : Int) + 1), .int .i64 11]) (by simp [results, Tryd.results20, go_sem]) rfl ?_
                    exact read_nil (n := n + 1) HD.out ((HB.out.trans (HB2.out.mono HB.out.size)).alloc (Nat.le_trans HB.out.size HB2.out.size) _)
                  · have hq4 : ((l.length : Int) == 400) = false := by simp; omega
                    have HD := Lib.hid (HNx.out (n + 1) (l ++ [z]) (by omega) (by simp; omega) (by rw [← HRd.out]; exact (read_more r n l HSk.out HZ.out h400).symm))
                    go_wp2_with (at_builtin; go_must (refine wpL_append rfl _ _ rfl 54 i0 (.agg #[.int .i64 0, .int .i64 0, .int .i64 0, .int .i64 0, .int .i64 0, .int .i64 0, .int .i64 0, .int .i64 0]) 8 64 Tryd.underlying45 HI.out.1 HI.out.2.1 HI.out.2.2.1 HI.out.2.2.2 rfl (by decide) (.slice pa l.length pc) l.length (entL l) rfl ((HR2.out.alloc _).alloc _) ⟨W2.heap.size + 1, 0, none⟩ 1 1 (entC z) rfl rfl ?c0 ?c1 ?c2 ?c3 ?_); go_must (case c0 => (have := cell_news (W2.alloc (.cells (entC z).toArray 54)) (entC z) 54; simpa [entC] using this)); go_must (case c1 => (simp [entC, Value.oneCell'])); go_must (case c2 => (unfold maxLen; omega)); go_must (case c3 => (omega)); go_must (intro v' w5 hown5 hg5 hnew5 hnil5))
                    have hnn5 : v' ≠ .slice none 0 0 := fun e => by have := (hnil5.1 e).2; cases this
                    have HQ := Lib.hid (rq_next HD.out HOwn.out HB.out HB2.out hown5 hg5 hnew5)
                    clear hown5 hg5 hnew5 hnil5
                    go_wp2
                    go_roundw
                    case rel => exact ⟨s.length + 1, s.length + 1, n + 1, l ++ [z], by go_num, by go_num, by go_num, by omega, hnn5, HQ.out⟩
                    case measure => simp [intOf] <;> omega
                · have HD := Lib.hid (HR.out.trans (HRd.out.symm.trans (read_none r n l HSk.out hz2)))
                  have HB2 := Lib.hid b2
                  clear hz2 b2
                  unfold enV PEn.none
                  go_wp2
                  refine bodyPost_ret (v := .tuple #[.slice none 0 0, .int .i64 ((n : Int) + 1), .int .i64 10]) (by simp [results, Tryd.results20, go_sem]) rfl ?_
                  exact read_nil (n := n + 1) HD.out ((HB.out.trans (HB2.out.mono HB.out.size)).alloc (Nat.le_trans HB.out.size HB2.out.size) _)
      · obtain rfl : k = s.length + 1 := by omega
        have HE := Lib.hid (HR.out.trans (HF.out.fin rfl).symm)
        go_wp2
        refine bodyPost_ret (v := .tuple #[.slice pa l.length pc, .int .i64 n, .int .i64 0]) (by simp [results, Tryd.results20, go_sem]) rfl ?_
        rw [HE.out]
        exact ⟨pa, pc, rfl, HRow.out, HOwn.out, HB.out⟩
  · have HR : Hid (readF s = ([], 0, 11)) := Lib.hid (if_neg hl)
    go_enter Tryd.func20, Tryd.ntmps20
    go_wp2
    refine bodyPost_ret (v := .tuple #[.slice none 0 0, .int .i64 0, .int .i64 11]) (by simp [results, Tryd.results20, go_sem]) rfl ?_
    exact read_nil (n := 0) HR.out (Below.refl _ _)
end Go.Proofs.YtloilknkhloegaaDoor
