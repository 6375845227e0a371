/- the document's memories: Fence, Pending. -/
import Derived.Test.YtdfjgaeiodjmnaaNvT
set_option linter.unusedSimpArgs false
set_option linter.unusedVariables false
namespace Go.Proofs.Ytdfjgaeiodjmnaa
open Go.RowKit

theorem NM.steps_P (who : Int) : ∀ (l : List Nat) (s : NM) (p : Int × Int), p ∈ (l.foldl (NM.step who) s).P ↔ p ∈ s.P ∧ ∀ x ∈ l, p ≠ (who, (x : Int))
  | [], s, p => by simp
  | a :: l, s, p => by
    rw [List.foldl_cons, NM.steps_P who l, NM.step_eq]
    dsimp only
    rw [NM.mem_delP]
    simp only [List.mem_cons, forall_eq_or_imp, and_assoc]

/-- the lines of somebody below k. -/
def pendK (s : NM) (who : Int) (k : Nat) : List Nat := (List.range k).filter fun l => decide ((who, (l : Int)) ∈ s.P)
theorem pendK_all (s : NM) (who : Int) : pendK s who (s.W.length / 8) = s.pend who := rfl
theorem pendK_yes {s : NM} {who : Int} {k : Nat} (h : (who, (k : Int)) ∈ s.P) : pendK s who (k + 1) = pendK s who k ++ [k] := by
  unfold pendK
  rw [List.range_succ, List.filter_append]
  simp [h]
theorem pendK_no {s : NM} {who : Int} {k : Nat} (h : (who, (k : Int)) ∉ s.P) : pendK s who (k + 1) = pendK s who k := by
  unfold pendK
  rw [List.range_succ, List.filter_append]
  simp [h]
theorem pendK_len (s : NM) (who : Int) (k : Nat) : (pendK s who k).length ≤ k := by
  unfold pendK
  have := List.length_filter_le (fun l : Nat => decide ((who, (l : Int)) ∈ s.P)) (List.range k)
  simpa using this
theorem pendK_flag {s : NM} {who : Int} {k : Nat} : (who, (k : Int)) ∈ ((pendK s who k).foldl (NM.step who) s).P ↔ (who, (k : Int)) ∈ s.P := by
  rw [NM.steps_P]
  refine ⟨fun h => h.1, fun h => ⟨h, fun x hx e => ?_⟩⟩
  have hx2 : x < k := by
    unfold pendK at hx
    have := (List.mem_filter.1 hx).1
    simpa using this
  simp at e
  omega
theorem NM.fence_out {s : NM} (h : s.Inv) {who : Int} (hw : ¬ (0 ≤ who ∧ who ≤ 16)) : s.pend who = [] := by
  unfold NM.pend
  refine List.filter_eq_nil_iff.2 fun l _ => ?_
  simp only [decide_eq_true_eq]
  intro hm
  obtain ⟨a0, a1, -, -⟩ := h.pb _ hm
  exact hw ⟨a0, a1⟩

structure FqRel (w : World) (b : Nat) (S : Nat → Prop) (s : NM) (who : Int) (vn vl : Value) (wr : World) (k : Nat) : Prop where
  le : k ≤ s.W.length / 8
  eq : vl = .int .i64 k
  en : vn = .int .i64 ((pendK s who k).length : Nat)
  st : NSt RM w b S [] ((pendK s who k).foldl (NM.step who) s) wr
def FqRelE (w : World) (b : Nat) (S : Nat → Prop) (s : NM) (who : Int) (vn vl : Value) (wr : World) : Prop := ∃ k, FqRel w b S s who vn vl wr k

theorem rfence_out (b : Nat) (who : Int) (w : World) (S : Nat → Prop) (s : NM) (h : RM w b S s) (hw : ¬ (0 ≤ who ∧ who ≤ 16)) :
    Calls Try.prog 37 #[.pointer (some ⟨b, 0, none⟩), .int .i64 who] w fun e w' => e = .returned (.int .i64 (s.fence who).1) ∧ (RM w' b (upd S w w') (s.fence who).2 ∧ Fr S w w') := by
  have e1 : s.fence who = (0, s) := by simp [NM.fence, NM.fence_out h.1 hw]
  rw [e1]
  have HS := Lib.hid h
  clear e1 h
  by_cases a1 : who < 0
  · skip
    go_enter Try.func37, Try.ntmps37
    go_wp2
    go_ret
    exact ⟨rfl, HS.out.same⟩
  · have a2 : 16 < who := by omega
    go_enter Try.func37, Try.ntmps37
    go_wp2
    go_ret
    exact ⟨rfl, HS.out.same⟩

set_option maxHeartbeats 1000000 in
theorem rfence_in (b u : Nat) (w : World) (S : Nat → Prop) (s : NM) (h : RM w b S s) (hu : u ≤ 16) :
    Calls Try.prog 37 #[.pointer (some ⟨b, 0, none⟩), .int .i64 u] w fun e w' => e = .returned (.int .i64 (s.fence u).1) ∧ (RM w' b (upd S w w') (s.fence u).2 ∧ Fr S w w') := by
  have HS := Lib.hid (NSt.start keepsRM h)
  have hsm := h.1.small
  have hpos := h.1.pos
  have hoct := h.1.oct
  have hu17 : (u : Int) < 17 := by omega
  have hu16 : (u : Int) ≤ 16 := by omega
  have hu0 : ¬ (16 : Int) < u := by omega
  clear h
  obtain ⟨q, hq⟩ : ∃ q, s.W.length / 8 = q := ⟨_, rfl⟩
  have HQ := Lib.hid hq
  go_enter Try.func37, Try.ntmps37
  go_wp2
  go_loopw [5, 6] (fun vn vl wr => FqRelE w b S s u vn vl wr) (fun _ vl _ => q - (intOf vl).toNat)
  case atStart => exact ⟨0, by omega, rfl, rfl, by simpa [pendK] using HS.out⟩
  case round =>
    obtain ⟨k, hk, rfl, rfl, hst⟩ := hrel
    rw [HQ.out] at hk
    obtain ⟨S1, ⟨hinv, wv, kv, pv, hrq⟩, hS1, hL1⟩ := hst.ex
    have hW := NM.steps_W (u : Int) (pendK s u k) s
    have hflag := pendK_flag (s := s) (who := (u : Int)) (k := k)
    have hq8 : ((pendK s u k).foldl (NM.step u) s).W.length / 8 = q := by rw [hW]; exact HQ.out
    obtain ⟨gp, cp, hpv⟩ := hrq.pform (i := u) (by omega) (by rw [hq8, ← HQ.out]; omega)
    have hcp := hrq.cellP (i := u) (by omega)
    rw [hpv, hq8] at hcp
    have hlen := pendK_len s u k
    by_cases hlt : k < q
    · have hkl : (k : Int) < q := by omega
      have hr := hrq.pr u (by omega)
      rw [hpv] at hr
      have hc : wr.cell? ⟨gp, k, none⟩ = some (.bool (decide (((u : Int), (k : Int)) ∈ s.P))) := by
        rw [hr.cellAt k (by omega)]
        rw [flagRow, rowF_get _ (by omega)]
        simp [hflag]
      by_cases hm : ((u : Int), (k : Int)) ∈ s.P
      · have hmd : decide (((u : Int), (k : Int)) ∈ s.P) = true := by simpa using hm
        rw [hmd] at hc
        have hK1 := pendK_yes hm
        have hfo : ((pendK s u (k + 1)).foldl (NM.step u) s) = NM.step u ((pendK s u k).foldl (NM.step u) s) k := by rw [hK1, List.foldl_append]; rfl
        have hl1 : (pendK s u (k + 1)).length = (pendK s u k).length + 1 := by rw [hK1]; simp
        obtain ⟨st, hstt⟩ : ∃ st, (pendK s u k).foldl (NM.step u) s = st := ⟨_, rfl⟩
        obtain ⟨z, hz⟩ : ∃ z, (pendK s u k).length = z := ⟨_, rfl⟩
        rw [hstt] at hst hfo hW hq8 hinv hrq
        rw [hz] at hl1 hlen ⊢
        have HSt := Lib.hid hst
        have HFo := Lib.hid hfo
        have HL1 := Lib.hid hl1
        have HIn := Lib.hid (hinv.step u k)
        have hW8 := Lib.hid hq8
        have HE := Lib.hid (fun S1 (h1 : RM wr b S1 st) => revict_yes b k 255 wr S1 st h1 (by rw [hq8]; exact hlt) (by omega) (by omega))
        clear hst hrq hr hpv hflag hm hmd hK1 hfo hl1 hstt hz hq8 hinv hW hS1 hL1
        go_wp2_with fail
        refine (calls_nst HSt.out HE.out).mono ?_
        rintro e w2 ⟨rfl, hn2, -⟩
        obtain ⟨S2, ⟨hi2, wv2, kv2, pv2, hr2⟩, hS2, hL2⟩ := hn2.ex
        obtain ⟨gq, cq, hpv2⟩ := hr2.pform (i := u) (by omega) (by show 0 < st.W.length / 8; rw [hW8.out]; omega)
        have hcp2 := hr2.cellP (i := u) (by omega)
        have hrow2 := hr2.pr u (by omega)
        rw [hpv2] at hcp2 hrow2
        have hW8b : st.W.length / 8 = q := hW8.out
        rw [show ({ W := st.W, K := NM.keepI st.W k ((255 : Nat) : Int) 8 st.K, P := st.P } : NM).W.length / 8 = q from hW8b] at hcp2
        have hc2 : ∃ bb, w2.cell? ⟨gq, k, none⟩ = some (.bool bb) := by
          have h1 := hrow2.cellAt k (by show k < st.W.length / 8 * 1; omega)
          unfold flagRow at h1
          rw [rowF_get _ (by show k < st.W.length / 8; omega)] at h1
          exact ⟨_, h1⟩
        obtain ⟨bb, hc2⟩ := hc2
        have hf2 := hrow2.frozenAt k
        obtain ⟨n1, n2⟩ := hr2.storeP (i := u) (by omega) hpv2 k false
        have e1 : (fun j => if j = u then (flagRow { W := st.W, K := NM.keepI st.W k ((255 : Nat) : Int) 8 st.K, P := st.P } u).set k (.bool false) else flagRow { W := st.W, K := NM.keepI st.W k ((255 : Nat) : Int) 8 st.K, P := st.P } j) = flagRow (NM.step u st k) := by
          funext j
          exact (flagRow_del (s := { W := st.W, K := NM.keepI st.W k ((255 : Nat) : Int) 8 st.K, P := st.P }) u k _ j).symm
        rw [e1] at n1
        obtain ⟨n3, -⟩ := hn2.turn (s' := NM.step u st k) hS2 hL2 ⟨HIn.out, _, _, _, n1⟩ n2
        have HN3 := Lib.hid n3
        clear hn2 hr2 hrow2 hi2 hS2 hL2 n1 n2 n3 e1 hpv2
        go_wp2
        go_roundw
        case rel => exact ⟨k + 1, by rw [HQ.out]; omega, by go_num, by rw [HL1.out]; go_num, by rw [HFo.out]; exact HN3.out⟩
        case measure => simp [intOf]; omega
      · have hmd : decide (((u : Int), (k : Int)) ∈ s.P) = false := by simpa using hm
        rw [hmd] at hc
        have HK1 := Lib.hid (pendK_no hm)
        have HSt := Lib.hid hst
        clear hst hrq hr hpv hflag hm hmd hq8 hinv hW hS1 hL1
        go_wp2
        go_roundw
        case rel => exact ⟨k + 1, by rw [HQ.out]; omega, by go_num, by rw [HK1.out], by rw [HK1.out]; exact HSt.out⟩
        case measure => simp [intOf]; omega
    · have hke : k = s.W.length / 8 := by rw [HQ.out]; omega
      have hkl : ¬ (k : Int) < q := by omega
      have hd := hst.done keepsRM
      have hfe : s.fence u = ((((pendK s u k).length : Nat) : Int), (pendK s u k).foldl (NM.step u) s) := by rw [hke]; rfl
      have HFe := Lib.hid hfe
      have HD := Lib.hid hd
      clear hst hrq hpv hflag hd hke hfe hq8 hinv hW hS1 hL1
      go_wp2
      go_ret
      rw [HFe.out]
      exact ⟨rfl, HD.out⟩
theorem rfence_any (b : Nat) (who : Int) (w : World) (S : Nat → Prop) (s : NM) (h : RM w b S s) :
    Calls Try.prog 37 #[.pointer (some ⟨b, 0, none⟩), .int .i64 who] w fun e w' => e = .returned (.int .i64 (s.fence who).1) ∧ (RM w' b (upd S w w') (s.fence who).2 ∧ Fr S w w') := by
  by_cases hw : 0 ≤ who ∧ who ≤ 16
  · obtain ⟨u, rfl⟩ := Int.eq_ofNat_of_zero_le hw.1
    exact rfence_in b u w S s h (by omega)
  · exact rfence_out b who w S s h hw

/-! ### Pending -/
structure PqRel (w : World) (b : Nat) (S : Nat → Prop) (s : NM) (who : Int) (vo vl : Value) (wr : World) (k : Nat) : Prop where
  le : k ≤ s.W.length / 8
  eq : vl = .int .i64 k
  row : wr.ownsRow 0 3 1 vo (pendK s who k).length (intCells (pendK s who k))
  own : ∀ x, vo.ownBlock = some x → w.heap.size ≤ x
  bel : Below w.heap.size w wr
def PqRelE (w : World) (b : Nat) (S : Nat → Prop) (s : NM) (who : Int) (vo vl : Value) (wr : World) : Prop := ∃ k, PqRel w b S s who vo vl wr k

theorem ownsRow_base {w : World} {B e sz n : Nat} {v : Value} {xs : List Value} (h : w.ownsRow 0 e sz v n xs) (hB : ∀ x, v.ownBlock = some x → B ≤ x) : w.ownsRow B e sz v n xs := by
  rcases h.2 with ⟨h0, h1⟩ | ⟨g, cap, cur, rfl, h1, h2⟩
  · exact ⟨h.1, Or.inl ⟨h0, h1⟩⟩
  · exact ⟨h.1, Or.inr ⟨g, cap, cur, rfl, hB g rfl, h2⟩⟩
theorem row_nil (w : World) (base e sz : Nat) (h : base ≤ w.heap.size) : (w.alloc (.cells #[] e)).ownsRow base e sz (.slice (some ⟨w.heap.size, 0, none⟩) 0 0) 0 [] :=
  ⟨by simp, Or.inr ⟨w.heap.size, 0, #[], rfl, h, heap_alloc_new w _, Nat.le_refl _, by unfold maxLen; omega, by simp, by simp⟩⟩

theorem rpend_out (b : Nat) (who : Int) (w : World) (S : Nat → Prop) (s : NM) (h : RM w b S s) (hw : ¬ (0 ≤ who ∧ who ≤ 16)) :
    Calls Try.prog 23 #[.pointer (some ⟨b, 0, none⟩), .int .i64 who] w (PendP w s who) := by
  have HE := Lib.hid (NM.fence_out h.1 hw)
  clear h
  by_cases a1 : who < 0
  · skip
    go_enter Try.func23, Try.ntmps23
    go_wp2
    go_ret
    exact ⟨_, rfl, by rw [HE.out]; exact row_nil w _ _ _ (Nat.le_refl _), (Below.refl _ _).alloc (Nat.le_refl _) _⟩
  · have a2 : 16 < who := by omega
    go_enter Try.func23, Try.ntmps23
    go_wp2
    go_ret
    exact ⟨_, rfl, by rw [HE.out]; exact row_nil w _ _ _ (Nat.le_refl _), (Below.refl _ _).alloc (Nat.le_refl _) _⟩

set_option maxHeartbeats 1000000 in
theorem rpend_in (b u : Nat) (w : World) (S : Nat → Prop) (s : NM) (h : RM w b S s) (hu : u ≤ 16) :
    Calls Try.prog 23 #[.pointer (some ⟨b, 0, none⟩), .int .i64 u] w (PendP w s u) := by
  have hsm := h.1.small
  have hpos := h.1.pos
  have hoct := h.1.oct
  have hu17 : (u : Int) < 17 := by omega
  have hu16 : (u : Int) ≤ 16 := by omega
  have hu0 : ¬ (16 : Int) < u := by omega
  obtain ⟨-, wv, kv, pv, hrq⟩ := h
  obtain ⟨gp, cp, hpv⟩ := hrq.pform (i := u) (by omega) (by omega)
  have hcp := hrq.cellP (i := u) (by omega)
  have hr := hrq.pr u (by omega)
  rw [hpv] at hcp hr
  have HR := Lib.hid hr
  have hbl := World.block_lt_of_cell? w _ hcp
  simp at hbl
  obtain ⟨q, hq⟩ : ∃ q, s.W.length / 8 = q := ⟨_, rfl⟩
  rw [hq] at hcp
  have HQ := Lib.hid hq
  have hqb : q ≤ 8192 := by omega
  have hgl : gp < w.heap.size := (hr.lt gp rfl).2
  obtain ⟨i0, hi0, hi1, hi2, hi3⟩ := info_parts infoInt
  have HT := Lib.hid (And.intro hi0 (And.intro hi1 (And.intro hi2 hi3)))
  clear hrq hpv hr hq hi0 hi1 hi2 hi3
  go_enter Try.func23, Try.ntmps23
  go_wp2
  go_loopw [5, 6] (fun vo vl wr => PqRelE w b S s u vo vl wr) (fun _ vl _ => q - (intOf vl).toNat)
  case atStart => exact ⟨0, by omega, rfl, Joins.ownsRow_le (row_nil w _ _ _ (Nat.le_refl _)) (Nat.zero_le _), by simp [Value.ownBlock], (Below.refl _ _).alloc (Nat.le_refl _) _⟩
  case round =>
    obtain ⟨k, hk, rfl, hrow, hown, hbel⟩ := hrel
    rw [HQ.out] at hk
    have hlen := pendK_len s u k
    have hcq := (hbel.cell (p := ⟨b, 2 + u, none⟩) hbl).trans hcp
    by_cases hlt : k < q
    · have hkl : (k : Int) < q := by omega
      have hc : wr.cell? ⟨gp, k, none⟩ = some (.bool (decide (((u : Int), (k : Int)) ∈ s.P))) := by
        refine (hbel.cell (p := ⟨gp, k, none⟩) hgl).trans ?_
        rw [HR.out.cellAt k (by rw [HQ.out]; omega)]
        exact rowF_get _ (by rw [HQ.out]; exact hlt)
      by_cases hm : ((u : Int), (k : Int)) ∈ s.P
      · have hmd : decide (((u : Int), (k : Int)) ∈ s.P) = true := by simpa using hm
        rw [hmd] at hc
        have HK1 := Lib.hid (pendK_yes hm)
        obtain ⟨pa, pc, rfl⟩ := row_shape hrow
        have HRow := Lib.hid hrow
        have HOwn := Lib.hid hown
        have HBel := Lib.hid hbel
        clear hrow hown hbel hm hmd
        go_wp2_with (at_builtin; go_must (refine wpL_append rfl _ _ rfl 3 i0 (.int .i64 0) 1 8 Try.underlying48 HT.out.1 HT.out.2.1 HT.out.2.2.1 HT.out.2.2.2 rfl (by decide) (.slice pa (pendK s u k).length pc) (pendK s u k).length (intCells (pendK s u k)) rfl (HRow.out.alloc _) ⟨_, 0, none⟩ 1 1 [.int .i64 k] rfl rfl (cell_one_at _ _ _ _ (by simp)) ?c1 ?c2 ?c3 ?_); go_must (case c1 => (simp [Value.oneCell'])); go_must (case c2 => (unfold maxLen; omega)); go_must (case c3 => (omega)); go_must (intro v' w5 hown5 hg5 hnew5 hnil5); clear hnil5; go_must (obtain ⟨g', cap', rfl⟩ := Joins.ownsRow_form hown5 (by omega)))
        have HRw := Lib.hid (show w5.ownsRow 0 3 1 (.slice (some ⟨g', 0, none⟩) ((pendK s u k).length + 1) cap') (pendK s u (k + 1)).length (intCells (pendK s u (k + 1))) by rw [HK1.out, List.length_append]; simpa [intCells] using hown5)
        have HOw := Lib.hid (show ∀ x, (Value.slice (some ⟨g', 0, none⟩) ((pendK s u k).length + 1) cap').ownBlock = some x → w.heap.size ≤ x from fun x hx => by
          have := HBel.out.size
          rcases hnew5 x hx with h1 | h1
          · exact HOwn.out x h1
          · simp at h1; omega)
        have HB5 := Lib.hid ((HBel.out.alloc HBel.out.size _).grown hg5 (by have := HBel.out.size; simp; omega) (fun x hx => HOwn.out x hx))
        clear hown5 hg5 hnew5
        go_wp2
        go_roundw
        case rel => exact ⟨k + 1, by rw [HQ.out]; omega, by go_num, HRw.out, HOw.out, HB5.out⟩
        case measure => simp [intOf]; omega
      · have hmd : decide (((u : Int), (k : Int)) ∈ s.P) = false := by simpa using hm
        rw [hmd] at hc
        have HK1 := Lib.hid (pendK_no hm)
        have HRow := Lib.hid hrow
        have HOwn := Lib.hid hown
        have HBel := Lib.hid hbel
        clear hrow hown hbel hm hmd
        go_wp2
        go_roundw
        case rel => exact ⟨k + 1, by rw [HQ.out]; omega, by go_num, by rw [HK1.out]; exact HRow.out, HOwn.out, HBel.out⟩
        case measure => simp [intOf]; omega
    · have hke : k = s.W.length / 8 := by rw [HQ.out]; omega
      have hkl : ¬ (k : Int) < q := by omega
      rw [hke, pendK_all] at hrow
      have HRow := Lib.hid hrow
      have HOwn := Lib.hid hown
      have HBel := Lib.hid hbel
      clear hrow hown hbel hke
      go_wp2
      go_ret
      exact ⟨_, rfl, ownsRow_base HRow.out HOwn.out, HBel.out⟩
theorem rpend_any (b : Nat) (who : Int) (w : World) (S : Nat → Prop) (s : NM) (h : RM w b S s) :
    Calls Try.prog 23 #[.pointer (some ⟨b, 0, none⟩), .int .i64 who] w (PendP w s who) := by
  by_cases hw : 0 ≤ who ∧ who ≤ 16
  · obtain ⟨u, rfl⟩ := Int.eq_ofNat_of_zero_le hw.1
    exact rpend_in b u w S s h (by omega)
  · exact rpend_out b who w S s h hw
end Go.Proofs.Ytdfjgaeiodjmnaa
