/- lines: the document's words. -/
import Derived.Test.YtloilknkhloegaaDoorLinT
set_option linter.unusedSimpArgs false
set_option linter.unusedVariables false
namespace Go.Proofs.YtloilknkhloegaaDoor
open Go.RowKit

/-- nothing to cut at between m and k. -/
def noCut (c : UInt8) (s : List UInt8) (m k : Nat) : Prop := ∀ j, m ≤ j → j < k → s[j]? ≠ some c
theorem cut_none (c : UInt8) (t : List UInt8) (h : ∀ j, j < t.length → t[j]? ≠ some c) : cutAt c t = [t] := by
  induction t with
  | nil => rfl
  | cons x r ih =>
    have hx : ¬ x = c := by simpa using h 0 (by simp)
    have := ih (fun j hj => by simpa using h (j + 1) (by simpa using hj))
    rw [cutAt, if_neg hx, this]
theorem cut_at (c : UInt8) (t : List UInt8) : ∀ k, (∀ j, j < k → t[j]? ≠ some c) → t[k]? = some c → cutAt c t = t.take k :: cutAt c (t.drop (k + 1)) := by
  induction t with
  | nil => intro k _ h; simp at h
  | cons x r ih =>
    intro k hn h
    cases k with
    | zero =>
      have hx : x = c := by simpa using h
      subst hx
      simp [cutAt]
    | succ k =>
      have hx : ¬ x = c := by simpa using hn 0 (by omega)
      have := ih k (fun j hj => by simpa using hn (j + 1) (by omega)) (by simpa using h)
      rw [cutAt, if_neg hx, this]
      simp
theorem cut_step {c : UInt8} {s : List UInt8} {m k : Nat} (hm : m ≤ k) (hn : noCut c s m k) (h : s[k]? = some c) : cutAt c (s.drop m) = (s.drop m).take (k - m) :: cutAt c (s.drop (k + 1)) := by
  have := cut_at c (s.drop m) (k - m) (fun j hj => by rw [List.getElem?_drop]; exact hn _ (by omega) (by omega)) (by rw [List.getElem?_drop]; rw [show m + (k - m) = k by omega]; exact h)
  rw [this, List.drop_drop]
  congr 3
  omega
theorem cut_end {c : UInt8} {s : List UInt8} {m : Nat} (hn : noCut c s m s.length) : cutAt c (s.drop m) = [(s.drop m).take (s.length - m)] := by
  rw [cut_none c (s.drop m) (fun j hj => by rw [List.getElem?_drop]; exact hn _ (by omega) (by simp at hj; omega)), List.take_of_length_le (by simp)]
/-- how far the words are taken. -/
def WdF (s : List UInt8) (k m : Nat) (L : List (List UInt8)) : Prop :=
  (k ≤ s.length ∧ m ≤ k ∧ L ++ cutAt 32 (s.drop m) = cutAt 32 s ∧ noCut 32 s m k ∧ L.length ≤ k) ∨ (k = s.length + 1 ∧ m = s.length + 1 ∧ L = cutAt 32 s ∧ L.length ≤ k)
theorem wd_start (s : List UInt8) : WdF s 0 0 [] := Or.inl ⟨Nat.zero_le _, Nat.le_refl _, rfl, fun j _ h => absurd h (by omega), Nat.le_refl _⟩
theorem wd_pass {s : List UInt8} {k m : Nat} {L : List (List UInt8)} (h : WdF s k m L) (hk : k < s.length) (hc : s[k]? ≠ some 32) : WdF s (k + 1) m L := by
  rcases h with ⟨a, b, c, d, e⟩ | ⟨a, -⟩
  · refine Or.inl ⟨by omega, by omega, c, fun j h1 h2 => ?_, by omega⟩
    by_cases hj : j = k
    · subst hj; exact hc
    · exact d j h1 (by omega)
  · omega
theorem wd_cut {s : List UInt8} {k m : Nat} {L : List (List UInt8)} (h : WdF s k m L) (hk : k < s.length) (hc : s[k]? = some 32) : WdF s (k + 1) (k + 1) (L ++ [(s.drop m).take (k - m)]) := by
  rcases h with ⟨a, b, c, d, e⟩ | ⟨a, -⟩
  · refine Or.inl ⟨by omega, by omega, ?_, fun j h1 h2 => absurd h2 (by omega), by simp; omega⟩
    rw [← c, cut_step b d hc]
    simp
  · omega
theorem wd_end {s : List UInt8} {m : Nat} {L : List (List UInt8)} (h : WdF s s.length m L) : WdF s (s.length + 1) (s.length + 1) (L ++ [(s.drop m).take (s.length - m)]) := by
  rcases h with ⟨a, b, c, d, e⟩ | ⟨a, -⟩
  · refine Or.inr ⟨rfl, rfl, ?_, by simp; omega⟩
    rw [← c, cut_end d]
  · omega
theorem wd_le {s : List UInt8} {k m : Nat} {L : List (List UInt8)} (h : WdF s k m L) (hk : k ≤ s.length) : m ≤ k ∧ L.length ≤ k := by
  rcases h with ⟨a, b, c, d, e⟩ | ⟨a, -⟩
  · exact ⟨b, e⟩
  · omega
theorem wd_done {s : List UInt8} {m : Nat} {L : List (List UInt8)} (h : WdF s (s.length + 1) m L) : L = cutAt 32 s := by
  rcases h with ⟨a, -⟩ | ⟨-, -, b, -⟩
  · omega
  · exact b
theorem bs_cut (s : List UInt8) (m k : Nat) : (bs s).extract m k = bs ((s.drop m).take (k - m)) := by
  apply ByteArray.ext
  apply Array.toList_inj.1
  have := Lib.extract_data (bs s) m k
  rw [this]
structure WD (w : World) (s : List UInt8) (out : Value) (k m : Nat) (L : List (List UInt8)) (wr : World) : Prop where
  f : WdF s k m L
  row : wr.ownsRow 0 9 1 out L.length (strs (L.map bs))
  own : ∀ x, out.ownBlock = some x → w.heap.size ≤ x
  bel : Below w.heap.size w wr
theorem lrow_empty (w : World) (e sz : Nat) : (w.alloc (.cells #[] e)).ownsRow 0 e sz (.slice (some ⟨w.heap.size, 0, none⟩) 0 0) 0 [] :=
  ⟨by simp, Or.inr ⟨w.heap.size, 0, #[], rfl, Nat.zero_le _, heap_alloc_new w _, Nat.le_refl _, by unfold maxLen; omega, by simp, by simp⟩⟩
theorem wd_next {w wr w5 : World} {s : List UInt8} {pa : Option Addr} {pc n k m : Nat} {L : List (List UInt8)} {y : List UInt8} {v' : Value} {o : Obj} (hF : WdF s k m (L ++ [y])) (hn : n = L.length) (hown : ∀ x, (Value.slice pa n pc).ownBlock = some x → w.heap.size ≤ x) (hb : Below w.heap.size w wr)
    (h5 : w5.ownsRow 0 9 1 v' (n + 1) (strs (L.map bs) ++ [.string (bs y)])) (hg : (wr.alloc o).grownBy w5 (Value.slice pa n pc).ownBlock) (hnew : ∀ x, v'.ownBlock = some x → (Value.slice pa n pc).ownBlock = some x ∨ (wr.alloc o).heap.size ≤ x) :
    WD w s v' k m (L ++ [y]) w5 := by
  subst hn
  refine ⟨hF, by simpa [strs] using h5, fun x hx => ?_, (hb.alloc hb.size _).grown hg (by have := hb.size; simp; omega) (fun x hx => hown x hx)⟩
  rcases hnew x hx with h1 | h1
  · exact hown x h1
  · have := hb.size
    simp at h1
    omega
def WDR (w : World) (s : List UInt8) (out fr i : Value) (wr : World) : Prop := ∃ (k m : Nat) (L : List (List UInt8)), fr = .int .i64 m ∧ i = .int .i64 k ∧ k ≤ s.length + 1 ∧ out ≠ .slice none 0 0 ∧ WD w s out k m L wr
/-- what words answers. -/
def WordsP (w : World) (s : List UInt8) (e : Ending) (w' : World) : Prop := ∃ g cap, e = .returned (.slice (some ⟨g, 0, none⟩) (cutAt 32 s).length cap) ∧ w'.ownsRow 0 9 1 (.slice (some ⟨g, 0, none⟩) (cutAt 32 s).length cap) (cutAt 32 s).length (strs ((cutAt 32 s).map bs)) ∧ w.heap.size ≤ g ∧ Below w.heap.size w w'
set_option maxHeartbeats 1000000 in
set_option maxRecDepth 100000 in
theorem dwords_any (s : List UInt8) (w : World) (hl : s.length ≤ 100000) :
    Calls Tryd.prog 42 #[.string (bs s)] w (WordsP w s) := by
  obtain ⟨i0, hi0, hi1, hi2, hi3⟩ := info_parts infoStr
  have HI := Lib.hid (And.intro hi0 (And.intro hi1 (And.intro hi2 hi3)))
  clear hi0 hi1 hi2 hi3
  go_enter Tryd.func42, Tryd.ntmps42
  go_wp2
  go_loopw [3, 4, 5] (fun out fr i wr => WDR w s out fr i wr) (fun _ _ i _ => s.length + 1 - (intOf i).toNat)
  case atStart => exact ⟨0, 0, [], rfl, rfl, by omega, by simp, wd_start s, by simpa [strs] using lrow_empty w 9 1, by simp [Value.ownBlock], (Below.refl _ _).alloc (Nat.le_refl _) _⟩
  case round =>
    obtain ⟨k, m, L, rfl, rfl, hk1, hnn, hp⟩ := hrel
    obtain ⟨pa, pc, rfl⟩ := srow_shape hp.row
    by_cases hk : k ≤ s.length
    · obtain ⟨hmk, hLk⟩ := wd_le hp.f hk
      have HR := Lib.hid hp.row
      have HF := Lib.hid hp.f
      have HOwn := Lib.hid hp.own
      have HB := Lib.hid hp.bel
      clear hp
      have hex := bs_cut s m k
      by_cases hlt : k < s.length
      · have hsz : k < (bs s).size := by simpa [ByteArray.size] using hlt
        obtain ⟨c, hc⟩ : ∃ c, s[k]? = some c := ⟨_, List.getElem?_eq_getElem hlt⟩
        have hcb : (bs s)[k]'hsz = c := by
          obtain ⟨h1, h2⟩ := List.getElem?_eq_some_iff.1 hc
          rw [← h2]
          rfl
        have HC := Lib.hid hc
        clear hc
        by_cases h32 : c = 32
        · have hq : ((c.toNat : Int) == 32) = true := by rw [h32]; rfl
          have HW := Lib.hid (wd_cut HF.out hlt (by rw [HC.out, h32]))
          go_wp2_with (at_builtin; go_must (refine wpL_append rfl _ _ rfl 9 i0 (.string .empty) 1 16 Tryd.underlying73 HI.out.1 HI.out.2.1 HI.out.2.2.1 HI.out.2.2.2 rfl (by decide) (.slice pa L.length pc) L.length (strs (L.map bs)) rfl (HR.out.alloc _) ⟨wr.heap.size, 0, none⟩ 1 1 [.string (bs ((s.drop m).take (k - m)))] rfl rfl (cell_one_new _ _ _) ?c1 ?c2 ?c3 ?_); go_must (case c1 => (simp [Value.oneCell'])); go_must (case c2 => (unfold maxLen; omega)); go_must (case c3 => (omega)); go_must (intro v' w5 hown5 hg5 hnew5 hnil5))
          have hnn5 : v' ≠ .slice none 0 0 := fun e => by have := (hnil5.1 e).2; cases this
          have HWD := Lib.hid (wd_next HW.out rfl HOwn.out HB.out hown5 hg5 hnew5)
          clear hown5 hg5 hnew5 hnil5
          go_wp2
          go_roundw
          case rel => exact ⟨k + 1, k + 1, _, by go_num, by go_num, by omega, hnn5, HWD.out⟩
          case measure => simp [intOf] <;> omega
        · have hq : ((c.toNat : Int) == 32) = false := by
            rw [beq_eq_false_iff_ne]
            intro e
            exact h32 (UInt8.toNat_inj.1 (by simpa using (by omega : c.toNat = 32)))
          have HW := Lib.hid (wd_pass HF.out hlt (by rw [HC.out]; simpa using h32))
          go_wp2
          go_roundw
          case rel => exact ⟨k + 1, m, L, rfl, by go_num, by omega, hnn, HW.out, HR.out, HOwn.out, HB.out⟩
          case measure => simp [intOf] <;> omega
      · obtain rfl : k = s.length := by omega
        have HW := Lib.hid (wd_end HF.out)
        go_wp2_with (at_builtin; go_must (refine wpL_append rfl _ _ rfl 9 i0 (.string .empty) 1 16 Tryd.underlying73 HI.out.1 HI.out.2.1 HI.out.2.2.1 HI.out.2.2.2 rfl (by decide) (.slice pa L.length pc) L.length (strs (L.map bs)) rfl (HR.out.alloc _) ⟨wr.heap.size, 0, none⟩ 1 1 [.string (bs ((s.drop m).take (s.length - m)))] rfl rfl (cell_one_new _ _ _) ?c1 ?c2 ?c3 ?_); go_must (case c1 => (simp [Value.oneCell'])); go_must (case c2 => (unfold maxLen; omega)); go_must (case c3 => (omega)); go_must (intro v' w5 hown5 hg5 hnew5 hnil5))
        have hnn5 : v' ≠ .slice none 0 0 := fun e => by have := (hnil5.1 e).2; cases this
        have HWD := Lib.hid (wd_next HW.out rfl HOwn.out HB.out hown5 hg5 hnew5)
        clear hown5 hg5 hnew5 hnil5
        go_wp2
        go_roundw
        case rel => exact ⟨s.length + 1, s.length + 1, _, by go_num, by go_num, by omega, hnn5, HWD.out⟩
        case measure => simp [intOf] <;> omega
    · obtain rfl : k = s.length + 1 := by omega
      have hd := wd_done hp.f
      subst hd
      have HR := Lib.hid hp.row
      have HOwn := Lib.hid hp.own
      have HB := Lib.hid hp.bel
      clear hp
      go_wp2
      go_ret
      have hpos : 0 < (cutAt 32 s).length := List.length_pos_iff.2 (cutAt_ne 32 s)
      obtain ⟨g', cap', hf⟩ := Joins.ownsRow_form HR.out hpos
      simp only [Value.slice.injEq, true_and] at hf
      obtain ⟨rfl, rfl⟩ := hf
      exact ⟨g', pc, rfl, HR.out, HOwn.out g' rfl, HB.out⟩
end Go.Proofs.YtloilknkhloegaaDoor
