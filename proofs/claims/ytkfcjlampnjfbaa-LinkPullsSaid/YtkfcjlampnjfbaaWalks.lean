/- LinkWalks: the law's walk. -/
import Derived.Test.YtkfcjlampnjfbaaSnd
import Derived.Test.YtkfcjlampnjfbaaLinkDoesW
namespace Go.Proofs.Ytkfcjlampnjfbaa
open Go.RowKit

theorem rsound_any {t p s : Int} {ad : Addr} {n : Nat} {vs : List Int} (c : Nat) (w : World) (h : XV w t p s ad n vs) :
    Calls Try.prog 20 #[.agg #[.int .i64 t, .int .i64 p, .int .i64 s], .slice (some ad) n c] w fun e w' => e = .returned (.bool (chkF vs t p s).2) ∧ Below w.heap.size w w' := by
  have HC := Lib.hid (fun (w : World) (h : XV w t p s ad n vs) => rcheck_any c w h)
  have HV := Lib.hid h
  generalize chkF vs t p s = r at *
  obtain ⟨r1, r2⟩ := r
  clear h
  go_enter Try.func20, Try.ntmps20
  go_wp2_with fail
  refine (HC.out _ (HV.out.keep ((Below.refl _ _).alloc (Nat.le_refl _) _))).mono ?_
  rintro e w1 ⟨rfl, hb⟩
  go_wp2
  go_ret
  refine ⟨rfl, ?_⟩
  (repeat (first | exact Below.refl _ _ | assumption | refine Below.setCell ?_ (by first | omega | (simp; done) | (simp; omega)) _ | refine Below.alloc ?_ (by first | omega | (simp; done) | (simp; omega)) _ | refine Below.drew ?_ | refine Below.trans ?_ (Below.mono ‹Below _ _ _› (by first | omega | (simp; done) | (simp; omega)))))
theorem rsound_no {t p s : Int} (a : Option Addr) (m c : Nat) (w : World) (h : rightB t p s = false ∨ (m : Int) ≠ cellsN t p) :
    Calls Try.prog 20 #[.agg #[.int .i64 t, .int .i64 p, .int .i64 s], .slice a m c] w fun e w' => e = .returned (.bool false) ∧ Below w.heap.size w w' := by
  have HC := Lib.hid (fun (w : World) => rcheck_no (t := t) (p := p) (s := s) a m c w h)
  clear h
  go_enter Try.func20, Try.ntmps20
  go_wp2_with fail
  refine (HC.out _).mono ?_
  rintro e w1 ⟨rfl, hb⟩
  go_wp2
  go_ret
  refine ⟨rfl, ?_⟩
  (repeat (first | exact Below.refl _ _ | assumption | refine Below.setCell ?_ (by first | omega | (simp; done) | (simp; omega)) _ | refine Below.alloc ?_ (by first | omega | (simp; done) | (simp; omega)) _ | refine Below.drew ?_ | refine Below.trans ?_ (Below.mono ‹Below _ _ _› (by first | omega | (simp; done) | (simp; omega)))))

def idxI (l : List Int) (x : Int) : Int := match l.findIdx? (· == x) with | some i => i | none => -1
def IxRel (l : List Int) (x : Int) (w : World) (i : Value) (wr : World) : Prop := ∃ k : Nat, k ≤ l.length ∧ i = .int .i64 k ∧ (∀ j, j < k → l[j]? ≠ some x) ∧ w = wr
/-- the first place of a page, or that it is not there. -/
theorem in13_any (l : List Int) (x : Int) (v : Value) (w : World) (h : w.ownsRow 0 3 1 v l.length (ints l)) (hn : l.length ≤ 4294967296) :
    Calls Try.prog 24 #[v, .int .i64 x] w fun e w' => ∃ i : Int, e = .returned (.int .i64 i) ∧ ((i = -1 ∧ x ∉ l) ∨ ∃ k : Nat, i = k ∧ k < l.length ∧ l[k]? = some x) ∧ Below w.heap.size w w' := by
  have hc : ∀ k, k < l.length → ∃ a m c, v = .slice (some ⟨a, 0, none⟩) m c ∧ w.cell? ⟨a, k, none⟩ = some (.int .i64 (l.getD k 0)) := by
    intro k hk
    obtain ⟨g, cap, rfl⟩ := Joins.ownsRow_form h (by omega)
    refine ⟨g, _, cap, rfl, ?_⟩
    rw [h.cellAt k (by omega)]
    simp [ints, hk]
  obtain ⟨a, c, rfl⟩ := row_shape h
  clear h
  go_enter Try.func24, Try.ntmps24
  go_wp2
  go_loopw [5] (fun i wr => IxRel l x w i wr) (fun i _ => l.length - (intOf i).toNat)
  case atStart => exact ⟨0, by omega, rfl, by omega, rfl⟩
  case round =>
    obtain ⟨k, hk, rfl, hno, rfl⟩ := hrel
    have HN := Lib.hid hno
    clear hno
    by_cases hlt : k < l.length
    · obtain ⟨g, m, c', hv, c0⟩ := hc k hlt
      simp only [Value.slice.injEq] at hv
      obtain ⟨rfl, rfl, rfl⟩ := hv
      have HX := Lib.hid (show l[k]? = some (l.getD k 0) by simp [hlt])
      clear hc
      generalize l.getD k 0 = y at *
      by_cases hy : y = x
      · have hb : (y == x) = true := by simp [hy]
        have HY := Lib.hid hy
        clear hy
        go_wp2
        go_ret
        exact ⟨k, rfl, Or.inr ⟨k, rfl, hlt, by rw [HX.out, HY.out]⟩, Below.refl _ _⟩
      · have hb : (y == x) = false := by simp [hy]
        have HY := Lib.hid hy
        clear hy
        go_wp2
        go_roundw
        case rel =>
          refine ⟨k + 1, by omega, by go_num, fun j hj => ?_, rfl⟩
          by_cases e : j = k
          · subst e; rw [HX.out]; simpa using HY.out
          · exact HN.out j (by omega)
        case measure => simp [intOf]; omega
    · clear hc
      go_wp2
      go_ret
      refine ⟨-1, rfl, Or.inl ⟨rfl, fun hm => ?_⟩, Below.refl _ _⟩
      obtain ⟨j, hj⟩ := List.mem_iff_getElem?.1 hm
      have := (List.getElem?_eq_some_iff.1 hj).1
      exact HN.out j (by omega) hj

section
variable {w0 w w' : World} {b : Nat} {S : Nat → Prop} {Ls : List Nat} {s s' : VS}
/-- a row newly made is the call's own. -/
theorem VSt.addrow (h : VSt PV w0 b S Ls s w) (hb : Below w.heap.size w w') {v : Value} (hr : ∀ k, v.ownBlock = some k → w.heap.size ≤ k ∧ k < w'.heap.size) : VSt PV w0 b S (v.ownBlock.toList ++ Ls) s w' := by
  have h2 := h.below keepsPV hb
  obtain ⟨S1, h1, h3, h4⟩ := h.ex
  refine ⟨⟨S1, keepsPV.keep (T := fun _ => False) h1 (Fr.of_below hb) (fun _ _ x => x), h3, fun L hL => ?_⟩, h2.fr, fun L hL => ?_, h.s0⟩
  · simp at hL
    rcases hL with hL | hL
    · exact fun x => by have := keepsPV.lt h1 L x; have := hr L hL; omega
    · exact h4 L hL
  · simp at hL
    rcases hL with hL | hL
    · have := hr L hL; have := h.fr.size; omega
    · exact h2.ls L hL

/-- Walk, beside boxes. -/
theorem calls_walk {P : Program} {f : FuncId} {args : Array Value} {l : List Int} {u : VS} (h : VSt PV w0 b S Ls s w)
    (hc : ∀ S1, PV w b S1 s → Calls P f args w (WalkP w b S1 l u)) :
    Calls P f args w fun e w' => ∃ v, e = .returned v ∧ (VSt PV w0 b S (v.ownBlock.toList ++ Ls) u w' ∧ ∀ L ∈ Ls, w'.heap[L]? = w.heap[L]?) ∧ w'.ownsRow 0 3 1 v l.length (ints l) := by
  obtain ⟨S1, h1, h2, h4⟩ := h.ex
  refine (hc S1 h1).mono ?_
  rintro e w' ⟨v, he, ho, hV⟩
  obtain ⟨S2, k1, k2, k4⟩ := hV.ex
  refine ⟨v, he, ⟨⟨⟨S2, k1, fun k hk => ?_, fun L hL => ?_⟩, h.fr.trans hV.fr h2, fun L hL => ?_, h.s0⟩, fun L hL => hV.fr.block L (h.ls L hL).1 (h4 L hL)⟩, ho⟩
  · rcases k2 k hk with x | x
    · exact h2 k x
    · exact Or.inr (Nat.le_trans h.fr.size x)
  · simp at hL
    rcases hL with hL | hL
    · exact k4 L (by simp [hL])
    · intro x
      rcases k2 L x with y | y
      · exact h4 L hL y
      · have := (h.ls L hL).1; omega
  · simp at hL
    rcases hL with hL | hL
    · have := hV.ls L (by simp [hL]); have := h.fr.size; omega
    · have := h.ls L hL; have := hV.fr.size; omega
theorem calls_rowv {P : Program} {f : FuncId} {args : Array Value} {F : Value → Value} {l : List Int} (h : VSt PV w0 b S Ls s w)
    (hc : Calls P f args w fun e w' => ∃ v, e = .returned (F v) ∧ RowP w l v w') :
    Calls P f args w fun e w' => ∃ v, e = .returned (F v) ∧ (VSt PV w0 b S (v.ownBlock.toList ++ Ls) s w' ∧ ∀ L ∈ Ls, w'.heap[L]? = w.heap[L]?) ∧ w'.ownsRow 0 3 1 v l.length (ints l) :=
  hc.mono fun _ _ ⟨v, he, hr⟩ => ⟨v, he, ⟨h.addrow hr.2.2 fun k hk => ⟨hr.2.1 k hk, ownsRow_lt hr.1 hk⟩, fun L hL => hr.2.2.block L (h.ls L hL).1⟩, hr.1⟩
end

/-- what is let go: too many pages, or no heap. -/
theorem lwalks_big (t p s x0 x1 : Int) (a : Option Addr) (m c : Nat) (w : World) (hp : 64 < p) :
    Calls Try.prog 5 #[.agg #[.int .i64 t, .int .i64 p, .int .i64 s], .slice a m c, .agg #[.int .i64 x0, .int .i64 x1]] w fun e w' => e = .returned (.bool true) ∧ Below w.heap.size w w' := by
  have H := fun w => few_any t p s w
  have hd : decide (p ≤ 64) = false := by simp; omega
  rw [hd] at H
  have HF := Lib.hid H
  clear H hd
  go_enter Try.func5, Try.ntmps5
  go_wp2_with fail
  refine (HF.out _).mono ?_
  rintro e w1 ⟨rfl, ha⟩
  obtain ⟨hac, haf⟩ := bcell ha
  have haz0 : w.heap.size < w1.heap.size := by have := ha.size; first | omega | (simp at this; omega)
  go_wp2_with fail
  refine (live_any _).mono ?_
  rintro e w2 ⟨rfl, hb⟩
  obtain ⟨hbc, hbf⟩ := bcell hb
  go_wp2
  go_ret
  refine ⟨rfl, ?_⟩
  (repeat (first | exact Below.refl _ _ | assumption | refine Below.setCell ?_ (by first | omega | (simp; done) | (simp; omega)) _ | refine Below.alloc ?_ (by first | omega | (simp; done) | (simp; omega)) _ | refine Below.drew ?_ | refine Below.trans ?_ (Below.mono ‹Below _ _ _› (by first | omega | (simp; done) | (simp; omega)))))
theorem lwalks_none (t p s x0 x1 : Int) (a : Option Addr) (m c : Nat) (w : World) (hp : p ≤ 64) (hs : ∀ w1, Below w.heap.size w w1 → Calls Try.prog 20 #[.agg #[.int .i64 t, .int .i64 p, .int .i64 s], .slice a m c] w1 fun e w' => e = .returned (.bool false) ∧ Below w1.heap.size w1 w') :
    Calls Try.prog 5 #[.agg #[.int .i64 t, .int .i64 p, .int .i64 s], .slice a m c, .agg #[.int .i64 x0, .int .i64 x1]] w fun e w' => e = .returned (.bool true) ∧ Below w.heap.size w w' := by
  have H := fun w => few_any t p s w
  have hd : decide (p ≤ 64) = true := by simp; omega
  rw [hd] at H
  have HF := Lib.hid H
  have HS := Lib.hid hs
  clear H hd hs
  go_enter Try.func5, Try.ntmps5
  go_wp2_with fail
  refine (HF.out _).mono ?_
  rintro e w1 ⟨rfl, ha⟩
  obtain ⟨hac, haf⟩ := bcell ha
  have haz0 : w.heap.size < w1.heap.size := by have := ha.size; first | omega | (simp at this; omega)
  have bel1 : Below w.heap.size w w1 := by (repeat (first | exact Below.refl _ _ | assumption | refine Below.setCell ?_ (by first | omega | (simp; done) | (simp; omega)) _ | refine Below.alloc ?_ (by first | omega | (simp; done) | (simp; omega)) _ | refine Below.drew ?_ | refine Below.trans ?_ (Below.mono ‹Below _ _ _› (by first | omega | (simp; done) | (simp; omega)))))
  go_wp2_with fail
  refine (HS.out _ bel1).mono ?_
  rintro e w2 ⟨rfl, hb⟩
  obtain ⟨hbc, hbf⟩ := bcell hb
  have hbz0 : w1.heap.size ≤ w2.heap.size := by have := hb.size; first | omega | (simp at this; omega)
  go_wp2_with fail
  refine (live_any _).mono ?_
  rintro e w3 ⟨rfl, hc⟩
  obtain ⟨hcc, hcf⟩ := bcell hc
  go_wp2
  go_ret
  refine ⟨rfl, ?_⟩
  (repeat (first | exact Below.refl _ _ | assumption | refine Below.setCell ?_ (by first | omega | (simp; done) | (simp; omega)) _ | refine Below.alloc ?_ (by first | omega | (simp; done) | (simp; omega)) _ | refine Below.drew ?_ | refine Below.trans ?_ (Below.mono ‹Below _ _ _› (by first | omega | (simp; done) | (simp; omega)))))
end Go.Proofs.Ytkfcjlampnjfbaa
