/- link: Push, Pull and Walk of the program. -/
import Derived.Test.YtcicmljnjdhkjaaGreatVSt
import Derived.Test.YtcicmljnjdhkjaaGreatPlace
namespace Go.Proofs.YtcicmljnjdhkjaaGreat
open Go.RowKit

theorem next_any (t p s q : Int) (w : World) :
    Calls Tryz.prog 183 #[.agg #[.int .i64 t, .int .i64 p, .int .i64 s], .int .i64 q] w fun e w' => e = .returned (.int .i64 (ofF t p s q 2)) ∧ Below w.heap.size w w' := by
  go_enter Tryz.func183, Tryz.ntmps183
  go_wp2_with fail
  refine (of_any _ _ _ _ _ _ (by omega) (by omega)).mono ?_
  rintro e w1 ⟨rfl, ha⟩
  obtain ⟨hac, haf⟩ := bcell ha
  go_wp2
  go_ret
  refine ⟨rfl, ?_⟩
  (repeat (first | exact Below.refl _ _ | assumption | refine Below.setCell ?_ (by first | omega | (simp; done) | (simp; omega)) _ | refine Below.alloc ?_ (by first | omega | (simp; done) | (simp; omega)) _ | refine Below.drew ?_ | refine Below.trans ?_ (Below.mono ‹Below _ _ _› (by first | omega | (simp; done) | (simp; omega)))))
theorem prev_any (t p s q : Int) (w : World) :
    Calls Tryz.prog 184 #[.agg #[.int .i64 t, .int .i64 p, .int .i64 s], .int .i64 q] w fun e w' => e = .returned (.int .i64 (ofF t p s q 3)) ∧ Below w.heap.size w w' := by
  go_enter Tryz.func184, Tryz.ntmps184
  go_wp2_with fail
  refine (of_any _ _ _ _ _ _ (by omega) (by omega)).mono ?_
  rintro e w1 ⟨rfl, ha⟩
  obtain ⟨hac, haf⟩ := bcell ha
  go_wp2
  go_ret
  refine ⟨rfl, ?_⟩
  (repeat (first | exact Below.refl _ _ | assumption | refine Below.setCell ?_ (by first | omega | (simp; done) | (simp; omega)) _ | refine Below.alloc ?_ (by first | omega | (simp; done) | (simp; omega)) _ | refine Below.drew ?_ | refine Below.trans ?_ (Below.mono ‹Below _ _ _› (by first | omega | (simp; done) | (simp; omega)))))
theorem lnext_any (b : Nat) (t p s h q : Int) (w : World) :
    Calls Tryz.prog 170 #[.agg #[.pointer (some ⟨b, 0, none⟩), .int .i64 t, .int .i64 p, .int .i64 s, .int .i64 h], .int .i64 q] w fun e w' => e = .returned (.int .i64 (ofF t p s q 2)) ∧ Below w.heap.size w w' := by
  go_enter Tryz.func170, Tryz.ntmps170
  go_wp2_with fail
  refine (next_any _ _ _ _ _).mono ?_
  rintro e w1 ⟨rfl, ha⟩
  obtain ⟨hac, haf⟩ := bcell ha
  go_wp2
  go_ret
  refine ⟨rfl, ?_⟩
  (repeat (first | exact Below.refl _ _ | assumption | refine Below.setCell ?_ (by first | omega | (simp; done) | (simp; omega)) _ | refine Below.alloc ?_ (by first | omega | (simp; done) | (simp; omega)) _ | refine Below.drew ?_ | refine Below.trans ?_ (Below.mono ‹Below _ _ _› (by first | omega | (simp; done) | (simp; omega)))))
theorem lprev_any (b : Nat) (t p s h q : Int) (w : World) :
    Calls Tryz.prog 171 #[.agg #[.pointer (some ⟨b, 0, none⟩), .int .i64 t, .int .i64 p, .int .i64 s, .int .i64 h], .int .i64 q] w fun e w' => e = .returned (.int .i64 (ofF t p s q 3)) ∧ Below w.heap.size w w' := by
  go_enter Tryz.func171, Tryz.ntmps171
  go_wp2_with fail
  refine (prev_any _ _ _ _ _).mono ?_
  rintro e w1 ⟨rfl, ha⟩
  obtain ⟨hac, haf⟩ := bcell ha
  go_wp2
  go_ret
  refine ⟨rfl, ?_⟩
  (repeat (first | exact Below.refl _ _ | assumption | refine Below.setCell ?_ (by first | omega | (simp; done) | (simp; omega)) _ | refine Below.alloc ?_ (by first | omega | (simp; done) | (simp; omega)) _ | refine Below.drew ?_ | refine Below.trans ?_ (Below.mono ‹Below _ _ _› (by first | omega | (simp; done) | (simp; omega)))))
def pageB (p q : Int) : Bool := decide (0 ≤ q) && decide (q < p)
theorem lpage_any (b : Nat) (t p s h q : Int) (w : World) :
    Calls Tryz.prog 169 #[.agg #[.pointer (some ⟨b, 0, none⟩), .int .i64 t, .int .i64 p, .int .i64 s, .int .i64 h], .int .i64 q] w fun e w' => e = .returned (.bool (pageB p q)) ∧ Below w.heap.size w w' := by
  by_cases h1 : 0 ≤ q
  · have hF : pageB p q = decide (q < p) := by simp [pageB, h1]
    rw [hF]
    go_enter Tryz.func169, Tryz.ntmps169
    go_wp2
    go_ret
    refine ⟨rfl, ?_⟩
    (repeat (first | exact Below.refl _ _ | assumption | refine Below.setCell ?_ (by first | omega | (simp; done) | (simp; omega)) _ | refine Below.alloc ?_ (by first | omega | (simp; done) | (simp; omega)) _ | refine Below.drew ?_ | refine Below.trans ?_ (Below.mono ‹Below _ _ _› (by first | omega | (simp; done) | (simp; omega)))))
  · have hF : pageB p q = false := by simp [pageB, h1]
    rw [hF]
    go_enter Tryz.func169, Tryz.ntmps169
    go_wp2
    go_ret
    refine ⟨rfl, ?_⟩
    (repeat (first | exact Below.refl _ _ | assumption | refine Below.setCell ?_ (by first | omega | (simp; done) | (simp; omega)) _ | refine Below.alloc ?_ (by first | omega | (simp; done) | (simp; omega)) _ | refine Below.drew ?_ | refine Below.trans ?_ (Below.mono ‹Below _ _ _› (by first | omega | (simp; done) | (simp; omega)))))
theorem to_any (v : Int) (w : World) (hv : VS.U32 v) :
    Calls Tryz.prog 172 #[.int .u32 v] w fun e w' => e = .returned (.int .i64 (v - 1)) ∧ w = w' := by
  obtain ⟨h1, h2⟩ := hv
  go_enter Tryz.func172, Tryz.ntmps172
  go_wp2
  go_ret
  exact ⟨rfl, rfl⟩

/-- what Push does. -/
def pushF (t p s : Int) (head q : Int) (st : VS) : VS :=
  if pageB p q = true then
    let g := st.get head
    let s1 := g.2.put (ofF t p s q 2) g.1
    let s2 := s1.put (ofF t p s q 3) 0
    let s3 := if g.1 = 0 then s2 else s2.put (ofF t p s (g.1 - 1) 3) (q + 1)
    s3.put head (q + 1)
  else st

theorem push_no (b : Nat) (t p s head q : Int) (w : World) (S : Nat → Prop) (st : VS) (h : PV w b S st) (hq : pageB p q = false) :
    Calls Tryz.prog 109 #[.pointer (some ⟨b, 0, none⟩), .agg #[.int .i64 t, .int .i64 p, .int .i64 s], .int .i64 head, .int .i64 q] w fun e w' => e = .returned (.tuple #[]) ∧ Now w b S st w' := by
  have hV := ((VSt.start keepsPV h).alloc keepsPV (.cells #[.int .i64 t, .int .i64 p, .int .i64 s] 23)).alloc keepsPV (.cells #[.pointer (some ⟨b, 0, none⟩), .int .i64 t, .int .i64 p, .int .i64 s, .int .i64 head] 173)
  have H := fun w => lpage_any b t p s head q w
  rw [hq] at H
  have HH := Lib.hid H
  clear H h
  go_enter Tryz.func109, Tryz.ntmps109
  go_wp2_with fail
  refine (calls_bl keepsPV hV (HH.out _)).mono ?_
  rintro e w1 ⟨rfl, hV1, hl1⟩
  clear hl1
  go_wp2
  refine bodyPost_ret (results_none rfl _ _ _) rfl ?_
  exact ⟨rfl, hV1.done keepsPV⟩

end Go.Proofs.YtcicmljnjdhkjaaGreat
