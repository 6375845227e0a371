/- the document's view: Same. -/
import Derived.Test.YtkfcjlampnjfbaaRefPairs
namespace Go.Proofs.Ytkfcjlampnjfbaa
open Go.RowKit

theorem cast_inj : ∀ a b : List Nat, (a.map fun (n : Nat) => (n : Int)) = (b.map fun (n : Nat) => (n : Int)) → a = b
  | [], [], _ => rfl
  | [], _ :: _, h => by simp at h
  | _ :: _, [], h => by simp at h
  | x :: a, y :: b, h => by
    simp only [List.map_cons, List.cons.injEq] at h
    have h1 : x = y := by omega
    rw [h1, cast_inj a b h.2]

theorem nints_any (a b : List Nat) (va vb : Value) (w : World) (ha : w.ownsRow 0 3 1 va a.length (intCells a)) (hb : w.ownsRow 0 3 1 vb b.length (intCells b)) (hna : a.length ≤ 4294967296) (hnb : b.length ≤ 4294967296) :
    Calls Try.prog 26 #[va, vb] w fun e w' => e = .returned (.bool (decide (a = b))) ∧ Below w.heap.size w w' := by
  have e1 : ∀ l : List Nat, intCells l = ints (l.map fun (n : Nat) => (n : Int)) := fun l => by simp [intCells, ints]
  have e2 : decide (a = b) = decide ((a.map fun (n : Nat) => (n : Int)) = (b.map fun (n : Nat) => (n : Int))) := by
    rw [Bool.eq_iff_iff, decide_eq_true_eq, decide_eq_true_eq]
    constructor
    · rintro rfl; rfl
    · intro h
      exact cast_inj _ _ h
  rw [e2]
  rw [e1] at ha hb
  exact ints_any _ _ va vb w (by simpa using ha) (by simpa using hb) (by simpa using hna) (by simpa using hnb)

def sameB (r : List Nat) (p : List (Nat × Int)) (m : Int) (s : VS) : Bool := decide (r = s.reads) && decide (p = s.writes) && (m == missI s)

set_option maxRecDepth 100000 in
theorem same_any (b : Nat) (r : List Nat) (p : List (Nat × Int)) (m : Int) (vr vw : Value) (w : World) (S : Nat → Prop) (s : VS) (h : RV w b S s)
    (hr : w.ownsRow 0 3 1 vr r.length (intCells r)) (hp : w.ownsRow 0 97 2 vw p.length (pairCells p)) (hrl : r.length ≤ 4294967296) (hpl : p.length ≤ 4294967296) :
    Calls Try.prog 33 #[.pointer (some ⟨b, 0, none⟩), vr, vw, .int .i64 m] w fun e w' => e = .returned (.bool (sameB r p m s)) ∧ Below w.heap.size w w' := by
  have hi := keepsRV.inv h
  have hrl2 := hi.reads_le
  have hwl2 := hi.writes_le
  have hsm := hi.small
  have HR := Lib.hid h
  have HP := Lib.hid hp
  obtain ⟨kv, vv, iv, tv, rv, wv, all, hv⟩ := h
  have h5 := hv.cell 5
  have h7 := hv.cell 7
  simp at h5 h7
  have I := nints_any r s.reads vr rv w hr hv.rr hrl (by omega)
  generalize hq : sameB r p m s = q
  have HQ := Lib.hid hq
  clear hv hr hp hi hq
  by_cases h1 : r = s.reads
  · have d1 : decide (r = s.reads) = true := by simpa using h1
    rw [d1] at I
    have HI := Lib.hid I
    clear I d1
    by_cases h2 : p = s.writes
    · have d2 : decide (p = s.writes) = true := by simpa using h2
      have H12 := Lib.hid (And.intro h1 h2)
      have D2 := Lib.hid d2
      clear h1 h2 d2
      go_enter Try.func33, Try.ntmps33
      go_wp2_with fail
      refine HI.out.mono ?_
      rintro e w1 ⟨rfl, b1⟩
      have R1 : RV w1 b S s := keepsRV.keep (T := fun _ => False) HR.out (Fr.of_below b1) (fun _ _ x => x)
      have HR1 := Lib.hid R1
      have z1 := b1.size
      clear R1
      go_wp2_with fail
      refine (rwrites_any _ _ _ _ HR1.out).mono ?_
      rintro e w2 ⟨v2, rfl, o2, n2, b2⟩
      have z2 := b2.size
      have p2 := ownsRow_block (w' := w2) HP.out (fun k hk => (b2.block k (by have := ownsRow_lt HP.out hk; omega)).trans (b1.block k (ownsRow_lt HP.out hk)))
      have P2 := pairs_any p s.writes vw v2 w2 p2 o2 hpl (by omega)
      rw [D2.out] at P2
      have HP2 := Lib.hid P2
      clear p2 P2 o2 n2
      go_wp2_with fail
      refine HP2.out.mono ?_
      rintro e w3 ⟨rfl, b3⟩
      have l7 := World.block_lt_of_cell? w _ h7
      simp at l7
      have h73 : w3.cell? ⟨b, 7, none⟩ = some (.int .i64 (missI s)) := (b3.cell (p := ⟨b, 7, none⟩) (by simp; omega)).trans ((b2.cell (p := ⟨b, 7, none⟩) (by simp; omega)).trans ((b1.cell (p := ⟨b, 7, none⟩) l7).trans h7))
      go_wp2
      go_ret
      refine ⟨ret_bool ?_, b1.trans ((b2.trans (b3.mono z2)).mono z1)⟩
      rw [← HQ.out]
      simp [sameB, H12.out.1, H12.out.2]
    · have d2 : decide (p = s.writes) = false := by simpa using h2
      have H2 := Lib.hid h2
      have D2 := Lib.hid d2
      clear h1 h2 d2
      go_enter Try.func33, Try.ntmps33
      go_wp2_with fail
      refine HI.out.mono ?_
      rintro e w1 ⟨rfl, b1⟩
      have R1 : RV w1 b S s := keepsRV.keep (T := fun _ => False) HR.out (Fr.of_below b1) (fun _ _ x => x)
      have HR1 := Lib.hid R1
      have z1 := b1.size
      clear R1
      go_wp2_with fail
      refine (rwrites_any _ _ _ _ HR1.out).mono ?_
      rintro e w2 ⟨v2, rfl, o2, n2, b2⟩
      have z2 := b2.size
      have p2 := ownsRow_block (w' := w2) HP.out (fun k hk => (b2.block k (by have := ownsRow_lt HP.out hk; omega)).trans (b1.block k (ownsRow_lt HP.out hk)))
      have P2 := pairs_any p s.writes vw v2 w2 p2 o2 hpl (by omega)
      rw [D2.out] at P2
      have HP2 := Lib.hid P2
      clear p2 P2 o2 n2
      go_wp2_with fail
      refine HP2.out.mono ?_
      rintro e w3 ⟨rfl, b3⟩
      go_wp2
      go_ret
      refine ⟨ret_bool ?_, b1.trans ((b2.trans (b3.mono z2)).mono z1)⟩
      rw [← HQ.out]
      simp [sameB, H2.out]
  · have d1 : decide (r = s.reads) = false := by simpa using h1
    rw [d1] at I
    have HI := Lib.hid I
    have H1 := Lib.hid h1
    clear I d1 h1
    go_enter Try.func33, Try.ntmps33
    go_wp2_with fail
    refine HI.out.mono ?_
    rintro e w1 ⟨rfl, b1⟩
    go_wp2
    go_ret
    refine ⟨ret_bool ?_, b1⟩
    rw [← HQ.out]
    simp [sameB, H1.out]

end Go.Proofs.Ytkfcjlampnjfbaa
