/- lines: the law LineReads, over what the program's Read answers. -/
import Derived.Test.YtloilknkhloegaaDoorLinB
import Derived.Test.YtloilknkhloegaaDoorLinRD
import Derived.Test.YtloilknkhloegaaDoorLinRS
set_option linter.unusedSimpArgs false
set_option linter.unusedVariables false
namespace Go.Proofs.YtloilknkhloegaaDoor
open Go.RowKit

theorem readL_few : ∀ (ps : List (List UInt8)) (n : Nat) (out : List PEn), out.length ≤ 400 → (readL ps n out).1.length ≤ 400
  | [], _, _, h => h
  | t :: r, n, out, h => by
    rw [readL]
    split
    · exact readL_few r (n + 1) out h
    · split
      · simp
      · split
        · simp
        · rename_i h4
          exact readL_few r (n + 1) _ (by simp; omega)
theorem readF_few (s : List UInt8) : (readF s).1.length ≤ 400 := by
  unfold readF
  split
  · exact readL_few _ _ _ (by simp)
  · simp
set_option maxHeartbeats 2000000 in
set_option maxRecDepth 100000 in
theorem lnum_any (x : Int) (w : World) : Calls Tryd.prog 22 #[.int .i64 x] w fun e w' => e = .returned (.int .i64 x) ∧ w' = w := by
  go_enter Tryd.func22, Tryd.ntmps22
  go_wp2
  go_ret
  exact ⟨rfl, rfl⟩
set_option maxHeartbeats 4000000 in
set_option maxRecDepth 100000 in
theorem linereads_of (s : List UInt8) (w : World) (hO : LnOk w) (hsl : s.length ≤ maxLen)
    (HR : ∀ w, LnOk w → Calls Tryd.prog 19 #[.string (bs s)] w (ReadIs w (readF s))) :
    Calls Tryd.prog 5 #[.string (bs s)] w fun en w' => en = .returned (.bool true) ∧ Below w.heap.size w w' := by
  have HO := Lib.hid hO
  have H1 := Lib.hid HR
  have H2 := Lib.hid (fun w => rread_any s w hsl)
  have HL := Lib.hid (fun w hO => llive_any w hO)
  have HF := Lib.hid (readF_few s)

  generalize readF s = R at H1 H2 HF
  obtain ⟨l, n, x⟩ := R
  have HS := Lib.hid (fun va vb w ha hb => esame_any l va vb w ha hb HF.out)
  have HN := Lib.hid (fun w => lnum_any x w)
  clear hO HR HF
  go_enter Tryd.func5, Tryd.ntmps5
  go_wp2_with fail
  refine (H1.out _ HO.out).mono ?_
  rintro en w1 ⟨p1, c1, rfl, r1, o1, b1⟩
  have HR1 := Lib.hid r1
  have HB1 := Lib.hid b1
  clear r1 o1 b1
  go_wp2_with fail
  refine (H2.out _).mono ?_
  rintro en w2 ⟨p2, c2, rfl, r2, o2, b2⟩
  have HR2 := Lib.hid r2
  have HR1b := Lib.hid (row_below HR1.out b2)
  have HB2 := Lib.hid (HB1.out.trans (b2.mono HB1.out.size))
  clear r2 o2 b2
  go_wp2_with fail
  refine (HS.out _ _ _ HR1b.out HR2.out).mono ?_
  rintro en w3 ⟨rfl, b3⟩
  have HB3 := Lib.hid (HB2.out.trans (b3.mono HB2.out.size))
  clear b3
  go_wp2_with fail
  refine (HN.out _).mono ?_
  rintro en w4 ⟨rfl, rfl⟩
  go_wp2_with fail
  refine (HL.out _ (HO.out.step HB3.out)).mono ?_
  rintro en w5 ⟨rfl, b5⟩
  go_wp2
  go_ret
  exact ⟨rfl, HB3.out.trans (b5.mono HB3.out.size)⟩
end Go.Proofs.YtloilknkhloegaaDoor
