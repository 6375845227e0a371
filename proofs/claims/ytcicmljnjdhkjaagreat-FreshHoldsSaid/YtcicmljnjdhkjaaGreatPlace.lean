/- place: where cells and words lie. -/
import Derived.Test.YtcicmljnjdhkjaaGreatConf
namespace Go.Proofs.YtcicmljnjdhkjaaGreat
open Go.RowKit

theorem right_bd {t p s : Int} (h : rightB t p s = true) : 1 ≤ t ∧ t ≤ 16 ∧ 4 ≤ p ∧ p ≤ 1024 ∧ 10 ≤ s ∧ s ≤ 20 := by
  simp [rightB, outB] at h; omega
theorem right_mk {t p s : Int} (h : 1 ≤ t ∧ t ≤ 16 ∧ 4 ≤ p ∧ p ≤ 1024 ∧ 10 ≤ s ∧ s ≤ 20) : rightB t p s = true := by
  simp [rightB, outB]; omega

def cellsN (t p : Int) : Int := 30 + 4 * t + 6 * p
def makersN (t p : Int) : Int := (16 + cellsN t p + 7) / 8 * 8
def wordsN (t p : Int) : Int := makersN t p + 120 * (t + 1)

theorem lcells_any (t p s m : Int) (w : World) (hr : rightB t p s = true) :
    Calls Tryz.prog 105 #[.agg #[.int .i64 t, .int .i64 p, .int .i64 s, .int .i64 m]] w fun e w' => e = .returned (.int .i64 (cellsN t p)) ∧ Below w.heap.size w w' := by
  obtain ⟨b1, b2, b3, b4, b5, b6⟩ := right_bd hr
  clear hr
  go_enter Tryz.func105, Tryz.ntmps105
  go_wp2
  go_ret
  exact ⟨rfl, (Below.refl _ _).alloc (Nat.le_refl _) _⟩

theorem lwords_any (t p s m : Int) (w : World) (hr : rightB t p s = true) (hm : m = makersN t p) :
    Calls Tryz.prog 113 #[.agg #[.int .i64 t, .int .i64 p, .int .i64 s, .int .i64 m]] w fun e w' => e = .returned (.int .i64 (wordsN t p)) ∧ Below w.heap.size w w' := by
  obtain ⟨b1, b2, b3, b4, b5, b6⟩ := right_bd hr
  have hm1 : 0 ≤ m := by unfold makersN cellsN at hm; omega
  have hm2 : m ≤ 10000 := by unfold makersN cellsN at hm; omega
  have hw : wordsN t p = m + 120 * (t + 1) := by rw [hm]; rfl
  rw [hw]
  clear hr hm hw
  go_enter Tryz.func113, Tryz.ntmps113
  go_wp2
  go_ret
  exact ⟨rfl, (Below.refl _ _).alloc (Nat.le_refl _) _⟩

theorem lay_right (t p s : Int) (w : World) (hr : rightB t p s = true) :
    Calls Tryz.prog 104 #[.agg #[.int .i64 t, .int .i64 p, .int .i64 s]] w fun e w' => e = .returned (.tuple #[.agg #[.int .i64 t, .int .i64 p, .int .i64 s, .int .i64 (makersN t p)], .bool true]) ∧ Below w.heap.size w w' := by
  have hb1 : 0 ≤ cellsN t p := by have := right_bd hr; unfold cellsN; omega
  have hb2 : cellsN t p ≤ 10000 := by have := right_bd hr; unfold cellsN; omega
  have hmk : (16 + cellsN t p + 8 - 1) / 8 * 8 = makersN t p := by unfold makersN; omega
  have Hmk := Lib.hid hmk
  clear hmk
  go_enter Tryz.func104, Tryz.ntmps104
  go_wp2_with fail
  refine (check_right _ _ _ _ hr).mono ?_
  rintro e w1 ⟨rfl, ha⟩
  obtain ⟨hac, haf⟩ := bcell ha
  have haz0 : w.heap.size < w1.heap.size := by have := ha.size; first | omega | (simp at this; omega)
  have haz1 : w.heap.size + 1 < w1.heap.size := by have := ha.size; first | omega | (simp at this; omega)
  go_wp2_with fail
  refine (lcells_any _ _ _ _ _ hr).mono ?_
  rintro e w2 ⟨rfl, hb⟩
  obtain ⟨hbc, hbf⟩ := bcell hb
  have hbz0 : w1.heap.size < w2.heap.size := by have := hb.size; first | omega | (simp at this; omega)
  go_wp2
  refine bodyPost_ret (v := .tuple #[.agg #[.int .i64 t, .int .i64 p, .int .i64 s, .int .i64 ((16 + cellsN t p + 8 - 1) / 8 * 8)], .bool true]) (by simp [results, Tryz.results104, go_sem, *]) rfl ⟨by rw [Hmk.out], ?_⟩
  (repeat (first | exact Below.refl _ _ | assumption | refine Below.setCell ?_ (by first | omega | (simp; done) | (simp; omega)) _ | refine Below.alloc ?_ (by first | omega | (simp; done) | (simp; omega)) _ | refine Below.drew ?_ | refine Below.trans ?_ (Below.mono ‹Below _ _ _› (by first | omega | (simp; done) | (simp; omega)))))

theorem lay_wrong (t p s : Int) (w : World) (hr : rightB t p s = false) :
    Calls Tryz.prog 104 #[.agg #[.int .i64 t, .int .i64 p, .int .i64 s]] w fun e w' => e = .returned (.tuple #[.agg #[.int .i64 0, .int .i64 0, .int .i64 0, .int .i64 0], .bool false]) ∧ Below w.heap.size w w' := by
  go_enter Tryz.func104, Tryz.ntmps104
  go_wp2_with fail
  refine (check_wrong _ _ _ _ hr).mono ?_
  rintro e w1 ⟨rfl, ha⟩
  obtain ⟨hac, haf⟩ := bcell ha
  have haz0 : w.heap.size < w1.heap.size := by have := ha.size; first | omega | (simp at this; omega)
  have haz1 : w.heap.size + 1 < w1.heap.size := by have := ha.size; first | omega | (simp at this; omega)
  go_wp2
  refine bodyPost_ret (v := .tuple #[.agg #[.int .i64 0, .int .i64 0, .int .i64 0, .int .i64 0], .bool false]) (by simp [results, Tryz.results104, go_sem, *]) rfl ⟨rfl, ?_⟩
  (repeat (first | exact Below.refl _ _ | assumption | refine Below.setCell ?_ (by first | omega | (simp; done) | (simp; omega)) _ | refine Below.alloc ?_ (by first | omega | (simp; done) | (simp; omega)) _ | refine Below.drew ?_ | refine Below.trans ?_ (Below.mono ‹Below _ _ _› (by first | omega | (simp; done) | (simp; omega)))))

def cellsF (t p s : Int) : Int := if rightB t p s then cellsN t p else 0
def wordsF (t p s : Int) : Int := if rightB t p s then wordsN t p else 0

theorem cells_any (t p s : Int) (w : World) :
    Calls Tryz.prog 44 #[.agg #[.int .i64 t, .int .i64 p, .int .i64 s]] w fun e w' => e = .returned (.int .i64 (cellsF t p s)) ∧ Below w.heap.size w w' := by
  cases hr : rightB t p s
  · have hF : cellsF t p s = 0 := by simp [cellsF, hr]
    rw [hF]
    go_enter Tryz.func44, Tryz.ntmps44
    go_wp2_with fail
    refine (lay_wrong _ _ _ _ hr).mono ?_
    rintro e w1 ⟨rfl, ha⟩
    obtain ⟨hac, haf⟩ := bcell ha
    have haz0 : w.heap.size < w1.heap.size := by have := ha.size; first | omega | (simp at this; omega)
    go_wp2
    go_ret
    refine ⟨rfl, ?_⟩
    (repeat (first | exact Below.refl _ _ | assumption | refine Below.setCell ?_ (by first | omega | (simp; done) | (simp; omega)) _ | refine Below.alloc ?_ (by first | omega | (simp; done) | (simp; omega)) _ | refine Below.drew ?_ | refine Below.trans ?_ (Below.mono ‹Below _ _ _› (by first | omega | (simp; done) | (simp; omega)))))
  · have hF : cellsF t p s = cellsN t p := by simp [cellsF, hr]
    rw [hF]
    go_enter Tryz.func44, Tryz.ntmps44
    go_wp2_with fail
    refine (lay_right _ _ _ _ hr).mono ?_
    rintro e w1 ⟨rfl, ha⟩
    obtain ⟨hac, haf⟩ := bcell ha
    have haz0 : w.heap.size < w1.heap.size := by have := ha.size; first | omega | (simp at this; omega)
    go_wp2_with fail
    refine (lcells_any _ _ _ _ _ hr).mono ?_
    rintro e w2 ⟨rfl, hb⟩
    obtain ⟨hbc, hbf⟩ := bcell hb
    go_wp2
    go_ret
    refine ⟨rfl, ?_⟩
    (repeat (first | exact Below.refl _ _ | assumption | refine Below.setCell ?_ (by first | omega | (simp; done) | (simp; omega)) _ | refine Below.alloc ?_ (by first | omega | (simp; done) | (simp; omega)) _ | refine Below.drew ?_ | refine Below.trans ?_ (Below.mono ‹Below _ _ _› (by first | omega | (simp; done) | (simp; omega)))))

theorem words_any (t p s : Int) (w : World) :
    Calls Tryz.prog 47 #[.agg #[.int .i64 t, .int .i64 p, .int .i64 s]] w fun e w' => e = .returned (.int .i64 (wordsF t p s)) ∧ Below w.heap.size w w' := by
  cases hr : rightB t p s
  · have hF : wordsF t p s = 0 := by simp [wordsF, hr]
    rw [hF]
    go_enter Tryz.func47, Tryz.ntmps47
    go_wp2_with fail
    refine (lay_wrong _ _ _ _ hr).mono ?_
    rintro e w1 ⟨rfl, ha⟩
    obtain ⟨hac, haf⟩ := bcell ha
    have haz0 : w.heap.size < w1.heap.size := by have := ha.size; first | omega | (simp at this; omega)
    go_wp2
    go_ret
    refine ⟨rfl, ?_⟩
    (repeat (first | exact Below.refl _ _ | assumption | refine Below.setCell ?_ (by first | omega | (simp; done) | (simp; omega)) _ | refine Below.alloc ?_ (by first | omega | (simp; done) | (simp; omega)) _ | refine Below.drew ?_ | refine Below.trans ?_ (Below.mono ‹Below _ _ _› (by first | omega | (simp; done) | (simp; omega)))))
  · have hF : wordsF t p s = wordsN t p := by simp [wordsF, hr]
    rw [hF]
    go_enter Tryz.func47, Tryz.ntmps47
    go_wp2_with fail
    refine (lay_right _ _ _ _ hr).mono ?_
    rintro e w1 ⟨rfl, ha⟩
    obtain ⟨hac, haf⟩ := bcell ha
    have haz0 : w.heap.size < w1.heap.size := by have := ha.size; first | omega | (simp at this; omega)
    go_wp2_with fail
    refine (lwords_any _ _ _ _ _ hr rfl).mono ?_
    rintro e w2 ⟨rfl, hb⟩
    obtain ⟨hbc, hbf⟩ := bcell hb
    go_wp2
    go_ret
    refine ⟨rfl, ?_⟩
    (repeat (first | exact Below.refl _ _ | assumption | refine Below.setCell ?_ (by first | omega | (simp; done) | (simp; omega)) _ | refine Below.alloc ?_ (by first | omega | (simp; done) | (simp; omega)) _ | refine Below.drew ?_ | refine Below.trans ?_ (Below.mono ‹Below _ _ _› (by first | omega | (simp; done) | (simp; omega)))))

def withinF (f i m : Int) : Int := if i < 0 ∨ m ≤ i then -1 else f + i

theorem within_any (f i m : Int) (w : World) (h1 : 0 ≤ f) (h2 : f ≤ 1000000) (h3 : m ≤ 1000000) :
    Calls Tryz.prog 118 #[.int .i64 f, .int .i64 i, .int .i64 m] w fun e w' => e = .returned (.int .i64 (withinF f i m)) ∧ w = w' := by
  by_cases h4 : i < 0
  · have hF : withinF f i m = -1 := by simp [withinF, h4]
    rw [hF]
    go_enter Tryz.func118, Tryz.ntmps118
    go_wp2
    go_ret
    exact ⟨rfl, rfl⟩
  · by_cases h5 : m ≤ i
    · have hF : withinF f i m = -1 := by simp [withinF, h5]
      rw [hF]
      go_enter Tryz.func118, Tryz.ntmps118
      go_wp2
      go_ret
      exact ⟨rfl, rfl⟩
    · have hF : withinF f i m = f + i := by simp [withinF, h5, h4]
      rw [hF]
      go_enter Tryz.func118, Tryz.ntmps118
      go_wp2
      go_ret
      exact ⟨rfl, rfl⟩

def ofF (t p s q part : Int) : Int := if rightB t p s = true ∧ 0 ≤ q ∧ q < p then 30 + 4 * t + 6 * q + part else -1

theorem of_any (t p s q part : Int) (w : World) (h1 : 0 ≤ part) (h2 : part ≤ 5) :
    Calls Tryz.prog 157 #[.agg #[.int .i64 t, .int .i64 p, .int .i64 s], .int .i64 q, .int .i64 part] w fun e w' => e = .returned (.int .i64 (ofF t p s q part)) ∧ Below w.heap.size w w' := by
  cases hr : rightB t p s
  · have hF : ofF t p s q part = -1 := by simp [ofF, hr]
    rw [hF]
    go_enter Tryz.func157, Tryz.ntmps157
    go_wp2_with fail
    refine (lay_wrong _ _ _ _ hr).mono ?_
    rintro e w1 ⟨rfl, ha⟩
    obtain ⟨hac, haf⟩ := bcell ha
    have haz0 : w.heap.size < w1.heap.size := by have := ha.size; first | omega | (simp at this; omega)
    go_wp2
    go_ret
    refine ⟨rfl, ?_⟩
    (repeat (first | exact Below.refl _ _ | assumption | refine Below.setCell ?_ (by first | omega | (simp; done) | (simp; omega)) _ | refine Below.alloc ?_ (by first | omega | (simp; done) | (simp; omega)) _ | refine Below.drew ?_ | refine Below.trans ?_ (Below.mono ‹Below _ _ _› (by first | omega | (simp; done) | (simp; omega)))))
  · obtain ⟨b1, b2, b3, b4, b5, b6⟩ := right_bd hr
    by_cases h4 : q < 0
    · have hF : ofF t p s q part = -1 := by simp [ofF, hr]; omega
      rw [hF]
      go_enter Tryz.func157, Tryz.ntmps157
      go_wp2_with fail
      refine (lay_right _ _ _ _ hr).mono ?_
      rintro e w1 ⟨rfl, ha⟩
      obtain ⟨hac, haf⟩ := bcell ha
      have haz0 : w.heap.size < w1.heap.size := by have := ha.size; first | omega | (simp at this; omega)
      go_wp2
      go_ret
      refine ⟨rfl, ?_⟩
      (repeat (first | exact Below.refl _ _ | assumption | refine Below.setCell ?_ (by first | omega | (simp; done) | (simp; omega)) _ | refine Below.alloc ?_ (by first | omega | (simp; done) | (simp; omega)) _ | refine Below.drew ?_ | refine Below.trans ?_ (Below.mono ‹Below _ _ _› (by first | omega | (simp; done) | (simp; omega)))))
    · by_cases h5 : p ≤ q
      · have hF : ofF t p s q part = -1 := by simp [ofF, hr]; omega
        rw [hF]
        go_enter Tryz.func157, Tryz.ntmps157
        go_wp2_with fail
        refine (lay_right _ _ _ _ hr).mono ?_
        rintro e w1 ⟨rfl, ha⟩
        obtain ⟨hac, haf⟩ := bcell ha
        have haz0 : w.heap.size < w1.heap.size := by have := ha.size; first | omega | (simp at this; omega)
        go_wp2
        go_ret
        refine ⟨rfl, ?_⟩
        (repeat (first | exact Below.refl _ _ | assumption | refine Below.setCell ?_ (by first | omega | (simp; done) | (simp; omega)) _ | refine Below.alloc ?_ (by first | omega | (simp; done) | (simp; omega)) _ | refine Below.drew ?_ | refine Below.trans ?_ (Below.mono ‹Below _ _ _› (by first | omega | (simp; done) | (simp; omega)))))
      · have hF : ofF t p s q part = 30 + 4 * t + 6 * q + part := by simp [ofF, hr]; omega
        rw [hF]
        go_enter Tryz.func157, Tryz.ntmps157
        go_wp2_with fail
        refine (lay_right _ _ _ _ hr).mono ?_
        rintro e w1 ⟨rfl, ha⟩
        obtain ⟨hac, haf⟩ := bcell ha
        have haz0 : w.heap.size < w1.heap.size := by have := ha.size; first | omega | (simp at this; omega)
        go_wp2
        go_ret
        refine ⟨rfl, ?_⟩
        (repeat (first | exact Below.refl _ _ | assumption | refine Below.setCell ?_ (by first | omega | (simp; done) | (simp; omega)) _ | refine Below.alloc ?_ (by first | omega | (simp; done) | (simp; omega)) _ | refine Below.drew ?_ | refine Below.trans ?_ (Below.mono ‹Below _ _ _› (by first | omega | (simp; done) | (simp; omega)))))

end Go.Proofs.YtcicmljnjdhkjaaGreat
