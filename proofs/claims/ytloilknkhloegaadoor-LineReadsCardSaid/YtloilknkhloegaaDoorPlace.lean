/- place: where cells and words lie. -/
import Derived.Test.YtloilknkhloegaaDoorConf
set_option linter.unusedSimpArgs false
set_option linter.unusedVariables false
namespace Go.Proofs.YtloilknkhloegaaDoor
open Go.RowKit

theorem right_bd {t p s : Int} (h : rightB t p s = true) : 1 ≤ t ∧ t ≤ 16 ∧ 4 ≤ p ∧ p ≤ 1024 ∧ 10 ≤ s ∧ s ≤ 20 := by
  simp [rightB, outB] at h; omega
theorem right_mk {t p s : Int} (h : 1 ≤ t ∧ t ≤ 16 ∧ 4 ≤ p ∧ p ≤ 1024 ∧ 10 ≤ s ∧ s ≤ 20) : rightB t p s = true := by
  simp [rightB, outB]; omega

def cellsN (t p : Int) : Int := 30 + 4 * t + 6 * p
def makersN (t p : Int) : Int := (16 + cellsN t p + 7) / 8 * 8
def wordsN (t p : Int) : Int := makersN t p + 120 * (t + 1)

def cellsF (t p s : Int) : Int := if rightB t p s then cellsN t p else 0
def wordsF (t p s : Int) : Int := if rightB t p s then wordsN t p else 0

def withinF (f i m : Int) : Int := if i < 0 ∨ m ≤ i then -1 else f + i

def ofF (t p s q part : Int) : Int := if rightB t p s = true ∧ 0 ≤ q ∧ q < p then 30 + 4 * t + 6 * q + part else -1

end Go.Proofs.YtloilknkhloegaaDoor
