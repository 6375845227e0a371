/- regions that draw, in a round of a range over a function (the generic head of XIter, for seats without the audit). -/
import Derived.RangeFuncNested
import Derived.RangeFuncBound
import Derived.RangeFuncCalls
import Derived.RangeFuncLeaves
import Derived.Shelf.Abstract
import Derived.WalkKit
import Derived.OwnWalkIn
import Derived.TacticsInMore
import Derived.LoopNIn
import Derived.LoopIn
import Derived.OrdersIn
import Derived.Test.YtloilknkhloegaaDoorBSt
set_option linter.unusedSimpArgs false
set_option linter.unusedVariables false
namespace Go.Proofs.YtloilknkhloegaaDoor
open Go.RowKit
attribute [local go_sem] Oper.semAt_some

/-- an operation that is no defer statement. -/
def noDefer (o : Oper) : Bool := match o.op with | .defer _ => false | _ => true
theorem noDefer_spec {o : Oper} (h : noDefer o = true) : ∀ c, o.op ≠ .defer c := by
  intro c e
  unfold noDefer at h
  rw [e] at h
  simp at h
/-- the post of a way on alone. -/
def Only (Q : Exit → Act → World → Prop) : Exit → Act → World → Prop
  | .normal, a, w => Q .normal a w
  | _, _, _ => False
theorem Only.normal {Q : Exit → Act → World → Prop} {a : Act} {w : World} (h : Q .normal a w) : Only Q .normal a w := h
theorem Only.imp {Q : Exit → Act → World → Prop} : ∀ (e : Exit) (a : Act) (w : World), Only Q e a w → Q e a w := fun e a w h => by
  cases e <;> first | exact h | exact (h : False).elim
theorem noOut {Q : Exit → Act → World → Prop} : ¬ LetsOut (NoPanic (Only Q)) := fun ⟨_, _, h⟩ => h
section
variable {P : Program} {ops : Array Oper} {Q : Exit → Act → World → Prop} {md : Region.Mode} {l n : Nat}
theorem wideDepth : (Fence.wide.inRound l).depth.isSome = true → 1 ≤ n := fun h => by
  have : (Fence.wide.inRound l).depth = none := rfl
  rw [this] at h
  simp at h
theorem wpOpIn_of_wpOp (hnd : ops.all noDefer = true) (hQ : ¬ LetsOut Q) {i : Nat} {K : Act → World → Prop} {a : Act} {w : World} (h : wpOp P ops Q i K a w) : wpOpIn (Fence.wide.inRound l) n P ops Q i K a w := by
  unfold wpOp at h
  unfold wpOpIn
  cases ho : ops[i]? with
  | none => simpa [ho] using h
  | some o =>
    simp only [ho] at h ⊢
    have hno : noDefer o = true := by
      obtain ⟨hi, e⟩ := Array.getElem?_eq_some_iff.1 ho
      rw [← e]
      exact (Array.all_eq_true.1 hnd) i hi
    split
    · rename_i hw
      simp only [hw, if_true] at h
      rcases h with h | ⟨-, h⟩
      · refine ⟨fun _ _ => trivial, ?_⟩
        unfold Oper.wp at h
        rw [show (Fence.wide.inRound l).round = some l from rfl, Oper.semAt_some l _ o (noDefer_spec hno)]
        generalize (execOp a.eval o).run P w = r at *
        cases r with
        | ok x w' =>
          cases x with
          | value v => exact h
          | skip => exact h
          | defer d => exact h
          | enter f args => exact ⟨wideDepth, CallsIn.inRound l (callsIn_wide.2 h)⟩
          | row row args =>
            refine ⟨wideDepth, fun c cs _ => ?_⟩
            obtain ⟨v, w2, hR, hs⟩ := h c cs
            exact ⟨v, w2, hR, stepsIn_wide.2 hs⟩
          | round l f tmps assign body => exact (h : False).elim
          | _ => exact (h : False).elim
        | halt x w' =>
          cases x <;> first | exact h | exact (h : False).elim
      · exact absurd h hQ
    · rename_i hw
      simp only [hw] at h
      exact ⟨fun _ _ => trivial, h⟩
theorem wpAnyIn_of_wpAny (hnd : ops.all noDefer = true) (hQ : ¬ LetsOut Q) : ∀ (fuel : Nat) (listed : Array Bool) (a : Act) (w : World), wpAny P md ops Q fuel listed a w → wpAnyIn (Fence.wide.inRound l) n P md ops Q fuel listed a w
  | 0, _, _, _, h => h
  | fuel + 1, _, _, _, h => ⟨h.1, fun i hi => wpOpIn_mono (fun a' w' h' => wpAnyIn_of_wpAny hnd hQ fuel _ a' w' h') (wpOpIn_of_wpOp hnd hQ (h.2 i hi))⟩
theorem wpIn_region_held_drew {S : World → Prop} {id : Nat} {a : Act} {w : World} (hm : P.follows .mixedOrders = true) (hnd : ops.all noDefer = true) (hS : S w.drew)
    (h : S w.drew → wpAnyH P .any ops (NoPanic (Only Q)) S ops.size (Array.replicate ops.size false) a w.drew) : (Code.region id ops true).wpIn (Fence.wide.inRound l) n P Q a w :=
  wpIn_mono (wpIn_region_any hm (wpAnyIn_of_wpAny hnd noOut _ _ _ _ (wpAny_of_held _ _ _ _ (h hS)))) fun e a w hq => Only.imp e a w (NoPanic.imp e a w hq)
end
end Go.Proofs.YtloilknkhloegaaDoor
