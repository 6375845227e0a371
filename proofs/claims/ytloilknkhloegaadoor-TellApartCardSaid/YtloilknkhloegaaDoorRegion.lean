/- two calls of a drawn region that may come in either order, met as one step. -/
import Derived.Deep.RegionHeld3
set_option linter.unusedSimpArgs false
set_option linter.unusedVariables false
namespace Go.Proofs.YtloilknkhloegaaDoor

section
variable {P : Program} {ops : Array Oper} {Q : Exit → Act → World → Prop} {md : Region.Mode} {S : World → Prop}

theorem put_comm (a : Act) (d e : Tmp) (u v : Value) (h : d ≠ e) : (a.put (some d) u).put (some e) v = (a.put (some e) v).put (some d) u := by
  unfold Act.put
  simp only []
  congr 1
  exact Array.setIfInBounds_comm _ _ h

/-- how an operation is carried out: behind it S holds, and its slot holds v. -/
def Runs (P : Program) (ops : Array Oper) (Q : Exit → Act → World → Prop) (S : World → Prop) (o : Oper) (v : Value) (a : Act) : Prop :=
  ∀ w, S w → ∀ K : Act → World → Prop, Shut (∀ a' w', a' = a.put o.dst v → S w' → K a' w') → if Region.wanted o (yielded ops a.tmps) = true then Oper.wp P o a w K Q else K (a.put o.dst undef) w

theorem wpAnyH_two {i j : Nat} {oi oj : Oper} {di dj : Tmp} {vi vj : Value} {fuel : Nat} {listed : Array Bool} {a : Act} {w : World} (hi : ops[i]? = some oi) (hj : ops[j]? = some oj)
    (hr : Region.ready md ops listed = [i, j]) (hr1 : Region.ready md ops (listed.setIfInBounds i true) = [j]) (hr2 : Region.ready md ops (listed.setIfInBounds j true) = [i])
    (hdi : oi.dst = some di) (hdj : oj.dst = some dj) (hne : di ≠ dj) (hij : i ≠ j) (hS : S w)
    (h1 : Runs P ops Q S oi vi a) (h2 : Runs P ops Q S oj vj (a.put oi.dst vi)) (h3 : Runs P ops Q S oj vj a) (h4 : Runs P ops Q S oi vi (a.put oj.dst vj))
    (hc : ∀ w', S w' → wpAnyH P md ops Q S fuel ((listed.setIfInBounds i true).setIfInBounds j true) ((a.put oi.dst vi).put oj.dst vj) w') : wpAnyH P md ops Q S (fuel + 2) listed a w := by
  refine wpAnyH_ready hr (by simp) (AllReadyH.cons hi (fun K hK => ?_) (AllReadyH.cons hj (fun K hK => ?_) AllReadyH.nil))
  · refine h1 w hS K fun a1 w1 ha1 hS1 => hK.out _ _ hS1 fun _ => ?_
    subst ha1
    refine wpAnyH_ready hr1 (by simp) (AllReadyH.cons hj (fun K2 hK2 => ?_) AllReadyH.nil)
    refine h2 w1 hS1 K2 fun a2 w2 ha2 hS2 => hK2.out _ _ hS2 fun _ => ?_
    subst ha2
    exact hc w2 hS2
  · refine h3 w hS K fun a1 w1 ha1 hS1 => hK.out _ _ hS1 fun _ => ?_
    subst ha1
    refine wpAnyH_ready hr2 (by simp) (AllReadyH.cons hi (fun K2 hK2 => ?_) AllReadyH.nil)
    refine h4 w1 hS1 K2 fun a2 w2 ha2 hS2 => hK2.out _ _ hS2 fun _ => ?_
    subst ha2
    have e1 : (a.put oj.dst vj).put oi.dst vi = (a.put oi.dst vi).put oj.dst vj := by rw [hdi, hdj]; exact (put_comm a di dj vi vj hne).symm
    have e2 : (listed.setIfInBounds j true).setIfInBounds i true = (listed.setIfInBounds i true).setIfInBounds j true := Array.setIfInBounds_comm _ _ (Ne.symm hij)
    rw [e1, e2]
    exact hc w2 hS2
end
end Go.Proofs.YtloilknkhloegaaDoor
