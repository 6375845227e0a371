/- small laws on worlds, for all texts of this seat. -/
import Derived.WalkKit
import Derived.WalkSpells
import Derived.WalkLawsBesides
import Derived.Lib.Hide
import Derived.Deep.RegionHeld3
set_option linter.unusedSimpArgs false
set_option linter.unusedVariables false
namespace Go.Proofs.YtloilknkhloegaaDoor
open Go.RowKit

theorem bcell {W w1 : World} (hb : Below W.heap.size W w1) : (∀ b o, b < W.heap.size → w1.cell? ⟨b, o, none⟩ = W.cell? ⟨b, o, none⟩) ∧ (∀ b o, b < W.heap.size → w1.frozen? ⟨b, o, none⟩ = W.frozen? ⟨b, o, none⟩) :=
  ⟨fun b o h => hb.cell (p := ⟨b, o, none⟩) h, fun b o h => hb.frozen (p := ⟨b, o, none⟩) h⟩

theorem hb_alloc (w : World) (o : Obj) (k : Nat) (h : k = w.heap.size) : (w.alloc o).heap[k]? = some o := by subst h; exact heap_alloc_new w o
theorem hb_drew {w : World} {k : Nat} {x : Option Obj} (h : w.heap[k]? = x) : w.drew.heap[k]? = x := h

theorem cell?_of_heap {w : World} {b o : Nat} {cs : Array Value} {T : TypeId} {fr : Nat × Nat} (h : w.heap[b]? = some (.cells cs T fr)) : w.cell? ⟨b, o, none⟩ = cs[o]? := by simp [World.cell?, h]

/-- what a drawn region keeps: the cells of the box b, and all below. -/
theorem keepB {W w' w0 : World} {b : Nat} {cs : Array Value} (hb : Below W.heap.size W w') (h : (∀ o : Nat, W.cell? ⟨b, o, none⟩ = cs[o]?) ∧ b < W.heap.size ∧ Below w0.heap.size w0 W) :
    (∀ o : Nat, w'.cell? ⟨b, o, none⟩ = cs[o]?) ∧ b < w'.heap.size ∧ Below w0.heap.size w0 w' :=
  ⟨fun o => (hb.cell (p := ⟨b, o, none⟩) h.2.1).trans (h.1 o), Nat.lt_of_lt_of_le h.2.1 hb.size, h.2.2.trans (hb.mono h.2.2.size)⟩
theorem keepD {W w0 : World} {b : Nat} {cs : Array Value} (h : (∀ o : Nat, W.cell? ⟨b, o, none⟩ = cs[o]?) ∧ b < W.heap.size ∧ Below w0.heap.size w0 W) :
    (∀ o : Nat, W.drew.cell? ⟨b, o, none⟩ = cs[o]?) ∧ b < W.drew.heap.size ∧ Below w0.heap.size w0 W.drew := ⟨h.1, h.2.1, h.2.2.drew⟩
theorem startB (w : World) (cs : Array Value) (T : TypeId) : (∀ o : Nat, (w.alloc (.cells cs T)).cell? ⟨w.heap.size, o, none⟩ = cs[o]?) ∧ w.heap.size < (w.alloc (.cells cs T)).heap.size ∧ Below w.heap.size w (w.alloc (.cells cs T)) :=
  ⟨fun o => by rw [cell?_of_heap (heap_alloc_new w _)], by simp, (Below.refl _ _).alloc (Nat.le_refl _) _⟩

theorem wrap_in (n : Int) (h : -9223372036854775808 ≤ n ∧ n ≤ 9223372036854775807) : IntKind.i64.wrap n = n := IntWalk.i64_in _ h
theorem ret_bool {a b : Bool} (h : a = b) : Ending.returned (.bool a) = Ending.returned (.bool b) := by rw [h]
theorem ret_int {k : IntKind} {a b : Int} (h : a = b) : Ending.returned (.int k a) = Ending.returned (.int k b) := by rw [h]

end Go.Proofs.YtloilknkhloegaaDoor
