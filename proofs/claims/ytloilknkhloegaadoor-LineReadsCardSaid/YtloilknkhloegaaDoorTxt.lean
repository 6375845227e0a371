/- texts: numerals, by the library's contracts. -/
import Derived.Test.YtloilknkhloegaaDoorBase
import Derived.Test.YtloilknkhloegaaDoorBSt
import Derived.Test.YtloilknkhloegaaDoorShelf
import Derived.Test.YtloilknkhloegaaDoorTxtF
import Derived.Lib.AppendIntMem
set_option linter.unusedSimpArgs false
set_option linter.unusedVariables false
namespace Go.Proofs.YtloilknkhloegaaDoor
open Go.RowKit

/-- the table of powers of ten lies as its text lays it, whatever is done above this world's blocks. -/
def TabOk (w : World) : Prop := Lib.TabBelow Tryd.prog w.heap.size w "internal/strconv.uint64pow10" .u64 Lib.pow10Tab
theorem TabOk.step {w w' : World} (h : TabOk w) (hb : Below w.heap.size w w') : TabOk w' := fun w2 h2 => h w2 (hb.trans (h2.mono hb.size))
theorem TabOk.alloc {w : World} (h : TabOk w) (o : Obj) : TabOk (w.alloc o) := h.step ((Below.refl _ _).alloc (Nat.le_refl _) _)

/-- a text by its bytes. -/
abbrev bs (l : List UInt8) : ByteArray := ⟨l.toArray⟩

theorem itoa_any (n : Int) (w : World) (hn : inI n) (hT : TabOk w) :
    Calls Tryd.prog 49 #[.int .i64 n] w fun e w' => e = .returned (.string (bs (Lib.itoa n))) ∧ Below w.heap.size w w' :=
  (Tryd.strconv_Itoa n hn.1 hn.2 w hT.here).mono fun _ _ ⟨he, k, os, hw⟩ => ⟨he, by rw [hw]; exact Lib.below_grow _ _ (Nat.le_refl _) _ _⟩
theorem format_any (n : Int) (w : World) (hn : inI n) (hT : TabOk w) :
    Calls Tryd.prog 46 #[.int .i64 n, .int .i64 10] w fun e w' => e = .returned (.string (bs (Lib.itoa n))) ∧ Below w.heap.size w w' :=
  (Tryd.strconv_FormatInt_10 n hn.1 hn.2 w hT.here).mono fun _ _ ⟨he, k, os, hw⟩ => ⟨he, by rw [hw]; exact Lib.below_grow _ _ (Nat.le_refl _) _ _⟩

theorem srow_shape {w : World} {e sz n : Nat} {v : Value} {xs : List Value} (h : w.ownsRow 0 e sz v n xs) : ∃ a c, v = .slice a n c := by
  rcases h.2 with ⟨rfl, rfl⟩ | ⟨g, cap, cur, rfl, -⟩
  · exact ⟨_, _, rfl⟩
  · exact ⟨_, _, rfl⟩
theorem row_below {w w' : World} {e sz n : Nat} {v : Value} {xs : List Value} (h : w.ownsRow 0 e sz v n xs) (hb : Below w.heap.size w w') : w'.ownsRow 0 e sz v n xs :=
  ownsRow_block h fun k hk => hb.block k (ownsRow_lt h hk)
end Go.Proofs.YtloilknkhloegaaDoor
