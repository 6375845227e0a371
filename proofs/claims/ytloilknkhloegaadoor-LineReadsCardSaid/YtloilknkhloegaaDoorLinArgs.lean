/- lines: the arguments of the laws; what the rows list, and a world that meets it. -/
import Derived.Test.YtloilknkhloegaaDoorLinB
import Derived.Test.YtloilknkhloegaaDoorTellCard
import Derived.ChangeMaps5
set_option linter.unusedSimpArgs false
set_option linter.unusedVariables false
namespace Go.Proofs.YtloilknkhloegaaDoor
open Go.ChangeShapes Go.RowKit Go.Joins

theorem c_entry : Tryd.prog.cellsOf 54 = 8 := by kernel_rfl
set_option maxRecDepth 100000 in
theorem one_entry {H : Type} {enc : TypeId × Value → H} {w : World} {base : Nat} {spare : Nat → Bool} {held : Bool} {fuel : Nat} {cs : List Value} {x : DataW H × List MemPlace} (h : DataW.trod enc Tryd.prog w base spare held fuel 54 cs = some x) :
    ∃ e : PEn, e.ok ∧ cs = enC e := by
  obtain ⟨xs, m, -, -, hl, hn, hf⟩ := DataW.trod_struct Tryd.underlying54 h
  have h3 : cs.length = 8 := hl.trans c_entry
  clear hl h
  match xs, hn with
  | [y0, y1, y2, y3, y4, y5], _ =>
    have f0 : DataW.trod enc Tryd.prog w base spare held m 3 ((cs.drop 0).take 1) = some y0 := by simpa [c_int] using hf 0 _ rfl
    have f1 : DataW.trod enc Tryd.prog w base spare held m 3 ((cs.drop 1).take 1) = some y1 := by simpa [c_int] using hf 1 _ rfl
    have f2 : DataW.trod enc Tryd.prog w base spare held m 3 ((cs.drop 2).take 1) = some y2 := by simpa [c_int] using hf 2 _ rfl
    have f3 : DataW.trod enc Tryd.prog w base spare held m 23 ((cs.drop 3).take 3) = some y3 := by simpa [c_op] using hf 3 _ rfl
    have f4 : DataW.trod enc Tryd.prog w base spare held m 3 ((cs.drop 6).take 1) = some y4 := by simpa [c_int] using hf 4 _ rfl
    have f5 : DataW.trod enc Tryd.prog w base spare held m 3 ((cs.drop 7).take 1) = some y5 := by simpa [c_int] using hf 5 _ rfl
    obtain ⟨a, ha, e0⟩ := one_int f0
    obtain ⟨b, hb, e1⟩ := one_int f1
    obtain ⟨c, hc, e2⟩ := one_int f2
    obtain ⟨o, ho, e3⟩ := one_op f3
    obtain ⟨n, hn2, e4⟩ := one_int f4
    obtain ⟨k, hk, e5⟩ := one_int f5
    refine ⟨⟨a, b, c, o, n, k⟩, ⟨ha, hb, hc, ho, hn2, hk⟩, ?_⟩
    have hs : cs = cs.take 1 ++ ((cs.drop 1).take 1 ++ ((cs.drop 2).take 1 ++ ((cs.drop 3).take 3 ++ ((cs.drop 6).take 1 ++ (cs.drop 7).take 1)))) := by
      have h4 : (cs.drop 7).take 1 = cs.drop 7 := List.take_of_length_le (by simp; omega)
      rw [h4, show cs.drop 7 = (cs.drop 6).drop 1 by simp, List.take_append_drop, show cs.drop 6 = (cs.drop 3).drop 3 by simp, List.take_append_drop, show cs.drop 3 = (cs.drop 2).drop 1 by simp, List.take_append_drop, show cs.drop 2 = (cs.drop 1).drop 1 by simp, List.take_append_drop, List.take_append_drop]
    rw [hs]
    simp only [List.drop_zero] at e0
    rw [e0, e1, e2, e3, e4, e5]
    rfl

theorem gES : Tryd.prog.globalNamed "strconv.ErrSyntax" = some 4 := by kernel_rfl
theorem gESType : (Tryd.prog.globals[4]?).map (·.type) = some 99 := by kernel_rfl
theorem gER : Tryd.prog.globalNamed "strconv.ErrRange" = some 5 := by kernel_rfl
theorem gERType : (Tryd.prog.globals[5]?).map (·.type) = some 99 := by kernel_rfl
theorem c_estr : Tryd.prog.cellsOf 151 = 1 := by kernel_rfl
theorem c_str : Tryd.prog.cellsOf 9 = 1 := by kernel_rfl
theorem estr_star : "*" ++ "errors.errorString" = "*errors.errorString" := by decide
theorem row_estr (u : TypeId) (h : Tryd.prog.typeName? 3 u = some "*errors.errorString") : u = 149 :=
  typeName_ptr_named (nm := "errors.errorString") (by rw [estr_star]; kernel_rfl) (by kernel_rfl) (by decide) u (by rw [estr_star]; exact h)
theorem lines_ok {W : World} {x0 x1 x3 : String × DataW Unit} {r : List (String × DataW Unit)}
    (h : laidMet Tryd.prog (x0 :: x1 :: ("internal/strconv.uint64pow10", Rows.laid_internal_strconv_uint64pow10) :: x3 :: ("strconv.ErrRange", Rows.laid_strconv_ErrRange) :: ("strconv.ErrSyntax", Rows.laid_strconv_ErrSyntax) :: r) W)
    (hS : W.ShapedOpen Tryd.prog) : LnOk W := by
  obtain ⟨a0, s0, hv0, -, -, -⟩ := laid_sentinel h.tail.tail.tail.tail gER gERType Tryd.underlying99 row_estr Tryd.underlying149 Tryd.underlying151 rfl rfl Tryd.underlying9 c_estr c_str
  obtain ⟨a1, s1, hv1, -, -, -⟩ := laid_sentinel h.tail.tail.tail.tail.tail gES gESType Tryd.underlying99 row_estr Tryd.underlying149 Tryd.underlying151 rfl rfl Tryd.underlying9 c_estr c_str
  exact LnOk.mk' (tab_ok h) ⟨Tryd.laysM146.s1_3 W hS, ⟨_, _, hv1⟩, ⟨_, _, hv0⟩⟩

/-- the cells of a table of rows. -/
def litCells2 : DataW Unit → Array Value
  | .agg l => (l.flatMap fun
    | .agg r => r.map fun
      | .lit (.int k z) => Value.int k z
      | _ => undef
    | _ => []).toArray
  | _ => #[]
abbrev synS : ByteArray := { data := #[105, 110, 118, 97, 108, 105, 100, 32, 115, 121, 110, 116, 97, 120] }
abbrev rngS : ByteArray := { data := #[118, 97, 108, 117, 101, 32, 111, 117, 116, 32, 111, 102, 32, 114, 97, 110, 103, 101] }
noncomputable def low : Nat := (World.holding Tryd.prog default ⟨#[], #[], []⟩).heap.size
/-- A world for the witness: the tables laid, and the two errors, each in a block of its own. -/
noncomputable def linesWorld (os : Os) : World :=
  let w0 := World.holding Tryd.prog os ⟨#[.cells #[.string rngS] 151, .cells #[.string synS] 151], #[], []⟩
  { w0 with heap := ((((((w0.heap.modify 0 (layCells (litCells Rows.laid_internal_strconv_uint64pow10))).modify 6 (layCells (litCells Rows.laid_math_bits_deBruijn32tab))).modify 7 (layCells (litCells Rows.laid_math_bits_deBruijn64tab))).modify 2 (layCells (litCells2 Rows.laid_unicode_utf8_acceptRanges))).modify 1 (layCells (litCells Rows.laid_unicode_utf8_first))).modify 5 (layCells #[.iface 149 (.pointer (some ⟨low, 0, none⟩))])).modify 4 (layCells #[.iface 149 (.pointer (some ⟨low + 1, 0, none⟩))]) }
end Go.Proofs.YtloilknkhloegaaDoor
