/- lines: the program's numbers. -/
import Derived.Test.YtloilknkhloegaaDoorLinF
import Derived.Test.YtloilknkhloegaaDoorTxt
import Derived.Test.YtloilknkhloegaaDoorTellD
import Derived.Test.YtloilknkhloegaaDoorShelfL
import Derived.Lib.ParseIntB
set_option linter.unusedSimpArgs false
set_option linter.unusedVariables false
namespace Go.Proofs.YtloilknkhloegaaDoor
open Go.RowKit

/-- the library's variables that splitting and parsing read. -/
structure LnNow (w : World) : Prop where
  len : ∃ m, w.cell? ⟨3, 0, none⟩ = some (.int .i64 m)
  syn : ∃ tp p, w.var? Tryd.prog "strconv.ErrSyntax" = some #[.iface tp p]
  rng : ∃ tp p, w.var? Tryd.prog "strconv.ErrRange" = some #[.iface tp p]
def LnOk (w : World) : Prop := TabOk w ∧ ∀ w', Below w.heap.size w w' → LnNow w'
theorem LnOk.step {w w' : World} (h : LnOk w) (hb : Below w.heap.size w w') : LnOk w' := ⟨h.1.step hb, fun w2 h2 => h.2 w2 (hb.trans (h2.mono hb.size))⟩
theorem LnOk.alloc {w : World} (h : LnOk w) (o : Obj) : LnOk (w.alloc o) := h.step ((Below.refl _ _).alloc (Nat.le_refl _) _)
theorem LnOk.now {w : World} (h : LnOk w) : LnNow w := h.2 w (Below.refl _ _)
theorem var_below {w w' : World} {n : String} {cs : Array Value} (h : w.var? Tryd.prog n = some cs) (hb : Below w.heap.size w w') : w'.var? Tryd.prog n = some cs := by
  unfold World.var? at *
  cases hg : Tryd.prog.globalNamed n with
  | none => simp [hg] at h
  | some g =>
    simp only [hg, Option.bind_some] at h ⊢
    have hlt : g < w.heap.size := by
      rcases Nat.lt_or_ge g w.heap.size with h' | h'
      · exact h'
      · rw [Array.getElem?_eq_none h'] at h; simp at h
    rw [hb.block g hlt]
    exact h
theorem LnOk.mk' {w : World} (hT : TabOk w) (h : LnNow w) : LnOk w := by
  refine ⟨hT, fun w' hb => ?_⟩
  obtain ⟨⟨m, h1⟩, ⟨t1, p1, h2⟩, ⟨t2, p2, h3⟩⟩ := h
  exact ⟨⟨m, (hb.cell (World.block_lt_of_cell? w _ h1)).trans h1⟩, ⟨t1, p1, var_below h2 hb⟩, ⟨t2, p2, var_below h3 hb⟩⟩

/-- what number answers. -/
def NumP (w : World) (l : List UInt8) (e : Ending) (w' : World) : Prop :=
  (∃ n, numV l = some n ∧ e = .returned (.tuple #[.int .i64 n, .bool true]) ∧ Below w.heap.size w w') ∨ (numV l = none ∧ (∃ v, e = .returned (.tuple #[.int .i64 v, .bool false])) ∧ Below w.heap.size w w')
theorem numP_of {w w' : World} {l : List UInt8} {v : Int} {b : Bool} (hv : inI v) (hb : (Lib.itoa v == l) = b) (hn : b = false → numV l = none) (hB : Below w.heap.size w w') : NumP w l (.returned (.tuple #[.int .i64 v, .bool b])) w' := by
  cases b with
  | true => exact Or.inl ⟨v, numV_some.2 ⟨hv, (beq_iff_eq.1 hb).symm⟩, rfl, hB⟩
  | false => exact Or.inr ⟨hn rfl, ⟨v, rfl⟩, hB⟩

set_option maxHeartbeats 1000000 in
set_option maxRecDepth 100000 in
theorem number_err (l : List UInt8) (x : Int) (w : World) (hO : LnOk w) (hn : numV l = none)
    (hp : ∀ w, LnOk w → Calls Tryd.prog 54 #[.string (bs l), .int .i64 10, .int .i64 64] w fun e w' => (∃ N, e = .returned (.tuple #[.int .i64 x, .iface 126 (.pointer (some ⟨N, 0, none⟩))])) ∧ Below w.heap.size w w') :
    Calls Tryd.prog 40 #[.string (bs l)] w (NumP w l) := by
  have HP := Lib.hid (hp w hO)
  have HN := Lib.hid hn
  clear hp hO hn
  go_enter Tryd.func40, Tryd.ntmps40
  go_wp2_with fail
  refine HP.out.mono ?_
  rintro e w1 ⟨⟨N, rfl⟩, b1⟩
  go_wp2
  go_ret2
  exact Or.inr ⟨HN.out, ⟨x, rfl⟩, b1⟩

set_option maxHeartbeats 1000000 in
set_option maxRecDepth 100000 in
theorem number_any (l : List UInt8) (w : World) (hl : l.length ≤ 100000) (hO : LnOk w) :
    Calls Tryd.prog 40 #[.string (bs l)] w (NumP w l) := by
  have HO := Lib.hid hO
  have hsz : (bs l).size = l.length := by simp [ByteArray.size]
  have hno : ∀ r, Lib.parseIntB 64 l = r → (∀ v, r ≠ .ok v) → numV l = none := fun r hr hq => by
    cases hz : numV l with
    | none => rfl
    | some n =>
      obtain ⟨a, b⟩ := numV_some.1 hz
      have := parse_itoa n a
      rw [← b, hr] at this
      exact absurd this (hq n)
  clear hO
  cases h : Lib.parseIntB 64 l
  · rename_i v
    have hvb := Lib.parseIntB_bounds h
    have hv : inI v := by
      obtain ⟨a, b⟩ := hvb
      have b2 : v < 9223372036854775808 := by simpa using b
      exact ⟨by simpa using a, by omega⟩
    have hn : (Lib.itoa v == l) = false → numV l = none := fun hb => by
      cases hq : numV l with
      | none => rfl
      | some n =>
        obtain ⟨a, b⟩ := numV_some.1 hq
        have := parse_itoa n a
        rw [← b, h] at this
        cases this
        rw [← b] at hb
        simp at hb
    have HP : Hid (∀ w, Calls Tryd.prog 54 #[.string (bs l), .int .i64 10, .int .i64 64] w fun e w' => e = .returned (.tuple #[.int .i64 v, .nilIface]) ∧ Below w.heap.size w w') := Lib.hid (fun w =>
      (Tryd.strconv_ParseInt_10_at64_ok (bs l) (by rw [hsz]; omega) v h w).mono fun e w' ⟨he, hw⟩ => ⟨he, by
        rcases hw with rfl | ⟨t, rfl⟩
        · exact Below.refl _ _
        · exact Lib.bytesWorld_below _ _ _⟩)
    have HF := Lib.hid (fun w hT => format_any v w hv hT)
    have HE : ∀ b, (Lib.itoa v == l) = b → Hid (∀ w', Below w.heap.size w w' → NumP w l (.returned (.tuple #[.int .i64 v, .bool b])) w') := fun b hb => Lib.hid (fun w' hB => numP_of hv hb (fun h0 => hn (hb.trans h0)) hB)
    clear h hvb hn
    obtain ⟨b, hb⟩ : ∃ b, (Lib.itoa v == l) = b := ⟨_, rfl⟩
    have HB := HE b hb
    clear HE hv hsz
    generalize Lib.itoa v = L at HF hb
    go_enter Tryd.func40, Tryd.ntmps40
    go_wp2_with fail
    refine (HP.out _).mono ?_
    rintro e w1 ⟨rfl, b1⟩
    have HT := Lib.hid (HO.out.step b1)
    go_wp2_with fail
    refine (HF.out _ HT.out.1).mono ?_
    rintro e w2 ⟨rfl, b2⟩
    cases b
    · go_wp2
      go_ret2
      exact HB.out _ (b1.trans (b2.mono b1.size))
    · go_wp2
      go_ret2
      exact HB.out _ (b1.trans (b2.mono b1.size))
  · have hn := hno _ h (fun v e => by cases e)
    refine number_err l 0 w HO.out hn (fun w2 h2 => ?_)
    obtain ⟨tp, p, hv⟩ := h2.now.syn
    exact (Tryd.strconv_ParseInt_10_at64_syntax_var (bs l) (by rw [hsz]; omega) (h.trans rfl) tp p w2 hv).mono fun e w' ⟨N, he, _, _, hb⟩ => ⟨⟨N, he⟩, hb⟩
  · have hn := hno _ h (fun v e => by cases e)
    refine number_err l (Lib.intSat 64 l) w HO.out hn (fun w2 h2 => ?_)
    obtain ⟨tp, p, hv⟩ := h2.now.rng
    exact (Tryd.strconv_ParseInt_10_at64_range_var (bs l) (by rw [hsz]; omega) h tp p w2 hv).mono fun e w' ⟨N, he, _, _, hb⟩ => ⟨⟨N, he⟩, hb⟩
end Go.Proofs.YtloilknkhloegaaDoor
