/- the document's audit: in, binned, racked; the state of a walk that only reads. -/
import Derived.Test.YtcicmljnjdhkjaaGreatAudC
namespace Go.Proofs.YtcicmljnjdhkjaaGreat
open Go.RowKit

theorem calls_row {P : Program} {f : FuncId} {args : Array Value} {F : Value → Value} {w0 w : World} {Ls : List Nat} {l : List Int} (h : BS w0 Ls w)
    (hc : Calls P f args w fun e w' => ∃ v, e = .returned (F v) ∧ RowP w l v w') :
    Calls P f args w fun e w' => ∃ v, e = .returned (F v) ∧ (BS w0 Ls w' ∧ ∀ L ∈ Ls, w'.heap[L]? = w.heap[L]?) ∧ RowP w l v w' :=
  hc.mono fun _ _ ⟨v, he, hr⟩ => ⟨v, he, ⟨h.below hr.2.2, fun L hL => hr.2.2.block L (h.ls L hL).1⟩, hr⟩

/-- X in its box, since w. -/
structure XB (w : World) (t p s : Int) (ad : Addr) (n c : Nat) (vs : List Int) (W : World) : Prop where
  bel : Below w.heap.size w W
  box : ∀ o : Nat, W.cell? ⟨w.heap.size, o, none⟩ = (#[.int .i64 t, .int .i64 p, .int .i64 s, .slice (some ad) n c] : Array Value)[o]?
  lt : w.heap.size < W.heap.size
  xv : XV W t p s ad n vs
section
variable {t p s : Int} {ad : Addr} {n c : Nat} {vs : List Int} {w W W' : World}
theorem XV.boxed (h : XV w t p s ad n vs) (c : Nat) : XB w t p s ad n c vs (w.alloc (.cells #[.int .i64 t, .int .i64 p, .int .i64 s, .slice (some ad) n c] 89)) :=
  ⟨(Below.refl _ _).alloc (Nat.le_refl _) _, loc_alloc w _ _, by simp, h.keep ((Below.refl _ _).alloc (Nat.le_refl _) _)⟩
theorem XB.keep (h : XB w t p s ad n c vs W) (hb : Below W.heap.size W W') : XB w t p s ad n c vs W' :=
  ⟨h.bel.trans (hb.mono h.bel.size), fun o => (hb.cell (p := ⟨w.heap.size, o, none⟩) h.lt).trans (h.box o), Nat.lt_of_lt_of_le h.lt hb.size, h.xv.keep hb⟩
theorem XB.alloc (h : XB w t p s ad n c vs W) (o : Obj) : XB w t p s ad n c vs (W.alloc o) := h.keep ((Below.refl _ _).alloc (Nat.le_refl _) _)
theorem XB.drew (h : XB w t p s ad n c vs W) : XB w t p s ad n c vs W.drew := h.keep ((Below.refl _ _).drew)
theorem XB.cells (h : XB w t p s ad n c vs W) : W.cell? ⟨w.heap.size, 0, none⟩ = some (.int .i64 t) ∧ W.cell? ⟨w.heap.size, 1, none⟩ = some (.int .i64 p) ∧ W.cell? ⟨w.heap.size, 2, none⟩ = some (.int .i64 s) ∧ W.cell? ⟨w.heap.size, 3, none⟩ = some (.slice (some ad) n c) :=
  ⟨h.box 0, h.box 1, h.box 2, h.box 3⟩

/-- what a box of three offers behind a call. -/
theorem box3 {x y z : Value} {T : TypeId} (hb : Below (W.alloc (.cells #[x, y, z] T)).heap.size (W.alloc (.cells #[x, y, z] T)) W') : W'.cell? ⟨W.heap.size, 0, none⟩ = some x ∧ W'.cell? ⟨W.heap.size, 1, none⟩ = some y ∧ W'.cell? ⟨W.heap.size, 2, none⟩ = some z := by
  have hc := fun o => (hb.cell (p := ⟨W.heap.size, o, none⟩) (by simp)).trans (loc_alloc W #[x, y, z] T o)
  exact ⟨hc 0, hc 1, hc 2⟩

def CntRel (l : List Int) (x : Int) (w : World) (a i : Value) (wr : World) : Prop := ∃ k : Nat, k ≤ l.length ∧ i = .int .i64 k ∧ a = .int .i64 ((l.take k).count x) ∧ w = wr
theorem xin_any (l : List Int) (x : Int) (v : Value) (w : World) (h : w.ownsRow 0 3 1 v l.length (ints l)) (hn : l.length ≤ 4294967296) :
    Calls Tryz.prog 142 #[v, .int .i64 x] w fun e w' => e = .returned (.int .i64 (l.count x)) ∧ Below w.heap.size w w' := by
  have hc : ∀ k, k < l.length → ∃ a m c, v = .slice (some ⟨a, 0, none⟩) m c ∧ w.cell? ⟨a, k, none⟩ = some (.int .i64 (l.getD k 0)) := by
    intro k hk
    obtain ⟨g, cap, rfl⟩ := Joins.ownsRow_form h (by omega)
    refine ⟨g, _, cap, rfl, ?_⟩
    rw [h.cellAt k (by omega)]
    simp [ints, hk]
  obtain ⟨a, c, rfl⟩ := row_shape h
  clear h
  go_enter Tryz.func142, Tryz.ntmps142
  go_wp2
  go_loopw [5, 6] (fun a i wr => CntRel l x w a i wr) (fun _ i _ => l.length - (intOf i).toNat)
  case atStart => exact ⟨0, by omega, rfl, by simp, rfl⟩
  case round =>
    obtain ⟨k, hk, rfl, rfl, rfl⟩ := hrel
    by_cases hlt : k < l.length
    · obtain ⟨g, m, c', hv, c0⟩ := hc k hlt
      simp only [Value.slice.injEq] at hv
      obtain ⟨rfl, rfl, rfl⟩ := hv
      clear hc
      have hx : l[k]? = some (l.getD k 0) := by simp [hlt]
      have hle := List.count_le_length (a := x) (l := l.take k)
      have hle2 : (l.take k).length ≤ l.length := by simp; omega
      have hs : (l.take (k + 1)).count x = (l.take k).count x + if l.getD k 0 == x then 1 else 0 := by
        rw [List.take_add_one, hx]
        simp [List.count_append, List.count_cons]
      have HS := Lib.hid hs
      clear hx hs
      generalize l.getD k 0 = y at *
      generalize (l.take k).count x = z at *
      have hz : (z : Int) ≤ 4294967296 := by omega
      clear hle hle2
      by_cases hy : y = x
      · have hb : (y == x) = true := by simp [hy]
        have HY := Lib.hid hb
        have hb2 : (y == x) = true := hb
        clear hy hb
        go_wp2
        go_roundw
        case rel => exact ⟨k + 1, by omega, by go_num, by rw [HS.out, HY.out]; simp, rfl⟩
        case measure => simp [intOf]; omega
      · have hb : (y == x) = false := by simp [hy]
        have HY := Lib.hid hb
        have hb2 : (y == x) = false := hb
        clear hy hb
        go_wp2
        go_roundw
        case rel => exact ⟨k + 1, by omega, by go_num, by rw [HS.out, HY.out]; simp, rfl⟩
        case measure => simp [intOf]; omega
    · obtain rfl : k = l.length := by omega
      clear hc
      go_wp2
      go_ret
      exact ⟨by simp, Below.refl _ _⟩

def binnedB (v k : Int) : Bool := iK v == 1 && logF (iL v) == k
def rackedB (v u k : Int) : Bool := iK v == 3 && iC v == k && !fullB u k

theorem binned_any (q : Int) (k : Nat) (c : Nat) (w : World) (h : XV w t p s ad n vs) (h0 : 0 ≤ q) (h1 : q < p) :
    Calls Tryz.prog 141 #[.agg #[.int .i64 t, .int .i64 p, .int .i64 s, .slice (some ad) n c], .int .i64 q, .int .i64 k] w fun e w' => e = .returned (.bool (binnedB (gv vs t q 0) k)) ∧ Below w.heap.size w w' := by
  have bd := inf_bd (gv vs t q 0)
  have hl := fun w => rlog_any (iL (gv vs t q 0)) w (by omega) (by omega)
  have HL := Lib.hid hl
  have X0 := h.boxed c
  have HI := Lib.hid (fun (w : World) (h : XV w t p s ad n vs) => xinfo_any q c w h h0 h1)
  generalize hr : binnedB (gv vs t q 0) k = r
  have hr2 : (iK (gv vs t q 0) == 1 && logF (iL (gv vs t q 0)) == k) = r := hr
  have HR := Lib.hid hr2
  clear hr hr2 hl h bd
  generalize iK (gv vs t q 0) = y1 at *
  generalize logF (iL (gv vs t q 0)) = y4 at *
  generalize iL (gv vs t q 0) = y2 at *
  generalize iC (gv vs t q 0) = y3 at *
  by_cases hk1 : y1 = 1
  · have hb : (y1 == 1) = true := by simp [hk1]
    have HR2 := HR.out
    rw [hb] at HR2
    have HR3 := Lib.hid HR2
    clear hk1 HR HR2
    go_enter Tryz.func141, Tryz.ntmps141
    go_wp2_with fail
    refine (HI.out _ X0.xv).mono ?_
    rintro e w1 ⟨rfl, hb1⟩
    have X1 := X0.keep hb1
    obtain ⟨X10, X11, X12, X13⟩ := X1.cells
    have X1z := X1.lt
    go_wp2_with fail
    refine (HL.out _).mono ?_
    rintro e w2 ⟨rfl, hb2⟩
    go_wp2
    go_ret
    refine ⟨ret_bool (by rw [← HR3.out]; simp), ?_⟩
    exact X1.bel.trans ((((Below.refl _ _).alloc (Nat.le_refl _) _).trans (hb2.mono (by simp))).mono X1.bel.size)
  · have hb : (y1 == 1) = false := by simp [hk1]
    have HR2 := HR.out
    rw [hb] at HR2
    have HR3 := Lib.hid HR2
    clear hk1 HR HR2
    go_enter Tryz.func141, Tryz.ntmps141
    go_wp2_with fail
    refine (HI.out _ X0.xv).mono ?_
    rintro e w1 ⟨rfl, hb1⟩
    have X1 := X0.keep hb1
    obtain ⟨X10, X11, X12, X13⟩ := X1.cells
    have X1z := X1.lt
    go_wp2
    go_ret
    refine ⟨ret_bool (by rw [← HR3.out]; simp), ?_⟩
    exact X1.bel.alloc X1.bel.size _

theorem racked_any (q : Int) (k : Nat) (c : Nat) (w : World) (h : XV w t p s ad n vs) (h0 : 0 ≤ q) (h1 : q < p) :
    Calls Tryz.prog 143 #[.agg #[.int .i64 t, .int .i64 p, .int .i64 s, .slice (some ad) n c], .int .i64 q, .int .i64 k] w fun e w' => e = .returned (.bool (rackedB (gv vs t q 0) (gv vs t q 5) k)) ∧ Below w.heap.size w w' := by
  have hg := h.gu q 5
  have HL := Lib.hid (fun w => rfull_any (gv vs t q 5) k w hg.1)
  have X0 := h.boxed c
  have HI := Lib.hid (fun (w : World) (h : XV w t p s ad n vs) => xinfo_any q c w h h0 h1)
  have HT := Lib.hid (fun (w : World) (h : XV w t p s ad n vs) => xtaken_any q c w h h0 h1)
  generalize hr : rackedB (gv vs t q 0) (gv vs t q 5) k = r
  have hr2 : (iK (gv vs t q 0) == 3 && iC (gv vs t q 0) == k && !fullB (gv vs t q 5) k) = r := hr
  have HR := Lib.hid hr2
  clear hr hr2 h hg
  generalize iK (gv vs t q 0) = y1 at *
  generalize fullB (gv vs t q 5) k = y4 at *
  generalize iL (gv vs t q 0) = y2 at *
  generalize iC (gv vs t q 0) = y3 at *
  generalize gv vs t q 5 = y5 at *
  by_cases hk1 : y1 = 3
  · have hb : (y1 == 3) = true := by simp [hk1]
    by_cases hk2 : y3 = k
    · have hbb : (y3 == k) = true := by simp [hk2]
      have HR2 := HR.out
      rw [hb, hbb] at HR2
      have HR3 := Lib.hid HR2
      clear hk1 HR HR2 hk2
      go_enter Tryz.func143, Tryz.ntmps143
      go_wp2_with fail
      refine (HI.out _ X0.xv).mono ?_
      rintro e w1 ⟨rfl, hb1⟩
      have X1 := X0.keep hb1
      obtain ⟨X10, X11, X12, X13⟩ := X1.cells
      have X1z := X1.lt
      have X1a := X1.alloc (.cells #[.int .i64 y1, .int .i64 y2, .int .i64 y3] 111)
      go_wp2_with fail
      refine (HT.out _ X1a.xv).mono ?_
      rintro e w2 ⟨rfl, hb2⟩
      have X2 := X1a.keep hb2
      obtain ⟨X20, X21, X22, X23⟩ := X2.cells
      have X2z := X2.lt
      obtain ⟨z0, z1, z2⟩ := box3 hb2
      go_wp2_with fail
      refine (HL.out _).mono ?_
      rintro e w3 ⟨rfl, hb3⟩
      go_wp2
      go_ret
      refine ⟨ret_bool (by rw [← HR3.out]; simp), ?_⟩
      exact X2.bel.trans (hb3.mono X2.bel.size)
    · have hbb : (y3 == k) = false := by simp [hk2]
      have HR2 := HR.out
      rw [hb, hbb] at HR2
      have HR3 := Lib.hid HR2
      clear hk1 HR HR2 hk2
      go_enter Tryz.func143, Tryz.ntmps143
      go_wp2_with fail
      refine (HI.out _ X0.xv).mono ?_
      rintro e w1 ⟨rfl, hb1⟩
      have X1 := X0.keep hb1
      obtain ⟨X10, X11, X12, X13⟩ := X1.cells
      have X1z := X1.lt
      go_wp2
      go_ret
      refine ⟨ret_bool (by rw [← HR3.out]; simp), ?_⟩
      exact X1.bel.alloc X1.bel.size _
  · have hb : (y1 == 3) = false := by simp [hk1]
    have HR2 := HR.out
    rw [hb] at HR2
    have HR3 := Lib.hid HR2
    clear hk1 HR HR2
    go_enter Tryz.func143, Tryz.ntmps143
    go_wp2_with fail
    refine (HI.out _ X0.xv).mono ?_
    rintro e w1 ⟨rfl, hb1⟩
    have X1 := X0.keep hb1
    obtain ⟨X10, X11, X12, X13⟩ := X1.cells
    have X1z := X1.lt
    go_wp2
    go_ret
    refine ⟨ret_bool (by rw [← HR3.out]; simp), ?_⟩
    exact X1.bel.alloc X1.bel.size _
end
end Go.Proofs.YtcicmljnjdhkjaaGreat
