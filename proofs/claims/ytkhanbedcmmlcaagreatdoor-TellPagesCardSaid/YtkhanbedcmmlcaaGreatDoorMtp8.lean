/- parts of the proof, merged by a program. -/
import Derived.Test.YtkhanbedcmmlcaaGreatDoorMtp7
import Derived.Deep.RegionHeld3
set_option linter.unusedSimpArgs false
set_option linter.unusedVariables false
/- said: words and numbers, with blanks between. -/
set_option linter.unusedSimpArgs false
set_option linter.unusedVariables false
namespace Go.Proofs.YtkhanbedcmmlcaaGreatDoor
open Go.RowKit

/-- what may be said: a text, or a number, and its bytes. -/
def PcOk (v : Value) (b : ByteArray) : Prop :=
  v = .iface 9 (.string b) ∨ (∃ n, inI n ∧ v = .iface 3 (.int .i64 n) ∧ b = bs (Lib.itoa n)) ∨ ∃ n, inI n ∧ v = .iface 2 (.int .i64 n) ∧ b = bs (Lib.itoa n)
def strs (l : List ByteArray) : List Value := l.map Value.string
theorem infoStr : (Tryz.prog.info? 9).map (fun i => (i.zero, i.size, i.bytes)) = some (some (.string .empty), 1, 16) := by kernel_rfl

theorem as_ss (v : Value) (w : World) : (Instr.typeAssert (.iface 9 v) 20 9 true).run Tryz.prog w = .ok (.tuple #[v, .bool true]) w := by kernel_rfl
theorem as_is (v : Value) (w : World) : (Instr.typeAssert (.iface 3 v) 20 9 true).run Tryz.prog w = .ok (.tuple #[.string ⟨#[]⟩, .bool false]) w := by kernel_rfl
theorem as_ii (v : Value) (w : World) : (Instr.typeAssert (.iface 3 v) 20 3 true).run Tryz.prog w = .ok (.tuple #[v, .bool true]) w := by kernel_rfl
theorem as_ls (v : Value) (w : World) : (Instr.typeAssert (.iface 2 v) 20 9 true).run Tryz.prog w = .ok (.tuple #[.string ⟨#[]⟩, .bool false]) w := by kernel_rfl
theorem as_li (v : Value) (w : World) : (Instr.typeAssert (.iface 2 v) 20 3 true).run Tryz.prog w = .ok (.tuple #[.int .i64 0, .bool false]) w := by kernel_rfl
theorem as_ll (v : Value) (w : World) : (Instr.typeAssert (.iface 2 v) 20 2 true).run Tryz.prog w = .ok (.tuple #[v, .bool true]) w := by kernel_rfl

def SaidRel (w : World) (ps : List (Value × ByteArray)) (i out : Value) (wr : World) : Prop :=
  ∃ k : Nat, k ≤ ps.length ∧ i = .int .i64 k ∧ wr.ownsRow 0 9 1 out k (strs ((ps.take k).map (·.2))) ∧ (∀ x, out.ownBlock = some x → w.heap.size ≤ x) ∧ (0 < k → out ≠ .slice none 0 0) ∧ Below w.heap.size w wr

theorem cell_add0 (w : World) (g j : Nat) : w.cell? ((⟨g, 0, none⟩ : Addr).add j) = w.cell? ⟨g, 0 + j, none⟩ := by
  by_cases h : j = 0
  · subst h; simp [Addr.add]
  · simp [Addr.add, h]

set_option maxHeartbeats 1000000 in
set_option maxRecDepth 100000 in
theorem said_any (ps : List (Value × ByteArray)) (g : Nat) (w : World) (hT : TabOk w) (hg : g < w.heap.size) (hn : 0 < ps.length) (hl : ps.length ≤ 20)
    (hok : ∀ p ∈ ps, PcOk p.1 p.2) (hc : ∀ j p, ps[j]? = some p → w.cell? ⟨g, j, none⟩ = some p.1)
    (hlen : (saidF (ps.map (·.2))).length ≤ 140737488355328) :
    Calls Tryz.prog 23 #[.slice (some ⟨g, 0, none⟩) ps.length ps.length] w fun e w' => e = .returned (.string (bs (saidF (ps.map (·.2))))) ∧ Below w.heap.size w w' := by
  obtain ⟨i0, hi0, hi1, hi2, hi3⟩ := info_parts infoStr
  have HI := Lib.hid (And.intro hi0 (And.intro hi1 (And.intro hi2 hi3)))
  have HOK := Lib.hid hok
  have HC := Lib.hid hc
  have HLEN := Lib.hid hlen
  clear hi0 hi1 hi2 hi3 hok hc hlen
  have a1 := as_ss
  have a2 := as_is
  have a3 := as_ii
  have a4 := as_ls
  have a5 := as_li
  have a6 := as_ll
  go_enter Tryz.func23, Tryz.ntmps23
  go_wp2
  go_loopw [3, 11] (fun out i wr => SaidRel w ps i out wr) (fun _ i _ => ps.length - (intOf i).toNat)
  case atStart => exact ⟨0, by omega, rfl, World.ownsRow_nil _ _ _ _, by simp [Value.ownBlock], by simp, Below.refl _ _⟩
  case round =>
    obtain ⟨k, hk, rfl, hrow, hown, hnn, hb⟩ := hrel
    by_cases hlt : k < ps.length
    · have hkl : (k : Int) < ps.length := by omega
      obtain ⟨p, hp⟩ : ∃ p, ps[k]? = some p := ⟨_, List.getElem?_eq_getElem hlt⟩
      have hcell := (hb.cell (p := ⟨g, k, none⟩) hg).trans (HC.out k p hp)
      have hpok := HOK.out p (List.mem_of_getElem? hp)
      have hs : (strs ((ps.take (k + 1)).map (·.2))) = strs ((ps.take k).map (·.2)) ++ [.string p.2] := by
        rw [List.take_add_one, hp]; simp [strs]
      have HS := Lib.hid hs
      have HR := Lib.hid hrow
      have HOW := Lib.hid hown
      have HB := Lib.hid hb
      have HT := Lib.hid (hT.step hb)
      clear hrow hown hnn hs hb hT hp
      obtain ⟨pa, pc, rfl⟩ := srow_shape HR.out
      rcases hpok with h | ⟨n, hn, h, hb2⟩ | ⟨n, hn, h, hb2⟩
      · rw [h] at hcell
        go_wp2_with (at_builtin; go_must (refine wpL_append rfl _ _ rfl 9 i0 (.string .empty) 1 16 Tryz.underlying67 HI.out.1 HI.out.2.1 HI.out.2.2.1 HI.out.2.2.2 rfl (by decide) (.slice pa k pc) k (strs ((ps.take k).map (·.2))) rfl (HR.out.alloc _) ⟨wr.heap.size, 0, none⟩ 1 1 [.string p.2] rfl rfl (cell_one_new _ _ _) ?c1 ?c2 ?c3 ?_); go_must (case c1 => (simp [Value.oneCell'])); go_must (case c2 => (unfold maxLen; omega)); go_must (case c3 => (omega)); go_must (intro v' w5 hown5 hg5 hnew5 hnil5); go_must (clear hnil5); go_must (obtain ⟨g', cap', rfl⟩ := Joins.ownsRow_form hown5 (by omega)))
        go_roundw
        case rel =>
          refine ⟨k + 1, by omega, by go_num, by rw [HS.out]; exact hown5, fun x hx => ?_, by simp, (HB.out.alloc HB.out.size _).grown hg5 (by have := HB.out.size; simp; omega) HOW.out⟩
          have := HB.out.size
          rcases hnew5 x hx with h1 | h1
          · exact HOW.out x h1
          · simp at h1; omega
        case measure => simp [intOf]; omega
      · rw [h] at hcell
        have HB2 := Lib.hid hb2
        clear hb2
        go_wp2_with fail
        refine (itoa_any n wr hn HT.out).mono ?_
        rintro e w1 ⟨rfl, b1⟩
        have HR1 := Lib.hid (row_below HR.out b1)
        have B1 := Lib.hid (HB.out.trans (b1.mono HB.out.size))
        have z1 := b1.size
        clear b1
        go_wp2_with (at_builtin; go_must (refine wpL_append rfl _ _ rfl 9 i0 (.string .empty) 1 16 Tryz.underlying67 HI.out.1 HI.out.2.1 HI.out.2.2.1 HI.out.2.2.2 rfl (by decide) (.slice pa k pc) k (strs ((ps.take k).map (·.2))) rfl (HR1.out.alloc _) ⟨w1.heap.size, 0, none⟩ 1 1 [.string (bs (Lib.itoa n))] rfl rfl (cell_one_new _ _ _) ?c1 ?c2 ?c3 ?_); go_must (case c1 => (simp [Value.oneCell'])); go_must (case c2 => (unfold maxLen; omega)); go_must (case c3 => (omega)); go_must (intro v' w5 hown5 hg5 hnew5 hnil5); go_must (clear hnil5); go_must (obtain ⟨g', cap', rfl⟩ := Joins.ownsRow_form hown5 (by omega)))
        go_roundw
        case rel =>
          refine ⟨k + 1, by omega, by go_num, by rw [HS.out, HB2.out]; exact hown5, fun x hx => ?_, by simp, (B1.out.alloc B1.out.size _).grown hg5 (by have := B1.out.size; simp; omega) HOW.out⟩
          have := HB.out.size
          rcases hnew5 x hx with h1 | h1
          · exact HOW.out x h1
          · simp at h1; omega
        case measure => simp [intOf]; omega
      · rw [h] at hcell
        have HB2 := Lib.hid hb2
        clear hb2
        go_wp2_with fail
        refine (format_any n wr hn HT.out).mono ?_
        rintro e w1 ⟨rfl, b1⟩
        have HR1 := Lib.hid (row_below HR.out b1)
        have B1 := Lib.hid (HB.out.trans (b1.mono HB.out.size))
        have z1 := b1.size
        clear b1
        go_wp2_with (at_builtin; go_must (refine wpL_append rfl _ _ rfl 9 i0 (.string .empty) 1 16 Tryz.underlying67 HI.out.1 HI.out.2.1 HI.out.2.2.1 HI.out.2.2.2 rfl (by decide) (.slice pa k pc) k (strs ((ps.take k).map (·.2))) rfl (HR1.out.alloc _) ⟨w1.heap.size, 0, none⟩ 1 1 [.string (bs (Lib.itoa n))] rfl rfl (cell_one_new _ _ _) ?c1 ?c2 ?c3 ?_); go_must (case c1 => (simp [Value.oneCell'])); go_must (case c2 => (unfold maxLen; omega)); go_must (case c3 => (omega)); go_must (intro v' w5 hown5 hg5 hnew5 hnil5); go_must (clear hnil5); go_must (obtain ⟨g', cap', rfl⟩ := Joins.ownsRow_form hown5 (by omega)))
        go_roundw
        case rel =>
          refine ⟨k + 1, by omega, by go_num, by rw [HS.out, HB2.out]; exact hown5, fun x hx => ?_, by simp, (B1.out.alloc B1.out.size _).grown hg5 (by have := B1.out.size; simp; omega) HOW.out⟩
          have := HB.out.size
          rcases hnew5 x hx with h1 | h1
          · exact HOW.out x h1
          · simp at h1; omega
        case measure => simp [intOf]; omega
    · obtain rfl : k = ps.length := by omega
      have hne := hnn hn
      obtain ⟨go, co, rfl⟩ := Joins.ownsRow_form hrow hn
      have hcs := hrow.cells (g := go) rfl
      have hcap : ps.length ≤ co := by
        rcases hrow.2 with ⟨h1, -⟩ | ⟨g1, cap, cur, h1, -, -, h2, -⟩
        · cases h1
        · simp only [Value.slice.injEq, Option.some.injEq, Addr.mk.injEq] at h1
          obtain ⟨-, -, rfl⟩ := h1
          exact h2
      have hlt : go < wr.heap.size := ownsRow_lt hrow rfl
      rw [List.take_length] at hcs
      have HJ := Lib.hid (Tryz.strings_Join go 0 co (ps.map Prod.snd) (bs [32]) wr (fun j x hx => by
        have := hcs j (.string x) (by rw [strs, List.getElem?_map, hx]; rfl)
        rwa [cell_add0] at this) hlt (by simp; omega) (by simpa using hcap) HLEN.out)
      simp only [List.length_map] at HJ
      have HJ2 : Hid (Calls Tryz.prog 57 #[.slice (some ⟨go, 0, none⟩) ps.length co, .string ⟨#[32]⟩] wr fun e w' => e = .returned (.string (bs (saidF (ps.map (·.2))))) ∧ Below wr.heap.size wr w') := HJ
      clear HJ
      have HB := Lib.hid hb
      clear hrow hown hnn hne hcs hcap hb hT
      go_wp2_with fail
      refine HJ2.out.mono ?_
      rintro e w1 ⟨rfl, b1⟩
      go_wp2
      go_ret
      exact ⟨rfl, HB.out.trans (b1.mono HB.out.size)⟩
end Go.Proofs.YtkhanbedcmmlcaaGreatDoor
/- tell: the program's operations, results, events and marks. -/
set_option linter.unusedSimpArgs false
set_option linter.unusedVariables false
namespace Go.Proofs.YtkhanbedcmmlcaaGreatDoor
open Go.RowKit

theorem TabOk.held {w0 W : World} {b : Nat} {cs : Array Value} (h : TabOk w0) (hh : (∀ o : Nat, W.cell? ⟨b, o, none⟩ = cs[o]?) ∧ b < W.heap.size ∧ Below w0.heap.size w0 W) : TabOk W := h.step hh.2.2
def PsOk : List (Value × ByteArray) → Prop
  | [] => True
  | p :: r => PcOk p.1 p.2 ∧ PsOk r
theorem PsOk.all {ps : List (Value × ByteArray)} (h : PsOk ps) : ∀ p ∈ ps, PcOk p.1 p.2 := by
  induction ps with
  | nil => simp
  | cons q r ih => intro p hp; rcases List.mem_cons.1 hp with rfl | hp; exact h.1; exact ih h.2 p hp
theorem pc_s (b : ByteArray) : PcOk (.iface 9 (.string b)) b := Or.inl rfl
theorem pc_i {n : Int} (h : inI n) : PcOk (.iface 3 (.int .i64 n)) (bs (Lib.itoa n)) := Or.inr (Or.inl ⟨n, h, rfl, rfl⟩)
theorem pc_l {n : Int} (h : inI n) : PcOk (.iface 2 (.int .i64 n)) (bs (Lib.itoa n)) := Or.inr (Or.inr ⟨n, h, rfl, rfl⟩)

/-- said of a slice that the call has just made. -/
theorem said_new (ps : List (Value × ByteArray)) (L : List UInt8) (W : World) (T g n : Nat) (cs : Array Value) (hcs : cs = (ps.map (·.1)).toArray) (hnl : n = ps.length) (hg : g = W.heap.size)
    (hT : TabOk (W.alloc (.cells cs T))) (hn : 0 < ps.length) (hl : ps.length ≤ 20) (hok : PsOk ps) (hL : saidF (ps.map (·.2)) = L) (hlen : L.length ≤ 1000) :
    Calls Tryz.prog 23 #[.slice (some ⟨g, 0, none⟩) n n] (W.alloc (.cells cs T)) fun e w' => e = .returned (.string (bs L)) ∧ Below (W.alloc (.cells cs T)).heap.size (W.alloc (.cells cs T)) w' := by
  subst hnl hg hcs hL
  refine said_any ps W.heap.size _ hT (by simp) hn hl hok.all (fun j p hp => ?_) (by omega)
  rw [cell?_of_heap (heap_alloc_new W _)]
  simp [hp]

theorem pword_any (k : Int) (w : World) :
    Calls Tryz.prog 50 #[.int .i64 k] w fun e w' => e = .returned (.tuple #[.string (bs (wordB k)), .int .i64 (usesB k)]) ∧ Below w.heap.size w w' := by
  rcases kinds k with rfl | rfl | rfl | rfl | rfl | rfl | rfl | rfl | rfl | h
  · go_enter Tryz.func50, Tryz.ntmps50
    go_wp2
    go_ret2
    exact ⟨rfl, Below.refl _ _⟩
  · go_enter Tryz.func50, Tryz.ntmps50
    go_wp2
    go_ret2
    exact ⟨rfl, Below.refl _ _⟩
  · go_enter Tryz.func50, Tryz.ntmps50
    go_wp2
    go_ret2
    exact ⟨rfl, Below.refl _ _⟩
  · go_enter Tryz.func50, Tryz.ntmps50
    go_wp2
    go_ret2
    exact ⟨rfl, Below.refl _ _⟩
  · go_enter Tryz.func50, Tryz.ntmps50
    go_wp2
    go_ret2
    exact ⟨rfl, Below.refl _ _⟩
  · go_enter Tryz.func50, Tryz.ntmps50
    go_wp2
    go_ret2
    exact ⟨rfl, Below.refl _ _⟩
  · go_enter Tryz.func50, Tryz.ntmps50
    go_wp2
    go_ret2
    exact ⟨rfl, Below.refl _ _⟩
  · go_enter Tryz.func50, Tryz.ntmps50
    go_wp2
    go_ret2
    exact ⟨rfl, Below.refl _ _⟩
  · go_enter Tryz.func50, Tryz.ntmps50
    go_wp2
    go_ret2
    exact ⟨rfl, Below.refl _ _⟩
  · rw [(wordB_no h).1, (wordB_no h).2]
    have e1 : (k == 1) = false := by simp; omega
    have e2 : (k == 2) = false := by simp; omega
    have e3 : (k == 3) = false := by simp; omega
    have e4 : (k == 4) = false := by simp; omega
    have e5 : (k == 5) = false := by simp; omega
    have e6 : (k == 6) = false := by simp; omega
    have e7 : (k == 7) = false := by simp; omega
    have e8 : (k == 8) = false := by simp; omega
    have e9 : (k == 9) = false := by simp; omega
    go_enter Tryz.func50, Tryz.ntmps50
    go_wp2
    go_ret2
    exact ⟨rfl, Below.refl _ _⟩

set_option maxHeartbeats 2000000 in
set_option maxRecDepth 100000 in
theorem presult_any (e o x : Int) (w : World) (h : (PRes.mk e o x).ok) (hT : TabOk w) :
    Calls Tryz.prog 48 #[.agg #[.int .i64 e, .int .i64 o, .int .i64 x]] w fun en w' => en = .returned (.string (bs (resB ⟨e, o, x⟩))) ∧ Below w.heap.size w w' := by
  have HT := Lib.hid hT
  have H := Lib.hid h
  have HL := Lib.hid (res_len h)
  clear hT h
  by_cases h0 : e = 0
  · subst h0
    go_enter Tryz.func48, Tryz.ntmps48
    go_wp2_with fail
    refine (said_new [(.iface 9 (.string ⟨#[111, 107]⟩), ⟨#[111, 107]⟩), (.iface 2 (.int .i64 o), bs (Lib.itoa o)), (.iface 2 (.int .i64 x), bs (Lib.itoa x))] (resB ⟨0, o, x⟩) _ _ _ _ _ rfl rfl (by simp) ((HT.out.alloc _).alloc _) (by simp) (by simp) ⟨pc_s _, pc_l H.out.2.1, pc_l H.out.2.2, trivial⟩ (by simp [saidF, Lib.join, List.intercalate, resB, nm]) (Nat.le_trans HL.out (by omega))).mono ?_
    rintro en w1 ⟨rfl, b1⟩
    go_wp2
    go_ret
    refine ⟨rfl, ?_⟩
    (repeat (first | exact Below.refl _ _ | assumption | refine Below.setCell ?_ (by first | omega | (simp; done) | (simp; omega)) _ | refine Below.alloc ?_ (by first | omega | (simp; done) | (simp; omega)) _ | refine Below.drew ?_ | refine Below.trans ?_ (Below.mono ‹Below _ _ _› (by first | omega | (simp; done) | (simp; omega)))))
  · have hne : (e != 0) = true := by simpa using h0
    have HN := Lib.hid h0
    clear h0
    go_enter Tryz.func48, Tryz.ntmps48
    go_wp2_with fail
    refine (said_new [(.iface 9 (.string ⟨#[101, 114, 114, 111, 114]⟩), ⟨#[101, 114, 114, 111, 114]⟩), (.iface 3 (.int .i64 e), bs (Lib.itoa e))] (resB ⟨e, o, x⟩) _ _ _ _ _ rfl rfl (by simp) ((HT.out.alloc _).alloc _) (by simp) (by simp) ⟨pc_s _, pc_i H.out.1, trivial⟩ (by simp [saidF, Lib.join, List.intercalate, resB, nm, HN.out]) (Nat.le_trans HL.out (by omega))).mono ?_
    rintro en w1 ⟨rfl, b1⟩
    go_wp2
    go_ret
    refine ⟨rfl, ?_⟩
    (repeat (first | exact Below.refl _ _ | assumption | refine Below.setCell ?_ (by first | omega | (simp; done) | (simp; omega)) _ | refine Below.alloc ?_ (by first | omega | (simp; done) | (simp; omega)) _ | refine Below.drew ?_ | refine Below.trans ?_ (Below.mono ‹Below _ _ _› (by first | omega | (simp; done) | (simp; omega)))))

set_option maxHeartbeats 2000000 in
set_option maxRecDepth 100000 in
theorem pop_any (k a b : Int) (w : World) (h : (POp.mk k a b).ok) (hT : TabOk w) :
    Calls Tryz.prog 20 #[.agg #[.int .i64 k, .int .i64 a, .int .i64 b]] w fun en w' => en = .returned (.string (bs (opB ⟨k, a, b⟩))) ∧ Below w.heap.size w w' := by
  have HT := Lib.hid hT
  have H := Lib.hid h
  have HL := Lib.hid (op_len h)
  have HW := Lib.hid (fun w => pword_any k w)
  have HC := Lib.hid (word_cases k)
  have HD : Hid (opB ⟨k, a, b⟩ = if wordB k = [] then [111, 112] ++ nm k ++ nm a ++ nm b else wordB k ++ (if 0 < usesB k then nm a else []) ++ (if 1 < usesB k then nm b else [])) := Lib.hid rfl
  clear hT h
  generalize wordB k = wd at HW HC HD
  generalize usesB k = u at HW HC HD
  generalize opB ⟨k, a, b⟩ = R at HD HL ⊢
  have hc := HC.out
  go_enter Tryz.func20, Tryz.ntmps20
  go_wp2_with fail
  refine (HW.out _).mono ?_
  rintro en w1 ⟨rfl, b1⟩
  have hcell : ∀ o : Nat, w1.cell? ⟨w.heap.size, o, none⟩ = (#[.int .i64 k, .int .i64 a, .int .i64 b] : Array Value)[o]? := fun o => by
    rw [b1.cell (p := ⟨w.heap.size, o, none⟩) (by simp), cell?_of_heap (heap_alloc_new w _)]
  have q0 := hcell 0
  have q1 := hcell 1
  have q2 := hcell 2
  simp at q0 q1 q2
  have HB := Lib.hid (((Below.refl w.heap.size w).alloc (Nat.le_refl _) (.cells #[.int .i64 k, .int .i64 a, .int .i64 b] 52)).trans (b1.mono (by simp)))
  have HT1 := Lib.hid ((HT.out.alloc (.cells #[.int .i64 k, .int .i64 a, .int .i64 b] 52)).step b1)
  clear b1 hcell HC
  rcases hc with ⟨h1, h2⟩ | ⟨h1, h2⟩
  · subst h1 h2
    go_wp2_with fail
    refine (said_new [(.iface 9 (.string ⟨#[111, 112]⟩), ⟨#[111, 112]⟩), (.iface 3 (.int .i64 k), bs (Lib.itoa k)), (.iface 2 (.int .i64 a), bs (Lib.itoa a)), (.iface 2 (.int .i64 b), bs (Lib.itoa b))] R _ _ _ _ _ rfl rfl (by simp) (HT1.out.alloc _) (by simp) (by simp) ⟨pc_s _, pc_i H.out.1, pc_l H.out.2.1, pc_l H.out.2.2, trivial⟩ (by rw [HD.out]; simp [saidF, Lib.join, List.intercalate, nm]) (Nat.le_trans HL.out (by omega))).mono ?_
    rintro en w2 ⟨rfl, b2⟩
    go_wp2
    go_ret
    exact ⟨rfl, (HB.out.alloc HB.out.size _).trans (b2.mono (by have := HB.out.size; simp; omega))⟩
  · have he : ((wd : List UInt8) == []) = false := by simpa using h1
    have hd : wd.isEmpty = false := by cases wd; exact absurd rfl h1; rfl
    rcases h2 with rfl | rfl | rfl
    · have HR : Hid (R = wd) := Lib.hid (by rw [HD.out, if_neg h1]; simp)
      clear HD
      go_wp2
      go_ret
      exact ⟨by rw [HR.out]; rfl, HB.out⟩
    · have HR : Hid (R = wd ++ nm a) := Lib.hid (by rw [HD.out, if_neg h1]; simp)
      clear HD
      go_wp2_with fail
      refine (said_new [(.iface 9 (.string (bs wd)), (bs wd)), (.iface 2 (.int .i64 a), bs (Lib.itoa a))] R _ _ _ _ _ rfl rfl (by simp) (HT1.out.alloc _) (by simp) (by simp) ⟨pc_s _, pc_l H.out.2.1, trivial⟩ (by rw [HR.out]; simp [saidF, Lib.join, List.intercalate, nm]) (Nat.le_trans HL.out (by omega))).mono ?_
      rintro en w2 ⟨rfl, b2⟩
      go_wp2
      go_ret
      exact ⟨rfl, (HB.out.alloc HB.out.size _).trans (b2.mono (by have := HB.out.size; simp; omega))⟩
    · have HR : Hid (R = wd ++ nm a ++ nm b) := Lib.hid (by rw [HD.out, if_neg h1]; simp)
      clear HD
      go_wp2_with fail
      refine (said_new [(.iface 9 (.string (bs wd)), (bs wd)), (.iface 2 (.int .i64 a), bs (Lib.itoa a)), (.iface 2 (.int .i64 b), bs (Lib.itoa b))] R _ _ _ _ _ rfl rfl (by simp) (HT1.out.alloc _) (by simp) (by simp) ⟨pc_s _, pc_l H.out.2.1, pc_l H.out.2.2, trivial⟩ (by rw [HR.out]; simp [saidF, Lib.join, List.intercalate, nm]) (Nat.le_trans HL.out (by omega))).mono ?_
      rintro en w2 ⟨rfl, b2⟩
      go_wp2
      go_ret
      exact ⟨rfl, (HB.out.alloc HB.out.size _).trans (b2.mono (by have := HB.out.size; simp; omega))⟩

end Go.Proofs.YtkhanbedcmmlcaaGreatDoor
/- tell: the program's answers and events. -/
set_option linter.unusedSimpArgs false
set_option linter.unusedVariables false
namespace Go.Proofs.YtkhanbedcmmlcaaGreatDoor
open Go.RowKit

set_option maxHeartbeats 2000000 in
set_option maxRecDepth 100000 in
theorem panswer_any (k a1 a2 a3 r1 r2 r3 : Int) (w : World) (h : (PAns.mk k ⟨a1, a2, a3⟩ ⟨r1, r2, r3⟩).ok) (hT : TabOk w) :
    Calls Tryz.prog 49 #[.agg #[.int .i64 k, .int .i64 a1, .int .i64 a2, .int .i64 a3, .int .i64 r1, .int .i64 r2, .int .i64 r3]] w fun en w' => en = .returned (.string (bs (ansB (PAns.mk k ⟨a1, a2, a3⟩ ⟨r1, r2, r3⟩)))) ∧ Below w.heap.size w w' := by
  have HT := Lib.hid hT
  have HO := Lib.hid h.2.1
  have HR := Lib.hid h.2.2
  have HL := Lib.hid (ans_len h)
  have HLR := Lib.hid (res_len h.2.2)
  have HLO := Lib.hid (op_len h.2.1)
  have HP1 := Lib.hid (fun w hT => pop_any a1 a2 a3 w h.2.1 hT)
  have HP2 := Lib.hid (fun w hT => presult_any r1 r2 r3 w h.2.2 hT)
  have HD : Hid (ansB (PAns.mk k ⟨a1, a2, a3⟩ ⟨r1, r2, r3⟩) = if k = 1 then [110, 111, 116, 32, 100, 111, 110, 101, 32] ++ opB ⟨a1, a2, a3⟩ else if k = 2 then [100, 111, 110, 101, 32] ++ opB ⟨a1, a2, a3⟩ ++ [32] ++ resB ⟨r1, r2, r3⟩ else [117, 110, 107, 110, 111, 119, 110]) := Lib.hid rfl
  clear hT h
  generalize opB ⟨a1, a2, a3⟩ = Ob at HP1 HD HLO
  generalize resB ⟨r1, r2, r3⟩ = Rb at HP2 HD HLR
  generalize ansB (PAns.mk k ⟨a1, a2, a3⟩ ⟨r1, r2, r3⟩) = R at HD HL ⊢
  rcases (by omega : k = 1 ∨ k = 2 ∨ (k ≠ 1 ∧ k ≠ 2)) with rfl | rfl | ⟨n1, n2⟩
  · have HR2 : Hid (R = [110, 111, 116, 32, 100, 111, 110, 101, 32] ++ Ob) := Lib.hid (by rw [HD.out]; simp)
    clear HD
    go_enter Tryz.func49, Tryz.ntmps49
    go_wp2_with fail
    refine (HP1.out _ (HT.out.alloc _)).mono ?_
    rintro en w1 ⟨rfl, b1⟩
    have HB := Lib.hid (((Below.refl w.heap.size w).alloc (Nat.le_refl _) (.cells #[.int .i64 1, .int .i64 a1, .int .i64 a2, .int .i64 a3, .int .i64 r1, .int .i64 r2, .int .i64 r3] 54)).trans (b1.mono (by simp)))
    have HT1 := Lib.hid (HT.out.step HB.out)
    clear b1
    go_wp2_with fail
    refine (said_new [(.iface 9 (.string ⟨#[110, 111, 116, 32, 100, 111, 110, 101]⟩), ⟨#[110, 111, 116, 32, 100, 111, 110, 101]⟩), (.iface 9 (.string (bs Ob)), (bs Ob))] R _ _ _ _ _ rfl rfl (by simp) (HT1.out.alloc _) (by simp) (by simp) ⟨pc_s _, pc_s _, trivial⟩ (by rw [HR2.out]; simp [saidF, Lib.join, List.intercalate, nm]) (Nat.le_trans HL.out (by omega))).mono ?_
    rintro en w2 ⟨rfl, b2⟩
    go_wp2
    go_ret
    exact ⟨rfl, (HB.out.alloc HB.out.size _).trans (b2.mono (by have := HB.out.size; simp; omega))⟩
  · have HR2 : Hid (R = [100, 111, 110, 101, 32] ++ Ob ++ [32] ++ Rb) := Lib.hid (by rw [HD.out]; simp)
    clear HD
    go_enter Tryz.func49, Tryz.ntmps49
    go_wp2_with fail
    have hS0 := startB w #[.int .i64 2, .int .i64 a1, .int .i64 a2, .int .i64 a3, .int .i64 r1, .int .i64 r2, .int .i64 r3] 54
    go_region_held3 (fun w' => (∀ o : Nat, w'.cell? ⟨w.heap.size, o, none⟩ = (#[.int .i64 2, .int .i64 a1, .int .i64 a2, .int .i64 a3, .int .i64 r1, .int .i64 r2, .int .i64 r3] : Array Value)[o]?) ∧ w.heap.size < w'.heap.size ∧ Below w.heap.size w w') (first | assumption | exact keepB ((Below.refl _ _).alloc (Nat.le_refl _) _) (by assumption) | exact keepD (by assumption)) (first | (go_at_call 20; go_must (refine (HP1.out _ (HT.out.held (by assumption))).mono ?_); go_must (rintro e w' ⟨rfl, hb⟩); go_must (have hS := keepB (b := w.heap.size) (cs := #[.int .i64 2, .int .i64 a1, .int .i64 a2, .int .i64 a3, .int .i64 r1, .int .i64 r2, .int .i64 r3]) (w0 := w) hb (by assumption))) | (go_at_call 48; go_must (refine (HP2.out _ (HT.out.held (by assumption))).mono ?_); go_must (rintro e w' ⟨rfl, hb⟩); go_must (have hS := keepB (b := w.heap.size) (cs := #[.int .i64 2, .int .i64 a1, .int .i64 a2, .int .i64 a3, .int .i64 r1, .int .i64 r2, .int .i64 r3]) (w0 := w) hb (by assumption))) | (go_at_call 23; go_must (refine (said_new [(.iface 9 (.string ⟨#[100, 111, 110, 101]⟩), ⟨#[100, 111, 110, 101]⟩), (.iface 9 (.string (bs Ob)), (bs Ob)), (.iface 9 (.string (bs Rb)), (bs Rb))] R _ _ _ _ _ rfl rfl rfl (HT.out.held (by assumption)) (by simp) (by simp) ⟨pc_s _, pc_s _, pc_s _, trivial⟩ (by rw [HR2.out]; simp [saidF, Lib.join, List.intercalate, nm]) (Nat.le_trans HL.out (by omega))).mono ?_); go_must (rintro e w' ⟨rfl, hb⟩); go_must (have hS := keepB (b := w.heap.size) (cs := #[.int .i64 2, .int .i64 a1, .int .i64 a2, .int .i64 a3, .int .i64 r1, .int .i64 r2, .int .i64 r3]) (w0 := w) hb (by assumption))))
    all_goals
      go_wp2
      go_ret
      exact ⟨rfl, hS.2.2⟩
  · have HR2 : Hid (R = [117, 110, 107, 110, 111, 119, 110]) := Lib.hid (by rw [HD.out, if_neg n1, if_neg n2])
    have e1 : (k == 1) = false := by simpa using n1
    have e2 : (k == 2) = false := by simpa using n2
    clear HD n1 n2
    go_enter Tryz.func49, Tryz.ntmps49
    go_wp2
    go_ret
    refine ⟨by rw [HR2.out]; rfl, ?_⟩
    (repeat (first | exact Below.refl _ _ | assumption | refine Below.setCell ?_ (by first | omega | (simp; done) | (simp; omega)) _ | refine Below.alloc ?_ (by first | omega | (simp; done) | (simp; omega)) _ | refine Below.drew ?_ | refine Below.trans ?_ (Below.mono ‹Below _ _ _› (by first | omega | (simp; done) | (simp; omega)))))

set_option maxHeartbeats 2000000 in
set_option maxRecDepth 100000 in
theorem pevent_any (k ep tt nn o1 o2 o3 r1 r2 r3 ak a1 a2 a3 s1 s2 s3 : Int) (w : World) (h : (PEv.mk k ep tt nn ⟨o1, o2, o3⟩ ⟨r1, r2, r3⟩ ⟨ak, ⟨a1, a2, a3⟩, ⟨s1, s2, s3⟩⟩).ok) (hT : TabOk w) :
    Calls Tryz.prog 19 #[.agg #[.int .i64 k, .int .i64 ep, .int .i64 tt, .int .i64 nn, .int .i64 o1, .int .i64 o2, .int .i64 o3, .int .i64 r1, .int .i64 r2, .int .i64 r3, .int .i64 ak, .int .i64 a1, .int .i64 a2, .int .i64 a3, .int .i64 s1, .int .i64 s2, .int .i64 s3]] w fun en w' => en = .returned (.string (bs (evB (PEv.mk k ep tt nn ⟨o1, o2, o3⟩ ⟨r1, r2, r3⟩ ⟨ak, ⟨a1, a2, a3⟩, ⟨s1, s2, s3⟩⟩)))) ∧ Below w.heap.size w w' := by
  have HT := Lib.hid hT
  have HE := Lib.hid h.2.1
  have HN1 := Lib.hid h.2.2.1
  have HN2 := Lib.hid h.2.2.2.1
  have HP1 := Lib.hid (fun w hT => pop_any o1 o2 o3 w h.2.2.2.2.1 hT)
  have HP2 := Lib.hid (fun w hT => presult_any r1 r2 r3 w h.2.2.2.2.2.1 hT)
  have HP3 := Lib.hid (fun w hT => panswer_any ak a1 a2 a3 s1 s2 s3 w h.2.2.2.2.2.2 hT)
  have HL := Lib.hid (ev_len h)
  have HD : Hid (evB (PEv.mk k ep tt nn ⟨o1, o2, o3⟩ ⟨r1, r2, r3⟩ ⟨ak, ⟨a1, a2, a3⟩, ⟨s1, s2, s3⟩⟩) = if k = 1 then whoB (PEv.mk k ep tt nn ⟨o1, o2, o3⟩ ⟨r1, r2, r3⟩ ⟨ak, ⟨a1, a2, a3⟩, ⟨s1, s2, s3⟩⟩) ++ [32, 98, 101, 103, 105, 110, 115, 32] ++ opB ⟨o1, o2, o3⟩
    else if k = 2 then whoB (PEv.mk k ep tt nn ⟨o1, o2, o3⟩ ⟨r1, r2, r3⟩ ⟨ak, ⟨a1, a2, a3⟩, ⟨s1, s2, s3⟩⟩) ++ [32, 97, 110, 115, 119, 101, 114, 115, 32] ++ resB ⟨r1, r2, r3⟩
    else if k = 3 then whoB (PEv.mk k ep tt nn ⟨o1, o2, o3⟩ ⟨r1, r2, r3⟩ ⟨ak, ⟨a1, a2, a3⟩, ⟨s1, s2, s3⟩⟩) ++ [32, 114, 101, 102, 117, 115, 101, 100]
    else if k = 4 then Lib.itoa ep ++ [32, 99, 114, 97, 115, 104, 101, 100]
    else if k = 5 then Lib.itoa ep ++ [32, 109, 101, 110, 100, 101, 100]
    else if k = 6 then whoB (PEv.mk k ep tt nn ⟨o1, o2, o3⟩ ⟨r1, r2, r3⟩ ⟨ak, ⟨a1, a2, a3⟩, ⟨s1, s2, s3⟩⟩) ++ [32] ++ ansB ⟨ak, ⟨a1, a2, a3⟩, ⟨s1, s2, s3⟩⟩
    else Lib.itoa ep ++ [32, 101, 118, 101, 110, 116]) := Lib.hid rfl
  clear hT h
  generalize opB ⟨o1, o2, o3⟩ = Ob at HP1 HD
  generalize resB ⟨r1, r2, r3⟩ = Rb at HP2 HD
  generalize ansB ⟨ak, ⟨a1, a2, a3⟩, ⟨s1, s2, s3⟩⟩ = Ab at HP3 HD
  generalize evB (PEv.mk k ep tt nn ⟨o1, o2, o3⟩ ⟨r1, r2, r3⟩ ⟨ak, ⟨a1, a2, a3⟩, ⟨s1, s2, s3⟩⟩) = R at HD HL ⊢
  rcases (by omega : k = 1 ∨ k = 2 ∨ k = 3 ∨ k = 4 ∨ k = 5 ∨ k = 6 ∨ (k ≠ 1 ∧ k ≠ 2 ∧ k ≠ 3 ∧ k ≠ 4 ∧ k ≠ 5 ∧ k ≠ 6)) with rfl | rfl | rfl | rfl | rfl | rfl | ⟨n1, n2, n3, n4, n5, n6⟩
  · have HR2 : Hid (R = whoB (PEv.mk 1 ep tt nn ⟨o1, o2, o3⟩ ⟨r1, r2, r3⟩ ⟨ak, ⟨a1, a2, a3⟩, ⟨s1, s2, s3⟩⟩) ++ [32, 98, 101, 103, 105, 110, 115, 32] ++ Ob) := Lib.hid (by rw [HD.out]; simp)
    clear HD
    go_enter Tryz.func19, Tryz.ntmps19
    go_wp2_with fail
    have hS0 := startB w #[.int .i64 1, .int .i64 ep, .int .i64 tt, .int .i64 nn, .int .i64 o1, .int .i64 o2, .int .i64 o3, .int .i64 r1, .int .i64 r2, .int .i64 r3, .int .i64 ak, .int .i64 a1, .int .i64 a2, .int .i64 a3, .int .i64 s1, .int .i64 s2, .int .i64 s3] 56
    go_region_held3 (fun w' => (∀ o : Nat, w'.cell? ⟨w.heap.size, o, none⟩ = (#[.int .i64 1, .int .i64 ep, .int .i64 tt, .int .i64 nn, .int .i64 o1, .int .i64 o2, .int .i64 o3, .int .i64 r1, .int .i64 r2, .int .i64 r3, .int .i64 ak, .int .i64 a1, .int .i64 a2, .int .i64 a3, .int .i64 s1, .int .i64 s2, .int .i64 s3] : Array Value)[o]?) ∧ w.heap.size < w'.heap.size ∧ Below w.heap.size w w') (first | assumption | exact keepB ((Below.refl _ _).alloc (Nat.le_refl _) _) (by assumption) | exact keepD (by assumption)) (first | (go_at_call 20; go_must (refine (HP1.out _ (HT.out.held (by assumption))).mono ?_); go_must (rintro e w' ⟨rfl, hb⟩); go_must (have hS := keepB (b := w.heap.size) (cs := #[.int .i64 1, .int .i64 ep, .int .i64 tt, .int .i64 nn, .int .i64 o1, .int .i64 o2, .int .i64 o3, .int .i64 r1, .int .i64 r2, .int .i64 r3, .int .i64 ak, .int .i64 a1, .int .i64 a2, .int .i64 a3, .int .i64 s1, .int .i64 s2, .int .i64 s3]) (w0 := w) hb (by assumption))) | (go_at_call 23; go_must (refine (said_new [(.iface 3 (.int .i64 ep), bs (Lib.itoa ep)), (.iface 3 (.int .i64 tt), bs (Lib.itoa tt)), (.iface 3 (.int .i64 nn), bs (Lib.itoa nn)), (.iface 9 (.string ⟨#[98, 101, 103, 105, 110, 115]⟩), ⟨#[98, 101, 103, 105, 110, 115]⟩), (.iface 9 (.string (bs Ob)), (bs Ob))] R _ _ _ _ _ rfl rfl rfl (HT.out.held (by assumption)) (by simp) (by simp) ⟨pc_i HE.out, pc_i HN1.out, pc_i HN2.out, pc_s _, pc_s _, trivial⟩ (by rw [HR2.out]; (try unfold whoB nm); simp [saidF, Lib.join, List.intercalate]) (Nat.le_trans HL.out (by omega))).mono ?_); go_must (rintro e w' ⟨rfl, hb⟩); go_must (have hS := keepB (b := w.heap.size) (cs := #[.int .i64 1, .int .i64 ep, .int .i64 tt, .int .i64 nn, .int .i64 o1, .int .i64 o2, .int .i64 o3, .int .i64 r1, .int .i64 r2, .int .i64 r3, .int .i64 ak, .int .i64 a1, .int .i64 a2, .int .i64 a3, .int .i64 s1, .int .i64 s2, .int .i64 s3]) (w0 := w) hb (by assumption))))
    all_goals
      go_wp2
      go_ret
      exact ⟨rfl, hS.2.2⟩
  · have HR2 : Hid (R = whoB (PEv.mk 2 ep tt nn ⟨o1, o2, o3⟩ ⟨r1, r2, r3⟩ ⟨ak, ⟨a1, a2, a3⟩, ⟨s1, s2, s3⟩⟩) ++ [32, 97, 110, 115, 119, 101, 114, 115, 32] ++ Rb) := Lib.hid (by rw [HD.out]; simp)
    clear HD
    go_enter Tryz.func19, Tryz.ntmps19
    go_wp2_with fail
    have hS0 := startB w #[.int .i64 2, .int .i64 ep, .int .i64 tt, .int .i64 nn, .int .i64 o1, .int .i64 o2, .int .i64 o3, .int .i64 r1, .int .i64 r2, .int .i64 r3, .int .i64 ak, .int .i64 a1, .int .i64 a2, .int .i64 a3, .int .i64 s1, .int .i64 s2, .int .i64 s3] 56
    go_region_held3 (fun w' => (∀ o : Nat, w'.cell? ⟨w.heap.size, o, none⟩ = (#[.int .i64 2, .int .i64 ep, .int .i64 tt, .int .i64 nn, .int .i64 o1, .int .i64 o2, .int .i64 o3, .int .i64 r1, .int .i64 r2, .int .i64 r3, .int .i64 ak, .int .i64 a1, .int .i64 a2, .int .i64 a3, .int .i64 s1, .int .i64 s2, .int .i64 s3] : Array Value)[o]?) ∧ w.heap.size < w'.heap.size ∧ Below w.heap.size w w') (first | assumption | exact keepB ((Below.refl _ _).alloc (Nat.le_refl _) _) (by assumption) | exact keepD (by assumption)) (first | (go_at_call 48; go_must (refine (HP2.out _ (HT.out.held (by assumption))).mono ?_); go_must (rintro e w' ⟨rfl, hb⟩); go_must (have hS := keepB (b := w.heap.size) (cs := #[.int .i64 2, .int .i64 ep, .int .i64 tt, .int .i64 nn, .int .i64 o1, .int .i64 o2, .int .i64 o3, .int .i64 r1, .int .i64 r2, .int .i64 r3, .int .i64 ak, .int .i64 a1, .int .i64 a2, .int .i64 a3, .int .i64 s1, .int .i64 s2, .int .i64 s3]) (w0 := w) hb (by assumption))) | (go_at_call 23; go_must (refine (said_new [(.iface 3 (.int .i64 ep), bs (Lib.itoa ep)), (.iface 3 (.int .i64 tt), bs (Lib.itoa tt)), (.iface 3 (.int .i64 nn), bs (Lib.itoa nn)), (.iface 9 (.string ⟨#[97, 110, 115, 119, 101, 114, 115]⟩), ⟨#[97, 110, 115, 119, 101, 114, 115]⟩), (.iface 9 (.string (bs Rb)), (bs Rb))] R _ _ _ _ _ rfl rfl rfl (HT.out.held (by assumption)) (by simp) (by simp) ⟨pc_i HE.out, pc_i HN1.out, pc_i HN2.out, pc_s _, pc_s _, trivial⟩ (by rw [HR2.out]; (try unfold whoB nm); simp [saidF, Lib.join, List.intercalate]) (Nat.le_trans HL.out (by omega))).mono ?_); go_must (rintro e w' ⟨rfl, hb⟩); go_must (have hS := keepB (b := w.heap.size) (cs := #[.int .i64 2, .int .i64 ep, .int .i64 tt, .int .i64 nn, .int .i64 o1, .int .i64 o2, .int .i64 o3, .int .i64 r1, .int .i64 r2, .int .i64 r3, .int .i64 ak, .int .i64 a1, .int .i64 a2, .int .i64 a3, .int .i64 s1, .int .i64 s2, .int .i64 s3]) (w0 := w) hb (by assumption))))
    all_goals
      go_wp2
      go_ret
      exact ⟨rfl, hS.2.2⟩
  · have HR2 : Hid (R = whoB (PEv.mk 3 ep tt nn ⟨o1, o2, o3⟩ ⟨r1, r2, r3⟩ ⟨ak, ⟨a1, a2, a3⟩, ⟨s1, s2, s3⟩⟩) ++ [32, 114, 101, 102, 117, 115, 101, 100]) := Lib.hid (by rw [HD.out]; simp)
    clear HD
    go_enter Tryz.func19, Tryz.ntmps19
    go_wp2_with fail
    refine (said_new [(.iface 3 (.int .i64 ep), bs (Lib.itoa ep)), (.iface 3 (.int .i64 tt), bs (Lib.itoa tt)), (.iface 3 (.int .i64 nn), bs (Lib.itoa nn)), (.iface 9 (.string ⟨#[114, 101, 102, 117, 115, 101, 100]⟩), ⟨#[114, 101, 102, 117, 115, 101, 100]⟩)] R _ _ _ _ _ rfl rfl (by simp) ((HT.out.alloc _).alloc _) (by simp) (by simp) ⟨pc_i HE.out, pc_i HN1.out, pc_i HN2.out, pc_s _, trivial⟩ (by rw [HR2.out]; (try unfold whoB nm); simp [saidF, Lib.join, List.intercalate]) (Nat.le_trans HL.out (by omega))).mono ?_
    rintro en w2 ⟨rfl, b2⟩
    go_wp2
    go_ret
    refine ⟨rfl, ?_⟩
    (repeat (first | exact Below.refl _ _ | assumption | refine Below.setCell ?_ (by first | omega | (simp; done) | (simp; omega)) _ | refine Below.alloc ?_ (by first | omega | (simp; done) | (simp; omega)) _ | refine Below.drew ?_ | refine Below.trans ?_ (Below.mono ‹Below _ _ _› (by first | omega | (simp; done) | (simp; omega)))))
  · have HR2 : Hid (R = Lib.itoa ep ++ [32, 99, 114, 97, 115, 104, 101, 100]) := Lib.hid (by rw [HD.out]; simp)
    clear HD
    go_enter Tryz.func19, Tryz.ntmps19
    go_wp2_with fail
    refine (said_new [(.iface 3 (.int .i64 ep), bs (Lib.itoa ep)), (.iface 9 (.string ⟨#[99, 114, 97, 115, 104, 101, 100]⟩), ⟨#[99, 114, 97, 115, 104, 101, 100]⟩)] R _ _ _ _ _ rfl rfl (by simp) ((HT.out.alloc _).alloc _) (by simp) (by simp) ⟨pc_i HE.out, pc_s _, trivial⟩ (by rw [HR2.out]; (try unfold whoB nm); simp [saidF, Lib.join, List.intercalate]) (Nat.le_trans HL.out (by omega))).mono ?_
    rintro en w2 ⟨rfl, b2⟩
    go_wp2
    go_ret
    refine ⟨rfl, ?_⟩
    (repeat (first | exact Below.refl _ _ | assumption | refine Below.setCell ?_ (by first | omega | (simp; done) | (simp; omega)) _ | refine Below.alloc ?_ (by first | omega | (simp; done) | (simp; omega)) _ | refine Below.drew ?_ | refine Below.trans ?_ (Below.mono ‹Below _ _ _› (by first | omega | (simp; done) | (simp; omega)))))
  · have HR2 : Hid (R = Lib.itoa ep ++ [32, 109, 101, 110, 100, 101, 100]) := Lib.hid (by rw [HD.out]; simp)
    clear HD
    go_enter Tryz.func19, Tryz.ntmps19
    go_wp2_with fail
    refine (said_new [(.iface 3 (.int .i64 ep), bs (Lib.itoa ep)), (.iface 9 (.string ⟨#[109, 101, 110, 100, 101, 100]⟩), ⟨#[109, 101, 110, 100, 101, 100]⟩)] R _ _ _ _ _ rfl rfl (by simp) ((HT.out.alloc _).alloc _) (by simp) (by simp) ⟨pc_i HE.out, pc_s _, trivial⟩ (by rw [HR2.out]; (try unfold whoB nm); simp [saidF, Lib.join, List.intercalate]) (Nat.le_trans HL.out (by omega))).mono ?_
    rintro en w2 ⟨rfl, b2⟩
    go_wp2
    go_ret
    refine ⟨rfl, ?_⟩
    (repeat (first | exact Below.refl _ _ | assumption | refine Below.setCell ?_ (by first | omega | (simp; done) | (simp; omega)) _ | refine Below.alloc ?_ (by first | omega | (simp; done) | (simp; omega)) _ | refine Below.drew ?_ | refine Below.trans ?_ (Below.mono ‹Below _ _ _› (by first | omega | (simp; done) | (simp; omega)))))
  · have HR2 : Hid (R = whoB (PEv.mk 6 ep tt nn ⟨o1, o2, o3⟩ ⟨r1, r2, r3⟩ ⟨ak, ⟨a1, a2, a3⟩, ⟨s1, s2, s3⟩⟩) ++ [32] ++ Ab) := Lib.hid (by rw [HD.out]; simp)
    clear HD
    go_enter Tryz.func19, Tryz.ntmps19
    go_wp2_with fail
    have hS0 := startB w #[.int .i64 6, .int .i64 ep, .int .i64 tt, .int .i64 nn, .int .i64 o1, .int .i64 o2, .int .i64 o3, .int .i64 r1, .int .i64 r2, .int .i64 r3, .int .i64 ak, .int .i64 a1, .int .i64 a2, .int .i64 a3, .int .i64 s1, .int .i64 s2, .int .i64 s3] 56
    go_region_held3 (fun w' => (∀ o : Nat, w'.cell? ⟨w.heap.size, o, none⟩ = (#[.int .i64 6, .int .i64 ep, .int .i64 tt, .int .i64 nn, .int .i64 o1, .int .i64 o2, .int .i64 o3, .int .i64 r1, .int .i64 r2, .int .i64 r3, .int .i64 ak, .int .i64 a1, .int .i64 a2, .int .i64 a3, .int .i64 s1, .int .i64 s2, .int .i64 s3] : Array Value)[o]?) ∧ w.heap.size < w'.heap.size ∧ Below w.heap.size w w') (first | assumption | exact keepB ((Below.refl _ _).alloc (Nat.le_refl _) _) (by assumption) | exact keepD (by assumption)) (first | (go_at_call 49; go_must (refine (HP3.out _ (HT.out.held (by assumption))).mono ?_); go_must (rintro e w' ⟨rfl, hb⟩); go_must (have hS := keepB (b := w.heap.size) (cs := #[.int .i64 6, .int .i64 ep, .int .i64 tt, .int .i64 nn, .int .i64 o1, .int .i64 o2, .int .i64 o3, .int .i64 r1, .int .i64 r2, .int .i64 r3, .int .i64 ak, .int .i64 a1, .int .i64 a2, .int .i64 a3, .int .i64 s1, .int .i64 s2, .int .i64 s3]) (w0 := w) hb (by assumption))) | (go_at_call 23; go_must (refine (said_new [(.iface 3 (.int .i64 ep), bs (Lib.itoa ep)), (.iface 3 (.int .i64 tt), bs (Lib.itoa tt)), (.iface 3 (.int .i64 nn), bs (Lib.itoa nn)), (.iface 9 (.string (bs Ab)), (bs Ab))] R _ _ _ _ _ rfl rfl rfl (HT.out.held (by assumption)) (by simp) (by simp) ⟨pc_i HE.out, pc_i HN1.out, pc_i HN2.out, pc_s _, trivial⟩ (by rw [HR2.out]; (try unfold whoB nm); simp [saidF, Lib.join, List.intercalate]) (Nat.le_trans HL.out (by omega))).mono ?_); go_must (rintro e w' ⟨rfl, hb⟩); go_must (have hS := keepB (b := w.heap.size) (cs := #[.int .i64 6, .int .i64 ep, .int .i64 tt, .int .i64 nn, .int .i64 o1, .int .i64 o2, .int .i64 o3, .int .i64 r1, .int .i64 r2, .int .i64 r3, .int .i64 ak, .int .i64 a1, .int .i64 a2, .int .i64 a3, .int .i64 s1, .int .i64 s2, .int .i64 s3]) (w0 := w) hb (by assumption))))
    all_goals
      go_wp2
      go_ret
      exact ⟨rfl, hS.2.2⟩
  · have HR2 : Hid (R = Lib.itoa ep ++ [32, 101, 118, 101, 110, 116]) := Lib.hid (by rw [HD.out, if_neg n1, if_neg n2, if_neg n3, if_neg n4, if_neg n5, if_neg n6])
    have e1 : (k == 1) = false := by simpa using n1
    have e2 : (k == 2) = false := by simpa using n2
    have e3 : (k == 3) = false := by simpa using n3
    have e4 : (k == 4) = false := by simpa using n4
    have e5 : (k == 5) = false := by simpa using n5
    have e6 : (k == 6) = false := by simpa using n6
    clear HD n1 n2 n3 n4 n5 n6
    go_enter Tryz.func19, Tryz.ntmps19
    go_wp2_with fail
    refine (said_new [(.iface 3 (.int .i64 ep), bs (Lib.itoa ep)), (.iface 9 (.string ⟨#[101, 118, 101, 110, 116]⟩), ⟨#[101, 118, 101, 110, 116]⟩)] R _ _ _ _ _ rfl rfl (by simp) ((HT.out.alloc _).alloc _) (by simp) (by simp) ⟨pc_i HE.out, pc_s _, trivial⟩ (by rw [HR2.out]; (try unfold whoB nm); simp [saidF, Lib.join, List.intercalate]) (Nat.le_trans HL.out (by omega))).mono ?_
    rintro en w2 ⟨rfl, b2⟩
    go_wp2
    go_ret
    refine ⟨rfl, ?_⟩
    (repeat (first | exact Below.refl _ _ | assumption | refine Below.setCell ?_ (by first | omega | (simp; done) | (simp; omega)) _ | refine Below.alloc ?_ (by first | omega | (simp; done) | (simp; omega)) _ | refine Below.drew ?_ | refine Below.trans ?_ (Below.mono ‹Below _ _ _› (by first | omega | (simp; done) | (simp; omega)))))
end Go.Proofs.YtkhanbedcmmlcaaGreatDoor
/- tell: the document's numbers and operations. -/
set_option linter.unusedSimpArgs false
set_option linter.unusedVariables false
namespace Go.Proofs.YtkhanbedcmmlcaaGreatDoor
open Go.RowKit

theorem ret_str {a b : ByteArray} (h : a = b) : Ending.returned (.string a) = Ending.returned (.string b) := by rw [h]

/-- what is left to write of a number, ahead of what is written. -/
def moreD (u : Nat) (s : List UInt8) : List UInt8 := if u = 0 ∧ s ≠ [] then s else Lib.decDigits u ++ s
theorem moreD_step (u : Nat) (s : List UInt8) (h : 0 < u ∨ s = []) : moreD (u / 10) (UInt8.ofNat (48 + u % 10) :: s) = moreD u s := by
  have hu : moreD u s = Lib.decDigits u ++ s := by
    unfold moreD
    rw [if_neg]
    rintro ⟨rfl, h2⟩
    rcases h with h | h
    · omega
    · exact h2 h
  rw [hu]
  by_cases h10 : u < 10
  · rw [Lib.decDigits_one h10]
    unfold moreD
    rw [if_pos ⟨by omega, by simp⟩, Nat.mod_eq_of_lt h10]
    rfl
  · unfold moreD
    rw [if_neg (by omega), Lib.decDigits.eq_1 u, dif_neg h10]
    simp
def absN (n : Int) : Nat := n.natAbs
theorem itoa_abs (n : Int) : Lib.itoa n = if n < 0 then 45 :: Lib.decDigits (absN n) else Lib.decDigits (absN n) := by
  unfold Lib.itoa absN
  split
  · rfl
  · rw [show n.toNat = n.natAbs by omega]
def strLen : Value → Nat
  | .string s => s.size
  | _ => 0
def digM (u s : Value) : Nat := 2 * (intOf u).toNat + (1 - strLen s)
def DigRel (n : Int) (w : World) (u s : Value) (wr : World) : Prop := ∃ (k : Nat) (l : List UInt8), k < 18446744073709551616 ∧ u = .int .u64 k ∧ s = .string (bs l) ∧ moreD k l = Lib.decDigits (absN n) ∧ Below w.heap.size w wr

theorem conv_one (x : Nat) (y : Int) (hy : y = (x : Int)) (hx : x < 256) (T : Nat) (w : World) : (convert 32 9 (.slice (some ⟨w.heap.size, 0, none⟩) 1 1)).run Tryz.prog (w.alloc (.cells #[.int .u8 y] T)) = .ok (.string (bs [UInt8.ofNat x])) (w.alloc (.cells #[.int .u8 y] T)) := by
  subst hy
  refine run_convert_bytes_back (w.alloc (.cells #[.int .u8 (x : Int)] T)) 32 9 5 ⟨w.heap.size, 0, none⟩ 1 [UInt8.ofNat x] Tryz.underlying32 Tryz.underlying5 Tryz.underlying9 (fun j hj => ?_)
  simp at hj
  subst hj
  rw [cell_one_new w _ T 0 _ rfl]
  simp
  omega

theorem moreD_len (k : Nat) (l : List UInt8) : l.length ≤ (moreD k l).length := by
  unfold moreD
  split
  · exact Nat.le_refl _
  · simp
theorem dig_step {n : Int} {w wr : World} {k : Nat} {l : List UInt8} (o : Obj) {u : Int} {c : UInt8} (hu : u = ((k / 10 : Nat) : Int)) (hcc : c = UInt8.ofNat (48 + k % 10)) (hk : k < 18446744073709551616) (hc : 0 < k ∨ l = [])
    (hm : moreD k l = Lib.decDigits (absN n)) (hb : Below w.heap.size w wr) : DigRel n w (.int .u64 u) (.string (bs [c] ++ bs l)) (wr.alloc o) := by
  subst hu hcc
  exact ⟨k / 10, UInt8.ofNat (48 + k % 10) :: l, by omega, rfl, by rw [bs_cat]; rfl, by rw [moreD_step k l hc]; exact hm, hb.alloc hb.size _⟩
theorem dig_less {k : Nat} {l : List UInt8} {u : Int} (c : UInt8) (hu : u = ((k / 10 : Nat) : Int)) (hc : 0 < k ∨ l = []) : digM (.int .u64 u) (.string (bs [c] ++ bs l)) < digM (.int .u64 k) (.string (bs l)) := by
  subst hu
  rw [bs_cat]
  simp only [digM, intOf, strLen, ByteArray.size, List.size_toArray, List.length_append, List.length_cons, List.length_nil]
  rcases hc with hc | rfl
  · omega
  · simp
    omega
theorem dig_end {k : Nat} {n : Int} {l : List UInt8} (hk : k = 0) (hl : l ≠ []) (hm : moreD k l = Lib.decDigits (absN n)) : Lib.decDigits (absN n) = l := by
  rw [← hm, moreD, if_pos ⟨hk, hl⟩]
set_option maxHeartbeats 1000000 in
set_option maxRecDepth 100000 in
theorem digits_pos (n : Int) (w : World) (h : inI n) (hn : ¬ n < 0) :
    Calls Tryz.prog 26 #[.int .i64 n] w fun e w' => e = .returned (.string (bs (Lib.itoa n))) ∧ Below w.heap.size w w' := by
  have h1 := h.1
  have h2 := h.2
  have ha : absN n < 18446744073709551616 := by unfold absN; omega
  have HA := Lib.hid ha
  have hi := itoa_abs n
  rw [if_neg hn] at hi
  have hdl : (Lib.decDigits (absN n)).length ≤ 21 := by have := itoa_len h; rw [hi] at this; exact this
  have HDL := Lib.hid hdl
  have hu : n = (absN n : Int) := by unfold absN; omega
  have HI := Lib.hid hi
  have HU := Lib.hid hu
  clear ha hdl h hi hu
  go_enter Tryz.func26, Tryz.ntmps26
  go_wp2
  go_loopw [3, 4] (fun u s wr => DigRel n w u s wr) (fun u s _ => digM u s)
  case atStart => exact ⟨absN n, [], HA.out, by rw [← HU.out], rfl, by simp [moreD], Below.refl _ _⟩
  case round =>
    obtain ⟨k, l, hk, rfl, rfl, hm, hb⟩ := hrel
    have hlen2 : l.length ≤ 21 := by have := moreD_len k l; rw [hm] at this; exact Nat.le_trans this HDL.out
    have HM := Lib.hid hm
    have HB := Lib.hid hb
    clear hm hb
    by_cases h0 : 0 < k
    · have hki : (0 : Int) < k := by omega
      have hc := conv_one (48 + k % 10) (48 + (k : Int) % 10) (by omega) (by omega) 5 wr
      go_wp2
      go_roundw
      case rel => exact dig_step _ (by omega) (by simp) hk (Or.inl h0) HM.out HB.out
      case measure => exact dig_less _ (by omega) (Or.inl h0)
    · obtain rfl : k = 0 := by omega
      by_cases hl : l = []
      · subst hl
        have hc := conv_one 48 48 (by omega) (by omega) 5 wr
        go_wp2
        exact ⟨dig_step (k := 0) _ (by omega) (by simp) hk (Or.inr rfl) HM.out HB.out, dig_less (k := 0) _ (by omega) (Or.inr rfl)⟩
      · have he : (l == []) = false := by simpa using hl
        have hd : l.isEmpty = false := by cases l; exact absurd rfl hl; rfl
        have HE := Lib.hid (dig_end rfl hl HM.out)
        clear hl HM
        go_wp2
        go_ret
        exact ⟨ret_str (by rw [HI.out, HE.out]), HB.out⟩
set_option maxHeartbeats 1000000 in
set_option maxRecDepth 100000 in
theorem digits_neg (n : Int) (w : World) (h : inI n) (hn : n < 0) :
    Calls Tryz.prog 26 #[.int .i64 n] w fun e w' => e = .returned (.string (bs (Lib.itoa n))) ∧ Below w.heap.size w w' := by
  have h1 := h.1
  have h2 := h.2
  have ha : absN n < 18446744073709551616 := by unfold absN; omega
  have HA := Lib.hid ha
  have hi := itoa_abs n
  rw [if_pos hn] at hi
  have hdl : (Lib.decDigits (absN n)).length ≤ 21 := by have := itoa_len h; rw [hi] at this; exact Nat.le_trans (Nat.le_succ _) this
  have HDL := Lib.hid hdl
  have hu : IntKind.u64.wrap (-IntKind.u64.wrap n) = (absN n : Int) := by
    simp only [IntKind.wrap_u64, absN]
    omega
  have HI := Lib.hid hi
  have HU := Lib.hid hu
  clear ha hdl h hi hu
  go_enter Tryz.func26, Tryz.ntmps26
  go_wp2
  go_loopw [3, 4] (fun u s wr => DigRel n w u s wr) (fun u s _ => digM u s)
  case atStart => exact ⟨absN n, [], HA.out, by rw [HU.out], rfl, by simp [moreD], Below.refl _ _⟩
  case round =>
    obtain ⟨k, l, hk, rfl, rfl, hm, hb⟩ := hrel
    have hlen2 : l.length ≤ 21 := by have := moreD_len k l; rw [hm] at this; exact Nat.le_trans this HDL.out
    have HM := Lib.hid hm
    have HB := Lib.hid hb
    clear hm hb
    by_cases h0 : 0 < k
    · have hki : (0 : Int) < k := by omega
      have hc := conv_one (48 + k % 10) (48 + (k : Int) % 10) (by omega) (by omega) 5 wr
      go_wp2
      go_roundw
      case rel => exact dig_step _ (by omega) (by simp) hk (Or.inl h0) HM.out HB.out
      case measure => exact dig_less _ (by omega) (Or.inl h0)
    · obtain rfl : k = 0 := by omega
      by_cases hl : l = []
      · subst hl
        have hc := conv_one 48 48 (by omega) (by omega) 5 wr
        go_wp2
        exact ⟨dig_step (k := 0) _ (by omega) (by simp) hk (Or.inr rfl) HM.out HB.out, dig_less (k := 0) _ (by omega) (Or.inr rfl)⟩
      · have he : (l == []) = false := by simpa using hl
        have hd : l.isEmpty = false := by cases l; exact absurd rfl hl; rfl
        have HE := Lib.hid (dig_end rfl hl HM.out)
        clear hl HM
        go_wp2
        go_ret
        exact ⟨ret_str (by rw [HI.out, HE.out]; exact bs_cat [45] l), HB.out⟩
theorem digits_any (n : Int) (w : World) (h : inI n) :
    Calls Tryz.prog 26 #[.int .i64 n] w fun e w' => e = .returned (.string (bs (Lib.itoa n))) ∧ Below w.heap.size w w' := by
  by_cases hn : n < 0
  · exact digits_neg n w h hn
  · exact digits_pos n w h hn
theorem num_any (n : Int) (w : World) (h : inI n) :
    Calls Tryz.prog 27 #[.int .i64 n] w fun e w' => e = .returned (.string (bs (nm n))) ∧ Below w.heap.size w w' := by
  have hl := itoa_len h
  have H := Lib.hid (fun w => digits_any n w h)
  have HN : Hid (nm n = 32 :: Lib.itoa n) := Lib.hid rfl
  clear h
  generalize Lib.itoa n = l at *
  go_enter Tryz.func27, Tryz.ntmps27
  go_wp2_with fail
  refine (H.out _).mono ?_
  rintro e w1 ⟨rfl, b1⟩
  go_wp2
  go_ret
  exact ⟨ret_str (by rw [HN.out]; exact bs_cat [32] l), b1⟩
theorem cat_run (a b c : List UInt8) (h : c = a ++ b) (ha : a.length ≤ 10000) (hb : b.length ≤ 10000) : ∀ w : World, (Op.stringOp .add (bs a) (bs b)).run Tryz.prog w = .ok (.string (bs c)) w := fun w => by
  subst h
  exact run_string_add_lists w a b (by omega) (by omega)
end Go.Proofs.YtkhanbedcmmlcaaGreatDoor
/- tell: the page's example; the law TellEvents. -/
set_option linter.unusedSimpArgs false
set_option linter.unusedVariables false
namespace Go.Proofs.YtkhanbedcmmlcaaGreatDoor
open Go.RowKit

theorem inI_small {n : Int} (h : 0 ≤ n ∧ n ≤ 100000) : inI n := ⟨by omega, by omega⟩
theorem ex_ev : evB ⟨2, 0, 1, 5, ⟨0, 0, 0⟩, ⟨0, 1024, 32⟩, ⟨0, ⟨0, 0, 0⟩, ⟨0, 0, 0⟩⟩⟩ = [48, 32, 49, 32, 53, 32, 97, 110, 115, 119, 101, 114, 115, 32, 111, 107, 32, 49, 48, 50, 52, 32, 51, 50] := by
  simp [evB, whoB, resB, nm, Lib.itoa, Lib.decDigits]
theorem ex_op : opB ⟨8, 0, 0⟩ = [115, 116, 97, 116, 115] := by decide
theorem tlive_any (w : World) (hT : TabOk w) :
    Calls Tryz.prog 7 #[] w fun e w' => e = .returned (.bool true) ∧ Below w.heap.size w w' := by
  have z : inI 0 := inI_small (by omega)
  have H1 := Lib.hid (pevent_any 2 0 1 5 0 0 0 0 1024 32 0 0 0 0 0 0 0 w ⟨inI_small (by simp), z, inI_small (by simp), inI_small (by simp), ⟨z, z, z⟩, ⟨z, inI_small (by simp), inI_small (by simp)⟩, ⟨z, ⟨z, z, z⟩, ⟨z, z, z⟩⟩⟩ hT)
  have H2 := Lib.hid (fun w hT => pop_any 8 0 0 w ⟨inI_small (by simp), z, z⟩ hT)
  rw [ex_ev] at H1
  rw [ex_op] at H2
  have HT := Lib.hid hT
  clear hT
  go_enter Tryz.func7, Tryz.ntmps7
  go_wp2_with fail
  refine H1.out.mono ?_
  rintro e w1 ⟨rfl, b1⟩
  have T1 := Lib.hid (HT.out.step b1)
  go_wp2_with fail
  refine (H2.out _ T1.out).mono ?_
  rintro e w2 ⟨rfl, b2⟩
  go_wp2
  go_ret
  exact ⟨rfl, b1.trans (b2.mono b1.size)⟩

/-- two boxes of the call's own, the second one above the first. -/
def Two2 (w0 : World) (A B : Array Value) (W : World) : Prop := (∀ o : Nat, W.cell? ⟨w0.heap.size, o, none⟩ = A[o]?) ∧ (∀ o : Nat, W.cell? ⟨w0.heap.size + 1, o, none⟩ = B[o]?) ∧ w0.heap.size + 1 < W.heap.size ∧ Below w0.heap.size w0 W
theorem Two2.step {w0 W W' : World} {A B : Array Value} (h : (∀ o : Nat, W.cell? ⟨w0.heap.size, o, none⟩ = A[o]?) ∧ (∀ o : Nat, W.cell? ⟨w0.heap.size + 1, o, none⟩ = B[o]?) ∧ w0.heap.size + 1 < W.heap.size ∧ Below w0.heap.size w0 W) (hb : Below W.heap.size W W') :
    (∀ o : Nat, W'.cell? ⟨w0.heap.size, o, none⟩ = A[o]?) ∧ (∀ o : Nat, W'.cell? ⟨w0.heap.size + 1, o, none⟩ = B[o]?) ∧ w0.heap.size + 1 < W'.heap.size ∧ Below w0.heap.size w0 W' :=
  ⟨fun o => (hb.cell (p := ⟨w0.heap.size, o, none⟩) (show w0.heap.size < W.heap.size by have := h.2.2.1; omega)).trans (h.1 o), fun o => (hb.cell (p := ⟨w0.heap.size + 1, o, none⟩) h.2.2.1).trans (h.2.1 o), Nat.lt_of_lt_of_le h.2.2.1 hb.size, h.2.2.2.trans (hb.mono h.2.2.2.size)⟩
theorem Two2.start (w : World) (A B : Array Value) (S T : TypeId) : (∀ o : Nat, ((w.alloc (.cells A S)).alloc (.cells B T)).cell? ⟨w.heap.size, o, none⟩ = A[o]?) ∧ (∀ o : Nat, ((w.alloc (.cells A S)).alloc (.cells B T)).cell? ⟨w.heap.size + 1, o, none⟩ = B[o]?) ∧ w.heap.size + 1 < ((w.alloc (.cells A S)).alloc (.cells B T)).heap.size ∧ Below w.heap.size w ((w.alloc (.cells A S)).alloc (.cells B T)) := by
  refine ⟨fun o => ?_, fun o => ?_, by simp, ((Below.refl _ _).alloc (Nat.le_refl _) _).alloc (by simp) _⟩
  · rw [(((Below.refl (w.heap.size + 1) (w.alloc (.cells A S))).alloc (by simp) (.cells B T))).cell (p := ⟨w.heap.size, o, none⟩) (by simp), cell?_of_heap (heap_alloc_new w _)]
  · have := heap_alloc_new (w.alloc (.cells A S)) (.cells B T)
    rw [World.size_alloc] at this
    rw [cell?_of_heap this]
end Go.Proofs.YtkhanbedcmmlcaaGreatDoor
