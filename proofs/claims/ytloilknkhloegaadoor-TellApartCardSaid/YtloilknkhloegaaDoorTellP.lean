/- tell: the program's operations, results, events and marks. -/
import Derived.Test.YtloilknkhloegaaDoorSaid
set_option linter.unusedSimpArgs false
set_option linter.unusedVariables false
namespace Go.Proofs.YtloilknkhloegaaDoor
open Go.RowKit

theorem TabOk.held {w0 W : World} {b : Nat} {cs : Array Value} (h : TabOk w0) (hh : (∀ o : Nat, W.cell? ⟨b, o, none⟩ = cs[o]?) ∧ b < W.heap.size ∧ Below w0.heap.size w0 W) : TabOk W := h.step hh.2.2
def PsOk : List (Value × ByteArray) → Prop
  | [] => True
  | p :: r => PcOk p.1 p.2 ∧ PsOk r
theorem PsOk.all {ps : List (Value × ByteArray)} (h : PsOk ps) : ∀ p ∈ ps, PcOk p.1 p.2 := by
  induction ps with
  | nil => simp
  | cons q r ih => intro p hp; rcases List.mem_cons.1 hp with rfl | hp; exact h.1; exact ih h.2 p hp
theorem pc_s (b : ByteArray) : PcOk (.iface 9 (.string b)) b := Or.inl rfl
theorem pc_i {n : Int} (h : inI n) : PcOk (.iface 3 (.int .i64 n)) (bs (Lib.itoa n)) := Or.inr (Or.inl ⟨n, h, rfl, rfl⟩)
theorem pc_l {n : Int} (h : inI n) : PcOk (.iface 2 (.int .i64 n)) (bs (Lib.itoa n)) := Or.inr (Or.inr ⟨n, h, rfl, rfl⟩)

/-- said of a slice that the call has just made. -/
theorem said_new (ps : List (Value × ByteArray)) (L : List UInt8) (W : World) (T g n : Nat) (cs : Array Value) (hcs : cs = (ps.map (·.1)).toArray) (hnl : n = ps.length) (hg : g = W.heap.size)
    (hT : TabOk (W.alloc (.cells cs T))) (hn : 0 < ps.length) (hl : ps.length ≤ 20) (hok : PsOk ps) (hL : saidF (ps.map (·.2)) = L) (hlen : L.length ≤ 1000) :
    Calls Tryd.prog 28 #[.slice (some ⟨g, 0, none⟩) n n] (W.alloc (.cells cs T)) fun e w' => e = .returned (.string (bs L)) ∧ Below (W.alloc (.cells cs T)).heap.size (W.alloc (.cells cs T)) w' := by
  subst hnl hg hcs hL
  refine said_any ps W.heap.size _ hT (by simp) hn hl hok.all (fun j p hp => ?_) (by omega)
  rw [cell?_of_heap (heap_alloc_new W _)]
  simp [hp]

theorem pword_any (k : Int) (w : World) :
    Calls Tryd.prog 32 #[.int .i64 k] w fun e w' => e = .returned (.tuple #[.string (bs (wordB k)), .int .i64 (usesB k)]) ∧ Below w.heap.size w w' := by
  rcases kinds k with rfl | rfl | rfl | rfl | rfl | rfl | rfl | rfl | rfl | h
  · go_enter Tryd.func32, Tryd.ntmps32
    go_wp2
    go_ret2
    exact ⟨rfl, Below.refl _ _⟩
  · go_enter Tryd.func32, Tryd.ntmps32
    go_wp2
    go_ret2
    exact ⟨rfl, Below.refl _ _⟩
  · go_enter Tryd.func32, Tryd.ntmps32
    go_wp2
    go_ret2
    exact ⟨rfl, Below.refl _ _⟩
  · go_enter Tryd.func32, Tryd.ntmps32
    go_wp2
    go_ret2
    exact ⟨rfl, Below.refl _ _⟩
  · go_enter Tryd.func32, Tryd.ntmps32
    go_wp2
    go_ret2
    exact ⟨rfl, Below.refl _ _⟩
  · go_enter Tryd.func32, Tryd.ntmps32
    go_wp2
    go_ret2
    exact ⟨rfl, Below.refl _ _⟩
  · go_enter Tryd.func32, Tryd.ntmps32
    go_wp2
    go_ret2
    exact ⟨rfl, Below.refl _ _⟩
  · go_enter Tryd.func32, Tryd.ntmps32
    go_wp2
    go_ret2
    exact ⟨rfl, Below.refl _ _⟩
  · go_enter Tryd.func32, Tryd.ntmps32
    go_wp2
    go_ret2
    exact ⟨rfl, Below.refl _ _⟩
  · rw [(wordB_no h).1, (wordB_no h).2]
    have e1 : (k == 1) = false := by simp; omega
    have e2 : (k == 2) = false := by simp; omega
    have e3 : (k == 3) = false := by simp; omega
    have e4 : (k == 4) = false := by simp; omega
    have e5 : (k == 5) = false := by simp; omega
    have e6 : (k == 6) = false := by simp; omega
    have e7 : (k == 7) = false := by simp; omega
    have e8 : (k == 8) = false := by simp; omega
    have e9 : (k == 9) = false := by simp; omega
    go_enter Tryd.func32, Tryd.ntmps32
    go_wp2
    go_ret2
    exact ⟨rfl, Below.refl _ _⟩

set_option maxHeartbeats 2000000 in
set_option maxRecDepth 100000 in
theorem presult_any (e o x : Int) (w : World) (h : (PRes.mk e o x).ok) (hT : TabOk w) :
    Calls Tryd.prog 12 #[.agg #[.int .i64 e, .int .i64 o, .int .i64 x]] w fun en w' => en = .returned (.string (bs (resB ⟨e, o, x⟩))) ∧ Below w.heap.size w w' := by
  have HT := Lib.hid hT
  have H := Lib.hid h
  have HL := Lib.hid (res_len h)
  clear hT h
  by_cases h0 : e = 0
  · subst h0
    go_enter Tryd.func12, Tryd.ntmps12
    go_wp2_with fail
    refine (said_new [(.iface 9 (.string ⟨#[111, 107]⟩), ⟨#[111, 107]⟩), (.iface 2 (.int .i64 o), bs (Lib.itoa o)), (.iface 2 (.int .i64 x), bs (Lib.itoa x))] (resB ⟨0, o, x⟩) _ _ _ _ _ rfl rfl (by simp) ((HT.out.alloc _).alloc _) (by simp) (by simp) ⟨pc_s _, pc_l H.out.2.1, pc_l H.out.2.2, trivial⟩ (by simp [saidF, Lib.join, List.intercalate, resB, nm]) (Nat.le_trans HL.out (by omega))).mono ?_
    rintro en w1 ⟨rfl, b1⟩
    go_wp2
    go_ret
    refine ⟨rfl, ?_⟩
    (repeat (first | exact Below.refl _ _ | assumption | refine Below.setCell ?_ (by first | omega | (simp; done) | (simp; omega)) _ | refine Below.alloc ?_ (by first | omega | (simp; done) | (simp; omega)) _ | refine Below.drew ?_ | refine Below.trans ?_ (Below.mono ‹Below _ _ _› (by first | omega | (simp; done) | (simp; omega)))))
  · have hne : (e != 0) = true := by simpa using h0
    have HN := Lib.hid h0
    clear h0
    go_enter Tryd.func12, Tryd.ntmps12
    go_wp2_with fail
    refine (said_new [(.iface 9 (.string ⟨#[101, 114, 114, 111, 114]⟩), ⟨#[101, 114, 114, 111, 114]⟩), (.iface 3 (.int .i64 e), bs (Lib.itoa e))] (resB ⟨e, o, x⟩) _ _ _ _ _ rfl rfl (by simp) ((HT.out.alloc _).alloc _) (by simp) (by simp) ⟨pc_s _, pc_i H.out.1, trivial⟩ (by simp [saidF, Lib.join, List.intercalate, resB, nm, HN.out]) (Nat.le_trans HL.out (by omega))).mono ?_
    rintro en w1 ⟨rfl, b1⟩
    go_wp2
    go_ret
    refine ⟨rfl, ?_⟩
    (repeat (first | exact Below.refl _ _ | assumption | refine Below.setCell ?_ (by first | omega | (simp; done) | (simp; omega)) _ | refine Below.alloc ?_ (by first | omega | (simp; done) | (simp; omega)) _ | refine Below.drew ?_ | refine Below.trans ?_ (Below.mono ‹Below _ _ _› (by first | omega | (simp; done) | (simp; omega)))))

set_option maxHeartbeats 2000000 in
set_option maxRecDepth 100000 in
theorem pop_any (k a b : Int) (w : World) (h : (POp.mk k a b).ok) (hT : TabOk w) :
    Calls Tryd.prog 10 #[.agg #[.int .i64 k, .int .i64 a, .int .i64 b]] w fun en w' => en = .returned (.string (bs (opB ⟨k, a, b⟩))) ∧ Below w.heap.size w w' := by
  have HT := Lib.hid hT
  have H := Lib.hid h
  have HL := Lib.hid (op_len h)
  have HW := Lib.hid (fun w => pword_any k w)
  have HC := Lib.hid (word_cases k)
  have HD : Hid (opB ⟨k, a, b⟩ = if wordB k = [] then [111, 112] ++ nm k ++ nm a ++ nm b else wordB k ++ (if 0 < usesB k then nm a else []) ++ (if 1 < usesB k then nm b else [])) := Lib.hid rfl
  clear hT h
  generalize wordB k = wd at HW HC HD
  generalize usesB k = u at HW HC HD
  generalize opB ⟨k, a, b⟩ = R at HD HL ⊢
  have hc := HC.out
  go_enter Tryd.func10, Tryd.ntmps10
  go_wp2_with fail
  refine (HW.out _).mono ?_
  rintro en w1 ⟨rfl, b1⟩
  have hcell : ∀ o : Nat, w1.cell? ⟨w.heap.size, o, none⟩ = (#[.int .i64 k, .int .i64 a, .int .i64 b] : Array Value)[o]? := fun o => by
    rw [b1.cell (p := ⟨w.heap.size, o, none⟩) (by simp), cell?_of_heap (heap_alloc_new w _)]
  have q0 := hcell 0
  have q1 := hcell 1
  have q2 := hcell 2
  simp at q0 q1 q2
  have HB := Lib.hid (((Below.refl w.heap.size w).alloc (Nat.le_refl _) (.cells #[.int .i64 k, .int .i64 a, .int .i64 b] 23)).trans (b1.mono (by simp)))
  have HT1 := Lib.hid ((HT.out.alloc (.cells #[.int .i64 k, .int .i64 a, .int .i64 b] 23)).step b1)
  clear b1 hcell HC
  rcases hc with ⟨h1, h2⟩ | ⟨h1, h2⟩
  · subst h1 h2
    go_wp2_with fail
    refine (said_new [(.iface 9 (.string ⟨#[111, 112]⟩), ⟨#[111, 112]⟩), (.iface 3 (.int .i64 k), bs (Lib.itoa k)), (.iface 2 (.int .i64 a), bs (Lib.itoa a)), (.iface 2 (.int .i64 b), bs (Lib.itoa b))] R _ _ _ _ _ rfl rfl (by simp) (HT1.out.alloc _) (by simp) (by simp) ⟨pc_s _, pc_i H.out.1, pc_l H.out.2.1, pc_l H.out.2.2, trivial⟩ (by rw [HD.out]; simp [saidF, Lib.join, List.intercalate, nm]) (Nat.le_trans HL.out (by omega))).mono ?_
    rintro en w2 ⟨rfl, b2⟩
    go_wp2
    go_ret
    exact ⟨rfl, (HB.out.alloc HB.out.size _).trans (b2.mono (by have := HB.out.size; simp; omega))⟩
  · have he : ((wd : List UInt8) == []) = false := by simpa using h1
    have hd : wd.isEmpty = false := by cases wd; exact absurd rfl h1; rfl
    rcases h2 with rfl | rfl | rfl
    · have HR : Hid (R = wd) := Lib.hid (by rw [HD.out, if_neg h1]; simp)
      clear HD
      go_wp2
      go_ret
      exact ⟨by rw [HR.out]; rfl, HB.out⟩
    · have HR : Hid (R = wd ++ nm a) := Lib.hid (by rw [HD.out, if_neg h1]; simp)
      clear HD
      go_wp2_with fail
      refine (said_new [(.iface 9 (.string (bs wd)), (bs wd)), (.iface 2 (.int .i64 a), bs (Lib.itoa a))] R _ _ _ _ _ rfl rfl (by simp) (HT1.out.alloc _) (by simp) (by simp) ⟨pc_s _, pc_l H.out.2.1, trivial⟩ (by rw [HR.out]; simp [saidF, Lib.join, List.intercalate, nm]) (Nat.le_trans HL.out (by omega))).mono ?_
      rintro en w2 ⟨rfl, b2⟩
      go_wp2
      go_ret
      exact ⟨rfl, (HB.out.alloc HB.out.size _).trans (b2.mono (by have := HB.out.size; simp; omega))⟩
    · have HR : Hid (R = wd ++ nm a ++ nm b) := Lib.hid (by rw [HD.out, if_neg h1]; simp)
      clear HD
      go_wp2_with fail
      refine (said_new [(.iface 9 (.string (bs wd)), (bs wd)), (.iface 2 (.int .i64 a), bs (Lib.itoa a)), (.iface 2 (.int .i64 b), bs (Lib.itoa b))] R _ _ _ _ _ rfl rfl (by simp) (HT1.out.alloc _) (by simp) (by simp) ⟨pc_s _, pc_l H.out.2.1, pc_l H.out.2.2, trivial⟩ (by rw [HR.out]; simp [saidF, Lib.join, List.intercalate, nm]) (Nat.le_trans HL.out (by omega))).mono ?_
      rintro en w2 ⟨rfl, b2⟩
      go_wp2
      go_ret
      exact ⟨rfl, (HB.out.alloc HB.out.size _).trans (b2.mono (by have := HB.out.size; simp; omega))⟩

set_option maxHeartbeats 2000000 in
set_option maxRecDepth 100000 in
theorem pmark_any (ep s t n : Int) (w : World) (h : (PMark.mk ep s t n).ok) (hT : TabOk w) :
    Calls Tryd.prog 14 #[.agg #[.int .i64 ep, .int .u32 s, .int .i64 t, .int .i64 n]] w fun en w' => en = .returned (.string (bs (markB ⟨ep, s, t, n⟩))) ∧ Below w.heap.size w w' := by
  have HT := Lib.hid hT
  have H := Lib.hid h
  have HS := Lib.hid (PMark.st h)
  have s0 : 0 ≤ s := h.2.1.1
  have s1 : s ≤ 4294967295 := h.2.1.2
  have HL : Hid ((markB ⟨ep, s, t, n⟩).length ≤ 1000) := Lib.hid (by
    have h1 := itoa_len h.1; have h2 := nm_len (PMark.st h); have h3 := nm_len h.2.2.1; have h4 := nm_len h.2.2.2
    simp only [markB, List.length_append]; simp only [] at h1 h2 h3 h4; omega)
  clear hT h
  go_enter Tryd.func14, Tryd.ntmps14
  go_wp2_with fail
  refine (said_new [(.iface 3 (.int .i64 ep), bs (Lib.itoa ep)), (.iface 2 (.int .i64 s), bs (Lib.itoa s)), (.iface 3 (.int .i64 t), bs (Lib.itoa t)), (.iface 3 (.int .i64 n), bs (Lib.itoa n))] (markB ⟨ep, s, t, n⟩) _ _ _ _ _ rfl rfl (by simp) ((HT.out.alloc _).alloc _) (by simp) (by simp) ⟨pc_i H.out.1, pc_l HS.out, pc_i H.out.2.2.1, pc_i H.out.2.2.2, trivial⟩ (by simp [saidF, Lib.join, List.intercalate, markB, nm]) HL.out).mono ?_
  rintro en w1 ⟨rfl, b1⟩
  go_wp2
  go_ret
  refine ⟨rfl, ?_⟩
  (repeat (first | exact Below.refl _ _ | assumption | refine Below.setCell ?_ (by first | omega | (simp; done) | (simp; omega)) _ | refine Below.alloc ?_ (by first | omega | (simp; done) | (simp; omega)) _ | refine Below.drew ?_ | refine Below.trans ?_ (Below.mono ‹Below _ _ _› (by first | omega | (simp; done) | (simp; omega)))))
end Go.Proofs.YtloilknkhloegaaDoor
