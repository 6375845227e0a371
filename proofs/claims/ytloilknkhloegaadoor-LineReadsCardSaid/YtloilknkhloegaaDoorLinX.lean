/- lines: the program's Parse, where a form is found. -/
import Derived.Test.YtloilknkhloegaaDoorLinW
set_option linter.unusedSimpArgs false
set_option linter.unusedVariables false
namespace Go.Proofs.YtloilknkhloegaaDoor
open Go.RowKit

theorem numsV_snoc {r : List (List UInt8)} {vs : List Int} {y : List UInt8} {n : Int} (h : numsV r = some vs) (hy : numV y = some n) : numsV (r ++ [y]) = some (vs ++ [n]) := by
  induction r generalizing vs with
  | nil => cases h; simp [numsV, hy]
  | cons z r ih =>
    simp only [numsV, List.cons_append] at h ⊢
    cases hz : numV z with
    | none => rw [hz] at h; cases h
    | some m =>
      rw [hz] at h
      simp only at h
      cases hq : numsV r with
      | none => rw [hq] at h; cases h
      | some l =>
        rw [hq] at h
        cases h
        rw [ih hq]
        rfl
theorem numsV_none {r : List (List UInt8)} {y : List UInt8} (hy : y ∈ r) (h : numV y = none) : numsV r = none := by
  induction r with
  | nil => cases hy
  | cons z r ih =>
    simp only [numsV]
    rcases List.mem_cons.1 hy with rfl | hy
    · rw [h]
    · rw [ih hy]
      cases numV z <;> rfl
theorem fill_snoc (cs : List UInt8) : ∀ (e : PEn) (vs : List Int) (c : UInt8) (v : Int), vs.length = cs.length → fillF e (cs ++ [c]) (vs ++ [v]) = putF (fillF e cs vs) c v := by
  induction cs with
  | nil =>
    intro e vs c v h
    have : vs = [] := by simpa using h
    subst this
    rfl
  | cons d cs ih =>
    intro e vs c v h
    cases vs with
    | nil => simp at h
    | cons u vs => exact ih (putF e d u) vs c v (by simpa using h)
theorem form_letters {f : Fm} (h : f ∈ formsL) : ∀ c ∈ f.ns, c = 116 ∨ c = 117 ∨ c = 97 ∨ c = 98 ∨ c = 110 ∨ c = 109 := by
  rcases forms14 h with rfl | rfl | rfl | rfl | rfl | rfl | rfl | rfl | rfl | rfl | rfl | rfl | rfl | rfl <;> decide
theorem parse_yes {s x : List UInt8} {r : List (List UInt8)} {f : Fm} {vs : List Int} (h : cutAt 32 s = x :: r) (hf : formOf x = some f) (hl : r.length = f.ns.length) (hn : numsV r = some vs) : parseF s = some (fillF (PEn.start f) f.ns vs) := by
  rw [parse_cut h, hn]
  have := (numsV_len hn).1
  simp only [oneF, hf]
  rw [if_pos (by omega)]
theorem parse_nonum {s x : List UInt8} {r : List (List UInt8)} (h : cutAt 32 s = x :: r) (hn : numsV r = none) : parseF s = none := by
  rw [parse_cut h, hn]
theorem P3.keep {w wz w' : World} {L : List (List UInt8)} {n B : Nat} (h : P3 w L n wz) (hb : Below B wz w') (hB : w.heap.size + 2 < B) : P3 w L n w' :=
  ⟨(hb.block _ (by omega)).trans h.h0, (hb.block _ (by omega)).trans h.h1, (hb.block _ hB).trans h.h2, Nat.lt_of_lt_of_le h.lt hb.size, h.bel.trans (hb.mono (by omega))⟩
/-- a round of Parse: where the letters are, and what was put. -/
structure PL (w : World) (b : Nat) (x : List UInt8) (r : List (List UInt8)) (f : Fm) (p : Nat) (vs : List Int) (wr : World) : Prop where
  p3 : P3 w (x :: r) (r.length + 1) wr
  box : BoxE wr (b + 1) (fillF (PEn.start f) (f.ns.take p) vs)
  it : wr.heap[b + 1 + 1]? = some (.stringIter (bs f.ns) p)
  le : p ≤ f.ns.length
  nums : numsV (r.take p) = some vs
def PLR (w : World) (b : Nat) (x : List UInt8) (r : List (List UInt8)) (f : Fm) (wr : World) : Prop := ∃ p vs, PL w b x r f p vs wr
theorem PL.lt {w : World} {b : Nat} {x : List UInt8} {r : List (List UInt8)} {f : Fm} {p : Nat} {vs : List Int} {wr : World} (h : PL w b x r f p vs wr) : b + 2 < wr.heap.size := (Array.getElem?_eq_some_iff.1 h.it).1
theorem PL.start (w w2 : World) (x : List UInt8) (r : List (List UInt8)) (f : Fm) (h : P3 w (x :: r) (r.length + 1) w2) (A : Array Value) (T : Nat) :
    PL w w2.heap.size x r f 0 [] (((w2.alloc (.cells A T)).alloc (.cells #[.int .i64 f.k, .int .i64 0, .int .i64 0, .int .i64 f.o, .int .i64 0, .int .i64 0, .int .i64 0, .int .i64 0] 54)).iter (bs f.ns) 0) := by
  have hi := World.iter_heap ((w2.alloc (.cells A T)).alloc (.cells #[.int .i64 f.k, .int .i64 0, .int .i64 0, .int .i64 f.o, .int .i64 0, .int .i64 0, .int .i64 0, .int .i64 0] 54)) (bs f.ns) 0
  have hb := heap_alloc_new (w2.alloc (.cells A T)) (.cells #[.int .i64 f.k, .int .i64 0, .int .i64 0, .int .i64 f.o, .int .i64 0, .int .i64 0, .int .i64 0, .int .i64 0] 54)
  rw [World.size_alloc] at hb
  rw [World.size_alloc, World.size_alloc] at hi
  refine ⟨((h.alloc _).alloc _).alloc _, ?_, hi, Nat.zero_le _, by simp [numsV]⟩
  have b1 : Below (w2.heap.size + 2) ((w2.alloc (.cells A T)).alloc (.cells #[.int .i64 f.k, .int .i64 0, .int .i64 0, .int .i64 f.o, .int .i64 0, .int .i64 0, .int .i64 0, .int .i64 0] 54)) (((w2.alloc (.cells A T)).alloc (.cells #[.int .i64 f.k, .int .i64 0, .int .i64 0, .int .i64 f.o, .int .i64 0, .int .i64 0, .int .i64 0, .int .i64 0] 54)).iter (bs f.ns) 0) := (Below.refl _ _).alloc (by simp) _
  exact (b1.block _ (by omega)).trans hb

set_option maxHeartbeats 4000000 in
set_option maxRecDepth 100000 in
theorem parse_hit (s x : List UInt8) (r : List (List UInt8)) (f : Fm) (w : World) (hl : s.length ≤ 100000) (hO : LnOk w) (hc : cutAt 32 s = x :: r) (hf : formOf x = some f) (hn : r.length = f.ns.length) :
    Calls Tryd.prog 24 #[.string (bs s)] w (ParseP w s) := by
  have HO := Lib.hid hO
  have HS := Lib.hid (fun w hO => split_any s w hl hO)
  obtain ⟨k, hk1, hk2⟩ := find_yes x f hf
  have HF := Lib.hid (fun b w hx => find1_yes b x f k w hk1 hk2 hx)
  rw [hc] at HS
  have hrl : r.length ≤ 100000 := by have := cut_len s; rw [hc] at this; simp at this; omega
  have hfl : f.ns.length ≤ 4 := by
    rcases forms14 (formOf_mem hf).1 with h | h | h | h | h | h | h | h | h | h | h | h | h | h <;> (rw [h]; decide)
  have hne : ((r.length : Int) + 1 != (f.ns.length : Int) + 1) = false := by simp; omega
  have hne2 : ((r.length : Int) != (f.ns.length : Int)) = false := by simp; omega
  have HLen := Lib.hid hn
  have HCut := Lib.hid hc
  have HFo := Lib.hid hf
  clear hO hf hc hk1 hk2 hn
  go_enter Tryd.func24, Tryd.ntmps24
  go_wp2_with fail
  refine (HS.out _ (HO.out.alloc _)).mono ?_
  rintro e w1 ⟨rfl, hw1⟩
  go_wp2_with fail
  refine calls_at ?_
  intro wz hwz
  have hP : P3 w (x :: r) (r.length + 1) wz := by rw [hwz]; exact P3.start w (x :: r) (r.length + 1)
  clear hwz hw1
  refine (HF.out _ _ hP.word).mono ?_
  rintro e w2 ⟨rfl, b2⟩
  have hP2 := hP.step b2
  have d := fun o => cell?_of_heap (o := o) hP2.h0
  have e := fun o => frozen?_of_heap (o := o) hP2.h0
  have d0 := d 0
  have d1 := d 1
  have d2 := d 2
  have d3 := d 3
  have d4 := d 4
  have d5 := d 5
  have d6 := d 6
  have d7 := d 7
  have e0 := e 0
  have e1 := e 1
  have e2 := e 2
  have e3 := e 3
  have e4 := e 4
  have e5 := e 5
  have e6 := e 6
  have e7 := e 7
  have s0 := cell?_of_heap (o := 0) hP2.h2
  have lt0 : w.heap.size < w2.heap.size := by have := hP2.lt; omega
  have lt2 : w.heap.size + 2 < w2.heap.size := hP2.lt
  simp [PEn.none] at d0 d1 d2 d3 d4 d5 d6 d7 s0
  have HB := Lib.hid hP2.bel
  have HPL := Lib.hid (PL.start w w2 x r f hP2 #[.string (bs f.w), .int .i64 f.k, .int .i64 f.o, .string (bs f.ns)] 76)
  have hP2lt : w.heap.size + 2 < w2.heap.size := hP2.lt
  clear d e hP2 hP b2
  go_wp2
  go_loopw [8] (fun _ wr => PLR w w2.heap.size x r f wr) (fun _ wr => f.ns.length - wr.iterPos (w2.heap.size + 1 + 1))
  case atStart => exact ⟨0, [], HPL.out⟩
  case round =>
    obtain ⟨p, vs, hp⟩ := hrel
    have hmu : wr.iterPos (w2.heap.size + 1 + 1) = p := by simp [World.iterPos, hp.it]
    have HMu := Lib.hid hmu
    clear d0 d1 d2 d3 d4 d5 d6 d7 e0 e1 e2 e3 e4 e5 e6 e7 s0 hmu HPL HB HS HF
    have hltw := hp.lt
    by_cases hlt : p < f.ns.length
    · have hsz : p < (bs f.ns).size := by simpa [ByteArray.size] using hlt
      obtain ⟨c, hc⟩ : ∃ c, f.ns[p]? = some c := ⟨_, List.getElem?_eq_getElem hlt⟩
      obtain ⟨y, hy⟩ : ∃ y, r[p]? = some y := ⟨_, List.getElem?_eq_getElem (by have := HLen.out; omega)⟩
      have hcl := form_letters (formOf_mem HFo.out).1 c (List.mem_of_getElem? hc)
      have h128 : c.toNat < 128 := by rcases hcl with rfl | rfl | rfl | rfl | rfl | rfl <;> decide
      have hcb : (bs f.ns)[p]'hsz = c := by
        obtain ⟨h1, h2⟩ := List.getElem?_eq_some_iff.1 hc
        rw [← h2]
        rfl
      have hnext : ∀ ty, (Instr.next (.pointer (some ⟨w2.heap.size + 1 + 1, 0, none⟩)) true ty).run Tryd.prog wr = .ok (.tuple #[.bool true, .int .i64 p, .int .i32 (c.toNat : Int)]) (wr.iterAt (w2.heap.size + 1 + 1) (bs f.ns) (p + 1)) := fun ty => by
        rw [Lib.run_next_ascii_at wr (w2.heap.size + 1 + 1) (bs f.ns) p ty hp.it hsz (by rw [hcb]; exact h128), hcb]
      have hbI : Below (w2.heap.size + 2) wr (wr.iterAt (w2.heap.size + 1 + 1) (bs f.ns) (p + 1)) := Lib.below_iterAt (Below.refl _ _) (by omega) _ _
      have it1 := Lib.iterAt_heap wr (w2.heap.size + 1 + 1) (bs f.ns) p (p + 1) hp.it
      obtain ⟨W1, hW1⟩ : ∃ W1, W1 = wr.iterAt (w2.heap.size + 1 + 1) (bs f.ns) (p + 1) := ⟨_, rfl⟩
      rw [← hW1] at hnext hbI it1
      clear hW1
      have p31 := hp.p3.keep hbI (by omega)
      have bx1 : BoxE W1 (w2.heap.size + 1) (fillF (PEn.start f) (f.ns.take p) vs) := (hbI.block _ (by omega)).trans hp.box
      have hyl : y.length ≤ 100000 := by
        have h1 := piece_len s y (by rw [HCut.out]; exact List.mem_cons_of_mem _ (List.mem_of_getElem? hy))
        omega
      have HN := Lib.hid (number_any y W1 hyl (HO.out.step p31.bel))
      have s0 := cell?_of_heap (o := 0) p31.h2
      have s1 : W1.cell? ⟨w.heap.size + 1, p + 1, none⟩ = some (.string (bs y)) := by
        rw [cell?_of_heap p31.h1]
        simp [piecesC, hy]
      simp at s0
      have hpr : p < r.length := by have := HLen.out; omega
      have hpi : (p : Int) + 1 < (r.length : Int) + 1 := by omega
      have hpi2 : (p : Int) ≤ 100000 := by omega
      have HP31 := Lib.hid p31
      have HB1 := Lib.hid bx1
      have HI1 := Lib.hid it1
      have hz1 : w2.heap.size + 2 < W1.heap.size := Nat.lt_of_lt_of_le hltw hbI.size
      have HNums := Lib.hid hp.nums
      have hvl : vs.length = p := by have := (numsV_len hp.nums).1; rw [this, List.length_take]; omega
      have HVL := Lib.hid hvl
      have HY := Lib.hid hy
      have HC := Lib.hid hc
      have HCL := Lib.hid hcl
      clear p31 bx1 it1 hbI hcb h128 hyl hp hvl hy hc hcl
      go_wp2_with fail
      refine HN.out.mono ?_
      rintro e W2 (⟨n, hn, rfl, b2⟩ | ⟨hn, ⟨v, rfl⟩, b2⟩)
      · have p32 := HP31.out.step b2
        have bx2 : BoxE W2 (w2.heap.size + 1) (fillF (PEn.start f) (f.ns.take p) vs) := (b2.block _ (by omega)).trans HB1.out
        have it2 := (b2.block (w2.heap.size + 1 + 1) (by omega)).trans HI1.out
        have HPut := Lib.hid (eput_any (w2.heap.size + 1) _ c HCL.out n W2 bx2)
        have HP32 := Lib.hid p32
        have HI2 := Lib.hid it2
        have HN2 := Lib.hid hn
        clear p32 bx2 it2 b2 hn s0 s1
        go_wp2_with fail
        refine HPut.out.mono ?_
        rintro e W3 ⟨rfl, bx3, hz3, hot3, hbel3⟩
        have HPL : Hid (PL w w2.heap.size x r f (p + 1) (vs ++ [n]) W3) := Lib.hid (by
          refine ⟨HP32.out.keep (hbel3 _ (Nat.le_refl _)) (by omega), ?_, (hot3 _ (by omega)).trans HI2.out, by omega, ?_⟩
          · have ht : f.ns.take (p + 1) = f.ns.take p ++ [c] := by rw [List.take_add_one, HC.out]; rfl
            rw [ht, fill_snoc _ _ _ _ _ (by rw [HVL.out, List.length_take]; omega)]
            exact bx3
          · have ht : r.take (p + 1) = r.take p ++ [y] := by rw [List.take_add_one, HY.out]; rfl
            rw [ht]
            exact numsV_snoc HNums.out HN2.out)
        clear bx3 hz3 hot3 hbel3
        go_wp2
        go_roundw
        case rel => exact ⟨p + 1, vs ++ [n], HPL.out⟩
        case measure =>
          have hmu2 : W3.iterPos (w2.heap.size + 1 + 1) = p + 1 := by simp [World.iterPos, HPL.out.it]
          rw [hmu2, HMu.out]
          omega
      · have p32 := HP31.out.step b2
        have HNone := Lib.hid (parse_nonum HCut.out (numsV_none (List.mem_of_getElem? HY.out) hn))
        have dx := fun o => cell?_of_heap (o := o) p32.h0
        have ex := fun o => frozen?_of_heap (o := o) p32.h0
        have d0 := dx 0
        have e0 := ex 0
        have d1 := dx 1
        have e1 := ex 1
        have d2 := dx 2
        have e2 := ex 2
        have d3 := dx 3
        have e3 := ex 3
        have d4 := dx 4
        have e4 := ex 4
        have d5 := dx 5
        have e5 := ex 5
        have d6 := dx 6
        have e6 := ex 6
        have d7 := dx 7
        have e7 := ex 7
        simp [PEn.none] at d0 d1 d2 d3 d4 d5 d6 d7
        clear dx ex
        have lt0 : w.heap.size < W2.heap.size := by have := p32.lt; omega
        have HB := Lib.hid p32.bel
        clear p32 b2 hn s0 s1
        go_wp2
        refine bodyPost_ret (v := .tuple #[enV PEn.none, .bool false]) (by simp [results, Tryd.results24, go_sem, enV, PEn.none, d0, d1, d2, d3, d4, d5, d6, d7, e0, e1, e2, e3, e4, e5, e6, e7, lt0]) rfl (Or.inr ⟨HNone.out, rfl, ?_⟩)
        exact set8_below (Nat.le_refl _) HB.out
    · obtain rfl : p = f.ns.length := by have := hp.le; omega
      have hsz : ¬ f.ns.length < (bs f.ns).size := by simp [ByteArray.size]
      have hnext : ∀ ty, (Instr.next (.pointer (some ⟨w2.heap.size + 1 + 1, 0, none⟩)) true ty).run Tryd.prog wr = .ok (.tuple #[.bool false]) wr := fun ty => Lib.run_next_end_at wr (w2.heap.size + 1 + 1) (bs f.ns) f.ns.length ty hp.it hsz
      have hnums := hp.nums
      rw [List.take_of_length_le (by rw [HLen.out]; exact Nat.le_refl _)] at hnums
      have hbx := hp.box
      rw [List.take_of_length_le (Nat.le_refl _)] at hbx
      have HY := Lib.hid (parse_yes HCut.out HFo.out HLen.out hnums)
      generalize fillF (PEn.start f) f.ns vs = E at hbx HY
      have dx := fun o => cell?_of_heap (o := o) hp.p3.h0
      have ex := fun o => frozen?_of_heap (o := o) hp.p3.h0
      have d0 := dx 0
      have e0 := ex 0
      have d1 := dx 1
      have e1 := ex 1
      have d2 := dx 2
      have e2 := ex 2
      have d3 := dx 3
      have e3 := ex 3
      have d4 := dx 4
      have e4 := ex 4
      have d5 := dx 5
      have e5 := ex 5
      have d6 := dx 6
      have e6 := ex 6
      have d7 := dx 7
      have e7 := ex 7
      simp [PEn.none] at d0 d1 d2 d3 d4 d5 d6 d7
      clear dx ex
      have qx := fun o => cell?_of_heap (o := o) hbx
      have q0 := qx 0
      have q1 := qx 1
      have q2 := qx 2
      have q3 := qx 3
      have q4 := qx 4
      have q5 := qx 5
      have q6 := qx 6
      have q7 := qx 7
      simp [PEn.none] at q0 q1 q2 q3 q4 q5 q6 q7
      clear qx
      have lt0 : w.heap.size < wr.heap.size := by have := hp.p3.lt; omega
      have HB := Lib.hid hp.p3.bel
      have hne3 : w2.heap.size + 1 ≠ w.heap.size := by have := hP2lt; omega
      clear hp hnums hbx hsz
      go_wp2
      refine bodyPost_ret (v := .tuple #[enV E, .bool true]) (by simp [results, Tryd.results24, go_sem, enV, d0, d1, d2, d3, d4, d5, d6, d7, e0, e1, e2, e3, e4, e5, e6, e7, lt0]) rfl (Or.inl ⟨E, HY.out, rfl, ?_⟩)
      exact set8_below (Nat.le_refl _) HB.out
theorem lparse_any (s : List UInt8) (w : World) (hl : s.length ≤ 100000) (hO : LnOk w) :
    Calls Tryd.prog 24 #[.string (bs s)] w (ParseP w s) := by
  cases hc : cutAt 32 s with
  | nil => exact absurd hc (cutAt_ne 32 s)
  | cons x r =>
    cases hf : formOf x with
    | none => exact parse_miss s x r w hl hO hc hf
    | some f =>
      by_cases hn : r.length = f.ns.length
      · exact parse_hit s x r f w hl hO hc hf hn
      · exact parse_short s x r f w hl hO hc hf hn
end Go.Proofs.YtloilknkhloegaaDoor
