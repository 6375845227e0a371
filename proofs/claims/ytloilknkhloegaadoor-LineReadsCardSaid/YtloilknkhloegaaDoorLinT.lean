/- lines: the program's Text. -/
import Derived.Test.YtloilknkhloegaaDoorLinX
import Derived.Test.YtloilknkhloegaaDoorSaid
import Derived.Laws.StructEq
set_option linter.unusedSimpArgs false
set_option linter.unusedVariables false
namespace Go.Proofs.YtloilknkhloegaaDoor
open Go.RowKit

theorem eq_entry (a b : PEn) (W : World) : (Op.equalIn 10000 54 (enV a) (enV b)).run Tryd.prog W = .ok (eqEn a b) W := by
  have hS : Tryd.prog.underlying 54 = some (.struct (Tryd.prog.fieldsOf 54)) := by kernel_rfl
  have hp : Tryd.prog.stoodInHeld 54 = false := by kernel_rfl
  have hS2 : Tryd.prog.underlying 23 = some (.struct (Tryd.prog.fieldsOf 23)) := by kernel_rfl
  have hp2 : Tryd.prog.stoodInHeld 23 = false := by kernel_rfl
  have u1 := Tryd.underlying3
  have u2 := Tryd.underlying2
  have hop : ∀ (d : Nat) (k a b x y z : Int) (W : World), (Op.equalIn (d + 1 + 1) 23 (.agg #[.int .i64 k, .int .i64 a, .int .i64 b]) (.agg #[.int .i64 x, .int .i64 y, .int .i64 z])).run Tryd.prog W = .ok (k == x && (a == y && b == z)) W := fun d k a b x y z W => by
    rw [run_equalIn_struct W (d + 1) 23 _ _ hS2 hp2]
    simp only [Program.fieldsOf, Tryd.underlying23]
    go_simp
    by_cases h1 : k = x <;> by_cases h2 : a = y <;> by_cases h3 : b = z <;> simp [h1, h2, h3]
  have hop2 := fun k a b x y z W => hop 9997 k a b x y z W
  clear hop
  simp only [Nat.reduceAdd] at hop2
  unfold enV
  rw [show (10000 : Nat) = 9999 + 1 from rfl, run_equalIn_struct W 9999 54 _ _ hS hp]
  simp only [Program.fieldsOf, Tryd.underlying54]
  obtain ⟨a1, a2, a3, ⟨a4, a5, a6⟩, a7, a8⟩ := a
  obtain ⟨b1, b2, b3, ⟨b4, b5, b6⟩, b7, b8⟩ := b
  unfold eqEn
  simp only
  go_simp
  rcases Decidable.em (a1 = b1) with rfl | h1
  rotate_left
  · simp [h1]
  rcases Decidable.em (a2 = b2) with rfl | h2
  rotate_left
  · simp [h2]
  rcases Decidable.em (a3 = b3) with rfl | h3
  rotate_left
  · simp [h3]
  rcases Decidable.em (a4 = b4) with rfl | h4
  rotate_left
  · simp [h4]
  rcases Decidable.em (a5 = b5) with rfl | h5
  rotate_left
  · simp [h5]
  rcases Decidable.em (a6 = b6) with rfl | h6
  rotate_left
  · simp [h6]
  rcases Decidable.em (a7 = b7) with rfl | h7
  rotate_left
  · simp [h7]
  rcases Decidable.em (a8 = b8) with rfl | h8
  rotate_left
  · simp [h8]
  simp
set_option maxHeartbeats 1000000 in
set_option maxRecDepth 100000 in
theorem lget_any (e : PEn) (c : UInt8) (hc : c = 116 ∨ c = 117 ∨ c = 97 ∨ c = 98 ∨ c = 110 ∨ c = 109) (w : World) :
    Calls Tryd.prog 47 #[.agg #[.int .i64 e.k, .int .i64 e.t, .int .i64 e.u, .int .i64 e.op.k, .int .i64 e.op.a, .int .i64 e.op.b, .int .i64 e.n, .int .i64 e.m], .int .i32 (c.toNat : Int)] w fun en w' => en = .returned (.int .i64 (getF e c)) ∧ Below w.heap.size w w' := by
  rcases hc with rfl | rfl | rfl | rfl | rfl | rfl
  · show Calls Tryd.prog 47 #[.agg #[.int .i64 e.k, .int .i64 e.t, .int .i64 e.u, .int .i64 e.op.k, .int .i64 e.op.a, .int .i64 e.op.b, .int .i64 e.n, .int .i64 e.m], .int .i32 116] w _
    go_enter Tryd.func47, Tryd.ntmps47
    go_wp2
    go_ret
    refine ⟨rfl, ?_⟩
    (repeat (first | exact Below.refl _ _ | assumption | refine Below.setCell ?_ (by first | omega | (simp; done) | (simp; omega)) _ | refine Below.alloc ?_ (by first | omega | (simp; done) | (simp; omega)) _ | refine Below.drew ?_ | refine Below.trans ?_ (Below.mono ‹Below _ _ _› (by first | omega | (simp; done) | (simp; omega)))))
  · show Calls Tryd.prog 47 #[.agg #[.int .i64 e.k, .int .i64 e.t, .int .i64 e.u, .int .i64 e.op.k, .int .i64 e.op.a, .int .i64 e.op.b, .int .i64 e.n, .int .i64 e.m], .int .i32 117] w _
    go_enter Tryd.func47, Tryd.ntmps47
    go_wp2
    go_ret
    refine ⟨rfl, ?_⟩
    (repeat (first | exact Below.refl _ _ | assumption | refine Below.setCell ?_ (by first | omega | (simp; done) | (simp; omega)) _ | refine Below.alloc ?_ (by first | omega | (simp; done) | (simp; omega)) _ | refine Below.drew ?_ | refine Below.trans ?_ (Below.mono ‹Below _ _ _› (by first | omega | (simp; done) | (simp; omega)))))
  · show Calls Tryd.prog 47 #[.agg #[.int .i64 e.k, .int .i64 e.t, .int .i64 e.u, .int .i64 e.op.k, .int .i64 e.op.a, .int .i64 e.op.b, .int .i64 e.n, .int .i64 e.m], .int .i32 97] w _
    go_enter Tryd.func47, Tryd.ntmps47
    go_wp2
    go_ret
    refine ⟨rfl, ?_⟩
    (repeat (first | exact Below.refl _ _ | assumption | refine Below.setCell ?_ (by first | omega | (simp; done) | (simp; omega)) _ | refine Below.alloc ?_ (by first | omega | (simp; done) | (simp; omega)) _ | refine Below.drew ?_ | refine Below.trans ?_ (Below.mono ‹Below _ _ _› (by first | omega | (simp; done) | (simp; omega)))))
  · show Calls Tryd.prog 47 #[.agg #[.int .i64 e.k, .int .i64 e.t, .int .i64 e.u, .int .i64 e.op.k, .int .i64 e.op.a, .int .i64 e.op.b, .int .i64 e.n, .int .i64 e.m], .int .i32 98] w _
    go_enter Tryd.func47, Tryd.ntmps47
    go_wp2
    go_ret
    refine ⟨rfl, ?_⟩
    (repeat (first | exact Below.refl _ _ | assumption | refine Below.setCell ?_ (by first | omega | (simp; done) | (simp; omega)) _ | refine Below.alloc ?_ (by first | omega | (simp; done) | (simp; omega)) _ | refine Below.drew ?_ | refine Below.trans ?_ (Below.mono ‹Below _ _ _› (by first | omega | (simp; done) | (simp; omega)))))
  · show Calls Tryd.prog 47 #[.agg #[.int .i64 e.k, .int .i64 e.t, .int .i64 e.u, .int .i64 e.op.k, .int .i64 e.op.a, .int .i64 e.op.b, .int .i64 e.n, .int .i64 e.m], .int .i32 110] w _
    go_enter Tryd.func47, Tryd.ntmps47
    go_wp2
    go_ret
    refine ⟨rfl, ?_⟩
    (repeat (first | exact Below.refl _ _ | assumption | refine Below.setCell ?_ (by first | omega | (simp; done) | (simp; omega)) _ | refine Below.alloc ?_ (by first | omega | (simp; done) | (simp; omega)) _ | refine Below.drew ?_ | refine Below.trans ?_ (Below.mono ‹Below _ _ _› (by first | omega | (simp; done) | (simp; omega)))))
  · show Calls Tryd.prog 47 #[.agg #[.int .i64 e.k, .int .i64 e.t, .int .i64 e.u, .int .i64 e.op.k, .int .i64 e.op.a, .int .i64 e.op.b, .int .i64 e.n, .int .i64 e.m], .int .i32 109] w _
    go_enter Tryd.func47, Tryd.ntmps47
    go_wp2
    go_ret
    refine ⟨rfl, ?_⟩
    (repeat (first | exact Below.refl _ _ | assumption | refine Below.setCell ?_ (by first | omega | (simp; done) | (simp; omega)) _ | refine Below.alloc ?_ (by first | omega | (simp; done) | (simp; omega)) _ | refine Below.drew ?_ | refine Below.trans ?_ (Below.mono ‹Below _ _ _› (by first | omega | (simp; done) | (simp; omega)))))

/-- what Text answers. -/
def TextP (w : World) (e : PEn) (en : Ending) (w' : World) : Prop :=
  (∃ s, textF e = some s ∧ en = .returned (.tuple #[.string (bs s), .bool true]) ∧ Below w.heap.size w w') ∨ (textF e = none ∧ en = .returned (.tuple #[.string ⟨#[]⟩, .bool false]) ∧ Below w.heap.size w w')
theorem textNone {e : PEn} (h : formBy e.k e.op.k = none) : textF e = none := by unfold textF; rw [h]
theorem textSome {e : PEn} {f : Fm} (h : formBy e.k e.op.k = some f) : textF e = checkF (joinF f e) e := by unfold textF; rw [h]
theorem find2no (e : PEn) (h : formBy e.k e.op.k = none) : idxF (fun f => f.k == e.k && f.o == e.op.k) formsL 0 = -1 := idx_none _ _ 0 h
theorem find2yes (e : PEn) (f : Fm) (h : formBy e.k e.op.k = some f) : ∃ k : Nat, formsL[k]? = some f ∧ idxF (fun f => f.k == e.k && f.o == e.op.k) formsL 0 = (k : Int) := by
  obtain ⟨j, a, b⟩ := idx_some _ _ 0 f h
  exact ⟨j, a, by rw [b]; simp⟩
theorem box_start (w : World) (e : PEn) : BoxE (w.alloc (.cells #[.int .i64 e.k, .int .i64 e.t, .int .i64 e.u, .int .i64 e.op.k, .int .i64 e.op.a, .int .i64 e.op.b, .int .i64 e.n, .int .i64 e.m] 54)) w.heap.size e := heap_alloc_new w _
theorem BoxE.kind {w : World} {b : Nat} {e : PEn} (h : BoxE w b e) : KindAt w b e.k e.op.k := ⟨by rw [cell?_of_heap h]; rfl, by rw [cell?_of_heap h]; rfl⟩
theorem BoxE.step {w w' : World} {b : Nat} {e : PEn} (h : BoxE w b e) (hb : Below w.heap.size w w') : BoxE w' b e := (hb.block _ (Array.getElem?_eq_some_iff.1 h).1).trans h
theorem BoxE.lt {w : World} {b : Nat} {e : PEn} (h : BoxE w b e) : b < w.heap.size := (Array.getElem?_eq_some_iff.1 h).1

set_option maxHeartbeats 2000000 in
set_option maxRecDepth 100000 in
theorem text_miss (e : PEn) (w : World) (h : formBy e.k e.op.k = none) :
    Calls Tryd.prog 26 #[.agg #[.int .i64 e.k, .int .i64 e.t, .int .i64 e.u, .int .i64 e.op.k, .int .i64 e.op.a, .int .i64 e.op.b, .int .i64 e.n, .int .i64 e.m]] w (TextP w e) := by
  have HN := Lib.hid (textNone h)
  have HF := Lib.hid (fun b w hx => find2_no b e.k e.op.k w (find2no e h) hx)
  clear h
  go_enter Tryd.func26, Tryd.ntmps26
  go_wp2_with fail
  refine calls_at ?_
  intro wz hwz
  have hB : BoxE wz w.heap.size e := by rw [hwz]; exact box_start w e
  have hb : Below w.heap.size w wz := by rw [hwz]; exact (Below.refl _ _).alloc (Nat.le_refl _) _
  clear hwz
  refine (HF.out _ _ hB.kind).mono ?_
  rintro en w2 ⟨rfl, b2⟩
  have HB := Lib.hid (hb.trans (b2.mono hb.size))
  clear hb b2 hB
  go_wp2
  go_ret2
  exact Or.inr ⟨HN.out, rfl, HB.out.alloc HB.out.size _⟩

/-- the pieces of an entry's line. -/
def lineB (f : Fm) (e : PEn) (p : Nat) : List ByteArray := bs f.w :: ((f.ns.take p).map fun c => bs (Lib.itoa (getF e c)))
theorem lineB_len (f : Fm) (e : PEn) (p : Nat) (h : p ≤ f.ns.length) : (lineB f e p).length = p + 1 := by simp [lineB]; omega
theorem join_tail (x : List UInt8) (l : List UInt8) (e : PEn) : saidF (bs x :: l.map fun c => bs (Lib.itoa (getF e c))) = x ++ l.flatMap fun c => nm (getF e c) := by
  induction l generalizing x with
  | nil => simp [saidF, Lib.join, List.intercalate]
  | cons c l ih =>
    rw [List.map_cons, said_more, ih, List.flatMap_cons]
    simp [nm]
theorem join_out (f : Fm) (e : PEn) : saidF (lineB f e f.ns.length) = joinF f e := by
  unfold lineB joinF
  rw [List.take_length]
  exact join_tail _ _ _
/-- a round of Text: where the letters are, and what was joined. -/
structure TL (w : World) (b : Nat) (f : Fm) (e : PEn) (p : Nat) (out : Value) (wr : World) : Prop where
  box : BoxE wr w.heap.size e
  it : wr.heap[b]? = some (.stringIter (bs f.ns) p)
  le : p ≤ f.ns.length
  row : wr.ownsRow 0 9 1 out (p + 1) (strs (lineB f e p))
  own : ∀ x, out.ownBlock = some x → w.heap.size < x ∧ x ≠ b
  bel : Below w.heap.size w wr
theorem getF_ok {e : PEn} (h : e.ok) (c : UInt8) : inI (getF e c) := by
  obtain ⟨-, h2, h3, ⟨-, h5, h6⟩, h7, h8⟩ := h
  unfold getF
  repeat (first | assumption | split)
theorem iterAt_other (w : World) (k : Nat) (s : ByteArray) (p g : Nat) (h : g ≠ k) : (w.iterAt k s p).heap[g]? = w.heap[g]? := by
  simp [World.iterAt, Array.getElem?_setIfInBounds, Ne.symm h]
theorem row_one (W : World) (v : Value) (T : TypeId) : (W.alloc (.cells #[v] T)).ownsRow 0 T 1 (.slice (some ⟨W.heap.size, 0, none⟩) 1 1) 1 [v] :=
  ⟨by simp, Or.inr ⟨W.heap.size, 1, #[v], rfl, Nat.zero_le _, heap_alloc_new W _, Nat.le_refl _, by unfold maxLen; omega, by simp, by simp⟩⟩
theorem TL.lt {w : World} {b : Nat} {f : Fm} {e : PEn} {p : Nat} {out : Value} {wr : World} (h : TL w b f e p out wr) : b < wr.heap.size := (Array.getElem?_eq_some_iff.1 h.it).1
theorem TL.start (w w2 : World) (f : Fm) (e : PEn) (h : BoxE w2 w.heap.size e) (hb : Below w.heap.size w w2) (A : Array Value) (T : Nat) :
    TL w (w2.heap.size + 1 + 1) f e 0 (.slice (some ⟨w2.heap.size + 1, 0, none⟩) 1 1) (((w2.alloc (.cells A T)).alloc (.cells #[.string (bs f.w)] 9)).iter (bs f.ns) 0) := by
  have hi := World.iter_heap ((w2.alloc (.cells A T)).alloc (.cells #[.string (bs f.w)] 9)) (bs f.ns) 0
  rw [World.size_alloc, World.size_alloc] at hi
  have hr := row_one (w2.alloc (.cells A T)) (.string (bs f.w)) 9
  rw [World.size_alloc] at hr
  have b2 : Below w2.heap.size w2 (((w2.alloc (.cells A T)).alloc (.cells #[.string (bs f.w)] 9)).iter (bs f.ns) 0) := ((((Below.refl _ _).alloc (Nat.le_refl _) _).alloc (by simp) _)).alloc (by simp; omega) _
  refine ⟨h.step b2, hi, Nat.zero_le _, hr.alloc _, fun x hx => ?_, hb.trans (b2.mono hb.size)⟩
  simp [Value.ownBlock] at hx
  have := h.lt
  omega
def TLR (w : World) (b : Nat) (f : Fm) (e : PEn) (out : Value) (wr : World) : Prop := ∃ p, TL w b f e p out wr

theorem joinF_len {f : Fm} {e : PEn} (hf : f ∈ formsL) (he : e.ok) : (joinF f e).length ≤ 200 := by
  have h1 := fun c => nm_len (getF_ok he c)
  rcases forms14 hf with rfl | rfl | rfl | rfl | rfl | rfl | rfl | rfl | rfl | rfl | rfl | rfl | rfl | rfl
  all_goals
    have a1 := h1 116
    have a2 := h1 117
    have a3 := h1 97
    have a4 := h1 98
    have a5 := h1 110
    have a6 := h1 109
    simp [joinF, formsL]
    try omega
set_option maxHeartbeats 4000000 in
set_option maxRecDepth 100000 in
theorem text_hit (e : PEn) (f : Fm) (w : World) (he : e.ok) (hO : LnOk w) (h : formBy e.k e.op.k = some f) :
    Calls Tryd.prog 26 #[.agg #[.int .i64 e.k, .int .i64 e.t, .int .i64 e.u, .int .i64 e.op.k, .int .i64 e.op.a, .int .i64 e.op.b, .int .i64 e.n, .int .i64 e.m]] w (TextP w e) := by
  have HN := Lib.hid (textSome h)
  obtain ⟨k, hk1, hk2⟩ := find2yes e f h
  have HF := Lib.hid (fun b w hx => find2_yes b e.k e.op.k f k w hk1 hk2 hx)
  have HO := Lib.hid hO
  have HE := Lib.hid he
  have HM := Lib.hid (formBy_mem h).1
  clear h hk1 hk2 hO he
  go_enter Tryd.func26, Tryd.ntmps26
  go_wp2_with fail
  refine calls_at ?_
  intro wz hwz
  have hB : BoxE wz w.heap.size e := by rw [hwz]; exact box_start w e
  have hb : Below w.heap.size w wz := by rw [hwz]; exact (Below.refl _ _).alloc (Nat.le_refl _) _
  clear hwz
  refine (HF.out _ _ hB.kind).mono ?_
  rintro en w2 ⟨rfl, b2⟩
  have HB := Lib.hid (hb.trans (b2.mono hb.size))
  have HBox := Lib.hid (hB.step b2)
  have lt0 : w.heap.size < w2.heap.size := (hB.step b2).lt
  clear hb b2 hB
  obtain ⟨i0, hi0, hi1, hi2, hi3⟩ := info_parts infoStr
  have HI := Lib.hid (And.intro hi0 (And.intro hi1 (And.intro hi2 hi3)))
  have hfl : f.ns.length ≤ 4 := by
    rcases forms14 HM.out with h | h | h | h | h | h | h | h | h | h | h | h | h | h <;> (rw [h]; decide)
  clear hi0 hi1 hi2 hi3
  have HTL := Lib.hid (TL.start w w2 f e HBox.out HB.out #[.string (bs f.w), .int .i64 f.k, .int .i64 f.o, .string (bs f.ns)] 76)
  clear HBox HB
  go_wp2
  go_loopw [6, 8] (fun out _ wr => TLR w (w2.heap.size + 1 + 1) f e out wr) (fun _ _ wr => f.ns.length - wr.iterPos (w2.heap.size + 1 + 1))
  case atStart => exact ⟨0, HTL.out⟩
  case round =>
    clear HTL HF
    obtain ⟨p, hp⟩ := hrel
    have hmu : wr.iterPos (w2.heap.size + 1 + 1) = p := by simp [World.iterPos, hp.it]
    have HMu := Lib.hid hmu
    clear hmu
    have hltw := hp.lt
    obtain ⟨pa, pc, rfl⟩ := srow_shape hp.row
    by_cases hlt : p < f.ns.length
    · have hsz : p < (bs f.ns).size := by simpa [ByteArray.size] using hlt
      obtain ⟨c, hc⟩ : ∃ c, f.ns[p]? = some c := ⟨_, List.getElem?_eq_getElem hlt⟩
      have hcl := form_letters HM.out c (List.mem_of_getElem? hc)
      have h128 : c.toNat < 128 := by rcases hcl with rfl | rfl | rfl | rfl | rfl | rfl <;> decide
      have hcb : (bs f.ns)[p]'hsz = c := by
        obtain ⟨h1, h2⟩ := List.getElem?_eq_some_iff.1 hc
        rw [← h2]
        rfl
      have hnext : ∀ ty, (Instr.next (.pointer (some ⟨w2.heap.size + 1 + 1, 0, none⟩)) true ty).run Tryd.prog wr = .ok (.tuple #[.bool true, .int .i64 p, .int .i32 (c.toNat : Int)]) (wr.iterAt (w2.heap.size + 1 + 1) (bs f.ns) (p + 1)) := fun ty => by
        rw [Lib.run_next_ascii_at wr (w2.heap.size + 1 + 1) (bs f.ns) p ty hp.it hsz (by rw [hcb]; exact h128), hcb]
      have hbI : Below (w2.heap.size + 2) wr (wr.iterAt (w2.heap.size + 1 + 1) (bs f.ns) (p + 1)) := Lib.below_iterAt (Below.refl _ _) (by omega) _ _
      have it1 := Lib.iterAt_heap wr (w2.heap.size + 1 + 1) (bs f.ns) p (p + 1) hp.it
      have row1 : (wr.iterAt (w2.heap.size + 1 + 1) (bs f.ns) (p + 1)).ownsRow 0 9 1 (.slice pa (p + 1) pc) (p + 1) (strs (lineB f e p)) := ownsRow_block hp.row fun x hx => iterAt_other _ _ _ _ _ (hp.own x hx).2
      obtain ⟨W1, hW1⟩ : ∃ W1, W1 = wr.iterAt (w2.heap.size + 1 + 1) (bs f.ns) (p + 1) := ⟨_, rfl⟩
      rw [← hW1] at hnext hbI it1 row1
      clear hW1
      have bx1 : BoxE W1 w.heap.size e := (hbI.block _ (by omega)).trans hp.box
      have bel1 : Below w.heap.size w W1 := hp.bel.trans (hbI.mono (by omega))
      have dx := fun o => cell?_of_heap (o := o) bx1
      have d0 := dx 0
      have d1 := dx 1
      have d2 := dx 2
      have d3 := dx 3
      have d4 := dx 4
      have d5 := dx 5
      have d6 := dx 6
      have d7 := dx 7
      simp at d0 d1 d2 d3 d4 d5 d6 d7
      clear dx
      have HB1 := Lib.hid bx1
      have HI1 := Lib.hid it1
      have HR1 := Lib.hid row1
      have HBel1 := Lib.hid bel1
      have HOwn := Lib.hid hp.own
      have HC := Lib.hid hc
      have HCL := Lib.hid hcl
      have hz1 : w2.heap.size + 1 + 1 < W1.heap.size := Nat.lt_of_lt_of_le hltw hbI.size
      clear bx1 it1 row1 bel1 hbI hcb h128 hp hc hcl
      go_wp2_with fail
      refine (lget_any e c HCL.out W1).mono ?_
      rintro en W2 ⟨rfl, b2⟩
      have HB2 := Lib.hid (HBel1.out.trans (b2.mono HBel1.out.size))
      have HF2 := Lib.hid (fun hT => format_any (getF e c) W2 (getF_ok HE.out c) hT)
      go_wp2_with fail
      refine (HF2.out (HO.out.step HB2.out).1).mono ?_
      rintro en W3 ⟨rfl, b3⟩
      have b23 : Below W1.heap.size W1 W3 := b2.trans (b3.mono b2.size)
      have HR3 := Lib.hid (row_below HR1.out b23)
      have HBx3 := Lib.hid (HB1.out.step b23)
      have HI3 := Lib.hid ((b23.block _ hz1).trans HI1.out)
      have HBel3 := Lib.hid (HBel1.out.trans (b23.mono HBel1.out.size))
      have hz3 : w2.heap.size + 1 + 1 < W3.heap.size := Nat.lt_of_lt_of_le hz1 b23.size
      clear b2 b3 b23
      go_wp2_with (at_builtin; go_must (refine wpL_append rfl _ _ rfl 9 i0 (.string .empty) 1 16 Tryd.underlying73 HI.out.1 HI.out.2.1 HI.out.2.2.1 HI.out.2.2.2 rfl (by decide) (.slice pa (p + 1) pc) (p + 1) (strs (lineB f e p)) rfl (HR3.out.alloc _) ⟨W3.heap.size, 0, none⟩ 1 1 [.string (bs (Lib.itoa (getF e c)))] rfl rfl (cell_one_new _ _ _) ?c1 ?c2 ?c3 ?_); go_must (case c1 => (simp [Value.oneCell'])); go_must (case c2 => (unfold maxLen; omega)); go_must (case c3 => (omega)); go_must (intro v' w5 hown5 hg5 hnew5 hnil5); go_must (clear hnil5); go_must (obtain ⟨g', cap', rfl⟩ := Joins.ownsRow_form hown5 (by omega)))
      have hne0 : ∀ x, (Value.slice pa (p + 1) pc).ownBlock = some x → x ≠ w.heap.size ∧ x ≠ w2.heap.size + 1 + 1 := fun x hx => ⟨by have := (HOwn.out x hx).1; omega, (HOwn.out x hx).2⟩
      have it5 : w5.heap[w2.heap.size + 1 + 1]? = some (.stringIter (bs f.ns) (p + 1)) := by
        rw [hg5.block _ (by simp; omega) (fun hx => (hne0 _ hx.symm).2 rfl), Below.heap_alloc _ _ _ (by omega)]
        exact HI3.out
      have HTL : Hid (TL w (w2.heap.size + 1 + 1) f e (p + 1) (.slice (some ⟨g', 0, none⟩) (p + 1 + 1) cap') w5) := Lib.hid (by
        refine ⟨?_, it5, by omega, ?_, fun x hx => ?_, (HBel3.out.alloc HBel3.out.size _).grown hg5 (by have := HBel3.out.size; simp; omega) (fun x hx => Nat.le_of_lt (HOwn.out x hx).1)⟩
        · unfold BoxE
          rw [hg5.block _ (by have := HBx3.out.lt; simp; omega) (fun hx => (hne0 _ hx.symm).1 rfl), Below.heap_alloc _ _ _ HBx3.out.lt]
          exact HBx3.out
        · have ht : lineB f e (p + 1) = lineB f e p ++ [bs (Lib.itoa (getF e c))] := by
            unfold lineB
            rw [List.take_add_one, HC.out]
            simp
          rw [ht]
          simpa [strs] using hown5
        · rcases hnew5 x hx with h1 | h1
          · exact HOwn.out x h1
          · simp at h1
            have := HBx3.out.lt
            omega)
      clear hown5 hg5 hnew5 it5 hne0
      go_wp2
      go_roundw
      case rel => exact ⟨p + 1, HTL.out⟩
      case measure =>
        have hmu2 : w5.iterPos (w2.heap.size + 1 + 1) = p + 1 := by simp [World.iterPos, HTL.out.it]
        rw [hmu2, HMu.out]
        omega
    · obtain rfl : p = f.ns.length := by have := hp.le; omega
      have hsz : ¬ f.ns.length < (bs f.ns).size := by simp [ByteArray.size]
      have hnext : ∀ ty, (Instr.next (.pointer (some ⟨w2.heap.size + 1 + 1, 0, none⟩)) true ty).run Tryd.prog wr = .ok (.tuple #[.bool false]) wr := fun ty => Lib.run_next_end_at wr (w2.heap.size + 1 + 1) (bs f.ns) f.ns.length ty hp.it hsz
      obtain ⟨go, co, hgo⟩ := Joins.ownsRow_form hp.row (by omega)
      simp only [Value.slice.injEq, true_and] at hgo
      obtain ⟨rfl, rfl⟩ := hgo
      have hcs := hp.row.cells (g := go) rfl
      have hcap : f.ns.length + 1 ≤ pc := by
        rcases hp.row.2 with ⟨h1, -⟩ | ⟨g1, cap, cur, h1, -, -, h2, -⟩
        · cases h1
        · simp only [Value.slice.injEq, Option.some.injEq, Addr.mk.injEq] at h1
          obtain ⟨-, -, rfl⟩ := h1
          exact h2
      have hlg : go < wr.heap.size := ownsRow_lt hp.row rfl
      have hlb := lineB_len f e f.ns.length (Nat.le_refl _)
      have hjl := joinF_len HM.out HE.out
      have HJ : Hid (Calls Tryd.prog 48 #[.slice (some ⟨go, 0, none⟩) (f.ns.length + 1) pc, .string ⟨#[32]⟩] wr fun en w' => en = .returned (.string (bs (joinF f e))) ∧ Below wr.heap.size wr w') := Lib.hid (by
        have h1 := Tryd.strings_Join go 0 pc (lineB f e f.ns.length) (bs [32]) wr (fun j x hx => by
          have := hcs j (.string x) (by rw [strs, List.getElem?_map, hx]; rfl)
          rwa [cell_add0] at this) hlg (by rw [hlb]; omega) (by rw [hlb]; exact hcap) (by
            have : saidF (lineB f e f.ns.length) = joinF f e := join_out f e
            unfold saidF at this
            show (Lib.join ((lineB f e f.ns.length).map (·.data.toList)) [32]).length ≤ _
            rw [this]
            omega)
        rw [hlb] at h1
        have h2 : Lib.join ((lineB f e f.ns.length).map (·.data.toList)) (bs [32]).data.toList = joinF f e := join_out f e
        rw [h2] at h1
        exact h1)
      have HBox := Lib.hid hp.box
      have HBel := Lib.hid hp.bel
      have HJL := Lib.hid hjl
      generalize joinF f e = s at HJ HN HJL
      clear hp hcs hcap hlg hlb hjl
      go_wp2_with fail
      refine HJ.out.mono ?_
      rintro en W1 ⟨rfl, b1⟩
      have bel1 := HBel.out.trans (b1.mono HBel.out.size)
      have HBx1 := Lib.hid (HBox.out.step b1)
      have HBel1 := Lib.hid bel1
      have HP := Lib.hid (lparse_any s W1 (by have := HJL.out; omega) (HO.out.step bel1))
      clear b1 bel1
      go_wp2_with fail
      refine HP.out.mono ?_
      rintro en W2 (⟨x, hx, rfl, b2⟩ | ⟨hx, rfl, b2⟩)
      · have bel2 := HBel1.out.trans (b2.mono HBel1.out.size)
        have hbx2 := HBx1.out.step b2
        have hbl := hbx2.lt
        have dx := fun o => cell?_of_heap (o := o) hbx2
        have d0 := dx 0
        have d1 := dx 1
        have d2 := dx 2
        have d3 := dx 3
        have d4 := dx 4
        have d5 := dx 5
        have d6 := dx 6
        have d7 := dx 7
        simp at d0 d1 d2 d3 d4 d5 d6 d7
        clear dx
        obtain ⟨q, hq⟩ : ∃ q, eqEn x e = q := ⟨_, rfl⟩
        have hEq : ∀ W, (Op.equalIn 10000 54 (.agg #[.int .i64 x.k, .int .i64 x.t, .int .i64 x.u, .int .i64 x.op.k, .int .i64 x.op.a, .int .i64 x.op.b, .int .i64 x.n, .int .i64 x.m]) (.agg #[.int .i64 e.k, .int .i64 e.t, .int .i64 e.u, .int .i64 e.op.k, .int .i64 e.op.a, .int .i64 e.op.b, .int .i64 e.n, .int .i64 e.m])).run Tryd.prog W = .ok q W := fun W => by rw [← hq]; exact eq_entry x e W
        have HQ : Hid (textF e = if q = true then some s else none) := Lib.hid (by rw [HN.out]; unfold checkF; rw [hx]; simp only []; rw [hq])
        have HBel2 := Lib.hid bel2
        unfold enV
        clear hx hq bel2 b2 hbx2 HN HP
        cases q
        · go_wp2
          go_ret2
          refine Or.inr ⟨by rw [HQ.out]; simp, rfl, ?_⟩
          exact HBel2.out.alloc HBel2.out.size _
        · go_wp2
          go_ret2
          refine Or.inl ⟨s, by rw [HQ.out]; simp, rfl, ?_⟩
          exact HBel2.out.alloc HBel2.out.size _
      · have HQ : Hid (textF e = none) := Lib.hid (by rw [HN.out]; unfold checkF; rw [hx])
        have HBel2 := Lib.hid (HBel1.out.trans (b2.mono HBel1.out.size))
        unfold enV PEn.none
        clear hx b2 HN HP
        go_wp2
        go_ret2
        exact Or.inr ⟨HQ.out, rfl, HBel2.out.alloc HBel2.out.size _⟩
theorem ltext_any (e : PEn) (w : World) (he : e.ok) (hO : LnOk w) :
    Calls Tryd.prog 26 #[.agg #[.int .i64 e.k, .int .i64 e.t, .int .i64 e.u, .int .i64 e.op.k, .int .i64 e.op.a, .int .i64 e.op.b, .int .i64 e.n, .int .i64 e.m]] w (TextP w e) := by
  cases h : formBy e.k e.op.k with
  | none => exact text_miss e w h
  | some f => exact text_hit e f w he hO h
end Go.Proofs.YtloilknkhloegaaDoor
