/- lines: the page's example; the law LineBack. -/
import Derived.Test.YtloilknkhloegaaDoorLinT
set_option linter.unusedSimpArgs false
set_option linter.unusedVariables false
namespace Go.Proofs.YtloilknkhloegaaDoor
open Go.RowKit

theorem ex_parse1 : parseF [115, 101, 116, 114, 111, 111, 116, 32, 49, 32, 53, 32, 48, 32, 49, 48, 50, 52] = some ⟨1, 1, 5, ⟨5, 0, 1024⟩, 0, 0⟩ := by
  have h1 : numV [49] = some 1 := numV_some.2 ⟨⟨by decide, by decide⟩, by simp [Lib.itoa, Lib.decDigits]⟩
  have h2 : numV [53] = some 5 := numV_some.2 ⟨⟨by decide, by decide⟩, by simp [Lib.itoa, Lib.decDigits]⟩
  have h3 : numV [48] = some 0 := numV_some.2 ⟨⟨by decide, by decide⟩, by simp [Lib.itoa, Lib.decDigits]⟩
  have h4 : numV [49, 48, 50, 52] = some 1024 := numV_some.2 ⟨⟨by decide, by decide⟩, by simp [Lib.itoa, Lib.decDigits]⟩
  have hc : cutAt 32 [115, 101, 116, 114, 111, 111, 116, 32, 49, 32, 53, 32, 48, 32, 49, 48, 50, 52] = [[115, 101, 116, 114, 111, 111, 116], [49], [53], [48], [49, 48, 50, 52]] := by decide
  rw [parse_cut hc]
  simp only [numsV, h1, h2, h3, h4]
  rfl
theorem ex_parse2 : parseF [115, 116, 101, 112, 32, 48, 32, 48, 49] = none := by
  have h1 : numV [48, 49] = none := by
    cases h : numV [48, 49] with
    | none => rfl
    | some n =>
      obtain ⟨-, h2⟩ := numV_some.1 h
      have h3 := congrArg valS h2
      rw [valS_itoa] at h3
      have h4 : n = 1 := by rw [← h3]; decide
      subst h4
      simp [Lib.itoa, Lib.decDigits] at h2
  have hc : cutAt 32 [115, 116, 101, 112, 32, 48, 32, 48, 49] = [[115, 116, 101, 112], [48], [48, 49]] := by decide
  exact parse_nonum hc (numsV_none (y := [48, 49]) (by simp) h1)
theorem parse_is {s : List UInt8} {x : PEn} {w : World} {en : Ending} {w' : World} (h : parseF s = some x) (hp : ParseP w s en w') : en = .returned (.tuple #[enV x, .bool true]) ∧ Below w.heap.size w w' := by
  rcases hp with ⟨y, hy, he, hb⟩ | ⟨hy, -⟩
  · rw [h] at hy; cases hy; exact ⟨he, hb⟩
  · rw [h] at hy; cases hy
theorem parse_not {s : List UInt8} {w : World} {en : Ending} {w' : World} (h : parseF s = none) (hp : ParseP w s en w') : en = .returned (.tuple #[enV PEn.none, .bool false]) ∧ Below w.heap.size w w' := by
  rcases hp with ⟨y, hy, -⟩ | ⟨-, he, hb⟩
  · rw [h] at hy; cases hy
  · exact ⟨he, hb⟩
theorem text_is {e : PEn} {s : List UInt8} {w : World} {en : Ending} {w' : World} (h : textF e = some s) (hp : TextP w e en w') : en = .returned (.tuple #[.string (bs s), .bool true]) ∧ Below w.heap.size w w' := by
  rcases hp with ⟨y, hy, he, hb⟩ | ⟨hy, -⟩
  · rw [h] at hy; cases hy; exact ⟨he, hb⟩
  · rw [h] at hy; cases hy

set_option maxHeartbeats 2000000 in
set_option maxRecDepth 100000 in
theorem llive_any (w : World) (hO : LnOk w) :
    Calls Tryd.prog 23 #[] w fun e w' => e = .returned (.bool true) ∧ Below w.heap.size w w' := by
  have HO := Lib.hid hO
  have H1 : Hid (Calls Tryd.prog 24 #[.string ⟨#[115, 101, 116, 114, 111, 111, 116, 32, 49, 32, 53, 32, 48, 32, 49, 48, 50, 52]⟩] w fun e w' => e = .returned (.tuple #[.agg #[.int .i64 1, .int .i64 1, .int .i64 5, .int .i64 5, .int .i64 0, .int .i64 1024, .int .i64 0, .int .i64 0], .bool true]) ∧ Below w.heap.size w w') :=
    Lib.hid ((lparse_any _ w (by decide) hO).mono fun _ _ h => parse_is ex_parse1 h)
  have H2 : Hid (∀ w, LnOk w → Calls Tryd.prog 24 #[.string ⟨#[115, 116, 101, 112, 32, 48, 32, 48, 49]⟩] w fun e w' => e = .returned (.tuple #[.agg #[.int .i64 0, .int .i64 0, .int .i64 0, .int .i64 0, .int .i64 0, .int .i64 0, .int .i64 0, .int .i64 0], .bool false]) ∧ Below w.heap.size w w') :=
    Lib.hid (fun w hO => (lparse_any _ w (by decide) hO).mono fun _ _ h => parse_not ex_parse2 h)
  have hE : ∀ W, (Op.equalIn 10000 54 (.agg #[.int .i64 1, .int .i64 1, .int .i64 5, .int .i64 5, .int .i64 0, .int .i64 1024, .int .i64 0, .int .i64 0]) (.agg #[.int .i64 1, .int .i64 1, .int .i64 5, .int .i64 5, .int .i64 0, .int .i64 1024, .int .i64 0, .int .i64 0])).run Tryd.prog W = .ok true W := fun W => eq_entry ⟨1, 1, 5, ⟨5, 0, 1024⟩, 0, 0⟩ ⟨1, 1, 5, ⟨5, 0, 1024⟩, 0, 0⟩ W
  clear hO
  go_enter Tryd.func23, Tryd.ntmps23
  go_wp2_with fail
  refine H1.out.mono ?_
  rintro e w1 ⟨rfl, b1⟩
  have HB1 := Lib.hid b1
  clear b1
  go_wp2_with fail
  refine calls_at ?_
  intro wz hwz
  have hbx : wz.heap[w1.heap.size]? = some (.cells #[.int .i64 1, .int .i64 1, .int .i64 5, .int .i64 5, .int .i64 0, .int .i64 1024, .int .i64 0, .int .i64 0] 54) := by rw [hwz]; exact heap_alloc_new w1 _
  have hbz : Below w.heap.size w wz := by rw [hwz]; exact HB1.out.alloc HB1.out.size _
  have hzl : w1.heap.size < wz.heap.size := by rw [hwz]; simp
  clear hwz
  refine (H2.out _ (HO.out.step hbz)).mono ?_
  rintro e w2 ⟨rfl, b2⟩
  have hb2 := (b2.block _ hzl).trans hbx
  have hzl2 : w1.heap.size < w2.heap.size := Nat.lt_of_lt_of_le hzl b2.size
  have qx := fun o => cell?_of_heap (o := o) hb2
  have q0 := qx 0
  have q1 := qx 1
  have q2 := qx 2
  have q3 := qx 3
  have q4 := qx 4
  have q5 := qx 5
  have q6 := qx 6
  have q7 := qx 7
  simp at q0 q1 q2 q3 q4 q5 q6 q7
  clear qx
  have HB2 := Lib.hid (hbz.trans (b2.mono hbz.size))
  clear b2 hb2 hbx hbz hzl
  go_wp2
  go_ret
  exact ⟨rfl, HB2.out.alloc HB2.out.size _⟩

/-- two entries in boxes of the call's own. -/
structure B2 (w : World) (e d : PEn) (wz : World) : Prop where
  be : BoxE wz w.heap.size e
  bd : BoxE wz (w.heap.size + 1) d
  bel : Below w.heap.size w wz
theorem B2.step {w wz w' : World} {e d : PEn} (h : B2 w e d wz) (hb : Below wz.heap.size wz w') : B2 w e d w' := ⟨h.be.step hb, h.bd.step hb, h.bel.trans (hb.mono h.bel.size)⟩
theorem B2.alloc {w wz : World} {e d : PEn} (h : B2 w e d wz) (o : Obj) : B2 w e d (wz.alloc o) := h.step ((Below.refl _ _).alloc (Nat.le_refl _) _)
theorem B2.start (w : World) (e d : PEn) : B2 w e d ((w.alloc (.cells #[.int .i64 e.k, .int .i64 e.t, .int .i64 e.u, .int .i64 e.op.k, .int .i64 e.op.a, .int .i64 e.op.b, .int .i64 e.n, .int .i64 e.m] 54)).alloc (.cells #[.int .i64 d.k, .int .i64 d.t, .int .i64 d.u, .int .i64 d.op.k, .int .i64 d.op.a, .int .i64 d.op.b, .int .i64 d.n, .int .i64 d.m] 54)) := by
  refine ⟨?_, ?_, ((Below.refl _ _).alloc (Nat.le_refl _) _).alloc (by simp) _⟩
  · exact (((Below.refl (w.heap.size + 1) (w.alloc _)).alloc (by simp) _).block _ (by omega)).trans (box_start w e)
  · have := box_start (w.alloc (.cells #[.int .i64 e.k, .int .i64 e.t, .int .i64 e.u, .int .i64 e.op.k, .int .i64 e.op.a, .int .i64 e.op.b, .int .i64 e.n, .int .i64 e.m] 54)) d
    rwa [World.size_alloc] at this
theorem B2.lt {w wz : World} {e d : PEn} (h : B2 w e d wz) : w.heap.size < wz.heap.size ∧ w.heap.size + 1 < wz.heap.size := ⟨h.be.lt, h.bd.lt⟩

theorem text_len {e : PEn} {x : List UInt8} (he : e.ok) (h : textF e = some x) : x.length ≤ 200 := by
  unfold textF at h
  split at h
  · cases h
  · rename_i f hf
    obtain ⟨rfl, -⟩ := check_some h
    exact joinF_len (formBy_mem hf).1 he
theorem putF_ok {e : PEn} (h : e.ok) (c : UInt8) {v : Int} (hv : inI v) : (putF e c v).ok := by
  obtain ⟨h1, h2, h3, ⟨h4, h5, h6⟩, h7, h8⟩ := h
  unfold putF
  repeat (first | exact ⟨h1, hv, h3, ⟨h4, h5, h6⟩, h7, h8⟩ | exact ⟨h1, h2, hv, ⟨h4, h5, h6⟩, h7, h8⟩ | exact ⟨h1, h2, h3, ⟨h4, hv, h6⟩, h7, h8⟩ | exact ⟨h1, h2, h3, ⟨h4, h5, hv⟩, h7, h8⟩ | exact ⟨h1, h2, h3, ⟨h4, h5, h6⟩, hv, h8⟩ | exact ⟨h1, h2, h3, ⟨h4, h5, h6⟩, h7, hv⟩ | split)
theorem fillF_ok (cs : List UInt8) : ∀ (e : PEn) (vs : List Int), e.ok → (∀ v ∈ vs, inI v) → (fillF e cs vs).ok := by
  induction cs with
  | nil => intro e vs h _; exact h
  | cons c cs ih =>
    intro e vs h hv
    cases vs with
    | nil => exact h
    | cons v vs => exact ih _ vs (putF_ok h c (hv v (by simp))) (fun x hx => hv x (List.mem_cons_of_mem _ hx))
theorem start_ok {f : Fm} (h : f ∈ formsL) : (PEn.start f).ok := by
  rcases forms14 h with rfl | rfl | rfl | rfl | rfl | rfl | rfl | rfl | rfl | rfl | rfl | rfl | rfl | rfl <;> exact ⟨⟨by decide, by decide⟩, ⟨by decide, by decide⟩, ⟨by decide, by decide⟩, ⟨⟨by decide, by decide⟩, ⟨by decide, by decide⟩, ⟨by decide, by decide⟩⟩, ⟨by decide, by decide⟩, ⟨by decide, by decide⟩⟩
/-- an entry that is read is one of numbers that are ints. -/
theorem parse_ok {s : List UInt8} {e : PEn} (h : parseF s = some e) : e.ok := by
  obtain ⟨f, ns, hf, -, rfl, -, hn⟩ := parseF_some h
  exact fillF_ok f.ns _ ns (start_ok hf) hn
set_option maxHeartbeats 8000000 in
set_option maxRecDepth 100000 in
theorem lineback_any (e d : PEn) (s : List UInt8) (w : World) (he : e.ok) (hd : d.ok) (hO : LnOk w) (hsl : s.length ≤ maxLen) :
    Calls Tryd.prog 7 #[.agg #[.int .i64 e.k, .int .i64 e.t, .int .i64 e.u, .int .i64 e.op.k, .int .i64 e.op.a, .int .i64 e.op.b, .int .i64 e.n, .int .i64 e.m], .agg #[.int .i64 d.k, .int .i64 d.t, .int .i64 d.u, .int .i64 d.op.k, .int .i64 d.op.a, .int .i64 d.op.b, .int .i64 d.n, .int .i64 d.m], .string (bs s)] w fun en w' => en = .returned (.bool true) ∧ Below w.heap.size w w' := by
  unfold maxLen at hsl
  have HO := Lib.hid hO
  have HTE := Lib.hid (fun w hO => ltext_any e w he hO)
  have HTD := Lib.hid (fun w hO => ltext_any d w hd hO)
  have HL := Lib.hid (fun w hO => llive_any w hO)
  have HPR := Lib.hid (fun s w hl hO => lparse_any s w hl hO)
  have HTT := Lib.hid (fun b w (h : b.ok) hO => ltext_any b w h hO)
  have HEok := Lib.hid he
  clear he hd hO
  obtain ⟨q, hq⟩ : ∃ q, eqEn e d = q := ⟨_, rfl⟩
  have hEq : ∀ W, (Op.equalIn 10000 54 (.agg #[.int .i64 e.k, .int .i64 e.t, .int .i64 e.u, .int .i64 e.op.k, .int .i64 e.op.a, .int .i64 e.op.b, .int .i64 e.n, .int .i64 e.m]) (.agg #[.int .i64 d.k, .int .i64 d.t, .int .i64 d.u, .int .i64 d.op.k, .int .i64 d.op.a, .int .i64 d.op.b, .int .i64 d.n, .int .i64 d.m])).run Tryd.prog W = .ok q W := fun W => by rw [← hq]; exact eq_entry e d W
  have hEe : ∀ W, (Op.equalIn 10000 54 (.agg #[.int .i64 e.k, .int .i64 e.t, .int .i64 e.u, .int .i64 e.op.k, .int .i64 e.op.a, .int .i64 e.op.b, .int .i64 e.n, .int .i64 e.m]) (.agg #[.int .i64 e.k, .int .i64 e.t, .int .i64 e.u, .int .i64 e.op.k, .int .i64 e.op.a, .int .i64 e.op.b, .int .i64 e.n, .int .i64 e.m])).run Tryd.prog W = .ok true W := fun W => by rw [← (eqEn_iff e e).2 rfl]; exact eq_entry e e W
  have hE0 : ∀ W, (Op.equalIn 10000 54 (.agg #[.int .i64 0, .int .i64 0, .int .i64 0, .int .i64 0, .int .i64 0, .int .i64 0, .int .i64 0, .int .i64 0]) (.agg #[.int .i64 0, .int .i64 0, .int .i64 0, .int .i64 0, .int .i64 0, .int .i64 0, .int .i64 0, .int .i64 0])).run Tryd.prog W = .ok true W := fun W => eq_entry PEn.none PEn.none W
  have HQ := Lib.hid hq
  clear hq
  go_enter Tryd.func7, Tryd.ntmps7
  go_wp2_with fail
  refine calls_at ?_
  intro wz hwz
  have HZ := Lib.hid (show B2 w e d wz by rw [hwz]; exact B2.start w e d)
  clear hwz
  refine (HTE.out _ (HO.out.step HZ.out.bel)).mono ?_
  rintro en w1 (⟨x, hx, rfl, b1⟩ | ⟨hx, rfl, b1⟩)
  · have HZ1 := Lib.hid (HZ.out.step b1)
    have HPX := Lib.hid (text_some hx)
    have HXL := Lib.hid (text_len HEok.out hx)
    have HX := Lib.hid hx
    clear b1 hx
    go_wp2_with fail
    refine ((HPR.out x _ (by have := HXL.out; omega) (HO.out.step HZ1.out.bel)).mono fun _ _ h => parse_is HPX.out h).mono ?_
    rintro en w2 ⟨rfl, b2⟩
    have z2 := HZ1.out.step b2
    have HZ2 := Lib.hid z2
    have lt0 := z2.lt.1
    have lt1 := z2.lt.2
    have qx := fun o => cell?_of_heap (o := o) z2.be
    have q0 := qx 0
    have q1 := qx 1
    have q2 := qx 2
    have q3 := qx 3
    have q4 := qx 4
    have q5 := qx 5
    have q6 := qx 6
    have q7 := qx 7
    simp at q0 q1 q2 q3 q4 q5 q6 q7
    clear qx
    have px := fun o => cell?_of_heap (o := o) z2.bd
    have p0 := px 0
    have p1 := px 1
    have p2 := px 2
    have p3 := px 3
    have p4 := px 4
    have p5 := px 5
    have p6 := px 6
    have p7 := px 7
    simp at p0 p1 p2 p3 p4 p5 p6 p7
    clear px
    unfold enV
    clear z2 b2
    go_wp2_with fail
    refine calls_at ?_
    intro wy hwy
    have HY := Lib.hid (show B2 w e d wy by rw [hwy]; exact HZ2.out.alloc _)
    clear hwy q0 q1 q2 q3 q4 q5 q6 q7 p0 p1 p2 p3 p4 p5 p6 p7 lt0 lt1
    refine (HTD.out _ (HO.out.step HY.out.bel)).mono ?_
    rintro en w3 (⟨y, hy, rfl, b3⟩ | ⟨hy, rfl, b3⟩)
    · have z3 := HY.out.step b3
      have HZ3 := Lib.hid z3
      have hxy : (x == y) = q := by
        have h1 := HX.out
        have h2 := HQ.out
        cases q with
        | true => rw [eqEn_iff] at h2; subst h2; rw [h1] at hy; cases hy; simp
        | false =>
          have hne : x ≠ y := fun hxy => by
            subst hxy
            have := text_inj h1 hy
            rw [(eqEn_iff e d).2 this] at h2
            cases h2
          simpa using hne
      have qx := fun o => cell?_of_heap (o := o) z3.be
      have q0 := qx 0
      have q1 := qx 1
      have q2 := qx 2
      have q3 := qx 3
      have q4 := qx 4
      have q5 := qx 5
      have q6 := qx 6
      have q7 := qx 7
      simp at q0 q1 q2 q3 q4 q5 q6 q7
      clear qx
      have px := fun o => cell?_of_heap (o := o) z3.bd
      have p0 := px 0
      have p1 := px 1
      have p2 := px 2
      have p3 := px 3
      have p4 := px 4
      have p5 := px 5
      have p6 := px 6
      have p7 := px 7
      simp at p0 p1 p2 p3 p4 p5 p6 p7
      clear px
      clear z3 b3 hy
      cases q
      all_goals
        by_cases hs : s.length ≤ 2000
        · have hs2 : (s.length : Int) ≤ 2000 := by omega
          go_wp2_with fail
          refine calls_at ?_
          intro wa hwa
          have HA := Lib.hid (show Below w.heap.size w wa by rw [hwa]; exact HZ3.out.bel)
          clear hwa
          refine (HPR.out s _ (by omega) (HO.out.step HA.out)).mono ?_
          rintro en w5 (⟨b, hb, rfl, b5⟩ | ⟨hb, rfl, b5⟩)
          · have HB5 := Lib.hid (HA.out.trans (b5.mono HA.out.size))
            have HTX := Lib.hid (text_parse hb)
            have HOK := Lib.hid (parse_ok hb)
            unfold enV
            clear hb b5
            go_wp2_with fail
            refine calls_at ?_
            intro wb hwb
            have HB := Lib.hid (show Below w.heap.size w wb by rw [hwb]; exact HB5.out.alloc HB5.out.size _)
            clear hwb
            refine ((HTT.out b _ HOK.out (HO.out.step HB.out)).mono fun _ _ h => text_is HTX.out h).mono ?_
            rintro en w6 ⟨rfl, b6⟩
            have HB6 := Lib.hid (HB.out.trans (b6.mono HB.out.size))
            clear b6
            go_wp2_with fail
            refine (HL.out _ (HO.out.step HB6.out)).mono ?_
            rintro en w7 ⟨rfl, b7⟩
            go_wp2
            go_ret
            exact ⟨rfl, HB6.out.trans (b7.mono HB6.out.size)⟩
          · have HB5 := Lib.hid (HA.out.trans (b5.mono HA.out.size))
            unfold enV PEn.none
            clear hb b5
            go_wp2_with fail
            refine calls_at ?_
            intro wb hwb
            have HB := Lib.hid (show Below w.heap.size w wb by rw [hwb]; exact HB5.out.alloc HB5.out.size _)
            clear hwb
            refine (HL.out _ (HO.out.step HB.out)).mono ?_
            rintro en w7 ⟨rfl, b7⟩
            go_wp2
            go_ret
            exact ⟨rfl, HB.out.trans (b7.mono HB.out.size)⟩
        · have hs2 : ¬ (s.length : Int) ≤ 2000 := by omega
          go_wp2_with fail
          refine calls_at ?_
          intro wa hwa
          have HA := Lib.hid (show Below w.heap.size w wa by rw [hwa]; exact HZ3.out.bel)
          clear hwa
          refine (HL.out _ (HO.out.step HA.out)).mono ?_
          rintro en w5 ⟨rfl, b5⟩
          go_wp2
          go_ret
          exact ⟨rfl, HA.out.trans (b5.mono HA.out.size)⟩
    · have HZ3 := Lib.hid (HY.out.step b3)
      clear b3 hy
      by_cases hs : s.length ≤ 2000
      · have hs2 : (s.length : Int) ≤ 2000 := by omega
        go_wp2_with fail
        refine calls_at ?_
        intro wa hwa
        have HA := Lib.hid (show Below w.heap.size w wa by rw [hwa]; exact HZ3.out.bel)
        clear hwa
        refine (HPR.out s _ (by omega) (HO.out.step HA.out)).mono ?_
        rintro en w5 (⟨b, hb, rfl, b5⟩ | ⟨hb, rfl, b5⟩)
        · have HB5 := Lib.hid (HA.out.trans (b5.mono HA.out.size))
          have HTX := Lib.hid (text_parse hb)
          have HOK := Lib.hid (parse_ok hb)
          unfold enV
          clear hb b5
          go_wp2_with fail
          refine calls_at ?_
          intro wb hwb
          have HB := Lib.hid (show Below w.heap.size w wb by rw [hwb]; exact HB5.out.alloc HB5.out.size _)
          clear hwb
          refine ((HTT.out b _ HOK.out (HO.out.step HB.out)).mono fun _ _ h => text_is HTX.out h).mono ?_
          rintro en w6 ⟨rfl, b6⟩
          have HB6 := Lib.hid (HB.out.trans (b6.mono HB.out.size))
          clear b6
          go_wp2_with fail
          refine (HL.out _ (HO.out.step HB6.out)).mono ?_
          rintro en w7 ⟨rfl, b7⟩
          go_wp2
          go_ret
          exact ⟨rfl, HB6.out.trans (b7.mono HB6.out.size)⟩
        · have HB5 := Lib.hid (HA.out.trans (b5.mono HA.out.size))
          unfold enV PEn.none
          clear hb b5
          go_wp2_with fail
          refine calls_at ?_
          intro wb hwb
          have HB := Lib.hid (show Below w.heap.size w wb by rw [hwb]; exact HB5.out.alloc HB5.out.size _)
          clear hwb
          refine (HL.out _ (HO.out.step HB.out)).mono ?_
          rintro en w7 ⟨rfl, b7⟩
          go_wp2
          go_ret
          exact ⟨rfl, HB.out.trans (b7.mono HB.out.size)⟩
      · have hs2 : ¬ (s.length : Int) ≤ 2000 := by omega
        go_wp2_with fail
        refine calls_at ?_
        intro wa hwa
        have HA := Lib.hid (show Below w.heap.size w wa by rw [hwa]; exact HZ3.out.bel)
        clear hwa
        refine (HL.out _ (HO.out.step HA.out)).mono ?_
        rintro en w5 ⟨rfl, b5⟩
        go_wp2
        go_ret
        exact ⟨rfl, HA.out.trans (b5.mono HA.out.size)⟩
  · have z1 := HZ.out.step b1
    have HZ1 := Lib.hid z1
    have px := fun o => cell?_of_heap (o := o) z1.bd
    have p0 := px 0
    have p1 := px 1
    have p2 := px 2
    have p3 := px 3
    have p4 := px 4
    have p5 := px 5
    have p6 := px 6
    have p7 := px 7
    simp at p0 p1 p2 p3 p4 p5 p6 p7
    clear px
    clear b1 hx z1
    go_wp2_with fail
    refine (HTD.out _ (HO.out.step HZ1.out.bel)).mono ?_
    rintro en w3 (⟨y, hy, rfl, b3⟩ | ⟨hy, rfl, b3⟩)
    all_goals
      have HZ3 := Lib.hid (HZ1.out.step b3)
      clear b3 hy p0 p1 p2 p3 p4 p5 p6 p7
      by_cases hs : s.length ≤ 2000
      · have hs2 : (s.length : Int) ≤ 2000 := by omega
        go_wp2_with fail
        refine calls_at ?_
        intro wa hwa
        have HA := Lib.hid (show Below w.heap.size w wa by rw [hwa]; exact HZ3.out.bel)
        clear hwa
        refine (HPR.out s _ (by omega) (HO.out.step HA.out)).mono ?_
        rintro en w5 (⟨b, hb, rfl, b5⟩ | ⟨hb, rfl, b5⟩)
        · have HB5 := Lib.hid (HA.out.trans (b5.mono HA.out.size))
          have HTX := Lib.hid (text_parse hb)
          have HOK := Lib.hid (parse_ok hb)
          unfold enV
          clear hb b5
          go_wp2_with fail
          refine calls_at ?_
          intro wb hwb
          have HB := Lib.hid (show Below w.heap.size w wb by rw [hwb]; exact HB5.out.alloc HB5.out.size _)
          clear hwb
          refine ((HTT.out b _ HOK.out (HO.out.step HB.out)).mono fun _ _ h => text_is HTX.out h).mono ?_
          rintro en w6 ⟨rfl, b6⟩
          have HB6 := Lib.hid (HB.out.trans (b6.mono HB.out.size))
          clear b6
          go_wp2_with fail
          refine (HL.out _ (HO.out.step HB6.out)).mono ?_
          rintro en w7 ⟨rfl, b7⟩
          go_wp2
          go_ret
          exact ⟨rfl, HB6.out.trans (b7.mono HB6.out.size)⟩
        · have HB5 := Lib.hid (HA.out.trans (b5.mono HA.out.size))
          unfold enV PEn.none
          clear hb b5
          go_wp2_with fail
          refine calls_at ?_
          intro wb hwb
          have HB := Lib.hid (show Below w.heap.size w wb by rw [hwb]; exact HB5.out.alloc HB5.out.size _)
          clear hwb
          refine (HL.out _ (HO.out.step HB.out)).mono ?_
          rintro en w7 ⟨rfl, b7⟩
          go_wp2
          go_ret
          exact ⟨rfl, HB.out.trans (b7.mono HB.out.size)⟩
      · have hs2 : ¬ (s.length : Int) ≤ 2000 := by omega
        go_wp2_with fail
        refine calls_at ?_
        intro wa hwa
        have HA := Lib.hid (show Below w.heap.size w wa by rw [hwa]; exact HZ3.out.bel)
        clear hwa
        refine (HL.out _ (HO.out.step HA.out)).mono ?_
        rintro en w5 ⟨rfl, b5⟩
        go_wp2
        go_ret
        exact ⟨rfl, HA.out.trans (b5.mono HA.out.size)⟩
end Go.Proofs.YtloilknkhloegaaDoor
