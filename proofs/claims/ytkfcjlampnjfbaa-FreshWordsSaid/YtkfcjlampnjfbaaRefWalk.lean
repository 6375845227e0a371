/- the document's link: Walk. -/
import Derived.Test.YtkfcjlampnjfbaaRefPull
namespace Go.Proofs.Ytkfcjlampnjfbaa
open Go.RowKit

/-- an empty row, newly made. -/
theorem row_empty (w : World) (e sz : Nat) : (w.alloc (.cells #[] e)).ownsRow 0 e sz (.slice (some ⟨w.heap.size, 0, none⟩) 0 0) 0 [] :=
  ⟨by simp, Or.inr ⟨w.heap.size, 0, #[], rfl, Nat.zero_le _, heap_alloc_new w _, Nat.le_refl _, by unfold maxLen; omega, by simp, by simp⟩⟩

def RWalkP (w : World) (b : Nat) (S : Nat → Prop) (l : List Int) (t : VS) (e : Ending) (w' : World) : Prop :=
  ∃ v : Value, e = .returned v ∧ w'.ownsRow 0 3 1 v l.length (ints l) ∧ VSt RV w b S v.ownBlock.toList t w'

structure XRel (w : World) (b : Nat) (S : Nat → Prop) (t p s : Int) (res : List Int × VS) (v7 v8 : Value) (wr : World) (out : List Int) (q : Int) (st : VS) : Prop where
  hq : v8 = .int .i64 q
  hu : VS.U32 q
  row : wr.ownsRow 0 3 1 v7 out.length (ints out)
  vst : VSt RV w b S (w.heap.size :: v7.ownBlock.toList) st wr
  l1 : ∀ o : Nat, wr.cell? ⟨w.heap.size, o, none⟩ = (#[.int .i64 t, .int .i64 p, .int .i64 s] : Array Value)[o]?
  res : walkL t p s (p.toNat - out.length) out q st = res
  le : out.length ≤ p.toNat
  far : ∀ k, v7.ownBlock = some k → w.heap.size < k

def XRelE (w : World) (b : Nat) (S : Nat → Prop) (t p s : Int) (res : List Int × VS) (v7 v8 : Value) (wr : World) : Prop := ∃ out q st, XRel w b S t p s res v7 v8 wr out q st

set_option maxHeartbeats 1000000 in
set_option maxRecDepth 100000 in
theorem rwalk_any (b : Nat) (t p s head : Int) (w : World) (S : Nat → Prop) (st : VS) (h : RV w b S st) (hp : p ≤ 1024) :
    Calls Try.prog 32 #[.pointer (some ⟨b, 0, none⟩), .agg #[.int .i64 t, .int .i64 p, .int .i64 s], .int .i64 head] w (RWalkP w b S (walkF t p s head st).1 (walkF t p s head st).2) := by
  have hV := ((VSt.start keepsRV h).alloc keepsRV (.cells #[.int .i64 t, .int .i64 p, .int .i64 s] 23)).alloc keepsRV (.cells #[] 3)
  have d0 := loc_old (.cells #[] 3) (by simp) (loc_alloc w #[.int .i64 t, .int .i64 p, .int .i64 s] 23)
  have r0 := row_empty (w.alloc (.cells #[.int .i64 t, .int .i64 p, .int .i64 s] 23)) 3 1
  simp only [World.size_alloc] at hV d0 r0
  have hres0 : walkL t p s p.toNat [] (st.get head).1 (st.get head).2 = walkF t p s head st := rfl
  have hres := Lib.hid hres0
  clear hres0
  have hu1 := VS.get_u32 (keepsRV.inv h) head
  have hw1 : IntKind.i64.wrap (st.get head).1 = (st.get head).1 := wrap_in _ (by have := hu1.1; have := hu1.2; omega)
  have hu := Lib.hid hu1
  have HG := Lib.hid (fun (w : World) (S1 : Nat → Prop) (h1 : RV w b S1 st) => rget_any b head w S1 st h1)
  obtain ⟨i0, hi0, hi1, hi2, hi3⟩ := info_parts infoInt
  have HI := Lib.hid (And.intro hi0 (And.intro hi1 (And.intro hi2 hi3)))
  clear h hi0 hi1 hi2 hi3 hu1
  generalize walkF t p s head st = res at *
  generalize (st.get head).2 = s1 at *
  generalize (st.get head).1 = v at *
  go_enter Try.func32, Try.ntmps32
  go_wp2_with fail
  refine (calls_st hV (HG.out _)).mono ?_
  rintro e w1 ⟨rfl, hV1, hV1l⟩
  have d1 := loc_step hV1l (by simp) d0
  have r1 := row_step hV1l (fun k hk => by simp [Value.ownBlock] at hk; simp [hk]) r0
  clear hV1l
  go_wp2_with fail
  go_loopw [7, 8] (fun v7 v8 wr => XRelE w b S t p s res v7 v8 wr) (fun v7 _ _ => p.toNat - lenS v7)
  case atStart => exact ⟨[], v, s1, rfl, hu.out, r1, hV1.sub _ (by simp [Value.ownBlock]), d1, by simpa using hres.out, by simp, by simp [Value.ownBlock]⟩
  case round =>
    obtain ⟨out, q, s2, hr⟩ := hrel
    obtain ⟨rfl, hq, hrow, hV2, d2, hrs, hle, hfar⟩ := hr
    have hqlo := hq.1
    have hqhi := hq.2
    have HF := Lib.hid hfar
    clear hfar
    have HQ := Lib.hid hq
    have HS := Lib.hid hrs
    have HL := Lib.hid hle
    have hlen : ∃ a m c, u7 = .slice a m c ∧ m = out.length := by
      rcases hrow.2 with ⟨h5, h6⟩ | ⟨g', cap', cur, h5, -⟩
      · exact ⟨_, _, _, h5, h6.symm⟩
      · exact ⟨_, _, _, h5, rfl⟩
    obtain ⟨pa, pm, pc, rfl, rfl⟩ := hlen
    have R2 := hrow
    clear hq hrow hrs hle d0 d1 hV hV1 r0 r1 hw1
    have d20 := d2 1
    simp at d20
    have hw2 : IntKind.i64.wrap (q - 1) = q - 1 := wrap_in _ (by omega)
    have exit_ : ∀ w', VSt RV w b S (w.heap.size :: (Value.slice pa out.length pc).ownBlock.toList) s2 w' → w'.ownsRow 0 3 1 (.slice pa out.length pc) out.length (ints out) → (walkL t p s (p.toNat - out.length) out q s2 = (out, s2)) → RWalkP w b S res.1 res.2 (.returned (.slice pa out.length pc)) w' := by
      intro w' hv' hr' he
      have e0 := HS.out
      rw [he] at e0
      subst e0
      exact ⟨_, rfl, hr', hv'.sub _ (by intro L hL; simp at hL; simp [hL])⟩
    have HE := Lib.hid exit_
    clear exit_
    by_cases h1 : 1 ≤ q
    · by_cases h2 : q ≤ p
      · by_cases h3 : (out.length : Int) < p
        · have hpg : pageB p (q - 1) = true := by simp [pageB]; omega
          go_wp2_with (at_builtin; go_must (refine wpL_append rfl _ _ rfl 3 i0 (.int .i64 0) 1 8 Try.underlying32 HI.out.1 HI.out.2.1 HI.out.2.2.1 HI.out.2.2.2 rfl (by decide) (.slice pa out.length pc) out.length (ints out) rfl (R2.alloc _) ⟨wr.heap.size, 0, none⟩ 1 1 [.int .i64 (q - 1)] rfl rfl (cell_one_new _ _ _) ?c1 ?c2 ?c3 ?_); go_must (case c1 => (simp [Value.oneCell'])); go_must (case c2 => (unfold maxLen; omega)); go_must (case c3 => (omega)); go_must (intro v' w5 hown5 hg5 hnew5 hnil5); clear hnil5; go_must (obtain ⟨g', cap', rfl⟩ := Joins.ownsRow_form hown5 (by omega)); go_must (have hz4 : w.heap.size < wr.heap.size := (hV2.ls _ (by simp)).1); go_must (have d5 := loc_grown hg5 (by simp; omega) (fun e => by have := HF.out _ e; omega) (loc_old (.cells #[.int .i64 (q - 1)] 3) (by omega) d2)); go_must (have d50 := d5 0); go_must (have d51 := d5 1); go_must (have d52 := d5 2); go_must (simp at d50 d51 d52))
          have far5 : ∀ k, (Value.slice (some ⟨g', 0, none⟩) (out.length + 1) cap').ownBlock = some k → w.heap.size < k := by
            intro k hk
            rcases hnew5 k hk with h | h
            · exact HF.out k h
            · simp at h; omega
          have hV5 := (hV2.alloc keepsRV (.cells #[.int .i64 (q - 1)] 3)).grown keepsRV hg5 (fun k hk => by simp [hk]) (w.heap.size :: (Value.slice (some ⟨g', 0, none⟩) (out.length + 1) cap').ownBlock.toList) (by
            intro L hL
            simp at hL
            rcases hL with rfl | h
            · exact Or.inl (by simp)
            · rcases hnew5 L h with h1 | h1
              · exact Or.inl (by simp [h1])
              · exact Or.inr ⟨h1, ownsRow_lt hown5 h⟩)
          have i2 := hV2.inv keepsRV
          have hu2 := VS.get_u32 i2 (ofF t p s (q - 1) 2)
          have hw3 : IntKind.i64.wrap (s2.get (ofF t p s (q - 1) 2)).1 = (s2.get (ofF t p s (q - 1) 2)).1 := wrap_in _ (by have := hu2.1; have := hu2.2; omega)
          have HU2 := Lib.hid hu2
          have HG2 := Lib.hid (fun (w : World) (S1 : Nat → Prop) (h1 : RV w b S1 s2) => rget_any b (ofF t p s (q - 1) 2) w S1 s2 h1)
          have hn2 : walkL t p s (p.toNat - (out.length + 1)) (out ++ [q - 1]) (s2.get (ofF t p s (q - 1) 2)).1 (s2.get (ofF t p s (q - 1) 2)).2 = res := by
            have e0 := HS.out
            have e1 : p.toNat - out.length = (p.toNat - (out.length + 1)) + 1 := by omega
            rw [e1] at e0
            simpa [walkL, hpg] using e0
          have HN2 := Lib.hid hn2
          clear hn2 i2 hnew5 hg5 HS HE hu2
          generalize (s2.get (ofF t p s (q - 1) 2)).1 = v2 at *
          generalize (s2.get (ofF t p s (q - 1) 2)).2 = s3 at *
          go_wp2_with fail
          refine (calls_bl keepsRV hV5 (rnext_any _ _ _ _ _)).mono ?_
          rintro e w6 ⟨rfl, hV6, hV6l⟩
          have d6 := loc_step hV6l (by simp) d5
          have R6 := row_step hV6l (fun k hk => by simp [hk]) hown5
          clear hV6l
          go_wp2_with fail
          refine (calls_st hV6 (HG2.out _)).mono ?_
          rintro e w7 ⟨rfl, hV7, hV7l⟩
          have d7 := loc_step hV7l (by simp) d6
          have R7 := row_step hV7l (fun k hk => by simp [hk]) R6
          clear hV7l
          go_wp2_with fail
          go_roundw
          case rel =>
            refine ⟨out ++ [q - 1], v2, s3, rfl, HU2.out, ?_, hV7, d7, ?_, ?_, far5⟩
            · simpa [ints] using R7
            · simpa using HN2.out
            · simp; omega
          case measure => simp [lenS]; omega
        · go_wp2
          go_ret
          refine HE.out _ hV2 R2 ?_
          have e1 : p.toNat - out.length = 0 := by omega
          rw [e1]
          rfl
      · have hpg : pageB p (q - 1) = false := by simp [pageB]; omega
        go_wp2
        go_ret
        refine HE.out _ hV2 R2 ?_
        cases p.toNat - out.length with
        | zero => rfl
        | succ f => simp [walkL, hpg]
    · have hpg : pageB p (q - 1) = false := by simp [pageB]; omega
      go_wp2
      go_ret
      refine HE.out _ hV2 R2 ?_
      cases p.toNat - out.length with
      | zero => rfl
      | succ f => simp [walkL, hpg]

end Go.Proofs.Ytkfcjlampnjfbaa
