/- link: Walk of the program. -/
import Derived.Test.YtkfcjlampnjfbaaLinkPull
namespace Go.Proofs.Ytkfcjlampnjfbaa
open Go.RowKit

/-- the pages of a list from a link on. -/
def walkL (t p s : Int) : Nat → List Int → Int → VS → List Int × VS
  | 0, out, _, st => (out, st)
  | f + 1, out, q, st => if pageB p (q - 1) = true then walkL t p s f (out ++ [q - 1]) (st.get (ofF t p s (q - 1) 2)).1 (st.get (ofF t p s (q - 1) 2)).2 else (out, st)
def walkF (t p s : Int) (head : Int) (st : VS) : List Int × VS := walkL t p s p.toNat [] (st.get head).1 (st.get head).2

def ints (l : List Int) : List Value := l.map (.int .i64)
def lenS : Value → Nat | .slice _ n _ => n | _ => 0

/-- a list of numbers comes back, in a row that is none of the view's; the view is t. -/
def WalkP (w : World) (b : Nat) (S : Nat → Prop) (l : List Int) (t : VS) (e : Ending) (w' : World) : Prop :=
  ∃ v : Value, e = .returned v ∧ w'.ownsRow 0 3 1 v l.length (ints l) ∧ VSt PV w b S v.ownBlock.toList t w'

structure WRel (w : World) (b : Nat) (S : Nat → Prop) (t p s head : Int) (res : List Int × VS) (v8 v9 : Value) (wr : World) (out : List Int) (q : Int) (st : VS) : Prop where
  hq : v9 = .int .u32 q
  hu : VS.U32 q
  row : wr.ownsRow 0 3 1 v8 out.length (ints out)
  vst : VSt PV w b S ((w.heap.size + 1) :: w.heap.size :: v8.ownBlock.toList) st wr
  l2 : ∀ o : Nat, wr.cell? ⟨w.heap.size + 1, o, none⟩ = (#[.pointer (some ⟨b, 0, none⟩), .int .i64 t, .int .i64 p, .int .i64 s, .int .i64 head] : Array Value)[o]?
  l1 : ∀ o : Nat, wr.cell? ⟨w.heap.size, o, none⟩ = (#[.int .i64 t, .int .i64 p, .int .i64 s] : Array Value)[o]?
  res : walkL t p s (p.toNat - out.length) out q st = res
  le : out.length ≤ p.toNat
  far : ∀ k, v8.ownBlock = some k → w.heap.size + 1 < k

def WRelE (w : World) (b : Nat) (S : Nat → Prop) (t p s head : Int) (res : List Int × VS) (v8 v9 : Value) (wr : World) : Prop := ∃ out q st, WRel w b S t p s head res v8 v9 wr out q st

theorem loc_grown {w w' : World} {row : Option Nat} {L : Nat} {cs : Array Value} (hg : w.grownBy w' row) (hL : L < w.heap.size) (hne : row ≠ some L) (hc : ∀ o : Nat, w.cell? ⟨L, o, none⟩ = cs[o]?) : ∀ o : Nat, w'.cell? ⟨L, o, none⟩ = cs[o]? :=
  fun o => (World.cell?_of_block (a := ⟨L, o, none⟩) (hg.block L hL (fun e => hne e.symm))).trans (hc o)

set_option maxHeartbeats 1000000 in
set_option maxRecDepth 100000 in
theorem walk_any (b : Nat) (t p s head : Int) (w : World) (S : Nat → Prop) (st : VS) (h : PV w b S st) (hp : p ≤ 1024) :
    Calls Try.prog 23 #[.pointer (some ⟨b, 0, none⟩), .agg #[.int .i64 t, .int .i64 p, .int .i64 s], .int .i64 head] w (WalkP w b S (walkF t p s head st).1 (walkF t p s head st).2) := by
  have hV := ((VSt.start keepsPV h).alloc keepsPV (.cells #[.int .i64 t, .int .i64 p, .int .i64 s] 23)).alloc keepsPV (.cells #[.pointer (some ⟨b, 0, none⟩), .int .i64 t, .int .i64 p, .int .i64 s, .int .i64 head] 84)
  have c0 := loc_alloc (w.alloc (.cells #[.int .i64 t, .int .i64 p, .int .i64 s] 23)) #[.pointer (some ⟨b, 0, none⟩), .int .i64 t, .int .i64 p, .int .i64 s, .int .i64 head] 84
  have d0 := loc_old (.cells #[.pointer (some ⟨b, 0, none⟩), .int .i64 t, .int .i64 p, .int .i64 s, .int .i64 head] 84) (by simp) (loc_alloc w #[.int .i64 t, .int .i64 p, .int .i64 s] 23)
  simp only [World.size_alloc] at hV c0 d0
  have hres0 : walkL t p s p.toNat [] (st.get head).1 (st.get head).2 = walkF t p s head st := rfl
  have hres := Lib.hid hres0
  clear hres0
  have hu := Lib.hid (VS.get_u32 h.inv head)
  have HG := Lib.hid (fun (w : World) (S1 : Nat → Prop) (h1 : PV w b S1 st) => get_any b head w S1 st h1)
  obtain ⟨i0, hi0, hi1, hi2, hi3⟩ := info_parts infoInt
  have HI := Lib.hid (And.intro hi0 (And.intro hi1 (And.intro hi2 hi3)))
  clear h hi0 hi1 hi2 hi3
  generalize walkF t p s head st = res at *
  generalize (st.get head).2 = s1 at *
  generalize (st.get head).1 = v at *
  go_enter Try.func23, Try.ntmps23
  go_wp2_with fail
  refine (calls_st hV (HG.out _)).mono ?_
  rintro e w1 ⟨rfl, hV1, hV1l⟩
  have c1 := loc_step hV1l (by simp) c0
  have d1 := loc_step hV1l (by simp) d0
  clear hV1l
  go_wp2_with fail
  go_loopw [8, 9] (fun v8 v9 wr => WRelE w b S t p s head res v8 v9 wr) (fun v8 _ _ => p.toNat - lenS v8)
  case atStart => exact ⟨[], v, s1, rfl, hu.out, World.ownsRow_nil _ _ _ _, hV1.sub _ (by simp [Value.ownBlock]), c1, d1, by simpa using hres.out, by simp, by simp [Value.ownBlock]⟩
  case round =>
    obtain ⟨out, q, s2, hr⟩ := hrel
    obtain ⟨rfl, hq, hrow, hV2, c2, d2, hrs, hle, hfar⟩ := hr
    have HF := Lib.hid hfar
    clear hfar
    have HQ := Lib.hid hq
    have HS := Lib.hid hrs
    have HL := Lib.hid hle
    have hlen : ∃ a m c, u8 = .slice a m c ∧ m = out.length := by
      rcases hrow.2 with ⟨h5, h6⟩ | ⟨g', cap', cur, h5, -⟩
      · exact ⟨_, _, _, h5, h6.symm⟩
      · exact ⟨_, _, _, h5, rfl⟩
    obtain ⟨pa, pm, pc, rfl, rfl⟩ := hlen
    have R2 := hrow
    clear hq hrow hrs hle c0 d0 c1 d1 hV hV1
    cases hpg : pageB p (q - 1)
    · have HPG := fun w => lpage_any b t p s head (q - 1) w
      rw [hpg] at HPG
      have HP := Lib.hid HPG
      clear HPG
      go_wp2_with fail
      have hS := And.intro c2 d2
      refine wp_region_noPanic ?_
      refine wp_region_held_drew (S := fun w' => (∀ o : Nat, w'.cell? ⟨w.heap.size + 1, o, none⟩ = (#[.pointer (some ⟨b, 0, none⟩), .int .i64 t, .int .i64 p, .int .i64 s, .int .i64 head] : Array Value)[o]?) ∧ (∀ o : Nat, w'.cell? ⟨w.heap.size, o, none⟩ = (#[.int .i64 t, .int .i64 p, .int .i64 s] : Array Value)[o]?)) (by kernel_rfl) ?_ (fun hHeld => ?_)
      · exact hS
      refine wpAnyH_take (i := 0) (oi := _) (v := ?_) rfl (by kernel_rfl) (by kernel_rfl) (by kernel_rfl) (fun _ _ _ h => h) (Or.inl ⟨by rfl, ?_⟩) (by assumption) ?_
      rotate_left
      · intro w hSw; (try dsimp only at hSw); go_simp; try with_reducible rfl
      try simp only [Act.put, List.getElem_toArray, List.getElem_cons_zero, List.setIfInBounds_toArray, List.set_cons_zero, List.set_cons_succ]
      refine wpAnyH_take (i := 1) (oi := _) (v := ?_) rfl (by kernel_rfl) (by kernel_rfl) (by kernel_rfl) (fun _ _ _ h => h) (Or.inl ⟨by rfl, ?_⟩) (by assumption) ?_
      rotate_left
      · intro w hSw; (try dsimp only at hSw); go_simp; try with_reducible rfl
      try simp only [Act.put, List.getElem_toArray, List.getElem_cons_zero, List.getElem_cons_succ, List.setIfInBounds_toArray, List.set_cons_zero, List.set_cons_succ]
      refine wpAnyH_ready (rs := [2]) (by kernel_rfl) (by simp) ?_
      refine AllReadyH.cons (o := _) rfl (fun K hK => ?_) AllReadyH.nil
      go_simp
      refine (calls_bl keepsPV (hV2.drew keepsPV) ((to_any _ _ HQ.out).mono fun _ _ x => ⟨x.1, x.2 ▸ Below.refl _ _⟩)).mono ?_
      rintro e w3 ⟨rfl, hV3, hV3l⟩
      have c3 := loc_step hV3l (by simp) c2
      have d3 := loc_step hV3l (by simp) d2
      have R3 := row_step hV3l (fun k hk => by simp [hk]) R2
      clear hV3l
      dsimp only
      refine hK.out _ _ ?_ (fun hHeld => ?_)
      · exact ⟨c3, d3⟩
      clear hK K
      try simp only [Act.put, List.getElem_toArray, List.getElem_cons_zero, List.getElem_cons_succ, List.setIfInBounds_toArray, List.set_cons_zero, List.set_cons_succ]
      refine wpAnyH_ready (rs := [3]) (by kernel_rfl) (by simp) ?_
      refine AllReadyH.cons (o := _) rfl (fun K hK => ?_) AllReadyH.nil
      go_simp
      refine (calls_bl keepsPV hV3 (HP.out _)).mono ?_
      rintro e w4 ⟨rfl, hV4, hV4l⟩
      have c4 := loc_step hV4l (by simp) c3
      have d4 := loc_step hV4l (by simp) d3
      have R4 := row_step hV4l (fun k hk => by simp [hk]) R3
      clear hV4l
      dsimp only
      refine hK.out _ _ ?_ (fun hHeld => ?_)
      · exact ⟨c4, d4⟩
      clear hK K
      try simp only [Act.put, List.getElem_toArray, List.getElem_cons_zero, List.getElem_cons_succ, List.setIfInBounds_toArray, List.set_cons_zero, List.set_cons_succ]
      refine wpAnyH_take (i := 4) (oi := _) (v := ?_) rfl (by kernel_rfl) (by kernel_rfl) (by kernel_rfl) (fun _ _ _ h => h) (Or.inl ⟨by rfl, ?_⟩) (by assumption) ?_
      rotate_left
      · intro w hSw; (try dsimp only at hSw); go_simp; try with_reducible rfl
      try simp only [Act.put, List.getElem_toArray, List.getElem_cons_zero, List.getElem_cons_succ, List.setIfInBounds_toArray, List.set_cons_zero, List.set_cons_succ]
      refine wpAnyH_take (i := 5) (oi := _) (v := undef) rfl (by kernel_rfl) (by kernel_rfl) (by kernel_rfl) (fun _ _ _ h => h) (Or.inr ⟨by rfl, rfl⟩) (by assumption) ?_
      try simp only [Act.put, List.getElem_toArray, List.getElem_cons_zero, List.getElem_cons_succ, List.setIfInBounds_toArray, List.set_cons_zero, List.set_cons_succ]
      refine wpAnyH_take (i := 6) (oi := _) (v := undef) rfl (by kernel_rfl) (by kernel_rfl) (by kernel_rfl) (fun _ _ _ h => h) (Or.inr ⟨by rfl, rfl⟩) (by assumption) ?_
      try simp only [Act.put, List.getElem_toArray, List.getElem_cons_zero, List.getElem_cons_succ, List.setIfInBounds_toArray, List.set_cons_zero, List.set_cons_succ]
      refine wpAnyH_take (i := 7) (oi := _) (v := undef) rfl (by kernel_rfl) (by kernel_rfl) (by kernel_rfl) (fun _ _ _ h => h) (Or.inr ⟨by rfl, rfl⟩) (by assumption) ?_
      try simp only [Act.put, List.getElem_toArray, List.getElem_cons_zero, List.getElem_cons_succ, List.setIfInBounds_toArray, List.set_cons_zero, List.set_cons_succ]
      refine wpAnyH_take (i := 8) (oi := _) (v := undef) rfl (by kernel_rfl) (by kernel_rfl) (by kernel_rfl) (fun _ _ _ h => h) (Or.inr ⟨by rfl, rfl⟩) (by assumption) ?_
      try simp only [Act.put, List.getElem_toArray, List.getElem_cons_zero, List.getElem_cons_succ, List.setIfInBounds_toArray, List.set_cons_zero, List.set_cons_succ]
      refine wpAnyH_take (i := 9) (oi := _) (v := undef) rfl (by kernel_rfl) (by kernel_rfl) (by kernel_rfl) (fun _ _ _ h => h) (Or.inr ⟨by rfl, rfl⟩) (by assumption) ?_
      try simp only [Act.put, List.getElem_toArray, List.getElem_cons_zero, List.getElem_cons_succ, List.setIfInBounds_toArray, List.set_cons_zero, List.set_cons_succ]
      refine wpAnyH_take (i := 10) (oi := _) (v := ?_) rfl (by kernel_rfl) (by kernel_rfl) (by kernel_rfl) (fun _ _ _ h => h) (Or.inl ⟨by rfl, ?_⟩) (by assumption) ?_
      rotate_left
      · intro w hSw; (try dsimp only at hSw); go_simp; try with_reducible rfl
      try simp only [Act.put, List.getElem_toArray, List.getElem_cons_zero, List.getElem_cons_succ, List.setIfInBounds_toArray, List.set_cons_zero, List.set_cons_succ]
      refine wpAnyH_done (by kernel_rfl) ?_ _
      refine NoPanic.normal ?_
      go_wp2
      go_ret
      refine ⟨_, rfl, ?_⟩
      have e0 := HS.out
      have e1 : walkL t p s (p.toNat - out.length) out q s2 = (out, s2) := by
        cases p.toNat - out.length with
        | zero => rfl
        | succ f => simp [walkL, hpg]
      rw [e1] at e0
      subst e0
      exact ⟨R4, hV4.sub _ (by intro L hL; simp at hL; simp [hL])⟩
    · have HPG := fun w => lpage_any b t p s head (q - 1) w
      rw [hpg] at HPG
      have HP := Lib.hid HPG
      clear HPG
      have hS := And.intro c2 d2
      have hpp : 0 < p := by simp [pageB] at hpg; omega
      by_cases hlt : (out.length : Int) < p
      · have hdl : decide ((out.length : Int) < p) = true := by simpa using hlt
        go_wp2_with fail
        refine wp_region_noPanic ?_
        refine wp_region_held_drew (S := fun w' => (∀ o : Nat, w'.cell? ⟨w.heap.size + 1, o, none⟩ = (#[.pointer (some ⟨b, 0, none⟩), .int .i64 t, .int .i64 p, .int .i64 s, .int .i64 head] : Array Value)[o]?) ∧ (∀ o : Nat, w'.cell? ⟨w.heap.size, o, none⟩ = (#[.int .i64 t, .int .i64 p, .int .i64 s] : Array Value)[o]?)) (by kernel_rfl) ?_ (fun hHeld => ?_)
        · exact hS
        refine wpAnyH_take (i := 0) (oi := _) (v := ?_) rfl (by kernel_rfl) (by kernel_rfl) (by kernel_rfl) (fun _ _ _ h => h) (Or.inl ⟨by rfl, ?_⟩) (by assumption) ?_
        rotate_left
        · intro w hSw; (try dsimp only at hSw); go_simp; try with_reducible rfl
        try simp only [Act.put, List.getElem_toArray, List.getElem_cons_zero, List.setIfInBounds_toArray, List.set_cons_zero, List.set_cons_succ]
        refine wpAnyH_take (i := 1) (oi := _) (v := ?_) rfl (by kernel_rfl) (by kernel_rfl) (by kernel_rfl) (fun _ _ _ h => h) (Or.inl ⟨by rfl, ?_⟩) (by assumption) ?_
        rotate_left
        · intro w hSw; (try dsimp only at hSw); go_simp; try with_reducible rfl
        try simp only [Act.put, List.getElem_toArray, List.getElem_cons_zero, List.getElem_cons_succ, List.setIfInBounds_toArray, List.set_cons_zero, List.set_cons_succ]
        refine wpAnyH_ready (rs := [2]) (by kernel_rfl) (by simp) ?_
        refine AllReadyH.cons (o := _) rfl (fun K hK => ?_) AllReadyH.nil
        go_simp
        refine (calls_bl keepsPV (hV2.drew keepsPV) ((to_any _ _ HQ.out).mono fun _ _ x => ⟨x.1, x.2 ▸ Below.refl _ _⟩)).mono ?_
        rintro e w3 ⟨rfl, hV3, hV3l⟩
        have c3 := loc_step hV3l (by simp) c2
        have d3 := loc_step hV3l (by simp) d2
        have R3 := row_step hV3l (fun k hk => by simp [hk]) R2
        clear hV3l
        dsimp only
        refine hK.out _ _ ?_ (fun hHeld => ?_)
        · exact ⟨c3, d3⟩
        clear hK K
        try simp only [Act.put, List.getElem_toArray, List.getElem_cons_zero, List.getElem_cons_succ, List.setIfInBounds_toArray, List.set_cons_zero, List.set_cons_succ]
        refine wpAnyH_ready (rs := [3]) (by kernel_rfl) (by simp) ?_
        refine AllReadyH.cons (o := _) rfl (fun K hK => ?_) AllReadyH.nil
        go_simp
        refine (calls_bl keepsPV hV3 (HP.out _)).mono ?_
        rintro e w4 ⟨rfl, hV4, hV4l⟩
        have c4 := loc_step hV4l (by simp) c3
        have d4 := loc_step hV4l (by simp) d3
        have R4 := row_step hV4l (fun k hk => by simp [hk]) R3
        clear hV4l
        dsimp only
        refine hK.out _ _ ?_ (fun hHeld => ?_)
        · exact ⟨c4, d4⟩
        clear hK K
        try simp only [Act.put, List.getElem_toArray, List.getElem_cons_zero, List.getElem_cons_succ, List.setIfInBounds_toArray, List.set_cons_zero, List.set_cons_succ]
        refine wpAnyH_take (i := 4) (oi := _) (v := ?_) rfl (by kernel_rfl) (by kernel_rfl) (by kernel_rfl) (fun _ _ _ h => h) (Or.inl ⟨by rfl, ?_⟩) (by assumption) ?_
        rotate_left
        · intro w hSw; (try dsimp only at hSw); go_simp; try with_reducible rfl
        try simp only [Act.put, List.getElem_toArray, List.getElem_cons_zero, List.getElem_cons_succ, List.setIfInBounds_toArray, List.set_cons_zero, List.set_cons_succ]
        refine wpAnyH_take (i := 5) (oi := _) (v := ?_) rfl (by kernel_rfl) (by kernel_rfl) (by kernel_rfl) (fun _ _ _ h => h) (Or.inl ⟨by rfl, ?_⟩) (by assumption) ?_
        rotate_left
        · intro w hSw; (try dsimp only at hSw); go_simp; try with_reducible rfl
        try simp only [Act.put, List.getElem_toArray, List.getElem_cons_zero, List.getElem_cons_succ, List.setIfInBounds_toArray, List.set_cons_zero, List.set_cons_succ]
        refine wpAnyH_take (i := 6) (oi := _) (v := ?_) rfl (by kernel_rfl) (by kernel_rfl) (by kernel_rfl) (fun _ _ _ h => h) (Or.inl ⟨by rfl, ?_⟩) (by assumption) ?_
        rotate_left
        · intro w hSw; (try dsimp only at hSw); go_simp; try with_reducible rfl
        try simp only [Act.put, List.getElem_toArray, List.getElem_cons_zero, List.getElem_cons_succ, List.setIfInBounds_toArray, List.set_cons_zero, List.set_cons_succ]
        refine wpAnyH_take (i := 7) (oi := _) (v := ?_) rfl (by kernel_rfl) (by kernel_rfl) (by kernel_rfl) (fun _ _ _ h => h) (Or.inl ⟨by rfl, ?_⟩) (by assumption) ?_
        rotate_left
        · intro w hSw; (try dsimp only at hSw); go_simp; try with_reducible rfl
        try simp only [Act.put, List.getElem_toArray, List.getElem_cons_zero, List.getElem_cons_succ, List.setIfInBounds_toArray, List.set_cons_zero, List.set_cons_succ]
        refine wpAnyH_take (i := 8) (oi := _) (v := ?_) rfl (by kernel_rfl) (by kernel_rfl) (by kernel_rfl) (fun _ _ _ h => h) (Or.inl ⟨by rfl, ?_⟩) (by assumption) ?_
        rotate_left
        · intro w hSw; (try dsimp only at hSw); go_simp; try with_reducible rfl
        try simp only [Act.put, List.getElem_toArray, List.getElem_cons_zero, List.getElem_cons_succ, List.setIfInBounds_toArray, List.set_cons_zero, List.set_cons_succ]
        refine wpAnyH_take (i := 9) (oi := _) (v := ?_) rfl (by kernel_rfl) (by kernel_rfl) (by kernel_rfl) (fun _ _ _ h => h) (Or.inl ⟨by rfl, ?_⟩) (by assumption) ?_
        rotate_left
        · intro w hSw; (try dsimp only at hSw); go_simp; try with_reducible rfl
        try simp only [Act.put, List.getElem_toArray, List.getElem_cons_zero, List.getElem_cons_succ, List.setIfInBounds_toArray, List.set_cons_zero, List.set_cons_succ]
        refine wpAnyH_take (i := 10) (oi := _) (v := ?_) rfl (by kernel_rfl) (by kernel_rfl) (by kernel_rfl) (fun _ _ _ h => h) (Or.inl ⟨by rfl, ?_⟩) (by assumption) ?_
        rotate_left
        · intro w hSw; (try dsimp only at hSw); go_simp; try with_reducible rfl
        try simp only [Act.put, List.getElem_toArray, List.getElem_cons_zero, List.getElem_cons_succ, List.setIfInBounds_toArray, List.set_cons_zero, List.set_cons_succ]
        refine wpAnyH_done (by kernel_rfl) ?_ _
        refine NoPanic.normal ?_
        have i2 := hV4.inv keepsPV
        go_wp2_with (first | (go_at_call 58; go_must (refine (to_any _ _ HQ.out).mono ?_); go_must (rintro e w5 ⟨rfl, rfl⟩)) | (at_builtin; go_must (refine wpL_append rfl _ _ rfl 3 i0 (.int .i64 0) 1 8 Try.underlying32 HI.out.1 HI.out.2.1 HI.out.2.2.1 HI.out.2.2.2 rfl (by decide) (.slice pa out.length pc) out.length (ints out) rfl (R4.alloc _) ⟨w4.heap.size, 0, none⟩ 1 1 [.int .i64 (q - 1)] rfl rfl (cell_one_new _ _ _) ?c1 ?c2 ?c3 ?_); go_must (case c1 => (simp [Value.oneCell'])); go_must (case c2 => (unfold maxLen; omega)); go_must (case c3 => (omega)); go_must (intro v' w5 hown5 hg5 hnew5 hnil5); clear hnil5; go_must (obtain ⟨g', cap', rfl⟩ := Joins.ownsRow_form hown5 (by omega))))
        have hz4 : w.heap.size + 1 < w4.heap.size := (hV4.ls _ (by simp)).1
        have far5 : ∀ k, (Value.slice (some ⟨g', 0, none⟩) (out.length + 1) cap').ownBlock = some k → w.heap.size + 1 < k := by
          intro k hk
          rcases hnew5 k hk with h | h
          · exact HF.out k h
          · simp at h; omega
        have hV5 := (hV4.alloc keepsPV (.cells #[.int .i64 (q - 1)] 3)).grown keepsPV hg5 (fun k hk => by simp [hk]) ((w.heap.size + 1) :: w.heap.size :: (Value.slice (some ⟨g', 0, none⟩) (out.length + 1) cap').ownBlock.toList) (by
          intro L hL
          simp at hL
          rcases hL with rfl | rfl | h
          · exact Or.inl (by simp)
          · exact Or.inl (by simp)
          · rcases hnew5 L h with h1 | h1
            · exact Or.inl (by simp [h1])
            · exact Or.inr ⟨h1, ownsRow_lt hown5 h⟩)
        have c5 := loc_grown hg5 (by simp; omega) (fun e => by have := HF.out _ e; omega) (loc_old (.cells #[.int .i64 (q - 1)] 3) hz4 c4)
        have d5 := loc_grown hg5 (by simp; omega) (fun e => by have := HF.out _ e; omega) (loc_old (.cells #[.int .i64 (q - 1)] 3) (by omega) d4)
        have hS5 := And.intro c5 d5
        have hu2 := Lib.hid (VS.get_u32 i2 (ofF t p s (q - 1) 2))
        have HG2 := Lib.hid (fun (w : World) (S1 : Nat → Prop) (h1 : PV w b S1 s2) => get_any b (ofF t p s (q - 1) 2) w S1 s2 h1)
        have hn2 : walkL t p s (p.toNat - (out.length + 1)) (out ++ [q - 1]) (s2.get (ofF t p s (q - 1) 2)).1 (s2.get (ofF t p s (q - 1) 2)).2 = res := by
          have e0 := HS.out
          have e1 : p.toNat - out.length = (p.toNat - (out.length + 1)) + 1 := by omega
          rw [e1] at e0
          simpa [walkL, hpg] using e0
        have HN2 := Lib.hid hn2
        clear hn2 i2 hnew5 hg5 HS
        generalize (s2.get (ofF t p s (q - 1) 2)).1 = v2 at *
        generalize (s2.get (ofF t p s (q - 1) 2)).2 = s3 at *
        refine wp_region_noPanic ?_
        refine wp_region_held_drew (S := fun w' => (∀ o : Nat, w'.cell? ⟨w.heap.size + 1, o, none⟩ = (#[.pointer (some ⟨b, 0, none⟩), .int .i64 t, .int .i64 p, .int .i64 s, .int .i64 head] : Array Value)[o]?) ∧ (∀ o : Nat, w'.cell? ⟨w.heap.size, o, none⟩ = (#[.int .i64 t, .int .i64 p, .int .i64 s] : Array Value)[o]?)) (by kernel_rfl) ?_ (fun hHeld => ?_)
        · exact hS5
        refine wpAnyH_take (i := 0) (oi := _) (v := ?_) rfl (by kernel_rfl) (by kernel_rfl) (by kernel_rfl) (fun _ _ _ h => h) (Or.inl ⟨by rfl, ?_⟩) (by assumption) ?_
        rotate_left
        · intro w hSw; (try dsimp only at hSw); go_simp; try with_reducible rfl
        try simp only [Act.put, List.getElem_toArray, List.getElem_cons_zero, List.setIfInBounds_toArray, List.set_cons_zero, List.set_cons_succ]
        refine wpAnyH_take (i := 1) (oi := _) (v := ?_) rfl (by kernel_rfl) (by kernel_rfl) (by kernel_rfl) (fun _ _ _ h => h) (Or.inl ⟨by rfl, ?_⟩) (by assumption) ?_
        rotate_left
        · intro w hSw; (try dsimp only at hSw); go_simp; try with_reducible rfl
        try simp only [Act.put, List.getElem_toArray, List.getElem_cons_zero, List.getElem_cons_succ, List.setIfInBounds_toArray, List.set_cons_zero, List.set_cons_succ]
        refine wpAnyH_take (i := 2) (oi := _) (v := ?_) rfl (by kernel_rfl) (by kernel_rfl) (by kernel_rfl) (fun _ _ _ h => h) (Or.inl ⟨by rfl, ?_⟩) (by assumption) ?_
        rotate_left
        · intro w hSw; (try dsimp only at hSw); go_simp; try with_reducible rfl
        try simp only [Act.put, List.getElem_toArray, List.getElem_cons_zero, List.getElem_cons_succ, List.setIfInBounds_toArray, List.set_cons_zero, List.set_cons_succ]
        refine wpAnyH_take (i := 3) (oi := _) (v := ?_) rfl (by kernel_rfl) (by kernel_rfl) (by kernel_rfl) (fun _ _ _ h => h) (Or.inl ⟨by rfl, ?_⟩) (by assumption) ?_
        rotate_left
        · intro w hSw; (try dsimp only at hSw); go_simp; try with_reducible rfl
        try simp only [Act.put, List.getElem_toArray, List.getElem_cons_zero, List.getElem_cons_succ, List.setIfInBounds_toArray, List.set_cons_zero, List.set_cons_succ]
        refine wpAnyH_ready (rs := [4]) (by kernel_rfl) (by simp) ?_
        refine AllReadyH.cons (o := _) rfl (fun K hK => ?_) AllReadyH.nil
        go_simp
        refine (calls_bl keepsPV (hV5.drew keepsPV) ((to_any _ _ HQ.out).mono fun _ _ x => ⟨x.1, x.2 ▸ Below.refl _ _⟩)).mono ?_
        rintro e w6 ⟨rfl, hV6, hV6l⟩
        have c6 := loc_step hV6l (by simp) c5
        have d6 := loc_step hV6l (by simp) d5
        have R6 := row_step hV6l (fun k hk => by simp [hk]) hown5
        clear hV6l
        dsimp only
        refine hK.out _ _ ?_ (fun hHeld => ?_)
        · exact ⟨c6, d6⟩
        clear hK K
        try simp only [Act.put, List.getElem_toArray, List.getElem_cons_zero, List.getElem_cons_succ, List.setIfInBounds_toArray, List.set_cons_zero, List.set_cons_succ]
        refine wpAnyH_ready (rs := [5]) (by kernel_rfl) (by simp) ?_
        refine AllReadyH.cons (o := _) rfl (fun K hK => ?_) AllReadyH.nil
        go_simp
        refine (calls_bl keepsPV hV6 (lnext_any _ _ _ _ _ _ _)).mono ?_
        rintro e w7 ⟨rfl, hV7, hV7l⟩
        have c7 := loc_step hV7l (by simp) c6
        have d7 := loc_step hV7l (by simp) d6
        have R7 := row_step hV7l (fun k hk => by simp [hk]) R6
        clear hV7l
        dsimp only
        refine hK.out _ _ ?_ (fun hHeld => ?_)
        · exact ⟨c7, d7⟩
        clear hK K
        try simp only [Act.put, List.getElem_toArray, List.getElem_cons_zero, List.getElem_cons_succ, List.setIfInBounds_toArray, List.set_cons_zero, List.set_cons_succ]
        refine wpAnyH_ready (rs := [6]) (by kernel_rfl) (by simp) ?_
        refine AllReadyH.cons (o := _) rfl (fun K hK => ?_) AllReadyH.nil
        go_simp
        refine (calls_st hV7 (HG2.out _)).mono ?_
        rintro e w8 ⟨rfl, hV8, hV8l⟩
        have c8 := loc_step hV8l (by simp) c7
        have d8 := loc_step hV8l (by simp) d7
        have R8 := row_step hV8l (fun k hk => by simp [hk]) R7
        clear hV8l
        dsimp only
        refine hK.out _ _ ?_ (fun hHeld => ?_)
        · exact ⟨c8, d8⟩
        clear hK K
        try simp only [Act.put, List.getElem_toArray, List.getElem_cons_zero, List.getElem_cons_succ, List.setIfInBounds_toArray, List.set_cons_zero, List.set_cons_succ]
        refine wpAnyH_take (i := 7) (oi := _) (v := ?_) rfl (by kernel_rfl) (by kernel_rfl) (by kernel_rfl) (fun _ _ _ h => h) (Or.inl ⟨by rfl, ?_⟩) (by assumption) ?_
        rotate_left
        · intro w hSw; (try dsimp only at hSw); go_simp; try with_reducible rfl
        try simp only [Act.put, List.getElem_toArray, List.getElem_cons_zero, List.getElem_cons_succ, List.setIfInBounds_toArray, List.set_cons_zero, List.set_cons_succ]
        refine wpAnyH_done (by kernel_rfl) ?_ _
        refine NoPanic.normal ?_
        go_wp2_with fail
        go_roundw
        case rel =>
          refine ⟨out ++ [q - 1], v2, s3, rfl, hu2.out, ?_, hV8, c8, d8, ?_, ?_, far5⟩
          · simpa [ints] using R8
          · simpa using HN2.out
          · simp; omega
        case measure => simp [lenS]; omega
      · have hdl : decide ((out.length : Int) < p) = false := by simpa using hlt
        go_wp2_with fail
        refine wp_region_noPanic ?_
        refine wp_region_held_drew (S := fun w' => (∀ o : Nat, w'.cell? ⟨w.heap.size + 1, o, none⟩ = (#[.pointer (some ⟨b, 0, none⟩), .int .i64 t, .int .i64 p, .int .i64 s, .int .i64 head] : Array Value)[o]?) ∧ (∀ o : Nat, w'.cell? ⟨w.heap.size, o, none⟩ = (#[.int .i64 t, .int .i64 p, .int .i64 s] : Array Value)[o]?)) (by kernel_rfl) ?_ (fun hHeld => ?_)
        · exact hS
        refine wpAnyH_take (i := 0) (oi := _) (v := ?_) rfl (by kernel_rfl) (by kernel_rfl) (by kernel_rfl) (fun _ _ _ h => h) (Or.inl ⟨by rfl, ?_⟩) (by assumption) ?_
        rotate_left
        · intro w hSw; (try dsimp only at hSw); go_simp; try with_reducible rfl
        try simp only [Act.put, List.getElem_toArray, List.getElem_cons_zero, List.setIfInBounds_toArray, List.set_cons_zero, List.set_cons_succ]
        refine wpAnyH_take (i := 1) (oi := _) (v := ?_) rfl (by kernel_rfl) (by kernel_rfl) (by kernel_rfl) (fun _ _ _ h => h) (Or.inl ⟨by rfl, ?_⟩) (by assumption) ?_
        rotate_left
        · intro w hSw; (try dsimp only at hSw); go_simp; try with_reducible rfl
        try simp only [Act.put, List.getElem_toArray, List.getElem_cons_zero, List.getElem_cons_succ, List.setIfInBounds_toArray, List.set_cons_zero, List.set_cons_succ]
        refine wpAnyH_ready (rs := [2]) (by kernel_rfl) (by simp) ?_
        refine AllReadyH.cons (o := _) rfl (fun K hK => ?_) AllReadyH.nil
        go_simp
        refine (calls_bl keepsPV (hV2.drew keepsPV) ((to_any _ _ HQ.out).mono fun _ _ x => ⟨x.1, x.2 ▸ Below.refl _ _⟩)).mono ?_
        rintro e w3 ⟨rfl, hV3, hV3l⟩
        have c3 := loc_step hV3l (by simp) c2
        have d3 := loc_step hV3l (by simp) d2
        have R3 := row_step hV3l (fun k hk => by simp [hk]) R2
        clear hV3l
        dsimp only
        refine hK.out _ _ ?_ (fun hHeld => ?_)
        · exact ⟨c3, d3⟩
        clear hK K
        try simp only [Act.put, List.getElem_toArray, List.getElem_cons_zero, List.getElem_cons_succ, List.setIfInBounds_toArray, List.set_cons_zero, List.set_cons_succ]
        refine wpAnyH_ready (rs := [3]) (by kernel_rfl) (by simp) ?_
        refine AllReadyH.cons (o := _) rfl (fun K hK => ?_) AllReadyH.nil
        go_simp
        refine (calls_bl keepsPV hV3 (HP.out _)).mono ?_
        rintro e w4 ⟨rfl, hV4, hV4l⟩
        have c4 := loc_step hV4l (by simp) c3
        have d4 := loc_step hV4l (by simp) d3
        have R4 := row_step hV4l (fun k hk => by simp [hk]) R3
        clear hV4l
        dsimp only
        refine hK.out _ _ ?_ (fun hHeld => ?_)
        · exact ⟨c4, d4⟩
        clear hK K
        try simp only [Act.put, List.getElem_toArray, List.getElem_cons_zero, List.getElem_cons_succ, List.setIfInBounds_toArray, List.set_cons_zero, List.set_cons_succ]
        refine wpAnyH_take (i := 4) (oi := _) (v := ?_) rfl (by kernel_rfl) (by kernel_rfl) (by kernel_rfl) (fun _ _ _ h => h) (Or.inl ⟨by rfl, ?_⟩) (by assumption) ?_
        rotate_left
        · intro w hSw; (try dsimp only at hSw); go_simp; try with_reducible rfl
        try simp only [Act.put, List.getElem_toArray, List.getElem_cons_zero, List.getElem_cons_succ, List.setIfInBounds_toArray, List.set_cons_zero, List.set_cons_succ]
        refine wpAnyH_take (i := 5) (oi := _) (v := ?_) rfl (by kernel_rfl) (by kernel_rfl) (by kernel_rfl) (fun _ _ _ h => h) (Or.inl ⟨by rfl, ?_⟩) (by assumption) ?_
        rotate_left
        · intro w hSw; (try dsimp only at hSw); go_simp; try with_reducible rfl
        try simp only [Act.put, List.getElem_toArray, List.getElem_cons_zero, List.getElem_cons_succ, List.setIfInBounds_toArray, List.set_cons_zero, List.set_cons_succ]
        refine wpAnyH_take (i := 6) (oi := _) (v := ?_) rfl (by kernel_rfl) (by kernel_rfl) (by kernel_rfl) (fun _ _ _ h => h) (Or.inl ⟨by rfl, ?_⟩) (by assumption) ?_
        rotate_left
        · intro w hSw; (try dsimp only at hSw); go_simp; try with_reducible rfl
        try simp only [Act.put, List.getElem_toArray, List.getElem_cons_zero, List.getElem_cons_succ, List.setIfInBounds_toArray, List.set_cons_zero, List.set_cons_succ]
        refine wpAnyH_take (i := 7) (oi := _) (v := ?_) rfl (by kernel_rfl) (by kernel_rfl) (by kernel_rfl) (fun _ _ _ h => h) (Or.inl ⟨by rfl, ?_⟩) (by assumption) ?_
        rotate_left
        · intro w hSw; (try dsimp only at hSw); go_simp; try with_reducible rfl
        try simp only [Act.put, List.getElem_toArray, List.getElem_cons_zero, List.getElem_cons_succ, List.setIfInBounds_toArray, List.set_cons_zero, List.set_cons_succ]
        refine wpAnyH_take (i := 8) (oi := _) (v := ?_) rfl (by kernel_rfl) (by kernel_rfl) (by kernel_rfl) (fun _ _ _ h => h) (Or.inl ⟨by rfl, ?_⟩) (by assumption) ?_
        rotate_left
        · intro w hSw; (try dsimp only at hSw); go_simp; try with_reducible rfl
        try simp only [Act.put, List.getElem_toArray, List.getElem_cons_zero, List.getElem_cons_succ, List.setIfInBounds_toArray, List.set_cons_zero, List.set_cons_succ]
        refine wpAnyH_take (i := 9) (oi := _) (v := ?_) rfl (by kernel_rfl) (by kernel_rfl) (by kernel_rfl) (fun _ _ _ h => h) (Or.inl ⟨by rfl, ?_⟩) (by assumption) ?_
        rotate_left
        · intro w hSw; (try dsimp only at hSw); go_simp; try with_reducible rfl
        try simp only [Act.put, List.getElem_toArray, List.getElem_cons_zero, List.getElem_cons_succ, List.setIfInBounds_toArray, List.set_cons_zero, List.set_cons_succ]
        refine wpAnyH_take (i := 10) (oi := _) (v := ?_) rfl (by kernel_rfl) (by kernel_rfl) (by kernel_rfl) (fun _ _ _ h => h) (Or.inl ⟨by rfl, ?_⟩) (by assumption) ?_
        rotate_left
        · intro w hSw; (try dsimp only at hSw); go_simp; try with_reducible rfl
        try simp only [Act.put, List.getElem_toArray, List.getElem_cons_zero, List.getElem_cons_succ, List.setIfInBounds_toArray, List.set_cons_zero, List.set_cons_succ]
        refine wpAnyH_done (by kernel_rfl) ?_ _
        refine NoPanic.normal ?_
        go_wp2
        go_ret
        refine ⟨_, rfl, ?_⟩
        have e0 := HS.out
        have e1 : p.toNat - out.length = 0 := by omega
        rw [e1] at e0
        have e2 : (out, s2) = res := e0
        subst e2
        exact ⟨R4, hV4.sub _ (by intro L hL; simp at hL; simp [hL])⟩

end Go.Proofs.Ytkfcjlampnjfbaa
