/- parts of the proof, merged by a program. -/
import Derived.Test.YtpmoajhpgekhcaaGreatMsa1
import Derived.Test.YtpmoajhpgekhcaaGreatMsa2
set_option linter.unusedSimpArgs false
set_option linter.unusedVariables false
/- what is given back of a page, as plain data on a view. -/
set_option linter.unusedSimpArgs false
set_option linter.unusedVariables false
namespace Go.Proofs.YtpmoajhpgekhcaaGreat
open Go.RowKit

/-- how many pages the free span has whose info is v; 0: it is none. -/
def freeV (v : Int) : Int := if iK v = 1 then iL v else 0
theorem freeV_bd (v : Int) : 0 ≤ freeV v ∧ freeV v ≤ 1024 ∧ (iK v = 1 → 1 ≤ freeV v ∧ freeV v = iL v) ∧ (iK v ≠ 1 → freeV v = 0) := by
  have h := inf_bd v
  unfold freeV
  split <;> refine ⟨by omega, by omega, ?_, ?_⟩
  · intro e
    have := h.2.2.2.2.2.2.1 (by omega)
    exact ⟨this.2, rfl⟩
  · intro e; contradiction
  · intro e; contradiction
  · intro e; rfl

def freeAt (t p s q : Int) (st : VS) : Int × VS := (freeV (st.get (ofF t p s q 0)).1, (st.get (ofF t p s q 0)).2)
def dropF (t p s q : Int) (st : VS) : Int × VS :=
  if pageB p q = true then
    let r := freeAt t p s q st
    (r.1, if r.1 = 0 then r.2 else pullF t p s (withinF 2 (logF r.1) 11) q r.2)
  else (0, st)
def addG (t p s q n : Int) (st : VS) : VS := if 0 ≤ q ∧ q < p ∧ 1 ≤ n ∧ n ≤ p - q then addF t p s q.toNat n.toNat st else st
def joinF (t p s q b : Int) (st : VS) : Int × VS := ((dropF t p s q st).1, ((dropF t p s q st).2.put (ofF t p s b 0) 0).put (ofF t p s (b - 1) 1) 0)
def aheadF (t p s q : Int) (st : VS) : Int × VS := if q = 0 then (-1, st) else ((st.get (ofF t p s (q - 1) 1)).1 - 1, (st.get (ofF t p s (q - 1) 1)).2)
/-- where it begins, how long it is, and the view then. -/
def backF (t p s q n : Int) (st : VS) : (Int × Int) × VS :=
  let f := aheadF t p s q st
  if f.1 < 0 then ((q, n), f.2) else
    let g := freeAt t p s f.1 f.2
    if g.1 = 0 then ((q, n), g.2) else
      let j := joinF t p s f.1 q g.2
      ((f.1, n + j.1), j.2)
def foreF (t p s r l : Int) (st : VS) : Int × VS :=
  if r < p then
    let g := freeAt t p s r st
    if g.1 = 0 then (l, g.2) else
      let j := joinF t p s r r g.2
      (l + j.1, j.2)
  else (l, st)
def countF (n : Int) (st : VS) : VS := (st.get 0).2.put 0 (IntKind.u32.wrap ((st.get 0).1 + n))
def releaseF (t p s q n : Int) (st : VS) : VS :=
  let b := backF t p s q n st
  let e := foreF t p s (q + n) b.1.2 b.2
  countF n (addG t p s b.1.1 e.1 e.2)
def sweepF (t p s q : Int) (st : VS) : Bool × VS :=
  if pageB p q = true then
    let i := st.get (ofF t p s q 0)
    if iK i.1 = 3 then
      let l := i.2.get (ofF t p s q 4)
      let k := l.2.get (ofF t p s q 5)
      if l.1 = k.1 then (false, k.2) else
        let u := k.2.put (ofF t p s q 5) l.1
        (true, if l.1 = 0 then releaseF t p s q 1 (if fullB k.1 (iC i.1) = true then u else pullF t p s (13 + iC i.1) q u) else if fullB k.1 (iC i.1) = true then pushF t p s (13 + iC i.1) q u else u)
    else (false, i.2)
  else (false, st)
def sweepN (t p s : Int) : Nat → VS → Nat × VS
  | 0, st => (0, st)
  | k + 1, st => ((if (sweepF t p s k (sweepN t p s k st).2).1 = true then (sweepN t p s k st).1 + 1 else (sweepN t p s k st).1), (sweepF t p s k (sweepN t p s k st).2).2)

/- how many cells are written. -/
theorem wl_get (st : VS) (i : Int) : (st.get i).2.writes = st.writes := by
  unfold VS.get VS.read1; repeat' split
  all_goals rfl
theorem sweepN_le (t p s : Int) (st : VS) (k : Nat) : (sweepN t p s k st).1 ≤ k := by
  induction k with
  | zero => simp [sweepN]
  | succ k ih => unfold sweepN; dsimp only; split <;> omega
end Go.Proofs.YtpmoajhpgekhcaaGreat
/- bin of the program: free, Drop, Add of any pages. -/
set_option linter.unusedSimpArgs false
set_option linter.unusedVariables false
namespace Go.Proofs.YtpmoajhpgekhcaaGreat
open Go.RowKit

theorem get_as {b : Nat} {st s1 : VS} {i v : Int} (e : st.get i = (v, s1)) (w : World) (S : Nat → Prop) (h : PV w b S st) :
    Calls Tryz.prog 18 #[.pointer (some ⟨b, 0, none⟩), .int .i64 i] w fun e w' => e = .returned (.int .u32 v) ∧ Now w b S s1 w' := by
  have := get_any b i w S st h
  rwa [e] at this

set_option maxRecDepth 100000 in
theorem bfree_any (b : Nat) (t p s q : Int) (w : World) (S : Nat → Prop) (st : VS) (h : PV w b S st) :
    Calls Tryz.prog 118 #[.pointer (some ⟨b, 0, none⟩), .agg #[.int .i64 t, .int .i64 p, .int .i64 s], .int .i64 q] w fun e w' => e = .returned (.int .i64 (freeAt t p s q st).1) ∧ Now w b S (freeAt t p s q st).2 w' := by
  have hV := (VSt.start keepsPV h).alloc keepsPV (.cells #[.int .i64 t, .int .i64 p, .int .i64 s] 23)
  have c0 := loc_alloc w #[.int .i64 t, .int .i64 p, .int .i64 s] 23
  have hu := VS.get_u32 (keepsPV.inv h) (ofF t p s q 0)
  obtain ⟨v, s1, hg⟩ : ∃ v s1, st.get (ofF t p s q 0) = (v, s1) := ⟨_, _, rfl⟩
  have HI := Lib.hid (fun w => iget_any (st.get (ofF t p s q 0)).1 w hu.1 hu.2)
  have hF : freeAt t p s q st = (if iK v = 1 then iL v else 0, s1) := by unfold freeAt freeV; rw [hg]
  have G := Lib.hid (get_as (b := b) hg)
  rw [hF]
  rw [hg] at HI
  clear h hF hu hg
  generalize iK v = k at *
  generalize iL v = l at *
  by_cases e : k = 1
  · rw [if_pos e]
    go_enter Tryz.func118, Tryz.ntmps118
    go_wp2_with fail
    refine (calls_bl keepsPV hV (pinfo_any _ _ _ _ _)).mono ?_
    rintro e w1 ⟨rfl, hV1, hV1l⟩
    have c1 := loc_step hV1l (by simp) c0
    clear hV1l
    go_wp2_with fail
    refine (calls_st hV1 (G.out _)).mono ?_
    rintro e w2 ⟨rfl, hV2, hV2l⟩
    have c2 := loc_step hV2l (by simp) c1
    clear hV2l
    go_wp2_with fail
    refine (calls_bl keepsPV hV2 (HI.out _)).mono ?_
    rintro e w3 ⟨rfl, hV3, hV3l⟩
    have c3 := loc_step hV3l (by simp) c2
    clear hV3l
    subst e
    go_wp2
    go_ret
    exact ⟨rfl, (hV3.alloc keepsPV _).done keepsPV⟩
  · rw [if_neg e]
    go_enter Tryz.func118, Tryz.ntmps118
    go_wp2_with fail
    refine (calls_bl keepsPV hV (pinfo_any _ _ _ _ _)).mono ?_
    rintro e w1 ⟨rfl, hV1, hV1l⟩
    have c1 := loc_step hV1l (by simp) c0
    clear hV1l
    go_wp2_with fail
    refine (calls_st hV1 (G.out _)).mono ?_
    rintro e w2 ⟨rfl, hV2, hV2l⟩
    have c2 := loc_step hV2l (by simp) c1
    clear hV2l
    go_wp2_with fail
    refine (calls_bl keepsPV hV2 (HI.out _)).mono ?_
    rintro e w3 ⟨rfl, hV3, hV3l⟩
    have c3 := loc_step hV3l (by simp) c2
    clear hV3l
    go_wp2
    go_ret
    exact ⟨rfl, (hV3.alloc keepsPV _).done keepsPV⟩

theorem bpage_b (t p s q : Int) (w : World) : Calls Tryz.prog 113 #[.agg #[.int .i64 t, .int .i64 p, .int .i64 s], .int .i64 q] w fun e w' => e = .returned (.bool (pageB p q)) ∧ Below w.heap.size w w' := by
  by_cases h1 : 0 ≤ q
  · have hF : pageB p q = decide (q < p) := by simp [pageB, h1]
    rw [hF]
    go_enter Tryz.func113, Tryz.ntmps113
    go_wp2
    go_ret
    refine ⟨rfl, ?_⟩
    (repeat (first | exact Below.refl _ _ | assumption | refine Below.setCell ?_ (by first | omega | (simp; done) | (simp; omega)) _ | refine Below.alloc ?_ (by first | omega | (simp; done) | (simp; omega)) _ | refine Below.drew ?_ | refine Below.trans ?_ (Below.mono ‹Below _ _ _› (by first | omega | (simp; done) | (simp; omega)))))
  · have hF : pageB p q = false := by simp [pageB, h1]
    rw [hF]
    go_enter Tryz.func113, Tryz.ntmps113
    go_wp2
    go_ret
    refine ⟨rfl, ?_⟩
    (repeat (first | exact Below.refl _ _ | assumption | refine Below.setCell ?_ (by first | omega | (simp; done) | (simp; omega)) _ | refine Below.alloc ?_ (by first | omega | (simp; done) | (simp; omega)) _ | refine Below.drew ?_ | refine Below.trans ?_ (Below.mono ‹Below _ _ _› (by first | omega | (simp; done) | (simp; omega)))))

set_option maxHeartbeats 1000000 in
set_option maxRecDepth 100000 in
theorem bdrop_any (b : Nat) (t p s q : Int) (w : World) (S : Nat → Prop) (st : VS) (h : PV w b S st) (hp : p ≤ 1024) :
    Calls Tryz.prog 112 #[.pointer (some ⟨b, 0, none⟩), .agg #[.int .i64 t, .int .i64 p, .int .i64 s], .int .i64 q] w fun e w' => e = .returned (.int .i64 (dropF t p s q st).1) ∧ Now w b S (dropF t p s q st).2 w' := by
  have hV := (VSt.start keepsPV h).alloc keepsPV (.cells #[.int .i64 t, .int .i64 p, .int .i64 s] 23)
  have c0 := loc_alloc w #[.int .i64 t, .int .i64 p, .int .i64 s] 23
  have HP := fun w => bpage_b t p s q w
  cases hq : pageB p q with
  | false =>
    rw [hq] at HP
    have HQ := Lib.hid HP
    have hF : dropF t p s q st = (0, st) := by simp [dropF, hq]
    rw [hF]
    clear h hF HP
    go_enter Tryz.func112, Tryz.ntmps112
    go_wp2_with fail
    refine (calls_bl keepsPV hV (HQ.out _)).mono ?_
    rintro e w1 ⟨rfl, hV1, hV1l⟩
    have c1 := loc_step hV1l (by simp) c0
    clear hV1l
    go_wp2
    go_ret
    exact ⟨rfl, hV1.done keepsPV⟩
  | true =>
    rw [hq] at HP
    have HQ := Lib.hid HP
    have hbd := freeV_bd (st.get (ofF t p s q 0)).1
    obtain ⟨l, s1, hl⟩ : ∃ l s1, freeAt t p s q st = (l, s1) := ⟨_, _, rfl⟩
    have G := fun (w : World) (S1 : Nat → Prop) (h1 : PV w b S1 st) => bfree_any b t p s q w S1 st h1
    have hl1 : freeV (st.get (ofF t p s q 0)).1 = l := by have := congrArg Prod.fst hl; exact this
    have hF : dropF t p s q st = (l, if l = 0 then s1 else pullF t p s (withinF 2 (logF l) 11) q s1) := by simp only [dropF, hq, hl, if_true]
    rw [hF]
    rw [hl1] at hbd
    rw [hl] at G
    have HG := Lib.hid G
    obtain ⟨n, rfl⟩ : ∃ n : Nat, l = n := ⟨l.toNat, by omega⟩
    clear h hF HP hl hl1 hq G
    by_cases hn : n = 0
    · subst hn
      go_enter Tryz.func112, Tryz.ntmps112
      go_wp2_with fail
      refine (calls_bl keepsPV hV (HQ.out _)).mono ?_
      rintro e w1 ⟨rfl, hV1, hV1l⟩
      have c1 := loc_step hV1l (by simp) c0
      clear hV1l
      go_wp2_with fail
      refine (calls_st hV1 (HG.out _)).mono ?_
      rintro e w2 ⟨rfl, hV2, hV2l⟩
      have c2 := loc_step hV2l (by simp) c1
      clear hV2l
      go_wp2
      go_ret
      exact ⟨rfl, hV2.done keepsPV⟩
    · have HO := Lib.hid (fun w => bof_any n w (by omega) (by omega))
      have e0 : (if (n : Int) = 0 then s1 else pullF t p s (withinF 2 (logF n) 11) q s1) = pullF t p s (withinF 2 (logF n) 11) q s1 := if_neg (by omega)
      rw [e0]
      clear e0
      generalize logF n = lg at *
      go_enter Tryz.func112, Tryz.ntmps112
      go_wp2_with fail
      refine (calls_bl keepsPV hV (HQ.out _)).mono ?_
      rintro e w1 ⟨rfl, hV1, hV1l⟩
      have c1 := loc_step hV1l (by simp) c0
      clear hV1l
      go_wp2_with fail
      refine (calls_st hV1 (HG.out _)).mono ?_
      rintro e w2 ⟨rfl, hV2, hV2l⟩
      have c2 := loc_step hV2l (by simp) c1
      clear hV2l
      go_wp2_with fail
      have hV2d := hV2.drew keepsPV
      refine wp_region_noPanic ?_
      refine wp_region_held_drew (S := fun w' => (∀ o : Nat, w'.cell? ⟨w.heap.size, o, none⟩ = (#[.int .i64 t, .int .i64 p, .int .i64 s] : Array Value)[o]?)) (by kernel_rfl) ?_ (fun hHeld => ?_)
      · exact c2
      refine wT 0 ?_
      refine wT 1 ?_
      refine wT 2 ?_
      refine wT 5 ?_
      refine wR 3 fun K hK => ?_
      go_simp
      refine (calls_bl keepsPV hV2d (HO.out _)).mono ?_
      rintro e w3 ⟨rfl, hV3, hV3l⟩
      have c3 := loc_step hV3l (by simp) hHeld
      clear hV3l
      dsimp only
      refine hK.out _ _ ?_ (fun hHeld => ?_)
      · exact c3
      clear hK K
      try simp only [Act.put, zA, zB, zC, zD, zE, zF]
      refine wR 4 fun K hK => ?_
      go_simp
      refine (calls_bl keepsPV hV3 (pbin_any _ _)).mono ?_
      rintro e w4 ⟨rfl, hV4, hV4l⟩
      have c4 := loc_step hV4l (by simp) c3
      clear hV4l
      dsimp only
      refine hK.out _ _ ?_ (fun hHeld => ?_)
      · exact c4
      clear hK K
      try simp only [Act.put, zA, zB, zC, zD, zE, zF]
      refine wR 6 fun K hK => ?_
      go_simp
      refine (calls_st hV4 (fun S1 h1 => pull_any b t p s _ q _ S1 _ h1 hp)).mono ?_
      rintro e w5 ⟨rfl, hV5, hV5l⟩
      have c5 := loc_step hV5l (by simp) c4
      clear hV5l
      dsimp only
      refine hK.out _ _ ?_ (fun hHeld => ?_)
      · exact c5
      clear hK K
      try simp only [Act.put, zA, zB, zC, zD, zE, zF]
      refine wpAnyH_done (by kernel_rfl) (NoPanic.normal ?_) _
      go_wp2
      go_ret
      exact ⟨rfl, hV5.done keepsPV⟩

theorem badd_all (b : Nat) (t p s q n : Int) (w : World) (S : Nat → Prop) (st : VS) (h : PV w b S st) (hp : p ≤ 1024) :
    Calls Tryz.prog 100 #[.pointer (some ⟨b, 0, none⟩), .agg #[.int .i64 t, .int .i64 p, .int .i64 s], .int .i64 q, .int .i64 n] w fun e w' => e = .returned (.tuple #[]) ∧ Now w b S (addG t p s q n st) w' := by
  by_cases hc : 0 ≤ q ∧ q < p ∧ 1 ≤ n ∧ n ≤ p - q
  · have := badd_any b t p s q.toNat n.toNat w S st h hp (by omega) (by omega) (by omega)
    rw [show ((q.toNat : Nat) : Int) = q by omega, show ((n.toNat : Nat) : Int) = n by omega] at this
    unfold addG
    rw [if_pos hc]
    exact this
  · have hF : addG t p s q n st = st := if_neg hc
    rw [hF]
    have hV := (VSt.start keepsPV h).alloc keepsPV (.cells #[.int .i64 t, .int .i64 p, .int .i64 s] 23)
    have c0 := loc_alloc w #[.int .i64 t, .int .i64 p, .int .i64 s] 23
    have HP := fun w => bpage_b t p s q w
    clear h hF
    cases hq : pageB p q with
    | false =>
      rw [hq] at HP
      have HQ := Lib.hid HP
      clear HP hq hc
      go_enter Tryz.func100, Tryz.ntmps100
      go_wp2_with fail
      refine (calls_bl keepsPV hV (HQ.out _)).mono ?_
      rintro e w1 ⟨rfl, hV1, hV1l⟩
      have c1 := loc_step hV1l (by simp) c0
      clear hV1l
      go_wp2
      refine bodyPost_ret (results_none rfl _ _ _) rfl ?_
      exact ⟨rfl, hV1.done keepsPV⟩
    | true =>
      rw [hq] at HP
      have HQ := Lib.hid HP
      have hq2 : 0 ≤ q ∧ q < p := by simpa [pageB] using hq
      clear HP hq
      by_cases hn : n < 1
      · clear hc
        go_enter Tryz.func100, Tryz.ntmps100
        go_wp2_with fail
        refine (calls_bl keepsPV hV (HQ.out _)).mono ?_
        rintro e w1 ⟨rfl, hV1, hV1l⟩
        have c1 := loc_step hV1l (by simp) c0
        clear hV1l
        go_wp2
        refine bodyPost_ret (results_none rfl _ _ _) rfl ?_
        exact ⟨rfl, hV1.done keepsPV⟩
      · have hw1 : IntKind.i64.wrap (p - q) = p - q := wrap_in _ (by omega)
        have hn2 : p - q < n := by omega
        clear hc
        go_enter Tryz.func100, Tryz.ntmps100
        go_wp2_with fail
        refine (calls_bl keepsPV hV (HQ.out _)).mono ?_
        rintro e w1 ⟨rfl, hV1, hV1l⟩
        have c1 := loc_step hV1l (by simp) c0
        clear hV1l
        go_wp2
        refine bodyPost_ret (results_none rfl _ _ _) rfl ?_
        exact ⟨rfl, hV1.done keepsPV⟩
end Go.Proofs.YtpmoajhpgekhcaaGreat
/- span of the program: the heap's small methods. -/
set_option linter.unusedSimpArgs false
set_option linter.unusedVariables false
namespace Go.Proofs.YtpmoajhpgekhcaaGreat
open Go.RowKit

/-- a box of the call's own, beside the others, in a call that turns a view. -/
structure VA (w0 : World) (b : Nat) (S : Nat → Prop) (Ls : List Nat) (LA : Nat) (cs : Array Value) (T : TypeId) (st : VS) (w : World) : Prop where
  vs : VSt PV w0 b S (LA :: Ls) st w
  box : w.heap[LA]? = some (.cells cs T)
  ne : ∀ L ∈ Ls, L ≠ LA
section
variable {w0 w w' : World} {b : Nat} {S : Nat → Prop} {Ls : List Nat} {LA : Nat} {cs : Array Value} {T : TypeId} {st st' : VS}
theorem VSt.allocd (h : VSt PV w0 b S Ls st w) (cs : Array Value) (T : TypeId) : VA w0 b S Ls w.heap.size cs T st (w.alloc (.cells cs T)) :=
  ⟨h.alloc keepsPV _, heap_alloc_new w _, fun L hL e => by have := (h.ls L hL).1; omega⟩
theorem VA.step (h : VA w0 b S Ls LA cs T st w) (hV : VSt PV w0 b S (LA :: Ls) st' w') (hl : ∀ L ∈ LA :: Ls, w'.heap[L]? = w.heap[L]?) : VA w0 b S Ls LA cs T st' w' :=
  ⟨hV, (hl _ (by simp)).trans h.box, h.ne⟩
theorem VA.set (h : VA w0 b S Ls LA cs T st w) (o : Nat) (v : Value) : VA w0 b S Ls LA (cs.setIfInBounds o v) T st (w.setCell ⟨LA, o, none⟩ v) :=
  ⟨h.vs.setCell keepsPV (by simp) _ _, heap_setCell_same h.box, h.ne⟩
theorem VA.loc (h : VA w0 b S Ls LA cs T st w) {L : Nat} {ds : Array Value} (hm : L ∈ Ls) (o : Nat) (v : Value) (hc : ∀ i : Nat, w.cell? ⟨L, i, none⟩ = ds[i]?) : ∀ i : Nat, (w.setCell ⟨LA, o, none⟩ v).cell? ⟨L, i, none⟩ = ds[i]? :=
  fun i => (World.cell?_of_block (a := ⟨L, i, none⟩) (heap_setCell_other (h.ne L hm))).trans (hc i)
end

set_option maxHeartbeats 2000000 in
set_option maxRecDepth 100000 in
theorem hfree_any (b : Nat) (t p s q : Int) (w : World) (S : Nat → Prop) (st : VS) (h : PV w b S st) :
    Calls Tryz.prog 98 #[.agg #[.pointer (some ⟨b, 0, none⟩), .int .i64 t, .int .i64 p, .int .i64 s], .int .i64 q] w fun e w' => e = .returned (.int .i64 (freeAt t p s q st).1) ∧ Now w b S (freeAt t p s q st).2 w' := by
  have hV := (VSt.start keepsPV h).alloc keepsPV (.cells #[.pointer (some ⟨b, 0, none⟩), .int .i64 t, .int .i64 p, .int .i64 s] 126)
  have c0 := loc_alloc w #[.pointer (some ⟨b, 0, none⟩), .int .i64 t, .int .i64 p, .int .i64 s] 126
  have hu := VS.get_u32 (keepsPV.inv h) (ofF t p s q 0)
  obtain ⟨v, s1, hg⟩ : ∃ v s1, st.get (ofF t p s q 0) = (v, s1) := ⟨_, _, rfl⟩
  have HI := Lib.hid (fun w => iget_any (st.get (ofF t p s q 0)).1 w hu.1 hu.2)
  have hF : freeAt t p s q st = (if iK v = 1 then iL v else 0, s1) := by unfold freeAt freeV; rw [hg]
  have G := Lib.hid (get_as (b := b) hg)
  obtain ⟨r, hr⟩ : ∃ r, r = if iK v = 1 then iL v else 0 := ⟨_, rfl⟩
  rw [hF, ← hr]
  rw [hg] at HI
  clear h hF hu hg
  generalize iK v = k at *
  generalize iL v = l at *
  generalize iC v = m at *
  have HR := Lib.hid hr
  clear hr
  go_enter Tryz.func98, Tryz.ntmps98
  go_wp2_with fail
  have hX := hV.drew keepsPV
  refine wp_region_noPanic ?_
  refine wp_region_held_drew (S := fun w' => (∀ o : Nat, w'.cell? ⟨w.heap.size, o, none⟩ = (#[.pointer (some ⟨b, 0, none⟩), .int .i64 t, .int .i64 p, .int .i64 s] : Array Value)[o]?)) (by kernel_rfl) ?_ (fun hHeld => ?_)
  · exact c0
  refine wT 0 ?_
  refine wT 1 ?_
  refine wT 2 ?_
  refine wT 3 ?_
  refine wT 4 ?_
  refine wpAnyH_ready (rs := [5, 11]) (by kernel_rfl) (by simp) ?_
  refine AllReadyH.cons (o := _) rfl (fun K hK => ?_) (AllReadyH.cons (o := _) rfl (fun K hK => ?_) AllReadyH.nil)
  · go_simp
    refine (calls_bl keepsPV hX (pinfo_any _ _ _ _ _)).mono ?_
    rintro e w5 ⟨rfl, hY, hXl⟩
    try have hA := hA.step hY hXl
    have hX := hY
    have c := loc_step hXl (by simp) hHeld
    clear hXl hY
    dsimp only
    refine hK.out _ _ ?_ (fun hHeld => ?_)
    · exact c
    clear hK K
    try simp only [Act.put, zA, zB, zC, zD, zE, zF]
    refine wpAnyH_ready (rs := [6, 11]) (by kernel_rfl) (by simp) ?_
    refine AllReadyH.cons (o := _) rfl (fun K hK => ?_) (AllReadyH.cons (o := _) rfl (fun K hK => ?_) AllReadyH.nil)
    · go_simp
      refine (calls_st hX (G.out _)).mono ?_
      rintro e w6 ⟨rfl, hY, hXl⟩
      try have hA := hA.step hY hXl
      have hX := hY
      have c := loc_step hXl (by simp) hHeld
      clear hXl hY
      dsimp only
      refine hK.out _ _ ?_ (fun hHeld => ?_)
      · exact c
      clear hK K
      try simp only [Act.put, zA, zB, zC, zD, zE, zF]
      refine wpAnyH_ready (rs := [7, 11]) (by kernel_rfl) (by simp) ?_
      refine AllReadyH.cons (o := _) rfl (fun K hK => ?_) (AllReadyH.cons (o := _) rfl (fun K hK => ?_) AllReadyH.nil)
      · go_simp
        refine (calls_bl keepsPV hX (HI.out _)).mono ?_
        rintro e w7 ⟨rfl, hY, hXl⟩
        try have hA := hA.step hY hXl
        have hX := hY
        have c := loc_step hXl (by simp) hHeld
        clear hXl hY
        dsimp only
        refine hK.out _ _ ?_ (fun hHeld => ?_)
        · exact c
        clear hK K
        try simp only [Act.put, zA, zB, zC, zD, zE, zF]
        refine wT 8 ?_
        refine wT 9 ?_
        refine wT 10 ?_
        refine wR 11 fun K hK => ?_
        have hP := hX
        have hPc := hHeld
        have hA := hX.allocd #[.int .i64 0, .int .i64 0, .int .i64 0] 61
        try simp only [World.size_drew] at hA
        try simp only [World.size_alloc] at hA
        have hX := hA.vs
        have c := loc_old (.cells #[.int .i64 0, .int .i64 0, .int .i64 0] 61) (hP.ls _ (by simp)).1 hHeld
        go_simp
        refine hK.out _ _ ?_ (fun hHeld => ?_)
        · exact c
        clear hK K
        try simp only [Act.put, zA, zB, zC, zD, zE, zF]
        refine wR 12 fun K hK => ?_
        obtain ⟨⟨k0, k1, k2⟩, f0, f1, f2⟩ := cells3 hA.box
        have hA2 : VA w b S [w.heap.size] _ #[.int .i64 k, .int .i64 l, .int .i64 m] 61 s1 _ := ((hA.set 0 (.int .i64 k)).set 1 (.int .i64 l)).set 2 (.int .i64 m)
        try have hA3 : VA w b S [w.heap.size] _ #[.int .i64 k, .int .i64 l, .int .i64 m] 61 s1 _ := hP.allocd #[.int .i64 k, .int .i64 l, .int .i64 m] 61
        go_simp
        refine hK.out _ _ ?_ (fun hHeld => ?_)
        · exact by first | with_reducible exact loc_old _ (hP.ls _ (by simp)).1 hPc | exact ((hA.set 0 _).set 1 _).loc (by simp) 2 _ ((hA.set 0 _).loc (by simp) 1 _ (hA.loc (by simp) 0 _ hHeld))
        clear hK K
        try simp only [Act.put, zA, zB, zC, zD, zE, zF]
        refine wT 13 ?_
        refine wpAnyH_done (by kernel_rfl) (NoPanic.normal ?_) _
        refine world_gen ?_
        intro wz hwz
        first | rw [← hwz] at hA2; have hZ := hA2 | rw [← hwz] at hA3; have hZ := hA3
        clear hwz hX hA
        obtain ⟨⟨k0, k1, k2⟩, f0, f1, f2⟩ := cells3 hZ.box
        by_cases e : k = 1
        · subst e
          go_wp2
          go_ret
          exact ⟨ret_int (by rw [HR.out]; rfl), hZ.vs.done keepsPV⟩
        · go_wp2
          go_ret
          exact ⟨ret_int (by rw [HR.out, if_neg e]), hZ.vs.done keepsPV⟩
      · have hP := hX
        have hPc := hHeld
        have hA := hX.allocd #[.int .i64 0, .int .i64 0, .int .i64 0] 61
        try simp only [World.size_drew] at hA
        try simp only [World.size_alloc] at hA
        have hX := hA.vs
        have c := loc_old (.cells #[.int .i64 0, .int .i64 0, .int .i64 0] 61) (hP.ls _ (by simp)).1 hHeld
        go_simp
        refine hK.out _ _ ?_ (fun hHeld => ?_)
        · exact c
        clear hK K
        try simp only [Act.put, zA, zB, zC, zD, zE, zF]
        refine wR 7 fun K hK => ?_
        go_simp
        refine (calls_bl keepsPV hX (HI.out _)).mono ?_
        rintro e w7 ⟨rfl, hY, hXl⟩
        try have hA := hA.step hY hXl
        have hX := hY
        have c := loc_step hXl (by simp) hHeld
        clear hXl hY
        dsimp only
        refine hK.out _ _ ?_ (fun hHeld => ?_)
        · exact c
        clear hK K
        try simp only [Act.put, zA, zB, zC, zD, zE, zF]
        refine wT 8 ?_
        refine wT 9 ?_
        refine wT 10 ?_
        refine wR 12 fun K hK => ?_
        obtain ⟨⟨k0, k1, k2⟩, f0, f1, f2⟩ := cells3 hA.box
        have hA2 : VA w b S [w.heap.size] _ #[.int .i64 k, .int .i64 l, .int .i64 m] 61 s1 _ := ((hA.set 0 (.int .i64 k)).set 1 (.int .i64 l)).set 2 (.int .i64 m)
        try have hA3 : VA w b S [w.heap.size] _ #[.int .i64 k, .int .i64 l, .int .i64 m] 61 s1 _ := hP.allocd #[.int .i64 k, .int .i64 l, .int .i64 m] 61
        go_simp
        refine hK.out _ _ ?_ (fun hHeld => ?_)
        · exact by first | with_reducible exact loc_old _ (hP.ls _ (by simp)).1 hPc | exact ((hA.set 0 _).set 1 _).loc (by simp) 2 _ ((hA.set 0 _).loc (by simp) 1 _ (hA.loc (by simp) 0 _ hHeld))
        clear hK K
        try simp only [Act.put, zA, zB, zC, zD, zE, zF]
        refine wT 13 ?_
        refine wpAnyH_done (by kernel_rfl) (NoPanic.normal ?_) _
        refine world_gen ?_
        intro wz hwz
        first | rw [← hwz] at hA2; have hZ := hA2 | rw [← hwz] at hA3; have hZ := hA3
        clear hwz hX hA
        obtain ⟨⟨k0, k1, k2⟩, f0, f1, f2⟩ := cells3 hZ.box
        by_cases e : k = 1
        · subst e
          go_wp2
          go_ret
          exact ⟨ret_int (by rw [HR.out]; rfl), hZ.vs.done keepsPV⟩
        · go_wp2
          go_ret
          exact ⟨ret_int (by rw [HR.out, if_neg e]), hZ.vs.done keepsPV⟩
    · have hP := hX
      have hPc := hHeld
      have hA := hX.allocd #[.int .i64 0, .int .i64 0, .int .i64 0] 61
      try simp only [World.size_drew] at hA
      try simp only [World.size_alloc] at hA
      have hX := hA.vs
      have c := loc_old (.cells #[.int .i64 0, .int .i64 0, .int .i64 0] 61) (hP.ls _ (by simp)).1 hHeld
      go_simp
      refine hK.out _ _ ?_ (fun hHeld => ?_)
      · exact c
      clear hK K
      try simp only [Act.put, zA, zB, zC, zD, zE, zF]
      refine wR 6 fun K hK => ?_
      go_simp
      refine (calls_st hX (G.out _)).mono ?_
      rintro e w6 ⟨rfl, hY, hXl⟩
      try have hA := hA.step hY hXl
      have hX := hY
      have c := loc_step hXl (by simp) hHeld
      clear hXl hY
      dsimp only
      refine hK.out _ _ ?_ (fun hHeld => ?_)
      · exact c
      clear hK K
      try simp only [Act.put, zA, zB, zC, zD, zE, zF]
      refine wR 7 fun K hK => ?_
      go_simp
      refine (calls_bl keepsPV hX (HI.out _)).mono ?_
      rintro e w7 ⟨rfl, hY, hXl⟩
      try have hA := hA.step hY hXl
      have hX := hY
      have c := loc_step hXl (by simp) hHeld
      clear hXl hY
      dsimp only
      refine hK.out _ _ ?_ (fun hHeld => ?_)
      · exact c
      clear hK K
      try simp only [Act.put, zA, zB, zC, zD, zE, zF]
      refine wT 8 ?_
      refine wT 9 ?_
      refine wT 10 ?_
      refine wR 12 fun K hK => ?_
      obtain ⟨⟨k0, k1, k2⟩, f0, f1, f2⟩ := cells3 hA.box
      have hA2 : VA w b S [w.heap.size] _ #[.int .i64 k, .int .i64 l, .int .i64 m] 61 s1 _ := ((hA.set 0 (.int .i64 k)).set 1 (.int .i64 l)).set 2 (.int .i64 m)
      try have hA3 : VA w b S [w.heap.size] _ #[.int .i64 k, .int .i64 l, .int .i64 m] 61 s1 _ := hP.allocd #[.int .i64 k, .int .i64 l, .int .i64 m] 61
      go_simp
      refine hK.out _ _ ?_ (fun hHeld => ?_)
      · exact by first | with_reducible exact loc_old _ (hP.ls _ (by simp)).1 hPc | exact ((hA.set 0 _).set 1 _).loc (by simp) 2 _ ((hA.set 0 _).loc (by simp) 1 _ (hA.loc (by simp) 0 _ hHeld))
      clear hK K
      try simp only [Act.put, zA, zB, zC, zD, zE, zF]
      refine wT 13 ?_
      refine wpAnyH_done (by kernel_rfl) (NoPanic.normal ?_) _
      refine world_gen ?_
      intro wz hwz
      first | rw [← hwz] at hA2; have hZ := hA2 | rw [← hwz] at hA3; have hZ := hA3
      clear hwz hX hA
      obtain ⟨⟨k0, k1, k2⟩, f0, f1, f2⟩ := cells3 hZ.box
      by_cases e : k = 1
      · subst e
        go_wp2
        go_ret
        exact ⟨ret_int (by rw [HR.out]; rfl), hZ.vs.done keepsPV⟩
      · go_wp2
        go_ret
        exact ⟨ret_int (by rw [HR.out, if_neg e]), hZ.vs.done keepsPV⟩
  · have hP := hX
    have hPc := hHeld
    have hA := hX.allocd #[.int .i64 0, .int .i64 0, .int .i64 0] 61
    try simp only [World.size_drew] at hA
    try simp only [World.size_alloc] at hA
    have hX := hA.vs
    have c := loc_old (.cells #[.int .i64 0, .int .i64 0, .int .i64 0] 61) (hP.ls _ (by simp)).1 hHeld
    go_simp
    refine hK.out _ _ ?_ (fun hHeld => ?_)
    · exact c
    clear hK K
    try simp only [Act.put, zA, zB, zC, zD, zE, zF]
    refine wR 5 fun K hK => ?_
    go_simp
    refine (calls_bl keepsPV hX (pinfo_any _ _ _ _ _)).mono ?_
    rintro e w5 ⟨rfl, hY, hXl⟩
    try have hA := hA.step hY hXl
    have hX := hY
    have c := loc_step hXl (by simp) hHeld
    clear hXl hY
    dsimp only
    refine hK.out _ _ ?_ (fun hHeld => ?_)
    · exact c
    clear hK K
    try simp only [Act.put, zA, zB, zC, zD, zE, zF]
    refine wR 6 fun K hK => ?_
    go_simp
    refine (calls_st hX (G.out _)).mono ?_
    rintro e w6 ⟨rfl, hY, hXl⟩
    try have hA := hA.step hY hXl
    have hX := hY
    have c := loc_step hXl (by simp) hHeld
    clear hXl hY
    dsimp only
    refine hK.out _ _ ?_ (fun hHeld => ?_)
    · exact c
    clear hK K
    try simp only [Act.put, zA, zB, zC, zD, zE, zF]
    refine wR 7 fun K hK => ?_
    go_simp
    refine (calls_bl keepsPV hX (HI.out _)).mono ?_
    rintro e w7 ⟨rfl, hY, hXl⟩
    try have hA := hA.step hY hXl
    have hX := hY
    have c := loc_step hXl (by simp) hHeld
    clear hXl hY
    dsimp only
    refine hK.out _ _ ?_ (fun hHeld => ?_)
    · exact c
    clear hK K
    try simp only [Act.put, zA, zB, zC, zD, zE, zF]
    refine wT 8 ?_
    refine wT 9 ?_
    refine wT 10 ?_
    refine wR 12 fun K hK => ?_
    obtain ⟨⟨k0, k1, k2⟩, f0, f1, f2⟩ := cells3 hA.box
    have hA2 : VA w b S [w.heap.size] _ #[.int .i64 k, .int .i64 l, .int .i64 m] 61 s1 _ := ((hA.set 0 (.int .i64 k)).set 1 (.int .i64 l)).set 2 (.int .i64 m)
    try have hA3 : VA w b S [w.heap.size] _ #[.int .i64 k, .int .i64 l, .int .i64 m] 61 s1 _ := hP.allocd #[.int .i64 k, .int .i64 l, .int .i64 m] 61
    go_simp
    refine hK.out _ _ ?_ (fun hHeld => ?_)
    · exact by first | with_reducible exact loc_old _ (hP.ls _ (by simp)).1 hPc | exact ((hA.set 0 _).set 1 _).loc (by simp) 2 _ ((hA.set 0 _).loc (by simp) 1 _ (hA.loc (by simp) 0 _ hHeld))
    clear hK K
    try simp only [Act.put, zA, zB, zC, zD, zE, zF]
    refine wT 13 ?_
    refine wpAnyH_done (by kernel_rfl) (NoPanic.normal ?_) _
    refine world_gen ?_
    intro wz hwz
    first | rw [← hwz] at hA2; have hZ := hA2 | rw [← hwz] at hA3; have hZ := hA3
    clear hwz hX hA
    obtain ⟨⟨k0, k1, k2⟩, f0, f1, f2⟩ := cells3 hZ.box
    by_cases e : k = 1
    · subst e
      go_wp2
      go_ret
      exact ⟨ret_int (by rw [HR.out]; rfl), hZ.vs.done keepsPV⟩
    · go_wp2
      go_ret
      exact ⟨ret_int (by rw [HR.out, if_neg e]), hZ.vs.done keepsPV⟩
end Go.Proofs.YtpmoajhpgekhcaaGreat
/- span of the program: Release. -/
set_option linter.unusedSimpArgs false
set_option linter.unusedVariables false
namespace Go.Proofs.YtpmoajhpgekhcaaGreat
open Go.RowKit

set_option maxHeartbeats 1000000 in
set_option maxRecDepth 100000 in
theorem hahead_any (b : Nat) (t p s q : Int) (w : World) (S : Nat → Prop) (st : VS) (h : PV w b S st) (hq0 : 0 ≤ q) (hq1 : q ≤ 1024) :
    Calls Tryz.prog 97 #[.agg #[.pointer (some ⟨b, 0, none⟩), .int .i64 t, .int .i64 p, .int .i64 s], .int .i64 q] w fun e w' => e = .returned (.int .i64 (aheadF t p s q st).1) ∧ Now w b S (aheadF t p s q st).2 w' := by
  have hV := (VSt.start keepsPV h).alloc keepsPV (.cells #[.pointer (some ⟨b, 0, none⟩), .int .i64 t, .int .i64 p, .int .i64 s] 126)
  have c0 := loc_alloc w #[.pointer (some ⟨b, 0, none⟩), .int .i64 t, .int .i64 p, .int .i64 s] 126
  by_cases hq : q = 0
  · subst hq
    have hF : aheadF t p s 0 st = (-1, st) := rfl
    rw [hF]
    clear h
    go_enter Tryz.func97, Tryz.ntmps97
    go_wp2
    go_ret
    exact ⟨rfl, hV.done keepsPV⟩
  · have hu := VS.get_u32 (keepsPV.inv h) (ofF t p s (q - 1) 1)
    obtain ⟨v, s1, hg⟩ : ∃ v s1, st.get (ofF t p s (q - 1) 1) = (v, s1) := ⟨_, _, rfl⟩
    have hF : aheadF t p s q st = (v - 1, s1) := by unfold aheadF; rw [if_neg hq, hg]
    have G := Lib.hid (get_as (b := b) hg)
    rw [hF]
    rw [hg] at hu
    obtain ⟨hu1, hu2⟩ := hu
    dsimp only at hu1 hu2
    have hw1 : IntKind.i64.wrap (q - 1) = q - 1 := wrap_in _ (by omega)
    have hw2 : IntKind.i64.wrap v = v := wrap_in _ (by omega)
    have hw3 : IntKind.i64.wrap (v - 1) = v - 1 := wrap_in _ (by omega)
    clear h hF hg
    go_enter Tryz.func97, Tryz.ntmps97
    go_wp2_with fail
    have hVd := hV.drew keepsPV
    refine wp_region_noPanic ?_
    refine wp_region_held_drew (S := fun w' => (∀ o : Nat, w'.cell? ⟨w.heap.size, o, none⟩ = (#[.pointer (some ⟨b, 0, none⟩), .int .i64 t, .int .i64 p, .int .i64 s] : Array Value)[o]?)) (by kernel_rfl) ?_ (fun hHeld => ?_)
    · exact c0
    refine wT 0 ?_
    refine wT 1 ?_
    refine wT 2 ?_
    refine wT 3 ?_
    refine wT 4 ?_
    refine wT 5 ?_
    refine wR 6 fun K hK => ?_
    go_simp
    refine (calls_bl keepsPV hVd (pfoot_any _ _ _ _ _)).mono ?_
    rintro e w1 ⟨rfl, hV1, hV1l⟩
    have c1 := loc_step hV1l (by simp) hHeld
    clear hV1l
    dsimp only
    refine hK.out _ _ ?_ (fun hHeld => ?_)
    · exact c1
    clear hK K
    try simp only [Act.put, zA, zB, zC, zD, zE, zF]
    refine wR 7 fun K hK => ?_
    go_simp
    refine (calls_st hV1 (G.out _)).mono ?_
    rintro e w2 ⟨rfl, hV2, hV2l⟩
    have c2 := loc_step hV2l (by simp) c1
    clear hV2l
    dsimp only
    refine hK.out _ _ ?_ (fun hHeld => ?_)
    · exact c2
    clear hK K
    try simp only [Act.put, zA, zB, zC, zD, zE, zF]
    refine wT 8 ?_
    refine wT 9 ?_
    refine wT 10 ?_
    refine wpAnyH_done (by kernel_rfl) (NoPanic.normal ?_) _
    go_wp2
    go_ret
    exact ⟨rfl, hV2.done keepsPV⟩

set_option maxHeartbeats 1000000 in
set_option maxRecDepth 100000 in
theorem hjoin_any (b : Nat) (t p s q r : Int) (w : World) (S : Nat → Prop) (st : VS) (h : PV w b S st) (hp : p ≤ 1024) (hr0 : 0 ≤ r) (hr1 : r ≤ 1024) :
    Calls Tryz.prog 99 #[.agg #[.pointer (some ⟨b, 0, none⟩), .int .i64 t, .int .i64 p, .int .i64 s], .int .i64 q, .int .i64 r] w fun e w' => e = .returned (.int .i64 (joinF t p s q r st).1) ∧ Now w b S (joinF t p s q r st).2 w' := by
  have hV := (VSt.start keepsPV h).alloc keepsPV (.cells #[.pointer (some ⟨b, 0, none⟩), .int .i64 t, .int .i64 p, .int .i64 s] 126)
  have c0 := loc_alloc w #[.pointer (some ⟨b, 0, none⟩), .int .i64 t, .int .i64 p, .int .i64 s] 126
  have hw1 : IntKind.i64.wrap (r - 1) = r - 1 := wrap_in _ (by omega)
  have G := fun (w : World) (S1 : Nat → Prop) (h1 : PV w b S1 st) => bdrop_any b t p s q w S1 st h1 hp
  have hF : joinF t p s q r st = ((dropF t p s q st).1, ((dropF t p s q st).2.put (ofF t p s r 0) 0).put (ofF t p s (r - 1) 1) 0) := rfl
  rw [hF]
  obtain ⟨l, s1, hl⟩ : ∃ l s1, dropF t p s q st = (l, s1) := ⟨_, _, rfl⟩
  rw [hl] at G ⊢
  dsimp only at G ⊢
  have HG := Lib.hid G
  clear h hF hl G
  go_enter Tryz.func99, Tryz.ntmps99
  go_wp2_with fail
  refine (calls_st hV (HG.out _)).mono ?_
  rintro e w1 ⟨rfl, hV1, hV1l⟩
  have c1 := loc_step hV1l (by simp) c0
  clear hV1l
  go_wp2_with fail
  have hV1d := hV1.drew keepsPV
  refine wp_region_noPanic ?_
  refine wp_region_held_drew (S := fun w' => (∀ o : Nat, w'.cell? ⟨w.heap.size, o, none⟩ = (#[.pointer (some ⟨b, 0, none⟩), .int .i64 t, .int .i64 p, .int .i64 s] : Array Value)[o]?)) (by kernel_rfl) ?_ (fun hHeld => ?_)
  · exact c1
  refine wT 0 ?_
  refine wT 1 ?_
  refine wT 2 ?_
  refine wT 3 ?_
  refine wT 4 ?_
  refine wR 5 fun K hK => ?_
  go_simp
  refine (calls_bl keepsPV hV1d (pinfo_any _ _ _ _ _)).mono ?_
  rintro e w2 ⟨rfl, hV2, hV2l⟩
  have c2 := loc_step hV2l (by simp) hHeld
  clear hV2l
  dsimp only
  refine hK.out _ _ ?_ (fun hHeld => ?_)
  · exact c2
  clear hK K
  try simp only [Act.put, zA, zB, zC, zD, zE, zF]
  refine wR 6 fun K hK => ?_
  go_simp
  refine (calls_st hV2 (fun S1 h1 => put_any _ _ _ _ _ _ h1 VS.u32_zero)).mono ?_
  rintro e w3 ⟨rfl, hV3, hV3l⟩
  have c3 := loc_step hV3l (by simp) c2
  clear hV3l
  dsimp only
  refine hK.out _ _ ?_ (fun hHeld => ?_)
  · exact c3
  clear hK K
  try simp only [Act.put, zA, zB, zC, zD, zE, zF]
  refine wpAnyH_done (by kernel_rfl) (NoPanic.normal ?_) _
  go_wp2_with fail
  have hV3d := hV3.drew keepsPV
  refine wp_region_noPanic ?_
  refine wp_region_held_drew (S := fun w' => (∀ o : Nat, w'.cell? ⟨w.heap.size, o, none⟩ = (#[.pointer (some ⟨b, 0, none⟩), .int .i64 t, .int .i64 p, .int .i64 s] : Array Value)[o]?)) (by kernel_rfl) ?_ (fun hHeld => ?_)
  · exact c3
  refine wT 0 ?_
  refine wT 1 ?_
  refine wT 2 ?_
  refine wT 3 ?_
  refine wT 4 ?_
  refine wT 5 ?_
  refine wR 6 fun K hK => ?_
  go_simp
  refine (calls_bl keepsPV hV3d (pfoot_any _ _ _ _ _)).mono ?_
  rintro e w4 ⟨rfl, hV4, hV4l⟩
  have c4 := loc_step hV4l (by simp) hHeld
  clear hV4l
  dsimp only
  refine hK.out _ _ ?_ (fun hHeld => ?_)
  · exact c4
  clear hK K
  try simp only [Act.put, zA, zB, zC, zD, zE, zF]
  refine wR 7 fun K hK => ?_
  go_simp
  refine (calls_st hV4 (fun S1 h1 => put_any _ _ _ _ _ _ h1 VS.u32_zero)).mono ?_
  rintro e w5 ⟨rfl, hV5, hV5l⟩
  have c5 := loc_step hV5l (by simp) c4
  clear hV5l
  dsimp only
  refine hK.out _ _ ?_ (fun hHeld => ?_)
  · exact c5
  clear hK K
  try simp only [Act.put, zA, zB, zC, zD, zE, zF]
  refine wpAnyH_done (by kernel_rfl) (NoPanic.normal ?_) _
  go_wp2
  go_ret
  exact ⟨rfl, hV5.done keepsPV⟩

set_option maxRecDepth 100000 in
theorem hcount_any (b : Nat) (t p s n : Int) (w : World) (S : Nat → Prop) (st : VS) (h : PV w b S st) (h0 : 0 ≤ n) (h1 : n ≤ 1024) :
    Calls Tryz.prog 101 #[.agg #[.pointer (some ⟨b, 0, none⟩), .int .i64 t, .int .i64 p, .int .i64 s], .int .i64 n] w fun e w' => e = .returned (.tuple #[]) ∧ Now w b S (countF n st) w' := by
  have hV := (VSt.start keepsPV h).alloc keepsPV (.cells #[.pointer (some ⟨b, 0, none⟩), .int .i64 t, .int .i64 p, .int .i64 s] 126)
  have c0 := loc_alloc w #[.pointer (some ⟨b, 0, none⟩), .int .i64 t, .int .i64 p, .int .i64 s] 126
  have hw1 : IntKind.u32.wrap n = n := IntWalk.u32_in _ (by omega)
  obtain ⟨v, s1, hg⟩ : ∃ v s1, st.get 0 = (v, s1) := ⟨_, _, rfl⟩
  have hF : countF n st = s1.put 0 (IntKind.u32.wrap (v + n)) := by unfold countF; rw [hg]
  have G := Lib.hid (get_as (b := b) hg)
  have hU := Lib.hid (show VS.U32 (IntKind.u32.wrap (v + n)) by unfold VS.U32; rw [IntKind.wrap_u32]; omega)
  rw [hF]
  obtain ⟨x, hx⟩ : ∃ x, x = IntKind.u32.wrap (v + n) := ⟨_, rfl⟩
  rw [← hx] at hU ⊢
  have hx2 := hx.symm
  clear h hF hg hx
  go_enter Tryz.func101, Tryz.ntmps101
  go_wp2_with fail
  have hVd := hV.drew keepsPV
  refine wp_region_noPanic ?_
  refine wp_region_held_drew (S := fun w' => (∀ o : Nat, w'.cell? ⟨w.heap.size, o, none⟩ = (#[.pointer (some ⟨b, 0, none⟩), .int .i64 t, .int .i64 p, .int .i64 s] : Array Value)[o]?)) (by kernel_rfl) ?_ (fun hHeld => ?_)
  · exact c0
  refine wT 0 ?_
  refine wT 1 ?_
  refine wT 2 ?_
  refine wT 3 ?_
  refine wT 5 ?_
  refine wT 6 ?_
  refine wR 4 fun K hK => ?_
  go_simp
  refine (calls_st hVd (G.out _)).mono ?_
  rintro e w1 ⟨rfl, hV1, hV1l⟩
  have c1 := loc_step hV1l (by simp) hHeld
  clear hV1l
  dsimp only
  refine hK.out _ _ ?_ (fun hHeld => ?_)
  · exact c1
  clear hK K
  try simp only [Act.put, zA, zB, zC, zD, zE, zF]
  refine wT 7 ?_
  refine wR 8 fun K hK => ?_
  go_simp
  refine (calls_st hV1 (fun S1 h1 => put_any _ _ _ _ _ _ h1 hU.out)).mono ?_
  rintro e w2 ⟨rfl, hV2, hV2l⟩
  have c2 := loc_step hV2l (by simp) c1
  clear hV2l
  dsimp only
  refine hK.out _ _ ?_ (fun hHeld => ?_)
  · exact c2
  clear hK K
  try simp only [Act.put, zA, zB, zC, zD, zE, zF]
  refine wpAnyH_done (by kernel_rfl) (NoPanic.normal ?_) _
  go_wp2
  go_end0
  exact ⟨rfl, hV2.done keepsPV⟩
end Go.Proofs.YtpmoajhpgekhcaaGreat
/- span of the program: Release. -/
set_option linter.unusedSimpArgs false
set_option linter.unusedVariables false
namespace Go.Proofs.YtpmoajhpgekhcaaGreat
open Go.RowKit

theorem cells2 {w : World} {L : Nat} {x y : Value} {T : TypeId} (h : w.heap[L]? = some (.cells #[x, y] T)) : (w.cell? ⟨L, 0, none⟩ = some x ∧ w.cell? ⟨L, 1, none⟩ = some y) ∧ w.frozen? ⟨L, 0, none⟩ = false ∧ w.frozen? ⟨L, 1, none⟩ = false :=
  ⟨⟨cell?_of_heap h, cell?_of_heap h⟩, frozen?_of_heap h, frozen?_of_heap h⟩
theorem dropF_bd (t p s q : Int) (st : VS) : 0 ≤ (dropF t p s q st).1 ∧ (dropF t p s q st).1 ≤ 1024 := by
  have h := freeV_bd (st.get (ofF t p s q 0)).1
  unfold dropF freeAt
  split <;> dsimp only <;> omega

set_option maxHeartbeats 4000000 in
set_option maxRecDepth 100000 in
theorem release_any (b : Nat) (t p s q n : Int) (w : World) (S : Nat → Prop) (st : VS) (h : PV w b S st) (hp : p ≤ 1024) (hq0 : 0 ≤ q) (hq1 : q ≤ 1024) (hn0 : 0 ≤ n) (hn1 : n ≤ 1024) :
    Calls Tryz.prog 80 #[.pointer (some ⟨b, 0, none⟩), .agg #[.int .i64 t, .int .i64 p, .int .i64 s], .int .i64 q, .int .i64 n] w fun e w' => e = .returned (.tuple #[]) ∧ Now w b S (releaseF t p s q n st) w' := by
  have hV := ((VSt.start keepsPV h).alloc keepsPV (.cells #[.int .i64 t, .int .i64 p, .int .i64 s] 23)).alloc keepsPV (.cells #[.pointer (some ⟨b, 0, none⟩), .int .i64 t, .int .i64 p, .int .i64 s] 126)
  have hA := hV.allocd #[.int .i64 q, .int .i64 n] 127
  have c0 := loc_old (.cells #[.int .i64 q, .int .i64 n] 127) (by simp; omega) (loc_old (.cells #[.pointer (some ⟨b, 0, none⟩), .int .i64 t, .int .i64 p, .int .i64 s] 126) (by simp) (loc_alloc w #[.int .i64 t, .int .i64 p, .int .i64 s] 23))
  have d0 := loc_old (.cells #[.int .i64 q, .int .i64 n] 127) (by simp) (loc_alloc (w.alloc (.cells #[.int .i64 t, .int .i64 p, .int .i64 s] 23)) #[.pointer (some ⟨b, 0, none⟩), .int .i64 t, .int .i64 p, .int .i64 s] 126)
  simp only [World.size_alloc] at hA c0 d0
  have HG := fun (w : World) (S1 : Nat → Prop) (h1 : PV w b S1 st) => hahead_any b t p s q w S1 st h1 hq0 hq1
  have hbk : backF t p s q n st = (if (aheadF t p s q st).1 < 0 then ((q, n), (aheadF t p s q st).2) else if (freeAt t p s (aheadF t p s q st).1 (aheadF t p s q st).2).1 = 0 then ((q, n), (freeAt t p s (aheadF t p s q st).1 (aheadF t p s q st).2).2) else (((aheadF t p s q st).1, n + (joinF t p s (aheadF t p s q st).1 q (freeAt t p s (aheadF t p s q st).1 (aheadF t p s q st).2).2).1), (joinF t p s (aheadF t p s q st).1 q (freeAt t p s (aheadF t p s q st).1 (aheadF t p s q st).2).2).2)) := rfl
  obtain ⟨bk, hb⟩ : ∃ x, backF t p s q n st = x := ⟨_, rfl⟩
  rw [hb] at hbk
  have hR : releaseF t p s q n st = countF n (addG t p s bk.1.1 (foreF t p s (q + n) bk.1.2 bk.2).1 (foreF t p s (q + n) bk.1.2 bk.2).2) := by unfold releaseF; rw [hb]
  rw [hR]
  clear hR hb h hV
  obtain ⟨f, s1, hf⟩ : ∃ f s1, aheadF t p s q st = (f, s1) := ⟨_, _, rfl⟩
  simp only [hf] at hbk HG
  have HH := Lib.hid HG
  clear hf HG
  have hwr : IntKind.i64.wrap (q + n) = q + n := wrap_in _ (by omega)
  by_cases hf0 : f < 0
  · rw [if_pos hf0] at hbk; subst hbk; dsimp only
    by_cases hr : q + n < p
    · have HF2 := fun (w : World) (S1 : Nat → Prop) (h1 : PV w b S1 s1) => hfree_any b t p s (q + n) w S1 s1 h1
      have hfo : foreF t p s (q + n) (n) s1 = (if (freeAt t p s (q + n) s1).1 = 0 then (n, (freeAt t p s (q + n) s1).2) else (n + (joinF t p s (q + n) (q + n) (freeAt t p s (q + n) s1).2).1, (joinF t p s (q + n) (q + n) (freeAt t p s (q + n) s1).2).2)) := by unfold foreF; rw [if_pos hr]
      have hl2 : 0 ≤ (freeAt t p s (q + n) s1).1 ∧ (freeAt t p s (q + n) s1).1 ≤ 1024 := ⟨(freeV_bd _).1, (freeV_bd _).2.1⟩
      rw [hfo]; clear hfo
      obtain ⟨l2, s4, hl⟩ : ∃ l s4, freeAt t p s (q + n) s1 = (l, s4) := ⟨_, _, rfl⟩
      rw [hl] at HF2 hl2 ⊢; dsimp only at HF2 hl2 ⊢; clear hl
      have HG2 := Lib.hid HF2; clear HF2
      by_cases h20 : l2 = 0
      · subst h20; clear hl2
        rw [if_pos rfl]; dsimp only
        have HAd := Lib.hid (fun (w : World) (S1 : Nat → Prop) (h1 : PV w b S1 s4) => badd_all b t p s q (n) w S1 s4 h1 hp)
        have HC := Lib.hid (fun (w : World) (S1 : Nat → Prop) (h1 : PV w b S1 (addG t p s q (n) s4)) => hcount_any b t p s n w S1 _ h1 hn0 hn1)
        generalize addG t p s q (n) s4 = s8 at *
        generalize countF n s8 = s9 at *
        go_enter Tryz.func80, Tryz.ntmps80
        obtain ⟨⟨k0, k1⟩, f0, f1⟩ := cells2 hA.box
        go_wp2_with fail
        refine (calls_st hA.vs (HH.out _)).mono ?_
        rintro e w1 ⟨rfl, hY, hYl⟩
        replace hA := hA.step hY hYl
        replace c0 := loc_step hYl (by simp) c0
        replace d0 := loc_step hYl (by simp) d0
        clear hY hYl
        obtain ⟨⟨k0, k1⟩, f0, f1⟩ := cells2 hA.box
        go_wp2_with fail
        refine (calls_st hA.vs (HG2.out _)).mono ?_
        rintro e w20 ⟨rfl, hY, hYl⟩
        replace hA := hA.step hY hYl
        replace c0 := loc_step hYl (by simp) c0
        replace d0 := loc_step hYl (by simp) d0
        clear hY hYl
        obtain ⟨⟨k0, k1⟩, f0, f1⟩ := cells2 hA.box
        go_wp2_with fail
        refine (calls_st hA.vs (HAd.out _)).mono ?_
        rintro e w21 ⟨rfl, hY, hYl⟩
        replace hA := hA.step hY hYl
        replace c0 := loc_step hYl (by simp) c0
        replace d0 := loc_step hYl (by simp) d0
        clear hY hYl
        obtain ⟨⟨k0, k1⟩, f0, f1⟩ := cells2 hA.box
        go_wp2_with fail
        refine (calls_st hA.vs (HC.out _)).mono ?_
        rintro e w22 ⟨rfl, hY, hYl⟩
        replace hA := hA.step hY hYl
        replace c0 := loc_step hYl (by simp) c0
        replace d0 := loc_step hYl (by simp) d0
        clear hY hYl
        obtain ⟨⟨k0, k1⟩, f0, f1⟩ := cells2 hA.box
        go_wp2
        go_end0
        exact ⟨rfl, hA.vs.done keepsPV⟩
      · rw [if_neg h20]
        have hl3 : 0 < l2 := by omega
        have hj2 := dropF_bd t p s (q + n) s4
        have HJ := fun (w : World) (S1 : Nat → Prop) (h1 : PV w b S1 s4) => hjoin_any b t p s (q + n) (q + n) w S1 s4 h1 hp (by omega) (by omega)
        rw [show (dropF t p s (q + n) s4).1 = (joinF t p s (q + n) (q + n) s4).1 from rfl] at hj2
        obtain ⟨j2, s5, hj⟩ : ∃ j s5, joinF t p s (q + n) (q + n) s4 = (j, s5) := ⟨_, _, rfl⟩
        rw [hj] at HJ hj2 ⊢; dsimp only at HJ hj2 ⊢; clear hj
        have HJ2 := Lib.hid HJ; clear HJ h20 hl2
        have hw5 : IntKind.i64.wrap (n + j2) = n + j2 := wrap_in _ (by omega)
        have HAd := Lib.hid (fun (w : World) (S1 : Nat → Prop) (h1 : PV w b S1 s5) => badd_all b t p s q (n + j2) w S1 s5 h1 hp)
        have HC := Lib.hid (fun (w : World) (S1 : Nat → Prop) (h1 : PV w b S1 (addG t p s q (n + j2) s5)) => hcount_any b t p s n w S1 _ h1 hn0 hn1)
        generalize addG t p s q (n + j2) s5 = s8 at *
        generalize countF n s8 = s9 at *
        go_enter Tryz.func80, Tryz.ntmps80
        obtain ⟨⟨k0, k1⟩, f0, f1⟩ := cells2 hA.box
        go_wp2_with fail
        refine (calls_st hA.vs (HH.out _)).mono ?_
        rintro e w1 ⟨rfl, hY, hYl⟩
        replace hA := hA.step hY hYl
        replace c0 := loc_step hYl (by simp) c0
        replace d0 := loc_step hYl (by simp) d0
        clear hY hYl
        obtain ⟨⟨k0, k1⟩, f0, f1⟩ := cells2 hA.box
        go_wp2_with fail
        refine (calls_st hA.vs (HG2.out _)).mono ?_
        rintro e w20 ⟨rfl, hY, hYl⟩
        replace hA := hA.step hY hYl
        replace c0 := loc_step hYl (by simp) c0
        replace d0 := loc_step hYl (by simp) d0
        clear hY hYl
        obtain ⟨⟨k0, k1⟩, f0, f1⟩ := cells2 hA.box
        clear k0 k1 f0 f1
        go_wp2_with fail
        have hX := hA.vs.drew keepsPV
        replace hA : VA w b S [w.heap.size + 1, w.heap.size] _ _ _ _ _ := hA.step hX (fun _ _ => rfl)
        refine wp_region_noPanic ?_
        refine wp_region_held_drew (S := fun w' => ((∀ o : Nat, w'.cell? ⟨w.heap.size + 1, o, none⟩ = (#[.pointer (some ⟨b, 0, none⟩), .int .i64 t, .int .i64 p, .int .i64 s] : Array Value)[o]?) ∧ (∀ o : Nat, w'.cell? ⟨w.heap.size, o, none⟩ = (#[.int .i64 t, .int .i64 p, .int .i64 s] : Array Value)[o]?))) (by kernel_rfl) ?_ (fun hHeld => ?_)
        · exact ⟨d0, c0⟩
        refine wT 0 ?_
        refine wT 2 ?_
        refine wT 3 ?_
        refine wT 4 ?_
        refine wpAnyH_ready (rs := [1, 5]) (by kernel_rfl) (by simp) ?_
        refine AllReadyH.cons (o := _) rfl (fun K hK => ?_) (AllReadyH.cons (o := _) rfl (fun K hK => ?_) AllReadyH.nil)
        · have k1 := (cells2 hA.box).1.2
          go_simp
          clear k1
          refine hK.out _ _ ?_ (fun hHeld => ?_)
          · exact hHeld
          clear hK K
          try simp only [Act.put, zA, zB, zC, zD, zE, zF]
          refine wR 5 fun K hK => ?_
          go_simp
          refine (calls_st hA.vs (HJ2.out _)).mono ?_
          rintro e w23 ⟨rfl, hY, hYl⟩
          replace hA := hA.step hY hYl
          have d1 := loc_step hYl (by simp) hHeld.1
          have c1 := loc_step hYl (by simp) hHeld.2
          clear hYl hY
          dsimp only
          refine hK.out _ _ ?_ (fun hHeld => ?_)
          · exact ⟨d1, c1⟩
          clear hK K
          try simp only [Act.put, zA, zB, zC, zD, zE, zF]
          refine wT 6 ?_
          refine wT 7 ?_
          refine wR 8 fun K hK => ?_
          obtain ⟨⟨k0, k1⟩, f0, f1⟩ := cells2 hA.box
          have hA2 : VA w b S [w.heap.size + 1, w.heap.size] _ #[.int .i64 q, .int .i64 (n + j2)] 127 s5 _ := hA.set 1 (.int .i64 (n + j2))
          go_simp
          clear k0 k1 f0 f1
          refine hK.out _ _ ?_ (fun hHeld => ?_)
          · exact ⟨hA.loc (by simp) 1 _ hHeld.1, hA.loc (by simp) 1 _ hHeld.2⟩
          clear hK K
          try simp only [Act.put, zA, zB, zC, zD, zE, zF]
          refine wpAnyH_done (by kernel_rfl) (NoPanic.normal ?_) _
          refine world_gen ?_
          intro wz hwz
          rw [← hwz] at hA2 hHeld
          clear hwz hA
          replace hA := hA2
          clear hA2
          have d0 := hHeld.1
          have c0 := hHeld.2
          obtain ⟨⟨k0, k1⟩, f0, f1⟩ := cells2 hA.box
          go_wp2_with fail
          refine (calls_st hA.vs (HAd.out _)).mono ?_
          rintro e w21 ⟨rfl, hY, hYl⟩
          replace hA := hA.step hY hYl
          replace c0 := loc_step hYl (by simp) c0
          replace d0 := loc_step hYl (by simp) d0
          clear hY hYl
          obtain ⟨⟨k0, k1⟩, f0, f1⟩ := cells2 hA.box
          go_wp2_with fail
          refine (calls_st hA.vs (HC.out _)).mono ?_
          rintro e w22 ⟨rfl, hY, hYl⟩
          replace hA := hA.step hY hYl
          replace c0 := loc_step hYl (by simp) c0
          replace d0 := loc_step hYl (by simp) d0
          clear hY hYl
          obtain ⟨⟨k0, k1⟩, f0, f1⟩ := cells2 hA.box
          go_wp2
          go_end0
          exact ⟨rfl, hA.vs.done keepsPV⟩
        · go_simp
          refine (calls_st hA.vs (HJ2.out _)).mono ?_
          rintro e w23 ⟨rfl, hY, hYl⟩
          replace hA := hA.step hY hYl
          have d1 := loc_step hYl (by simp) hHeld.1
          have c1 := loc_step hYl (by simp) hHeld.2
          clear hYl hY
          dsimp only
          refine hK.out _ _ ?_ (fun hHeld => ?_)
          · exact ⟨d1, c1⟩
          clear hK K
          try simp only [Act.put, zA, zB, zC, zD, zE, zF]
          refine wR 1 fun K hK => ?_
          have k1 := (cells2 hA.box).1.2
          go_simp
          clear k1
          refine hK.out _ _ ?_ (fun hHeld => ?_)
          · exact hHeld
          clear hK K
          try simp only [Act.put, zA, zB, zC, zD, zE, zF]
          refine wT 6 ?_
          refine wT 7 ?_
          refine wR 8 fun K hK => ?_
          obtain ⟨⟨k0, k1⟩, f0, f1⟩ := cells2 hA.box
          have hA2 : VA w b S [w.heap.size + 1, w.heap.size] _ #[.int .i64 q, .int .i64 (n + j2)] 127 s5 _ := hA.set 1 (.int .i64 (n + j2))
          go_simp
          clear k0 k1 f0 f1
          refine hK.out _ _ ?_ (fun hHeld => ?_)
          · exact ⟨hA.loc (by simp) 1 _ hHeld.1, hA.loc (by simp) 1 _ hHeld.2⟩
          clear hK K
          try simp only [Act.put, zA, zB, zC, zD, zE, zF]
          refine wpAnyH_done (by kernel_rfl) (NoPanic.normal ?_) _
          refine world_gen ?_
          intro wz hwz
          rw [← hwz] at hA2 hHeld
          clear hwz hA
          replace hA := hA2
          clear hA2
          have d0 := hHeld.1
          have c0 := hHeld.2
          obtain ⟨⟨k0, k1⟩, f0, f1⟩ := cells2 hA.box
          go_wp2_with fail
          refine (calls_st hA.vs (HAd.out _)).mono ?_
          rintro e w21 ⟨rfl, hY, hYl⟩
          replace hA := hA.step hY hYl
          replace c0 := loc_step hYl (by simp) c0
          replace d0 := loc_step hYl (by simp) d0
          clear hY hYl
          obtain ⟨⟨k0, k1⟩, f0, f1⟩ := cells2 hA.box
          go_wp2_with fail
          refine (calls_st hA.vs (HC.out _)).mono ?_
          rintro e w22 ⟨rfl, hY, hYl⟩
          replace hA := hA.step hY hYl
          replace c0 := loc_step hYl (by simp) c0
          replace d0 := loc_step hYl (by simp) d0
          clear hY hYl
          obtain ⟨⟨k0, k1⟩, f0, f1⟩ := cells2 hA.box
          go_wp2
          go_end0
          exact ⟨rfl, hA.vs.done keepsPV⟩
    · have hfo : foreF t p s (q + n) (n) s1 = (n, s1) := by unfold foreF; rw [if_neg hr]
      rw [hfo]; clear hfo; dsimp only
      have HAd := Lib.hid (fun (w : World) (S1 : Nat → Prop) (h1 : PV w b S1 s1) => badd_all b t p s q (n) w S1 s1 h1 hp)
      have HC := Lib.hid (fun (w : World) (S1 : Nat → Prop) (h1 : PV w b S1 (addG t p s q (n) s1)) => hcount_any b t p s n w S1 _ h1 hn0 hn1)
      generalize addG t p s q (n) s1 = s8 at *
      generalize countF n s8 = s9 at *
      go_enter Tryz.func80, Tryz.ntmps80
      obtain ⟨⟨k0, k1⟩, f0, f1⟩ := cells2 hA.box
      go_wp2_with fail
      refine (calls_st hA.vs (HH.out _)).mono ?_
      rintro e w1 ⟨rfl, hY, hYl⟩
      replace hA := hA.step hY hYl
      replace c0 := loc_step hYl (by simp) c0
      replace d0 := loc_step hYl (by simp) d0
      clear hY hYl
      obtain ⟨⟨k0, k1⟩, f0, f1⟩ := cells2 hA.box
      go_wp2_with fail
      refine (calls_st hA.vs (HAd.out _)).mono ?_
      rintro e w21 ⟨rfl, hY, hYl⟩
      replace hA := hA.step hY hYl
      replace c0 := loc_step hYl (by simp) c0
      replace d0 := loc_step hYl (by simp) d0
      clear hY hYl
      obtain ⟨⟨k0, k1⟩, f0, f1⟩ := cells2 hA.box
      go_wp2_with fail
      refine (calls_st hA.vs (HC.out _)).mono ?_
      rintro e w22 ⟨rfl, hY, hYl⟩
      replace hA := hA.step hY hYl
      replace c0 := loc_step hYl (by simp) c0
      replace d0 := loc_step hYl (by simp) d0
      clear hY hYl
      obtain ⟨⟨k0, k1⟩, f0, f1⟩ := cells2 hA.box
      go_wp2
      go_end0
      exact ⟨rfl, hA.vs.done keepsPV⟩
  · rw [if_neg hf0] at hbk
    have HF1 := fun (w : World) (S1 : Nat → Prop) (h1 : PV w b S1 s1) => hfree_any b t p s f w S1 s1 h1
    have hl1 : 0 ≤ (freeAt t p s f s1).1 ∧ (freeAt t p s f s1).1 ≤ 1024 := ⟨(freeV_bd _).1, (freeV_bd _).2.1⟩
    obtain ⟨l1, s2, hl⟩ : ∃ l s4, freeAt t p s f s1 = (l, s4) := ⟨_, _, rfl⟩
    rw [hl] at HF1 hl1 hbk; dsimp only at HF1 hl1 hbk; clear hl
    have HG1 := Lib.hid HF1; clear HF1
    by_cases h10 : l1 = 0
    · rw [if_pos h10] at hbk; subst hbk h10; dsimp only; clear hl1
      by_cases hr : q + n < p
      · have HF2 := fun (w : World) (S1 : Nat → Prop) (h1 : PV w b S1 s2) => hfree_any b t p s (q + n) w S1 s2 h1
        have hfo : foreF t p s (q + n) (n) s2 = (if (freeAt t p s (q + n) s2).1 = 0 then (n, (freeAt t p s (q + n) s2).2) else (n + (joinF t p s (q + n) (q + n) (freeAt t p s (q + n) s2).2).1, (joinF t p s (q + n) (q + n) (freeAt t p s (q + n) s2).2).2)) := by unfold foreF; rw [if_pos hr]
        have hl2 : 0 ≤ (freeAt t p s (q + n) s2).1 ∧ (freeAt t p s (q + n) s2).1 ≤ 1024 := ⟨(freeV_bd _).1, (freeV_bd _).2.1⟩
        rw [hfo]; clear hfo
        obtain ⟨l2, s4, hl⟩ : ∃ l s4, freeAt t p s (q + n) s2 = (l, s4) := ⟨_, _, rfl⟩
        rw [hl] at HF2 hl2 ⊢; dsimp only at HF2 hl2 ⊢; clear hl
        have HG2 := Lib.hid HF2; clear HF2
        by_cases h20 : l2 = 0
        · subst h20; clear hl2
          rw [if_pos rfl]; dsimp only
          have HAd := Lib.hid (fun (w : World) (S1 : Nat → Prop) (h1 : PV w b S1 s4) => badd_all b t p s q (n) w S1 s4 h1 hp)
          have HC := Lib.hid (fun (w : World) (S1 : Nat → Prop) (h1 : PV w b S1 (addG t p s q (n) s4)) => hcount_any b t p s n w S1 _ h1 hn0 hn1)
          generalize addG t p s q (n) s4 = s8 at *
          generalize countF n s8 = s9 at *
          go_enter Tryz.func80, Tryz.ntmps80
          obtain ⟨⟨k0, k1⟩, f0, f1⟩ := cells2 hA.box
          go_wp2_with fail
          refine (calls_st hA.vs (HH.out _)).mono ?_
          rintro e w1 ⟨rfl, hY, hYl⟩
          replace hA := hA.step hY hYl
          replace c0 := loc_step hYl (by simp) c0
          replace d0 := loc_step hYl (by simp) d0
          clear hY hYl
          obtain ⟨⟨k0, k1⟩, f0, f1⟩ := cells2 hA.box
          go_wp2_with fail
          refine (calls_st hA.vs (HG1.out _)).mono ?_
          rintro e w2 ⟨rfl, hY, hYl⟩
          replace hA := hA.step hY hYl
          replace c0 := loc_step hYl (by simp) c0
          replace d0 := loc_step hYl (by simp) d0
          clear hY hYl
          obtain ⟨⟨k0, k1⟩, f0, f1⟩ := cells2 hA.box
          go_wp2_with fail
          refine (calls_st hA.vs (HG2.out _)).mono ?_
          rintro e w20 ⟨rfl, hY, hYl⟩
          replace hA := hA.step hY hYl
          replace c0 := loc_step hYl (by simp) c0
          replace d0 := loc_step hYl (by simp) d0
          clear hY hYl
          obtain ⟨⟨k0, k1⟩, f0, f1⟩ := cells2 hA.box
          go_wp2_with fail
          refine (calls_st hA.vs (HAd.out _)).mono ?_
          rintro e w21 ⟨rfl, hY, hYl⟩
          replace hA := hA.step hY hYl
          replace c0 := loc_step hYl (by simp) c0
          replace d0 := loc_step hYl (by simp) d0
          clear hY hYl
          obtain ⟨⟨k0, k1⟩, f0, f1⟩ := cells2 hA.box
          go_wp2_with fail
          refine (calls_st hA.vs (HC.out _)).mono ?_
          rintro e w22 ⟨rfl, hY, hYl⟩
          replace hA := hA.step hY hYl
          replace c0 := loc_step hYl (by simp) c0
          replace d0 := loc_step hYl (by simp) d0
          clear hY hYl
          obtain ⟨⟨k0, k1⟩, f0, f1⟩ := cells2 hA.box
          go_wp2
          go_end0
          exact ⟨rfl, hA.vs.done keepsPV⟩
        · rw [if_neg h20]
          have hl3 : 0 < l2 := by omega
          have hj2 := dropF_bd t p s (q + n) s4
          have HJ := fun (w : World) (S1 : Nat → Prop) (h1 : PV w b S1 s4) => hjoin_any b t p s (q + n) (q + n) w S1 s4 h1 hp (by omega) (by omega)
          rw [show (dropF t p s (q + n) s4).1 = (joinF t p s (q + n) (q + n) s4).1 from rfl] at hj2
          obtain ⟨j2, s5, hj⟩ : ∃ j s5, joinF t p s (q + n) (q + n) s4 = (j, s5) := ⟨_, _, rfl⟩
          rw [hj] at HJ hj2 ⊢; dsimp only at HJ hj2 ⊢; clear hj
          have HJ2 := Lib.hid HJ; clear HJ h20 hl2
          have hw5 : IntKind.i64.wrap (n + j2) = n + j2 := wrap_in _ (by omega)
          have HAd := Lib.hid (fun (w : World) (S1 : Nat → Prop) (h1 : PV w b S1 s5) => badd_all b t p s q (n + j2) w S1 s5 h1 hp)
          have HC := Lib.hid (fun (w : World) (S1 : Nat → Prop) (h1 : PV w b S1 (addG t p s q (n + j2) s5)) => hcount_any b t p s n w S1 _ h1 hn0 hn1)
          generalize addG t p s q (n + j2) s5 = s8 at *
          generalize countF n s8 = s9 at *
          go_enter Tryz.func80, Tryz.ntmps80
          obtain ⟨⟨k0, k1⟩, f0, f1⟩ := cells2 hA.box
          go_wp2_with fail
          refine (calls_st hA.vs (HH.out _)).mono ?_
          rintro e w1 ⟨rfl, hY, hYl⟩
          replace hA := hA.step hY hYl
          replace c0 := loc_step hYl (by simp) c0
          replace d0 := loc_step hYl (by simp) d0
          clear hY hYl
          obtain ⟨⟨k0, k1⟩, f0, f1⟩ := cells2 hA.box
          go_wp2_with fail
          refine (calls_st hA.vs (HG1.out _)).mono ?_
          rintro e w2 ⟨rfl, hY, hYl⟩
          replace hA := hA.step hY hYl
          replace c0 := loc_step hYl (by simp) c0
          replace d0 := loc_step hYl (by simp) d0
          clear hY hYl
          obtain ⟨⟨k0, k1⟩, f0, f1⟩ := cells2 hA.box
          go_wp2_with fail
          refine (calls_st hA.vs (HG2.out _)).mono ?_
          rintro e w20 ⟨rfl, hY, hYl⟩
          replace hA := hA.step hY hYl
          replace c0 := loc_step hYl (by simp) c0
          replace d0 := loc_step hYl (by simp) d0
          clear hY hYl
          obtain ⟨⟨k0, k1⟩, f0, f1⟩ := cells2 hA.box
          clear k0 k1 f0 f1
          go_wp2_with fail
          have hX := hA.vs.drew keepsPV
          replace hA : VA w b S [w.heap.size + 1, w.heap.size] _ _ _ _ _ := hA.step hX (fun _ _ => rfl)
          refine wp_region_noPanic ?_
          refine wp_region_held_drew (S := fun w' => ((∀ o : Nat, w'.cell? ⟨w.heap.size + 1, o, none⟩ = (#[.pointer (some ⟨b, 0, none⟩), .int .i64 t, .int .i64 p, .int .i64 s] : Array Value)[o]?) ∧ (∀ o : Nat, w'.cell? ⟨w.heap.size, o, none⟩ = (#[.int .i64 t, .int .i64 p, .int .i64 s] : Array Value)[o]?))) (by kernel_rfl) ?_ (fun hHeld => ?_)
          · exact ⟨d0, c0⟩
          refine wT 0 ?_
          refine wT 2 ?_
          refine wT 3 ?_
          refine wT 4 ?_
          refine wpAnyH_ready (rs := [1, 5]) (by kernel_rfl) (by simp) ?_
          refine AllReadyH.cons (o := _) rfl (fun K hK => ?_) (AllReadyH.cons (o := _) rfl (fun K hK => ?_) AllReadyH.nil)
          · have k1 := (cells2 hA.box).1.2
            go_simp
            clear k1
            refine hK.out _ _ ?_ (fun hHeld => ?_)
            · exact hHeld
            clear hK K
            try simp only [Act.put, zA, zB, zC, zD, zE, zF]
            refine wR 5 fun K hK => ?_
            go_simp
            refine (calls_st hA.vs (HJ2.out _)).mono ?_
            rintro e w23 ⟨rfl, hY, hYl⟩
            replace hA := hA.step hY hYl
            have d1 := loc_step hYl (by simp) hHeld.1
            have c1 := loc_step hYl (by simp) hHeld.2
            clear hYl hY
            dsimp only
            refine hK.out _ _ ?_ (fun hHeld => ?_)
            · exact ⟨d1, c1⟩
            clear hK K
            try simp only [Act.put, zA, zB, zC, zD, zE, zF]
            refine wT 6 ?_
            refine wT 7 ?_
            refine wR 8 fun K hK => ?_
            obtain ⟨⟨k0, k1⟩, f0, f1⟩ := cells2 hA.box
            have hA2 : VA w b S [w.heap.size + 1, w.heap.size] _ #[.int .i64 q, .int .i64 (n + j2)] 127 s5 _ := hA.set 1 (.int .i64 (n + j2))
            go_simp
            clear k0 k1 f0 f1
            refine hK.out _ _ ?_ (fun hHeld => ?_)
            · exact ⟨hA.loc (by simp) 1 _ hHeld.1, hA.loc (by simp) 1 _ hHeld.2⟩
            clear hK K
            try simp only [Act.put, zA, zB, zC, zD, zE, zF]
            refine wpAnyH_done (by kernel_rfl) (NoPanic.normal ?_) _
            refine world_gen ?_
            intro wz hwz
            rw [← hwz] at hA2 hHeld
            clear hwz hA
            replace hA := hA2
            clear hA2
            have d0 := hHeld.1
            have c0 := hHeld.2
            obtain ⟨⟨k0, k1⟩, f0, f1⟩ := cells2 hA.box
            go_wp2_with fail
            refine (calls_st hA.vs (HAd.out _)).mono ?_
            rintro e w21 ⟨rfl, hY, hYl⟩
            replace hA := hA.step hY hYl
            replace c0 := loc_step hYl (by simp) c0
            replace d0 := loc_step hYl (by simp) d0
            clear hY hYl
            obtain ⟨⟨k0, k1⟩, f0, f1⟩ := cells2 hA.box
            go_wp2_with fail
            refine (calls_st hA.vs (HC.out _)).mono ?_
            rintro e w22 ⟨rfl, hY, hYl⟩
            replace hA := hA.step hY hYl
            replace c0 := loc_step hYl (by simp) c0
            replace d0 := loc_step hYl (by simp) d0
            clear hY hYl
            obtain ⟨⟨k0, k1⟩, f0, f1⟩ := cells2 hA.box
            go_wp2
            go_end0
            exact ⟨rfl, hA.vs.done keepsPV⟩
          · go_simp
            refine (calls_st hA.vs (HJ2.out _)).mono ?_
            rintro e w23 ⟨rfl, hY, hYl⟩
            replace hA := hA.step hY hYl
            have d1 := loc_step hYl (by simp) hHeld.1
            have c1 := loc_step hYl (by simp) hHeld.2
            clear hYl hY
            dsimp only
            refine hK.out _ _ ?_ (fun hHeld => ?_)
            · exact ⟨d1, c1⟩
            clear hK K
            try simp only [Act.put, zA, zB, zC, zD, zE, zF]
            refine wR 1 fun K hK => ?_
            have k1 := (cells2 hA.box).1.2
            go_simp
            clear k1
            refine hK.out _ _ ?_ (fun hHeld => ?_)
            · exact hHeld
            clear hK K
            try simp only [Act.put, zA, zB, zC, zD, zE, zF]
            refine wT 6 ?_
            refine wT 7 ?_
            refine wR 8 fun K hK => ?_
            obtain ⟨⟨k0, k1⟩, f0, f1⟩ := cells2 hA.box
            have hA2 : VA w b S [w.heap.size + 1, w.heap.size] _ #[.int .i64 q, .int .i64 (n + j2)] 127 s5 _ := hA.set 1 (.int .i64 (n + j2))
            go_simp
            clear k0 k1 f0 f1
            refine hK.out _ _ ?_ (fun hHeld => ?_)
            · exact ⟨hA.loc (by simp) 1 _ hHeld.1, hA.loc (by simp) 1 _ hHeld.2⟩
            clear hK K
            try simp only [Act.put, zA, zB, zC, zD, zE, zF]
            refine wpAnyH_done (by kernel_rfl) (NoPanic.normal ?_) _
            refine world_gen ?_
            intro wz hwz
            rw [← hwz] at hA2 hHeld
            clear hwz hA
            replace hA := hA2
            clear hA2
            have d0 := hHeld.1
            have c0 := hHeld.2
            obtain ⟨⟨k0, k1⟩, f0, f1⟩ := cells2 hA.box
            go_wp2_with fail
            refine (calls_st hA.vs (HAd.out _)).mono ?_
            rintro e w21 ⟨rfl, hY, hYl⟩
            replace hA := hA.step hY hYl
            replace c0 := loc_step hYl (by simp) c0
            replace d0 := loc_step hYl (by simp) d0
            clear hY hYl
            obtain ⟨⟨k0, k1⟩, f0, f1⟩ := cells2 hA.box
            go_wp2_with fail
            refine (calls_st hA.vs (HC.out _)).mono ?_
            rintro e w22 ⟨rfl, hY, hYl⟩
            replace hA := hA.step hY hYl
            replace c0 := loc_step hYl (by simp) c0
            replace d0 := loc_step hYl (by simp) d0
            clear hY hYl
            obtain ⟨⟨k0, k1⟩, f0, f1⟩ := cells2 hA.box
            go_wp2
            go_end0
            exact ⟨rfl, hA.vs.done keepsPV⟩
      · have hfo : foreF t p s (q + n) (n) s2 = (n, s2) := by unfold foreF; rw [if_neg hr]
        rw [hfo]; clear hfo; dsimp only
        have HAd := Lib.hid (fun (w : World) (S1 : Nat → Prop) (h1 : PV w b S1 s2) => badd_all b t p s q (n) w S1 s2 h1 hp)
        have HC := Lib.hid (fun (w : World) (S1 : Nat → Prop) (h1 : PV w b S1 (addG t p s q (n) s2)) => hcount_any b t p s n w S1 _ h1 hn0 hn1)
        generalize addG t p s q (n) s2 = s8 at *
        generalize countF n s8 = s9 at *
        go_enter Tryz.func80, Tryz.ntmps80
        obtain ⟨⟨k0, k1⟩, f0, f1⟩ := cells2 hA.box
        go_wp2_with fail
        refine (calls_st hA.vs (HH.out _)).mono ?_
        rintro e w1 ⟨rfl, hY, hYl⟩
        replace hA := hA.step hY hYl
        replace c0 := loc_step hYl (by simp) c0
        replace d0 := loc_step hYl (by simp) d0
        clear hY hYl
        obtain ⟨⟨k0, k1⟩, f0, f1⟩ := cells2 hA.box
        go_wp2_with fail
        refine (calls_st hA.vs (HG1.out _)).mono ?_
        rintro e w2 ⟨rfl, hY, hYl⟩
        replace hA := hA.step hY hYl
        replace c0 := loc_step hYl (by simp) c0
        replace d0 := loc_step hYl (by simp) d0
        clear hY hYl
        obtain ⟨⟨k0, k1⟩, f0, f1⟩ := cells2 hA.box
        go_wp2_with fail
        refine (calls_st hA.vs (HAd.out _)).mono ?_
        rintro e w21 ⟨rfl, hY, hYl⟩
        replace hA := hA.step hY hYl
        replace c0 := loc_step hYl (by simp) c0
        replace d0 := loc_step hYl (by simp) d0
        clear hY hYl
        obtain ⟨⟨k0, k1⟩, f0, f1⟩ := cells2 hA.box
        go_wp2_with fail
        refine (calls_st hA.vs (HC.out _)).mono ?_
        rintro e w22 ⟨rfl, hY, hYl⟩
        replace hA := hA.step hY hYl
        replace c0 := loc_step hYl (by simp) c0
        replace d0 := loc_step hYl (by simp) d0
        clear hY hYl
        obtain ⟨⟨k0, k1⟩, f0, f1⟩ := cells2 hA.box
        go_wp2
        go_end0
        exact ⟨rfl, hA.vs.done keepsPV⟩
    · rw [if_neg h10] at hbk
      have hl4 : 0 < l1 := by omega
      have hj1 := dropF_bd t p s f s2
      have HJ := fun (w : World) (S1 : Nat → Prop) (h1 : PV w b S1 s2) => hjoin_any b t p s f q w S1 s2 h1 hp hq0 hq1
      rw [show (dropF t p s f s2).1 = (joinF t p s f q s2).1 from rfl] at hj1
      obtain ⟨j1, s3, hj⟩ : ∃ j s5, joinF t p s f q s2 = (j, s5) := ⟨_, _, rfl⟩
      rw [hj] at HJ hj1 hbk; dsimp only at HJ hj1 hbk; clear hj
      have HJ1 := Lib.hid HJ; clear HJ h10 hl1; subst hbk; dsimp only
      have hw4 : IntKind.i64.wrap (n + j1) = n + j1 := wrap_in _ (by omega)
      by_cases hr : q + n < p
      · have HF2 := fun (w : World) (S1 : Nat → Prop) (h1 : PV w b S1 s3) => hfree_any b t p s (q + n) w S1 s3 h1
        have hfo : foreF t p s (q + n) (n + j1) s3 = (if (freeAt t p s (q + n) s3).1 = 0 then (n + j1, (freeAt t p s (q + n) s3).2) else (n + j1 + (joinF t p s (q + n) (q + n) (freeAt t p s (q + n) s3).2).1, (joinF t p s (q + n) (q + n) (freeAt t p s (q + n) s3).2).2)) := by unfold foreF; rw [if_pos hr]
        have hl2 : 0 ≤ (freeAt t p s (q + n) s3).1 ∧ (freeAt t p s (q + n) s3).1 ≤ 1024 := ⟨(freeV_bd _).1, (freeV_bd _).2.1⟩
        rw [hfo]; clear hfo
        obtain ⟨l2, s4, hl⟩ : ∃ l s4, freeAt t p s (q + n) s3 = (l, s4) := ⟨_, _, rfl⟩
        rw [hl] at HF2 hl2 ⊢; dsimp only at HF2 hl2 ⊢; clear hl
        have HG2 := Lib.hid HF2; clear HF2
        by_cases h20 : l2 = 0
        · subst h20; clear hl2
          rw [if_pos rfl]; dsimp only
          have HAd := Lib.hid (fun (w : World) (S1 : Nat → Prop) (h1 : PV w b S1 s4) => badd_all b t p s f (n + j1) w S1 s4 h1 hp)
          have HC := Lib.hid (fun (w : World) (S1 : Nat → Prop) (h1 : PV w b S1 (addG t p s f (n + j1) s4)) => hcount_any b t p s n w S1 _ h1 hn0 hn1)
          generalize addG t p s f (n + j1) s4 = s8 at *
          generalize countF n s8 = s9 at *
          go_enter Tryz.func80, Tryz.ntmps80
          obtain ⟨⟨k0, k1⟩, f0, f1⟩ := cells2 hA.box
          go_wp2_with fail
          refine (calls_st hA.vs (HH.out _)).mono ?_
          rintro e w1 ⟨rfl, hY, hYl⟩
          replace hA := hA.step hY hYl
          replace c0 := loc_step hYl (by simp) c0
          replace d0 := loc_step hYl (by simp) d0
          clear hY hYl
          obtain ⟨⟨k0, k1⟩, f0, f1⟩ := cells2 hA.box
          go_wp2_with fail
          refine (calls_st hA.vs (HG1.out _)).mono ?_
          rintro e w2 ⟨rfl, hY, hYl⟩
          replace hA := hA.step hY hYl
          replace c0 := loc_step hYl (by simp) c0
          replace d0 := loc_step hYl (by simp) d0
          clear hY hYl
          obtain ⟨⟨k0, k1⟩, f0, f1⟩ := cells2 hA.box
          go_wp2_with fail
          refine (calls_st hA.vs (HJ1.out _)).mono ?_
          rintro e w3 ⟨rfl, hY, hYl⟩
          replace hA := hA.step hY hYl
          replace c0 := loc_step hYl (by simp) c0
          replace d0 := loc_step hYl (by simp) d0
          clear hY hYl
          obtain ⟨⟨k0, k1⟩, f0, f1⟩ := cells2 hA.box
          clear k0 k1
          obtain ⟨⟨k0, k1⟩, f0, f1⟩ := cells2 hA.box
          go_wp2_with fail
          replace d0 := (hA.set 0 (.int .i64 f)).loc (by simp) 1 (.int .i64 (n + j1)) (hA.loc (by simp) 0 (.int .i64 f) d0)
          replace c0 := (hA.set 0 (.int .i64 f)).loc (by simp) 1 (.int .i64 (n + j1)) (hA.loc (by simp) 0 (.int .i64 f) c0)
          have hA2 : VA w b S [w.heap.size + 1, w.heap.size] _ #[.int .i64 f, .int .i64 (n + j1)] 127 s3 _ := (hA.set 0 (.int .i64 f)).set 1 (.int .i64 (n + j1))
          clear k0 k1 f0 f1 hA
          have hA := hA2
          clear hA2
          obtain ⟨⟨k0, k1⟩, f0, f1⟩ := cells2 hA.box
          refine (calls_st hA.vs (HG2.out _)).mono ?_
          rintro e w20 ⟨rfl, hY, hYl⟩
          replace hA := hA.step hY hYl
          replace c0 := loc_step hYl (by simp) c0
          replace d0 := loc_step hYl (by simp) d0
          clear hY hYl
          obtain ⟨⟨k0, k1⟩, f0, f1⟩ := cells2 hA.box
          go_wp2_with fail
          refine (calls_st hA.vs (HAd.out _)).mono ?_
          rintro e w21 ⟨rfl, hY, hYl⟩
          replace hA := hA.step hY hYl
          replace c0 := loc_step hYl (by simp) c0
          replace d0 := loc_step hYl (by simp) d0
          clear hY hYl
          obtain ⟨⟨k0, k1⟩, f0, f1⟩ := cells2 hA.box
          go_wp2_with fail
          refine (calls_st hA.vs (HC.out _)).mono ?_
          rintro e w22 ⟨rfl, hY, hYl⟩
          replace hA := hA.step hY hYl
          replace c0 := loc_step hYl (by simp) c0
          replace d0 := loc_step hYl (by simp) d0
          clear hY hYl
          obtain ⟨⟨k0, k1⟩, f0, f1⟩ := cells2 hA.box
          go_wp2
          go_end0
          exact ⟨rfl, hA.vs.done keepsPV⟩
        · rw [if_neg h20]
          have hl3 : 0 < l2 := by omega
          have hj2 := dropF_bd t p s (q + n) s4
          have HJ := fun (w : World) (S1 : Nat → Prop) (h1 : PV w b S1 s4) => hjoin_any b t p s (q + n) (q + n) w S1 s4 h1 hp (by omega) (by omega)
          rw [show (dropF t p s (q + n) s4).1 = (joinF t p s (q + n) (q + n) s4).1 from rfl] at hj2
          obtain ⟨j2, s5, hj⟩ : ∃ j s5, joinF t p s (q + n) (q + n) s4 = (j, s5) := ⟨_, _, rfl⟩
          rw [hj] at HJ hj2 ⊢; dsimp only at HJ hj2 ⊢; clear hj
          have HJ2 := Lib.hid HJ; clear HJ h20 hl2
          have hw5 : IntKind.i64.wrap (n + j1 + j2) = n + j1 + j2 := wrap_in _ (by omega)
          have HAd := Lib.hid (fun (w : World) (S1 : Nat → Prop) (h1 : PV w b S1 s5) => badd_all b t p s f (n + j1 + j2) w S1 s5 h1 hp)
          have HC := Lib.hid (fun (w : World) (S1 : Nat → Prop) (h1 : PV w b S1 (addG t p s f (n + j1 + j2) s5)) => hcount_any b t p s n w S1 _ h1 hn0 hn1)
          generalize addG t p s f (n + j1 + j2) s5 = s8 at *
          generalize countF n s8 = s9 at *
          go_enter Tryz.func80, Tryz.ntmps80
          obtain ⟨⟨k0, k1⟩, f0, f1⟩ := cells2 hA.box
          go_wp2_with fail
          refine (calls_st hA.vs (HH.out _)).mono ?_
          rintro e w1 ⟨rfl, hY, hYl⟩
          replace hA := hA.step hY hYl
          replace c0 := loc_step hYl (by simp) c0
          replace d0 := loc_step hYl (by simp) d0
          clear hY hYl
          obtain ⟨⟨k0, k1⟩, f0, f1⟩ := cells2 hA.box
          go_wp2_with fail
          refine (calls_st hA.vs (HG1.out _)).mono ?_
          rintro e w2 ⟨rfl, hY, hYl⟩
          replace hA := hA.step hY hYl
          replace c0 := loc_step hYl (by simp) c0
          replace d0 := loc_step hYl (by simp) d0
          clear hY hYl
          obtain ⟨⟨k0, k1⟩, f0, f1⟩ := cells2 hA.box
          go_wp2_with fail
          refine (calls_st hA.vs (HJ1.out _)).mono ?_
          rintro e w3 ⟨rfl, hY, hYl⟩
          replace hA := hA.step hY hYl
          replace c0 := loc_step hYl (by simp) c0
          replace d0 := loc_step hYl (by simp) d0
          clear hY hYl
          obtain ⟨⟨k0, k1⟩, f0, f1⟩ := cells2 hA.box
          clear k0 k1
          obtain ⟨⟨k0, k1⟩, f0, f1⟩ := cells2 hA.box
          go_wp2_with fail
          replace d0 := (hA.set 0 (.int .i64 f)).loc (by simp) 1 (.int .i64 (n + j1)) (hA.loc (by simp) 0 (.int .i64 f) d0)
          replace c0 := (hA.set 0 (.int .i64 f)).loc (by simp) 1 (.int .i64 (n + j1)) (hA.loc (by simp) 0 (.int .i64 f) c0)
          have hA2 : VA w b S [w.heap.size + 1, w.heap.size] _ #[.int .i64 f, .int .i64 (n + j1)] 127 s3 _ := (hA.set 0 (.int .i64 f)).set 1 (.int .i64 (n + j1))
          clear k0 k1 f0 f1 hA
          have hA := hA2
          clear hA2
          obtain ⟨⟨k0, k1⟩, f0, f1⟩ := cells2 hA.box
          refine (calls_st hA.vs (HG2.out _)).mono ?_
          rintro e w20 ⟨rfl, hY, hYl⟩
          replace hA := hA.step hY hYl
          replace c0 := loc_step hYl (by simp) c0
          replace d0 := loc_step hYl (by simp) d0
          clear hY hYl
          obtain ⟨⟨k0, k1⟩, f0, f1⟩ := cells2 hA.box
          clear k0 k1 f0 f1
          go_wp2_with fail
          have hX := hA.vs.drew keepsPV
          replace hA : VA w b S [w.heap.size + 1, w.heap.size] _ _ _ _ _ := hA.step hX (fun _ _ => rfl)
          refine wp_region_noPanic ?_
          refine wp_region_held_drew (S := fun w' => ((∀ o : Nat, w'.cell? ⟨w.heap.size + 1, o, none⟩ = (#[.pointer (some ⟨b, 0, none⟩), .int .i64 t, .int .i64 p, .int .i64 s] : Array Value)[o]?) ∧ (∀ o : Nat, w'.cell? ⟨w.heap.size, o, none⟩ = (#[.int .i64 t, .int .i64 p, .int .i64 s] : Array Value)[o]?))) (by kernel_rfl) ?_ (fun hHeld => ?_)
          · exact ⟨d0, c0⟩
          refine wT 0 ?_
          refine wT 2 ?_
          refine wT 3 ?_
          refine wT 4 ?_
          refine wpAnyH_ready (rs := [1, 5]) (by kernel_rfl) (by simp) ?_
          refine AllReadyH.cons (o := _) rfl (fun K hK => ?_) (AllReadyH.cons (o := _) rfl (fun K hK => ?_) AllReadyH.nil)
          · have k1 := (cells2 hA.box).1.2
            go_simp
            clear k1
            refine hK.out _ _ ?_ (fun hHeld => ?_)
            · exact hHeld
            clear hK K
            try simp only [Act.put, zA, zB, zC, zD, zE, zF]
            refine wR 5 fun K hK => ?_
            go_simp
            refine (calls_st hA.vs (HJ2.out _)).mono ?_
            rintro e w23 ⟨rfl, hY, hYl⟩
            replace hA := hA.step hY hYl
            have d1 := loc_step hYl (by simp) hHeld.1
            have c1 := loc_step hYl (by simp) hHeld.2
            clear hYl hY
            dsimp only
            refine hK.out _ _ ?_ (fun hHeld => ?_)
            · exact ⟨d1, c1⟩
            clear hK K
            try simp only [Act.put, zA, zB, zC, zD, zE, zF]
            refine wT 6 ?_
            refine wT 7 ?_
            refine wR 8 fun K hK => ?_
            obtain ⟨⟨k0, k1⟩, f0, f1⟩ := cells2 hA.box
            have hA2 : VA w b S [w.heap.size + 1, w.heap.size] _ #[.int .i64 f, .int .i64 (n + j1 + j2)] 127 s5 _ := hA.set 1 (.int .i64 (n + j1 + j2))
            go_simp
            clear k0 k1 f0 f1
            refine hK.out _ _ ?_ (fun hHeld => ?_)
            · exact ⟨hA.loc (by simp) 1 _ hHeld.1, hA.loc (by simp) 1 _ hHeld.2⟩
            clear hK K
            try simp only [Act.put, zA, zB, zC, zD, zE, zF]
            refine wpAnyH_done (by kernel_rfl) (NoPanic.normal ?_) _
            refine world_gen ?_
            intro wz hwz
            rw [← hwz] at hA2 hHeld
            clear hwz hA
            replace hA := hA2
            clear hA2
            have d0 := hHeld.1
            have c0 := hHeld.2
            obtain ⟨⟨k0, k1⟩, f0, f1⟩ := cells2 hA.box
            go_wp2_with fail
            refine (calls_st hA.vs (HAd.out _)).mono ?_
            rintro e w21 ⟨rfl, hY, hYl⟩
            replace hA := hA.step hY hYl
            replace c0 := loc_step hYl (by simp) c0
            replace d0 := loc_step hYl (by simp) d0
            clear hY hYl
            obtain ⟨⟨k0, k1⟩, f0, f1⟩ := cells2 hA.box
            go_wp2_with fail
            refine (calls_st hA.vs (HC.out _)).mono ?_
            rintro e w22 ⟨rfl, hY, hYl⟩
            replace hA := hA.step hY hYl
            replace c0 := loc_step hYl (by simp) c0
            replace d0 := loc_step hYl (by simp) d0
            clear hY hYl
            obtain ⟨⟨k0, k1⟩, f0, f1⟩ := cells2 hA.box
            go_wp2
            go_end0
            exact ⟨rfl, hA.vs.done keepsPV⟩
          · go_simp
            refine (calls_st hA.vs (HJ2.out _)).mono ?_
            rintro e w23 ⟨rfl, hY, hYl⟩
            replace hA := hA.step hY hYl
            have d1 := loc_step hYl (by simp) hHeld.1
            have c1 := loc_step hYl (by simp) hHeld.2
            clear hYl hY
            dsimp only
            refine hK.out _ _ ?_ (fun hHeld => ?_)
            · exact ⟨d1, c1⟩
            clear hK K
            try simp only [Act.put, zA, zB, zC, zD, zE, zF]
            refine wR 1 fun K hK => ?_
            have k1 := (cells2 hA.box).1.2
            go_simp
            clear k1
            refine hK.out _ _ ?_ (fun hHeld => ?_)
            · exact hHeld
            clear hK K
            try simp only [Act.put, zA, zB, zC, zD, zE, zF]
            refine wT 6 ?_
            refine wT 7 ?_
            refine wR 8 fun K hK => ?_
            obtain ⟨⟨k0, k1⟩, f0, f1⟩ := cells2 hA.box
            have hA2 : VA w b S [w.heap.size + 1, w.heap.size] _ #[.int .i64 f, .int .i64 (n + j1 + j2)] 127 s5 _ := hA.set 1 (.int .i64 (n + j1 + j2))
            go_simp
            clear k0 k1 f0 f1
            refine hK.out _ _ ?_ (fun hHeld => ?_)
            · exact ⟨hA.loc (by simp) 1 _ hHeld.1, hA.loc (by simp) 1 _ hHeld.2⟩
            clear hK K
            try simp only [Act.put, zA, zB, zC, zD, zE, zF]
            refine wpAnyH_done (by kernel_rfl) (NoPanic.normal ?_) _
            refine world_gen ?_
            intro wz hwz
            rw [← hwz] at hA2 hHeld
            clear hwz hA
            replace hA := hA2
            clear hA2
            have d0 := hHeld.1
            have c0 := hHeld.2
            obtain ⟨⟨k0, k1⟩, f0, f1⟩ := cells2 hA.box
            go_wp2_with fail
            refine (calls_st hA.vs (HAd.out _)).mono ?_
            rintro e w21 ⟨rfl, hY, hYl⟩
            replace hA := hA.step hY hYl
            replace c0 := loc_step hYl (by simp) c0
            replace d0 := loc_step hYl (by simp) d0
            clear hY hYl
            obtain ⟨⟨k0, k1⟩, f0, f1⟩ := cells2 hA.box
            go_wp2_with fail
            refine (calls_st hA.vs (HC.out _)).mono ?_
            rintro e w22 ⟨rfl, hY, hYl⟩
            replace hA := hA.step hY hYl
            replace c0 := loc_step hYl (by simp) c0
            replace d0 := loc_step hYl (by simp) d0
            clear hY hYl
            obtain ⟨⟨k0, k1⟩, f0, f1⟩ := cells2 hA.box
            go_wp2
            go_end0
            exact ⟨rfl, hA.vs.done keepsPV⟩
      · have hfo : foreF t p s (q + n) (n + j1) s3 = (n + j1, s3) := by unfold foreF; rw [if_neg hr]
        rw [hfo]; clear hfo; dsimp only
        have HAd := Lib.hid (fun (w : World) (S1 : Nat → Prop) (h1 : PV w b S1 s3) => badd_all b t p s f (n + j1) w S1 s3 h1 hp)
        have HC := Lib.hid (fun (w : World) (S1 : Nat → Prop) (h1 : PV w b S1 (addG t p s f (n + j1) s3)) => hcount_any b t p s n w S1 _ h1 hn0 hn1)
        generalize addG t p s f (n + j1) s3 = s8 at *
        generalize countF n s8 = s9 at *
        go_enter Tryz.func80, Tryz.ntmps80
        obtain ⟨⟨k0, k1⟩, f0, f1⟩ := cells2 hA.box
        go_wp2_with fail
        refine (calls_st hA.vs (HH.out _)).mono ?_
        rintro e w1 ⟨rfl, hY, hYl⟩
        replace hA := hA.step hY hYl
        replace c0 := loc_step hYl (by simp) c0
        replace d0 := loc_step hYl (by simp) d0
        clear hY hYl
        obtain ⟨⟨k0, k1⟩, f0, f1⟩ := cells2 hA.box
        go_wp2_with fail
        refine (calls_st hA.vs (HG1.out _)).mono ?_
        rintro e w2 ⟨rfl, hY, hYl⟩
        replace hA := hA.step hY hYl
        replace c0 := loc_step hYl (by simp) c0
        replace d0 := loc_step hYl (by simp) d0
        clear hY hYl
        obtain ⟨⟨k0, k1⟩, f0, f1⟩ := cells2 hA.box
        go_wp2_with fail
        refine (calls_st hA.vs (HJ1.out _)).mono ?_
        rintro e w3 ⟨rfl, hY, hYl⟩
        replace hA := hA.step hY hYl
        replace c0 := loc_step hYl (by simp) c0
        replace d0 := loc_step hYl (by simp) d0
        clear hY hYl
        obtain ⟨⟨k0, k1⟩, f0, f1⟩ := cells2 hA.box
        clear k0 k1
        obtain ⟨⟨k0, k1⟩, f0, f1⟩ := cells2 hA.box
        go_wp2_with fail
        replace d0 := (hA.set 0 (.int .i64 f)).loc (by simp) 1 (.int .i64 (n + j1)) (hA.loc (by simp) 0 (.int .i64 f) d0)
        replace c0 := (hA.set 0 (.int .i64 f)).loc (by simp) 1 (.int .i64 (n + j1)) (hA.loc (by simp) 0 (.int .i64 f) c0)
        have hA2 : VA w b S [w.heap.size + 1, w.heap.size] _ #[.int .i64 f, .int .i64 (n + j1)] 127 s3 _ := (hA.set 0 (.int .i64 f)).set 1 (.int .i64 (n + j1))
        clear k0 k1 f0 f1 hA
        have hA := hA2
        clear hA2
        obtain ⟨⟨k0, k1⟩, f0, f1⟩ := cells2 hA.box
        refine (calls_st hA.vs (HAd.out _)).mono ?_
        rintro e w21 ⟨rfl, hY, hYl⟩
        replace hA := hA.step hY hYl
        replace c0 := loc_step hYl (by simp) c0
        replace d0 := loc_step hYl (by simp) d0
        clear hY hYl
        obtain ⟨⟨k0, k1⟩, f0, f1⟩ := cells2 hA.box
        go_wp2_with fail
        refine (calls_st hA.vs (HC.out _)).mono ?_
        rintro e w22 ⟨rfl, hY, hYl⟩
        replace hA := hA.step hY hYl
        replace c0 := loc_step hYl (by simp) c0
        replace d0 := loc_step hYl (by simp) d0
        clear hY hYl
        obtain ⟨⟨k0, k1⟩, f0, f1⟩ := cells2 hA.box
        go_wp2
        go_end0
        exact ⟨rfl, hA.vs.done keepsPV⟩
end Go.Proofs.YtpmoajhpgekhcaaGreat
