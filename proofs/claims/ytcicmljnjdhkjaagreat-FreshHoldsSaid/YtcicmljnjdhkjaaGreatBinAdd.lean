/- bin: Add. -/
import Derived.Test.YtcicmljnjdhkjaaGreatBin
namespace Go.Proofs.YtcicmljnjdhkjaaGreat
open Go.RowKit

def addF (t p s : Int) (q n : Nat) (st : VS) : VS :=
  pushF t p s (withinF 2 (logF n) 11) q ((st.put (ofF t p s q 0) (1 + 16 * n)).put (ofF t p s ((q : Int) + n - 1) 1) ((q : Int) + 1))

set_option maxHeartbeats 1000000 in
set_option maxRecDepth 100000 in
theorem badd_any (b : Nat) (t p s : Int) (q n : Nat) (w : World) (S : Nat → Prop) (st : VS) (h : PV w b S st) (hp : p ≤ 1024) (h0 : (q : Int) < p) (h1 : 1 ≤ n) (h2 : (n : Int) ≤ p - q) :
    Calls Tryz.prog 45 #[.pointer (some ⟨b, 0, none⟩), .agg #[.int .i64 t, .int .i64 p, .int .i64 s], .int .i64 q, .int .i64 n] w fun e w' => e = .returned (.tuple #[]) ∧ Now w b S (addF t p s q n st) w' := by
  have hV := (VSt.start keepsPV h).alloc keepsPV (.cells #[.int .i64 t, .int .i64 p, .int .i64 s] 23)
  have c0 := loc_alloc w #[.int .i64 t, .int .i64 p, .int .i64 s] 23
  have HP := Lib.hid (fun w => bpage_any t p s q w (by omega) h0)
  have HI := Lib.hid (fun w => iput_free n w h1 (by omega))
  have HO := Lib.hid (fun w => bof_any n w h1 (by omega))
  have U1 := Lib.hid (show VS.U32 (1 + 16 * (n : Int)) from ⟨by omega, by omega⟩)
  have U2 := Lib.hid (show VS.U32 ((q : Int) + 1) from ⟨by omega, by omega⟩)
  have hF : addF t p s q n st = pushF t p s (withinF 2 (logF n) 11) q ((st.put (ofF t p s q 0) (1 + 16 * n)).put (ofF t p s ((q : Int) + n - 1) 1) ((q : Int) + 1)) := rfl
  rw [hF]
  have hw1 : IntKind.i64.wrap ((q : Int) + n - 1) = (q : Int) + n - 1 := wrap_in _ (by omega)
  have hw2 : IntKind.u32.wrap ((q : Int) + 1) = (q : Int) + 1 := IntWalk.u32_in _ (by omega)
  clear h hF
  generalize logF n = lg at *
  generalize hx : 1 + 16 * (n : Int) = iv at *
  clear hx
  go_enter Tryz.func45, Tryz.ntmps45
  go_wp2_with fail
  refine (calls_bl keepsPV hV (HP.out _)).mono ?_
  rintro e w1 ⟨rfl, hV1, hV1l⟩
  have c1 := loc_step hV1l (by simp) c0
  clear hV1l
  go_wp2_with fail
  refine (calls_bl keepsPV hV1 (HI.out _)).mono ?_
  rintro e w2 ⟨rfl, hV2, hV2l⟩
  have c2 := loc_step hV2l (by simp) c1
  clear hV2l
  go_wp2_with fail
  refine (calls_bl keepsPV hV2 (pinfo_any _ _ _ _ _)).mono ?_
  rintro e w3 ⟨rfl, hV3, hV3l⟩
  have c3 := loc_step hV3l (by simp) c2
  clear hV3l
  go_wp2_with fail
  refine (calls_st hV3 (fun S1 h1 => put_any _ _ _ _ _ _ h1 U1.out)).mono ?_
  rintro e w4 ⟨rfl, hV4, hV4l⟩
  have c4 := loc_step hV4l (by simp) c3
  clear hV4l
  go_wp2_with fail
  refine (calls_bl keepsPV hV4 (pfoot_any _ _ _ _ _)).mono ?_
  rintro e w5 ⟨rfl, hV5, hV5l⟩
  have c5 := loc_step hV5l (by simp) c4
  clear hV5l
  go_wp2_with fail
  refine (calls_st hV5 (fun S1 h1 => put_any _ _ _ _ _ _ h1 U2.out)).mono ?_
  rintro e w6 ⟨rfl, hV6, hV6l⟩
  have c6 := loc_step hV6l (by simp) c5
  clear hV6l
  go_wp2_with fail
  have hV6d := hV6.drew keepsPV
  refine wp_region_noPanic ?_
  refine wp_region_held_drew (S := fun w' => (∀ o : Nat, w'.cell? ⟨w.heap.size, o, none⟩ = (#[.int .i64 t, .int .i64 p, .int .i64 s] : Array Value)[o]?)) (by kernel_rfl) ?_ (fun hHeld => ?_)
  · exact c6
  refine wpAnyH_take (i := 0) (oi := _) (v := ?_) rfl (by kernel_rfl) (by kernel_rfl) (by kernel_rfl) (fun _ _ _ h => h) (Or.inl ⟨by rfl, ?_⟩) (by assumption) ?_
  rotate_left
  · intro w hSw; (try dsimp only at hSw); go_simp; try with_reducible rfl
  try simp only [Act.put, List.getElem_toArray, List.getElem_cons_zero, List.setIfInBounds_toArray, List.set_cons_zero, List.set_cons_succ]
  refine wpAnyH_take (i := 1) (oi := _) (v := ?_) rfl (by kernel_rfl) (by kernel_rfl) (by kernel_rfl) (fun _ _ _ h => h) (Or.inl ⟨by rfl, ?_⟩) (by assumption) ?_
  rotate_left
  · intro w hSw; (try dsimp only at hSw); go_simp; try with_reducible rfl
  try simp only [Act.put, List.getElem_toArray, List.getElem_cons_zero, List.getElem_cons_succ, List.setIfInBounds_toArray, List.set_cons_zero, List.set_cons_succ]
  refine wpAnyH_take (i := 2) (oi := _) (v := ?_) rfl (by kernel_rfl) (by kernel_rfl) (by kernel_rfl) (fun _ _ _ h => h) (Or.inl ⟨by rfl, ?_⟩) (by assumption) ?_
  rotate_left
  · intro w hSw; (try dsimp only at hSw); go_simp; try with_reducible rfl
  try simp only [Act.put, List.getElem_toArray, List.getElem_cons_zero, List.getElem_cons_succ, List.setIfInBounds_toArray, List.set_cons_zero, List.set_cons_succ]
  refine wpAnyH_take (i := 5) (oi := _) (v := ?_) rfl (by kernel_rfl) (by kernel_rfl) (by kernel_rfl) (fun _ _ _ h => h) (Or.inl ⟨by rfl, ?_⟩) (by assumption) ?_
  rotate_left
  · intro w hSw; (try dsimp only at hSw); go_simp; try with_reducible rfl
  try simp only [Act.put, List.getElem_toArray, List.getElem_cons_zero, List.getElem_cons_succ, List.setIfInBounds_toArray, List.set_cons_zero, List.set_cons_succ]
  refine wpAnyH_ready (rs := [3]) (by kernel_rfl) (by simp) ?_
  refine AllReadyH.cons (o := _) rfl (fun K hK => ?_) AllReadyH.nil
  go_simp
  refine (calls_bl keepsPV hV6d (HO.out _)).mono ?_
  rintro e w7 ⟨rfl, hV7, hV7l⟩
  have c7 := loc_step hV7l (by simp) hHeld
  clear hV7l
  dsimp only
  refine hK.out _ _ ?_ (fun hHeld => ?_)
  · exact c7
  clear hK K
  try simp only [Act.put, List.getElem_toArray, List.getElem_cons_zero, List.getElem_cons_succ, List.setIfInBounds_toArray, List.set_cons_zero, List.set_cons_succ]
  refine wpAnyH_ready (rs := [4]) (by kernel_rfl) (by simp) ?_
  refine AllReadyH.cons (o := _) rfl (fun K hK => ?_) AllReadyH.nil
  go_simp
  refine (calls_bl keepsPV hV7 (pbin_any _ _)).mono ?_
  rintro e w8 ⟨rfl, hV8, hV8l⟩
  have c8 := loc_step hV8l (by simp) c7
  clear hV8l
  dsimp only
  refine hK.out _ _ ?_ (fun hHeld => ?_)
  · exact c8
  clear hK K
  try simp only [Act.put, List.getElem_toArray, List.getElem_cons_zero, List.getElem_cons_succ, List.setIfInBounds_toArray, List.set_cons_zero, List.set_cons_succ]
  refine wpAnyH_ready (rs := [6]) (by kernel_rfl) (by simp) ?_
  refine AllReadyH.cons (o := _) rfl (fun K hK => ?_) AllReadyH.nil
  go_simp
  refine (calls_st hV8 (fun S1 h1 => push_any b t p s _ q _ S1 _ h1 hp)).mono ?_
  rintro e w9 ⟨rfl, hV9, hV9l⟩
  have c9 := loc_step hV9l (by simp) c8
  clear hV9l
  dsimp only
  refine hK.out _ _ ?_ (fun hHeld => ?_)
  · exact c9
  clear hK K
  try simp only [Act.put, List.getElem_toArray, List.getElem_cons_zero, List.getElem_cons_succ, List.setIfInBounds_toArray, List.set_cons_zero, List.set_cons_succ]
  refine wpAnyH_done (by kernel_rfl) ?_ _
  refine NoPanic.normal ?_
  go_wp2
  go_end0
  exact ⟨rfl, hV9.done keepsPV⟩
end Go.Proofs.YtcicmljnjdhkjaaGreat
