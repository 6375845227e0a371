/- link: Push of the program, whole. -/
import Derived.Test.YtcicmljnjdhkjaaGreatLink
namespace Go.Proofs.YtcicmljnjdhkjaaGreat
open Go.RowKit

def lbox (b : Nat) (t p s head : Int) : Array Value := #[.pointer (some ⟨b, 0, none⟩), .int .i64 t, .int .i64 p, .int .i64 s, .int .i64 head]

theorem push_zero (b : Nat) (t p s head q : Int) (w : World) (S : Nat → Prop) (st : VS) (h : PV w b S st) (hq : pageB p q = true) (hp : p ≤ 1024) (h0 : (st.get head).1 = 0) :
    Calls Tryz.prog 109 #[.pointer (some ⟨b, 0, none⟩), .agg #[.int .i64 t, .int .i64 p, .int .i64 s], .int .i64 head, .int .i64 q] w fun e w' => e = .returned (.tuple #[]) ∧ Now w b S (pushF t p s head q st) w' := by
  have hV := ((VSt.start keepsPV h).alloc keepsPV (.cells #[.int .i64 t, .int .i64 p, .int .i64 s] 23)).alloc keepsPV (.cells #[.pointer (some ⟨b, 0, none⟩), .int .i64 t, .int .i64 p, .int .i64 s, .int .i64 head] 173)
  have c0 := loc_alloc (w.alloc (.cells #[.int .i64 t, .int .i64 p, .int .i64 s] 23)) #[.pointer (some ⟨b, 0, none⟩), .int .i64 t, .int .i64 p, .int .i64 s, .int .i64 head] 173
  simp only [World.size_alloc] at hV c0
  have H := fun w => lpage_any b t p s head q w
  rw [hq] at H
  have HH := Lib.hid H
  have hu := VS.get_u32 h.inv head
  have hF : pushF t p s head q st = (((st.get head).2.put (ofF t p s q 2) (st.get head).1).put (ofF t p s q 3) 0).put head (q + 1) := by simp [pushF, hq, h0]
  rw [hF]
  have hb : ((st.get head).1 != 0) = false := by simp [h0]
  have hq1 : 0 ≤ q := by simp [pageB] at hq; omega
  have hq2 : q < 1024 := by simp [pageB] at hq; omega
  have HU := Lib.hid hu
  have HQ : VS.U32 (q + 1) := ⟨by omega, by omega⟩
  have HQ' := Lib.hid HQ
  have hq3 : IntKind.i64.wrap (q + 1) = q + 1 := wrap_in _ (by omega)
  have hq4 : IntKind.u32.wrap (q + 1) = q + 1 := IntWalk.u32_in _ (by omega)
  have HG := Lib.hid (fun (w : World) (S1 : Nat → Prop) (h1 : PV w b S1 st) => get_any b head w S1 st h1)
  clear H h hF hu HQ h0 hq
  generalize (st.get head).2 = s1 at *
  generalize (st.get head).1 = v at *
  go_enter Tryz.func109, Tryz.ntmps109
  go_wp2_with fail
  refine (calls_bl keepsPV hV (HH.out _)).mono ?_
  rintro e w1 ⟨rfl, hV1, hV1l⟩
  have c1 := loc_step hV1l (by simp) c0
  clear hV1l
  go_wp2_with fail
  refine (calls_st hV1 (HG.out w1)).mono ?_
  rintro e w2 ⟨rfl, hV2, hV2l⟩
  have c2 := loc_step hV2l (by simp) c1
  clear hV2l
  go_wp2_with fail
  first | go_region_held3 (fun w' => (∀ o : Nat, w'.cell? ⟨w.heap.size + 1, o, none⟩ = (#[.pointer (some ⟨b, 0, none⟩), .int .i64 t, .int .i64 p, .int .i64 s, .int .i64 head] : Array Value)[o]?)) (first | assumption | exact c2) (first | (go_at_call 170; go_must (refine (calls_bl keepsPV (hV2.drew keepsPV) (lnext_any _ _ _ _ _ _ _)).mono ?_); go_must (rintro e w3 ⟨rfl, hV3, hV3l⟩); go_must (have c3 := loc_step hV3l (by simp) c2); clear hV3l) | (go_at_call 46; go_must (refine (calls_st hV3 (fun S1 h1 => put_any _ _ _ _ _ _ h1 HU.out)).mono ?_); go_must (rintro e w4 ⟨rfl, hV4, hV4l⟩); go_must (have c4 := loc_step hV4l (by simp) c3); clear hV4l)) | fail
  go_wp2_with fail
  first | go_region_held3 (fun w' => (∀ o : Nat, w'.cell? ⟨w.heap.size + 1, o, none⟩ = (#[.pointer (some ⟨b, 0, none⟩), .int .i64 t, .int .i64 p, .int .i64 s, .int .i64 head] : Array Value)[o]?)) (first | assumption | exact c4) (first | (go_at_call 171; go_must (refine (calls_bl keepsPV (hV4.drew keepsPV) (lprev_any _ _ _ _ _ _ _)).mono ?_); go_must (rintro e w5 ⟨rfl, hV5, hV5l⟩); go_must (have c5 := loc_step hV5l (by simp) c4); clear hV5l) | (go_at_call 46; go_must (refine (calls_st hV5 (fun S1 h1 => put_any _ _ _ _ _ _ h1 VS.u32_zero)).mono ?_); go_must (rintro e w6 ⟨rfl, hV6, hV6l⟩); go_must (have c6 := loc_step hV6l (by simp) c5); clear hV6l)) | fail
  go_wp2_with fail
  refine (calls_st hV6 (fun S1 h1 => put_any _ _ _ _ _ _ h1 HQ'.out)).mono ?_
  rintro e w7 ⟨rfl, hV7, hV7l⟩
  have c7 := loc_step hV7l (by simp) c6
  clear hV7l
  go_wp2
  go_end0
  exact ⟨rfl, hV7.done keepsPV⟩

set_option maxRecDepth 100000 in
theorem push_more (b : Nat) (t p s head q : Int) (w : World) (S : Nat → Prop) (st : VS) (h : PV w b S st) (hq : pageB p q = true) (hp : p ≤ 1024) (h0 : (st.get head).1 ≠ 0) :
    Calls Tryz.prog 109 #[.pointer (some ⟨b, 0, none⟩), .agg #[.int .i64 t, .int .i64 p, .int .i64 s], .int .i64 head, .int .i64 q] w fun e w' => e = .returned (.tuple #[]) ∧ Now w b S (pushF t p s head q st) w' := by
  have hV := ((VSt.start keepsPV h).alloc keepsPV (.cells #[.int .i64 t, .int .i64 p, .int .i64 s] 23)).alloc keepsPV (.cells #[.pointer (some ⟨b, 0, none⟩), .int .i64 t, .int .i64 p, .int .i64 s, .int .i64 head] 173)
  have c0 := loc_alloc (w.alloc (.cells #[.int .i64 t, .int .i64 p, .int .i64 s] 23)) #[.pointer (some ⟨b, 0, none⟩), .int .i64 t, .int .i64 p, .int .i64 s, .int .i64 head] 173
  simp only [World.size_alloc] at hV c0
  have H := fun w => lpage_any b t p s head q w
  rw [hq] at H
  have HH := Lib.hid H
  have hu := VS.get_u32 h.inv head
  have hF : pushF t p s head q st = ((((st.get head).2.put (ofF t p s q 2) (st.get head).1).put (ofF t p s q 3) 0).put (ofF t p s ((st.get head).1 - 1) 3) (q + 1)).put head (q + 1) := by simp [pushF, hq, h0]
  rw [hF]
  have hb : ((st.get head).1 != 0) = true := by simp [h0]
  have hq1 : 0 ≤ q := by simp [pageB] at hq; omega
  have hq2 : q < 1024 := by simp [pageB] at hq; omega
  have HU := Lib.hid hu
  have HQ : VS.U32 (q + 1) := ⟨by omega, by omega⟩
  have HQ' := Lib.hid HQ
  have hq3 : IntKind.i64.wrap (q + 1) = q + 1 := wrap_in _ (by omega)
  have hq4 : IntKind.u32.wrap (q + 1) = q + 1 := IntWalk.u32_in _ (by omega)
  have HG := Lib.hid (fun (w : World) (S1 : Nat → Prop) (h1 : PV w b S1 st) => get_any b head w S1 st h1)
  clear H h hF hu HQ h0 hq
  generalize (st.get head).2 = s1 at *
  generalize (st.get head).1 = v at *
  go_enter Tryz.func109, Tryz.ntmps109
  go_wp2_with fail
  refine (calls_bl keepsPV hV (HH.out _)).mono ?_
  rintro e w1 ⟨rfl, hV1, hV1l⟩
  have c1 := loc_step hV1l (by simp) c0
  clear hV1l
  go_wp2_with fail
  refine (calls_st hV1 (HG.out w1)).mono ?_
  rintro e w2 ⟨rfl, hV2, hV2l⟩
  have c2 := loc_step hV2l (by simp) c1
  clear hV2l
  go_wp2_with fail
  first | go_region_held3 (fun w' => (∀ o : Nat, w'.cell? ⟨w.heap.size + 1, o, none⟩ = (#[.pointer (some ⟨b, 0, none⟩), .int .i64 t, .int .i64 p, .int .i64 s, .int .i64 head] : Array Value)[o]?)) (first | assumption | exact c2) (first | (go_at_call 170; go_must (refine (calls_bl keepsPV (hV2.drew keepsPV) (lnext_any _ _ _ _ _ _ _)).mono ?_); go_must (rintro e w3 ⟨rfl, hV3, hV3l⟩); go_must (have c3 := loc_step hV3l (by simp) c2); clear hV3l) | (go_at_call 46; go_must (refine (calls_st hV3 (fun S1 h1 => put_any _ _ _ _ _ _ h1 HU.out)).mono ?_); go_must (rintro e w4 ⟨rfl, hV4, hV4l⟩); go_must (have c4 := loc_step hV4l (by simp) c3); clear hV4l)) | fail
  go_wp2_with fail
  first | go_region_held3 (fun w' => (∀ o : Nat, w'.cell? ⟨w.heap.size + 1, o, none⟩ = (#[.pointer (some ⟨b, 0, none⟩), .int .i64 t, .int .i64 p, .int .i64 s, .int .i64 head] : Array Value)[o]?)) (first | assumption | exact c4) (first | (go_at_call 171; go_must (refine (calls_bl keepsPV (hV4.drew keepsPV) (lprev_any _ _ _ _ _ _ _)).mono ?_); go_must (rintro e w5 ⟨rfl, hV5, hV5l⟩); go_must (have c5 := loc_step hV5l (by simp) c4); clear hV5l) | (go_at_call 46; go_must (refine (calls_st hV5 (fun S1 h1 => put_any _ _ _ _ _ _ h1 VS.u32_zero)).mono ?_); go_must (rintro e w6 ⟨rfl, hV6, hV6l⟩); go_must (have c6 := loc_step hV6l (by simp) c5); clear hV6l)) | fail
  go_wp2_with fail
  first | go_region_held3 (fun w' => (∀ o : Nat, w'.cell? ⟨w.heap.size + 1, o, none⟩ = (#[.pointer (some ⟨b, 0, none⟩), .int .i64 t, .int .i64 p, .int .i64 s, .int .i64 head] : Array Value)[o]?)) (first | assumption | exact c6) (first | (go_at_call 172; go_must (refine (calls_bl keepsPV (hV6.drew keepsPV) ((to_any _ _ HU.out).mono fun _ _ x => ⟨x.1, x.2 ▸ Below.refl _ _⟩)).mono ?_); go_must (rintro e w7 ⟨rfl, hV7, hV7l⟩); go_must (have c7 := loc_step hV7l (by simp) c6); clear hV7l) | (go_at_call 171; go_must (refine (calls_bl keepsPV hV7 (lprev_any _ _ _ _ _ _ _)).mono ?_); go_must (rintro e w8 ⟨rfl, hV8, hV8l⟩); go_must (have c8 := loc_step hV8l (by simp) c7); clear hV8l) | (go_at_call 46; go_must (refine (calls_st hV8 (fun S1 h1 => put_any _ _ _ _ _ _ h1 HQ'.out)).mono ?_); go_must (rintro e w9 ⟨rfl, hV9, hV9l⟩); go_must (have c9 := loc_step hV9l (by simp) c8); clear hV9l)) | fail
  go_wp2_with fail
  refine (calls_st hV9 (fun S1 h1 => put_any _ _ _ _ _ _ h1 HQ'.out)).mono ?_
  rintro e w10 ⟨rfl, hV10, hV10l⟩
  have c10 := loc_step hV10l (by simp) c9
  clear hV10l
  go_wp2
  go_end0
  exact ⟨rfl, hV10.done keepsPV⟩

theorem push_any (b : Nat) (t p s head q : Int) (w : World) (S : Nat → Prop) (st : VS) (h : PV w b S st) (hp : p ≤ 1024) :
    Calls Tryz.prog 109 #[.pointer (some ⟨b, 0, none⟩), .agg #[.int .i64 t, .int .i64 p, .int .i64 s], .int .i64 head, .int .i64 q] w fun e w' => e = .returned (.tuple #[]) ∧ Now w b S (pushF t p s head q st) w' := by
  cases hq : pageB p q with
  | false =>
    have hF : pushF t p s head q st = st := by simp [pushF, hq]
    rw [hF]
    exact push_no b t p s head q w S st h hq
  | true =>
    by_cases h0 : (st.get head).1 = 0
    · exact push_zero b t p s head q w S st h hq hp h0
    · exact push_more b t p s head q w S st h hq hp h0

end Go.Proofs.YtcicmljnjdhkjaaGreat
