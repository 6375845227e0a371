/- link: Pull of the program. -/
import Derived.Test.YtcicmljnjdhkjaaGreatLinkPush
namespace Go.Proofs.YtcicmljnjdhkjaaGreat
open Go.RowKit

/-- what Pull does. -/
def pullF (t p s : Int) (head q : Int) (st : VS) : VS :=
  if pageB p q = true then
    let g := st.get (ofF t p s q 2)
    let f := g.2.get (ofF t p s q 3)
    let s3 := if f.1 = 0 then f.2.put head g.1 else f.2.put (ofF t p s (f.1 - 1) 2) g.1
    let s4 := if g.1 = 0 then s3 else s3.put (ofF t p s (g.1 - 1) 3) f.1
    (s4.put (ofF t p s q 2) 0).put (ofF t p s q 3) 0
  else st

theorem pull_no (b : Nat) (t p s head q : Int) (w : World) (S : Nat → Prop) (st : VS) (h : PV w b S st) (hq : pageB p q = false) :
    Calls Tryz.prog 197 #[.pointer (some ⟨b, 0, none⟩), .agg #[.int .i64 t, .int .i64 p, .int .i64 s], .int .i64 head, .int .i64 q] w fun e w' => e = .returned (.tuple #[]) ∧ Now w b S st w' := by
  have hV := ((VSt.start keepsPV h).alloc keepsPV (.cells #[.int .i64 t, .int .i64 p, .int .i64 s] 23)).alloc keepsPV (.cells #[.pointer (some ⟨b, 0, none⟩), .int .i64 t, .int .i64 p, .int .i64 s, .int .i64 head] 173)
  have H := fun w => lpage_any b t p s head q w
  rw [hq] at H
  have HH := Lib.hid H
  clear H h
  go_enter Tryz.func197, Tryz.ntmps197
  go_wp2_with fail
  refine (calls_bl keepsPV hV (HH.out _)).mono ?_
  rintro e w1 ⟨rfl, hV1, hl1⟩
  clear hl1
  go_wp2
  refine bodyPost_ret (results_none rfl _ _ _) rfl ?_
  exact ⟨rfl, hV1.done keepsPV⟩

set_option maxRecDepth 100000 in
theorem pull_b0n0 (b : Nat) (t p s head q : Int) (w : World) (S : Nat → Prop) (st s1 s2 : VS) (v u : Int) (h : PV w b S st) (hq : pageB p q = true) (_hp : p ≤ 1024) (e1 : st.get (ofF t p s q 2) = (v, s1)) (e2 : s1.get (ofF t p s q 3) = (u, s2)) (h0 : u = 0) (h1 : v = 0) :
    Calls Tryz.prog 197 #[.pointer (some ⟨b, 0, none⟩), .agg #[.int .i64 t, .int .i64 p, .int .i64 s], .int .i64 head, .int .i64 q] w fun e w' => e = .returned (.tuple #[]) ∧ Now w b S (((s2.put head v).put (ofF t p s q 2) 0).put (ofF t p s q 3) 0) w' := by
  have hV := ((VSt.start keepsPV h).alloc keepsPV (.cells #[.int .i64 t, .int .i64 p, .int .i64 s] 23)).alloc keepsPV (.cells #[.pointer (some ⟨b, 0, none⟩), .int .i64 t, .int .i64 p, .int .i64 s, .int .i64 head] 173)
  have c0 := loc_alloc (w.alloc (.cells #[.int .i64 t, .int .i64 p, .int .i64 s] 23)) #[.pointer (some ⟨b, 0, none⟩), .int .i64 t, .int .i64 p, .int .i64 s, .int .i64 head] 173
  simp only [World.size_alloc] at hV c0
  have H := fun w => lpage_any b t p s head q w
  rw [hq] at H
  have HH := Lib.hid H
  have i1 := h.inv.get (ofF t p s q 2)
  have u1 := VS.get_u32 h.inv (ofF t p s q 2)
  rw [e1] at i1 u1
  have u2 := VS.get_u32 i1 (ofF t p s q 3)
  rw [e2] at u2
  have HU1 := Lib.hid u1
  have HU2 := Lib.hid u2
  have G1 := fun (w : World) (S1 : Nat → Prop) (h1 : PV w b S1 st) => get_any b (ofF t p s q 2) w S1 st h1
  have G2 := fun (w : World) (S1 : Nat → Prop) (h1 : PV w b S1 s1) => get_any b (ofF t p s q 3) w S1 s1 h1
  rw [e1] at G1
  rw [e2] at G2
  have HG1 := Lib.hid G1
  have HG2 := Lib.hid G2
  have hb : (u == 0) = true := by simp [h0]
  have hc : (v != 0) = false := by simp [h1]
  clear H h i1 u1 u2 G1 G2 e1 e2 h0 h1 hq
  go_enter Tryz.func197, Tryz.ntmps197
  go_wp2_with fail
  refine (calls_bl keepsPV hV (HH.out _)).mono ?_
  rintro e w1 ⟨rfl, hV1, hV1l⟩
  have c1 := loc_step hV1l (by simp) c0
  clear hV1l
  go_wp2_with fail
  first | go_region_held3 (fun w' => (∀ o : Nat, w'.cell? ⟨w.heap.size + 1, o, none⟩ = (#[.pointer (some ⟨b, 0, none⟩), .int .i64 t, .int .i64 p, .int .i64 s, .int .i64 head] : Array Value)[o]?)) (first | assumption | exact c1) (first | (go_at_call 170; go_must (refine (calls_bl keepsPV (hV1.drew keepsPV) (lnext_any _ _ _ _ _ _ _)).mono ?_); go_must (rintro e w2 ⟨rfl, hV2, hV2l⟩); go_must (have c2 := loc_step hV2l (by simp) c1); clear hV2l) | (go_at_call 79; go_must (refine (calls_st hV2 (HG1.out _)).mono ?_); go_must (rintro e w3 ⟨rfl, hV3, hV3l⟩); go_must (have c3 := loc_step hV3l (by simp) c2); clear hV3l)) | fail
  go_wp2_with fail
  first | go_region_held3 (fun w' => (∀ o : Nat, w'.cell? ⟨w.heap.size + 1, o, none⟩ = (#[.pointer (some ⟨b, 0, none⟩), .int .i64 t, .int .i64 p, .int .i64 s, .int .i64 head] : Array Value)[o]?)) (first | assumption | exact c3) (first | (go_at_call 171; go_must (refine (calls_bl keepsPV (hV3.drew keepsPV) (lprev_any _ _ _ _ _ _ _)).mono ?_); go_must (rintro e w4 ⟨rfl, hV4, hV4l⟩); go_must (have c4 := loc_step hV4l (by simp) c3); clear hV4l) | (go_at_call 79; go_must (refine (calls_st hV4 (HG2.out _)).mono ?_); go_must (rintro e w5 ⟨rfl, hV5, hV5l⟩); go_must (have c5 := loc_step hV5l (by simp) c4); clear hV5l)) | fail
  go_wp2_with fail
  refine (calls_st hV5 (fun S1 h1 => put_any _ _ _ _ _ _ h1 HU1.out)).mono ?_
  rintro e w6 ⟨rfl, hV6, hV6l⟩
  have c6 := loc_step hV6l (by simp) c5
  clear hV6l
  go_wp2_with fail
  first | go_region_held3 (fun w' => (∀ o : Nat, w'.cell? ⟨w.heap.size + 1, o, none⟩ = (#[.pointer (some ⟨b, 0, none⟩), .int .i64 t, .int .i64 p, .int .i64 s, .int .i64 head] : Array Value)[o]?)) (first | assumption | exact c6) (first | (go_at_call 170; go_must (refine (calls_bl keepsPV (hV6.drew keepsPV) (lnext_any _ _ _ _ _ _ _)).mono ?_); go_must (rintro e w7 ⟨rfl, hV7, hV7l⟩); go_must (have c7 := loc_step hV7l (by simp) c6); clear hV7l) | (go_at_call 46; go_must (refine (calls_st hV7 (fun S1 h1 => put_any _ _ _ _ _ _ h1 VS.u32_zero)).mono ?_); go_must (rintro e w8 ⟨rfl, hV8, hV8l⟩); go_must (have c8 := loc_step hV8l (by simp) c7); clear hV8l)) | fail
  go_wp2_with fail
  first | go_region_held3 (fun w' => (∀ o : Nat, w'.cell? ⟨w.heap.size + 1, o, none⟩ = (#[.pointer (some ⟨b, 0, none⟩), .int .i64 t, .int .i64 p, .int .i64 s, .int .i64 head] : Array Value)[o]?)) (first | assumption | exact c8) (first | (go_at_call 171; go_must (refine (calls_bl keepsPV (hV8.drew keepsPV) (lprev_any _ _ _ _ _ _ _)).mono ?_); go_must (rintro e w9 ⟨rfl, hV9, hV9l⟩); go_must (have c9 := loc_step hV9l (by simp) c8); clear hV9l) | (go_at_call 46; go_must (refine (calls_st hV9 (fun S1 h1 => put_any _ _ _ _ _ _ h1 VS.u32_zero)).mono ?_); go_must (rintro e w10 ⟨rfl, hV10, hV10l⟩); go_must (have c10 := loc_step hV10l (by simp) c9); clear hV10l)) | fail
  go_wp2
  go_end0
  exact ⟨rfl, hV10.done keepsPV⟩

set_option maxRecDepth 100000 in
theorem pull_b0n1 (b : Nat) (t p s head q : Int) (w : World) (S : Nat → Prop) (st s1 s2 : VS) (v u : Int) (h : PV w b S st) (hq : pageB p q = true) (_hp : p ≤ 1024) (e1 : st.get (ofF t p s q 2) = (v, s1)) (e2 : s1.get (ofF t p s q 3) = (u, s2)) (h0 : u = 0) (h1 : v ≠ 0) :
    Calls Tryz.prog 197 #[.pointer (some ⟨b, 0, none⟩), .agg #[.int .i64 t, .int .i64 p, .int .i64 s], .int .i64 head, .int .i64 q] w fun e w' => e = .returned (.tuple #[]) ∧ Now w b S ((((s2.put head v).put (ofF t p s (v - 1) 3) u).put (ofF t p s q 2) 0).put (ofF t p s q 3) 0) w' := by
  have hV := ((VSt.start keepsPV h).alloc keepsPV (.cells #[.int .i64 t, .int .i64 p, .int .i64 s] 23)).alloc keepsPV (.cells #[.pointer (some ⟨b, 0, none⟩), .int .i64 t, .int .i64 p, .int .i64 s, .int .i64 head] 173)
  have c0 := loc_alloc (w.alloc (.cells #[.int .i64 t, .int .i64 p, .int .i64 s] 23)) #[.pointer (some ⟨b, 0, none⟩), .int .i64 t, .int .i64 p, .int .i64 s, .int .i64 head] 173
  simp only [World.size_alloc] at hV c0
  have H := fun w => lpage_any b t p s head q w
  rw [hq] at H
  have HH := Lib.hid H
  have i1 := h.inv.get (ofF t p s q 2)
  have u1 := VS.get_u32 h.inv (ofF t p s q 2)
  rw [e1] at i1 u1
  have u2 := VS.get_u32 i1 (ofF t p s q 3)
  rw [e2] at u2
  have HU1 := Lib.hid u1
  have HU2 := Lib.hid u2
  have G1 := fun (w : World) (S1 : Nat → Prop) (h1 : PV w b S1 st) => get_any b (ofF t p s q 2) w S1 st h1
  have G2 := fun (w : World) (S1 : Nat → Prop) (h1 : PV w b S1 s1) => get_any b (ofF t p s q 3) w S1 s1 h1
  rw [e1] at G1
  rw [e2] at G2
  have HG1 := Lib.hid G1
  have HG2 := Lib.hid G2
  have hb : (u == 0) = true := by simp [h0]
  have hc : (v != 0) = true := by simp [h1]
  clear H h i1 u1 u2 G1 G2 e1 e2 h0 h1 hq
  go_enter Tryz.func197, Tryz.ntmps197
  go_wp2_with fail
  refine (calls_bl keepsPV hV (HH.out _)).mono ?_
  rintro e w1 ⟨rfl, hV1, hV1l⟩
  have c1 := loc_step hV1l (by simp) c0
  clear hV1l
  go_wp2_with fail
  first | go_region_held3 (fun w' => (∀ o : Nat, w'.cell? ⟨w.heap.size + 1, o, none⟩ = (#[.pointer (some ⟨b, 0, none⟩), .int .i64 t, .int .i64 p, .int .i64 s, .int .i64 head] : Array Value)[o]?)) (first | assumption | exact c1) (first | (go_at_call 170; go_must (refine (calls_bl keepsPV (hV1.drew keepsPV) (lnext_any _ _ _ _ _ _ _)).mono ?_); go_must (rintro e w2 ⟨rfl, hV2, hV2l⟩); go_must (have c2 := loc_step hV2l (by simp) c1); clear hV2l) | (go_at_call 79; go_must (refine (calls_st hV2 (HG1.out _)).mono ?_); go_must (rintro e w3 ⟨rfl, hV3, hV3l⟩); go_must (have c3 := loc_step hV3l (by simp) c2); clear hV3l)) | fail
  go_wp2_with fail
  first | go_region_held3 (fun w' => (∀ o : Nat, w'.cell? ⟨w.heap.size + 1, o, none⟩ = (#[.pointer (some ⟨b, 0, none⟩), .int .i64 t, .int .i64 p, .int .i64 s, .int .i64 head] : Array Value)[o]?)) (first | assumption | exact c3) (first | (go_at_call 171; go_must (refine (calls_bl keepsPV (hV3.drew keepsPV) (lprev_any _ _ _ _ _ _ _)).mono ?_); go_must (rintro e w4 ⟨rfl, hV4, hV4l⟩); go_must (have c4 := loc_step hV4l (by simp) c3); clear hV4l) | (go_at_call 79; go_must (refine (calls_st hV4 (HG2.out _)).mono ?_); go_must (rintro e w5 ⟨rfl, hV5, hV5l⟩); go_must (have c5 := loc_step hV5l (by simp) c4); clear hV5l)) | fail
  go_wp2_with fail
  refine (calls_st hV5 (fun S1 h1 => put_any _ _ _ _ _ _ h1 HU1.out)).mono ?_
  rintro e w6 ⟨rfl, hV6, hV6l⟩
  have c6 := loc_step hV6l (by simp) c5
  clear hV6l
  go_wp2_with fail
  first | go_region_held3 (fun w' => (∀ o : Nat, w'.cell? ⟨w.heap.size + 1, o, none⟩ = (#[.pointer (some ⟨b, 0, none⟩), .int .i64 t, .int .i64 p, .int .i64 s, .int .i64 head] : Array Value)[o]?)) (first | assumption | exact c6) (first | (go_at_call 172; go_must (refine (calls_bl keepsPV (hV6.drew keepsPV) ((to_any _ _ HU1.out).mono fun _ _ x => ⟨x.1, x.2 ▸ Below.refl _ _⟩)).mono ?_); go_must (rintro e w7 ⟨rfl, hV7, hV7l⟩); go_must (have c7 := loc_step hV7l (by simp) c6); clear hV7l) | (go_at_call 171; go_must (refine (calls_bl keepsPV hV7 (lprev_any _ _ _ _ _ _ _)).mono ?_); go_must (rintro e w8 ⟨rfl, hV8, hV8l⟩); go_must (have c8 := loc_step hV8l (by simp) c7); clear hV8l) | (go_at_call 46; go_must (refine (calls_st hV8 (fun S1 h1 => put_any _ _ _ _ _ _ h1 HU2.out)).mono ?_); go_must (rintro e w9 ⟨rfl, hV9, hV9l⟩); go_must (have c9 := loc_step hV9l (by simp) c8); clear hV9l)) | fail
  go_wp2_with fail
  first | go_region_held3 (fun w' => (∀ o : Nat, w'.cell? ⟨w.heap.size + 1, o, none⟩ = (#[.pointer (some ⟨b, 0, none⟩), .int .i64 t, .int .i64 p, .int .i64 s, .int .i64 head] : Array Value)[o]?)) (first | assumption | exact c9) (first | (go_at_call 170; go_must (refine (calls_bl keepsPV (hV9.drew keepsPV) (lnext_any _ _ _ _ _ _ _)).mono ?_); go_must (rintro e w10 ⟨rfl, hV10, hV10l⟩); go_must (have c10 := loc_step hV10l (by simp) c9); clear hV10l) | (go_at_call 46; go_must (refine (calls_st hV10 (fun S1 h1 => put_any _ _ _ _ _ _ h1 VS.u32_zero)).mono ?_); go_must (rintro e w11 ⟨rfl, hV11, hV11l⟩); go_must (have c11 := loc_step hV11l (by simp) c10); clear hV11l)) | fail
  go_wp2_with fail
  first | go_region_held3 (fun w' => (∀ o : Nat, w'.cell? ⟨w.heap.size + 1, o, none⟩ = (#[.pointer (some ⟨b, 0, none⟩), .int .i64 t, .int .i64 p, .int .i64 s, .int .i64 head] : Array Value)[o]?)) (first | assumption | exact c11) (first | (go_at_call 171; go_must (refine (calls_bl keepsPV (hV11.drew keepsPV) (lprev_any _ _ _ _ _ _ _)).mono ?_); go_must (rintro e w12 ⟨rfl, hV12, hV12l⟩); go_must (have c12 := loc_step hV12l (by simp) c11); clear hV12l) | (go_at_call 46; go_must (refine (calls_st hV12 (fun S1 h1 => put_any _ _ _ _ _ _ h1 VS.u32_zero)).mono ?_); go_must (rintro e w13 ⟨rfl, hV13, hV13l⟩); go_must (have c13 := loc_step hV13l (by simp) c12); clear hV13l)) | fail
  go_wp2
  go_end0
  exact ⟨rfl, hV13.done keepsPV⟩

set_option maxRecDepth 100000 in
theorem pull_b1n0 (b : Nat) (t p s head q : Int) (w : World) (S : Nat → Prop) (st s1 s2 : VS) (v u : Int) (h : PV w b S st) (hq : pageB p q = true) (_hp : p ≤ 1024) (e1 : st.get (ofF t p s q 2) = (v, s1)) (e2 : s1.get (ofF t p s q 3) = (u, s2)) (h0 : u ≠ 0) (h1 : v = 0) :
    Calls Tryz.prog 197 #[.pointer (some ⟨b, 0, none⟩), .agg #[.int .i64 t, .int .i64 p, .int .i64 s], .int .i64 head, .int .i64 q] w fun e w' => e = .returned (.tuple #[]) ∧ Now w b S (((s2.put (ofF t p s (u - 1) 2) v).put (ofF t p s q 2) 0).put (ofF t p s q 3) 0) w' := by
  have hV := ((VSt.start keepsPV h).alloc keepsPV (.cells #[.int .i64 t, .int .i64 p, .int .i64 s] 23)).alloc keepsPV (.cells #[.pointer (some ⟨b, 0, none⟩), .int .i64 t, .int .i64 p, .int .i64 s, .int .i64 head] 173)
  have c0 := loc_alloc (w.alloc (.cells #[.int .i64 t, .int .i64 p, .int .i64 s] 23)) #[.pointer (some ⟨b, 0, none⟩), .int .i64 t, .int .i64 p, .int .i64 s, .int .i64 head] 173
  simp only [World.size_alloc] at hV c0
  have H := fun w => lpage_any b t p s head q w
  rw [hq] at H
  have HH := Lib.hid H
  have i1 := h.inv.get (ofF t p s q 2)
  have u1 := VS.get_u32 h.inv (ofF t p s q 2)
  rw [e1] at i1 u1
  have u2 := VS.get_u32 i1 (ofF t p s q 3)
  rw [e2] at u2
  have HU1 := Lib.hid u1
  have HU2 := Lib.hid u2
  have G1 := fun (w : World) (S1 : Nat → Prop) (h1 : PV w b S1 st) => get_any b (ofF t p s q 2) w S1 st h1
  have G2 := fun (w : World) (S1 : Nat → Prop) (h1 : PV w b S1 s1) => get_any b (ofF t p s q 3) w S1 s1 h1
  rw [e1] at G1
  rw [e2] at G2
  have HG1 := Lib.hid G1
  have HG2 := Lib.hid G2
  have hb : (u == 0) = false := by simp [h0]
  have hc : (v != 0) = false := by simp [h1]
  clear H h i1 u1 u2 G1 G2 e1 e2 h0 h1 hq
  go_enter Tryz.func197, Tryz.ntmps197
  go_wp2_with fail
  refine (calls_bl keepsPV hV (HH.out _)).mono ?_
  rintro e w1 ⟨rfl, hV1, hV1l⟩
  have c1 := loc_step hV1l (by simp) c0
  clear hV1l
  go_wp2_with fail
  first | go_region_held3 (fun w' => (∀ o : Nat, w'.cell? ⟨w.heap.size + 1, o, none⟩ = (#[.pointer (some ⟨b, 0, none⟩), .int .i64 t, .int .i64 p, .int .i64 s, .int .i64 head] : Array Value)[o]?)) (first | assumption | exact c1) (first | (go_at_call 170; go_must (refine (calls_bl keepsPV (hV1.drew keepsPV) (lnext_any _ _ _ _ _ _ _)).mono ?_); go_must (rintro e w2 ⟨rfl, hV2, hV2l⟩); go_must (have c2 := loc_step hV2l (by simp) c1); clear hV2l) | (go_at_call 79; go_must (refine (calls_st hV2 (HG1.out _)).mono ?_); go_must (rintro e w3 ⟨rfl, hV3, hV3l⟩); go_must (have c3 := loc_step hV3l (by simp) c2); clear hV3l)) | fail
  go_wp2_with fail
  first | go_region_held3 (fun w' => (∀ o : Nat, w'.cell? ⟨w.heap.size + 1, o, none⟩ = (#[.pointer (some ⟨b, 0, none⟩), .int .i64 t, .int .i64 p, .int .i64 s, .int .i64 head] : Array Value)[o]?)) (first | assumption | exact c3) (first | (go_at_call 171; go_must (refine (calls_bl keepsPV (hV3.drew keepsPV) (lprev_any _ _ _ _ _ _ _)).mono ?_); go_must (rintro e w4 ⟨rfl, hV4, hV4l⟩); go_must (have c4 := loc_step hV4l (by simp) c3); clear hV4l) | (go_at_call 79; go_must (refine (calls_st hV4 (HG2.out _)).mono ?_); go_must (rintro e w5 ⟨rfl, hV5, hV5l⟩); go_must (have c5 := loc_step hV5l (by simp) c4); clear hV5l)) | fail
  go_wp2_with fail
  first | go_region_held3 (fun w' => (∀ o : Nat, w'.cell? ⟨w.heap.size + 1, o, none⟩ = (#[.pointer (some ⟨b, 0, none⟩), .int .i64 t, .int .i64 p, .int .i64 s, .int .i64 head] : Array Value)[o]?)) (first | assumption | exact c5) (first | (go_at_call 172; go_must (refine (calls_bl keepsPV (hV5.drew keepsPV) ((to_any _ _ HU2.out).mono fun _ _ x => ⟨x.1, x.2 ▸ Below.refl _ _⟩)).mono ?_); go_must (rintro e w6 ⟨rfl, hV6, hV6l⟩); go_must (have c6 := loc_step hV6l (by simp) c5); clear hV6l) | (go_at_call 170; go_must (refine (calls_bl keepsPV hV6 (lnext_any _ _ _ _ _ _ _)).mono ?_); go_must (rintro e w7 ⟨rfl, hV7, hV7l⟩); go_must (have c7 := loc_step hV7l (by simp) c6); clear hV7l) | (go_at_call 46; go_must (refine (calls_st hV7 (fun S1 h1 => put_any _ _ _ _ _ _ h1 HU1.out)).mono ?_); go_must (rintro e w8 ⟨rfl, hV8, hV8l⟩); go_must (have c8 := loc_step hV8l (by simp) c7); clear hV8l)) | fail
  go_wp2_with fail
  first | go_region_held3 (fun w' => (∀ o : Nat, w'.cell? ⟨w.heap.size + 1, o, none⟩ = (#[.pointer (some ⟨b, 0, none⟩), .int .i64 t, .int .i64 p, .int .i64 s, .int .i64 head] : Array Value)[o]?)) (first | assumption | exact c8) (first | (go_at_call 170; go_must (refine (calls_bl keepsPV (hV8.drew keepsPV) (lnext_any _ _ _ _ _ _ _)).mono ?_); go_must (rintro e w9 ⟨rfl, hV9, hV9l⟩); go_must (have c9 := loc_step hV9l (by simp) c8); clear hV9l) | (go_at_call 46; go_must (refine (calls_st hV9 (fun S1 h1 => put_any _ _ _ _ _ _ h1 VS.u32_zero)).mono ?_); go_must (rintro e w10 ⟨rfl, hV10, hV10l⟩); go_must (have c10 := loc_step hV10l (by simp) c9); clear hV10l)) | fail
  go_wp2_with fail
  first | go_region_held3 (fun w' => (∀ o : Nat, w'.cell? ⟨w.heap.size + 1, o, none⟩ = (#[.pointer (some ⟨b, 0, none⟩), .int .i64 t, .int .i64 p, .int .i64 s, .int .i64 head] : Array Value)[o]?)) (first | assumption | exact c10) (first | (go_at_call 171; go_must (refine (calls_bl keepsPV (hV10.drew keepsPV) (lprev_any _ _ _ _ _ _ _)).mono ?_); go_must (rintro e w11 ⟨rfl, hV11, hV11l⟩); go_must (have c11 := loc_step hV11l (by simp) c10); clear hV11l) | (go_at_call 46; go_must (refine (calls_st hV11 (fun S1 h1 => put_any _ _ _ _ _ _ h1 VS.u32_zero)).mono ?_); go_must (rintro e w12 ⟨rfl, hV12, hV12l⟩); go_must (have c12 := loc_step hV12l (by simp) c11); clear hV12l)) | fail
  go_wp2
  go_end0
  exact ⟨rfl, hV12.done keepsPV⟩

set_option maxRecDepth 100000 in
theorem pull_b1n1 (b : Nat) (t p s head q : Int) (w : World) (S : Nat → Prop) (st s1 s2 : VS) (v u : Int) (h : PV w b S st) (hq : pageB p q = true) (_hp : p ≤ 1024) (e1 : st.get (ofF t p s q 2) = (v, s1)) (e2 : s1.get (ofF t p s q 3) = (u, s2)) (h0 : u ≠ 0) (h1 : v ≠ 0) :
    Calls Tryz.prog 197 #[.pointer (some ⟨b, 0, none⟩), .agg #[.int .i64 t, .int .i64 p, .int .i64 s], .int .i64 head, .int .i64 q] w fun e w' => e = .returned (.tuple #[]) ∧ Now w b S ((((s2.put (ofF t p s (u - 1) 2) v).put (ofF t p s (v - 1) 3) u).put (ofF t p s q 2) 0).put (ofF t p s q 3) 0) w' := by
  have hV := ((VSt.start keepsPV h).alloc keepsPV (.cells #[.int .i64 t, .int .i64 p, .int .i64 s] 23)).alloc keepsPV (.cells #[.pointer (some ⟨b, 0, none⟩), .int .i64 t, .int .i64 p, .int .i64 s, .int .i64 head] 173)
  have c0 := loc_alloc (w.alloc (.cells #[.int .i64 t, .int .i64 p, .int .i64 s] 23)) #[.pointer (some ⟨b, 0, none⟩), .int .i64 t, .int .i64 p, .int .i64 s, .int .i64 head] 173
  simp only [World.size_alloc] at hV c0
  have H := fun w => lpage_any b t p s head q w
  rw [hq] at H
  have HH := Lib.hid H
  have i1 := h.inv.get (ofF t p s q 2)
  have u1 := VS.get_u32 h.inv (ofF t p s q 2)
  rw [e1] at i1 u1
  have u2 := VS.get_u32 i1 (ofF t p s q 3)
  rw [e2] at u2
  have HU1 := Lib.hid u1
  have HU2 := Lib.hid u2
  have G1 := fun (w : World) (S1 : Nat → Prop) (h1 : PV w b S1 st) => get_any b (ofF t p s q 2) w S1 st h1
  have G2 := fun (w : World) (S1 : Nat → Prop) (h1 : PV w b S1 s1) => get_any b (ofF t p s q 3) w S1 s1 h1
  rw [e1] at G1
  rw [e2] at G2
  have HG1 := Lib.hid G1
  have HG2 := Lib.hid G2
  have hb : (u == 0) = false := by simp [h0]
  have hc : (v != 0) = true := by simp [h1]
  clear H h i1 u1 u2 G1 G2 e1 e2 h0 h1 hq
  go_enter Tryz.func197, Tryz.ntmps197
  go_wp2_with fail
  refine (calls_bl keepsPV hV (HH.out _)).mono ?_
  rintro e w1 ⟨rfl, hV1, hV1l⟩
  have c1 := loc_step hV1l (by simp) c0
  clear hV1l
  go_wp2_with fail
  first | go_region_held3 (fun w' => (∀ o : Nat, w'.cell? ⟨w.heap.size + 1, o, none⟩ = (#[.pointer (some ⟨b, 0, none⟩), .int .i64 t, .int .i64 p, .int .i64 s, .int .i64 head] : Array Value)[o]?)) (first | assumption | exact c1) (first | (go_at_call 170; go_must (refine (calls_bl keepsPV (hV1.drew keepsPV) (lnext_any _ _ _ _ _ _ _)).mono ?_); go_must (rintro e w2 ⟨rfl, hV2, hV2l⟩); go_must (have c2 := loc_step hV2l (by simp) c1); clear hV2l) | (go_at_call 79; go_must (refine (calls_st hV2 (HG1.out _)).mono ?_); go_must (rintro e w3 ⟨rfl, hV3, hV3l⟩); go_must (have c3 := loc_step hV3l (by simp) c2); clear hV3l)) | fail
  go_wp2_with fail
  first | go_region_held3 (fun w' => (∀ o : Nat, w'.cell? ⟨w.heap.size + 1, o, none⟩ = (#[.pointer (some ⟨b, 0, none⟩), .int .i64 t, .int .i64 p, .int .i64 s, .int .i64 head] : Array Value)[o]?)) (first | assumption | exact c3) (first | (go_at_call 171; go_must (refine (calls_bl keepsPV (hV3.drew keepsPV) (lprev_any _ _ _ _ _ _ _)).mono ?_); go_must (rintro e w4 ⟨rfl, hV4, hV4l⟩); go_must (have c4 := loc_step hV4l (by simp) c3); clear hV4l) | (go_at_call 79; go_must (refine (calls_st hV4 (HG2.out _)).mono ?_); go_must (rintro e w5 ⟨rfl, hV5, hV5l⟩); go_must (have c5 := loc_step hV5l (by simp) c4); clear hV5l)) | fail
  go_wp2_with fail
  first | go_region_held3 (fun w' => (∀ o : Nat, w'.cell? ⟨w.heap.size + 1, o, none⟩ = (#[.pointer (some ⟨b, 0, none⟩), .int .i64 t, .int .i64 p, .int .i64 s, .int .i64 head] : Array Value)[o]?)) (first | assumption | exact c5) (first | (go_at_call 172; go_must (refine (calls_bl keepsPV (hV5.drew keepsPV) ((to_any _ _ HU2.out).mono fun _ _ x => ⟨x.1, x.2 ▸ Below.refl _ _⟩)).mono ?_); go_must (rintro e w6 ⟨rfl, hV6, hV6l⟩); go_must (have c6 := loc_step hV6l (by simp) c5); clear hV6l) | (go_at_call 170; go_must (refine (calls_bl keepsPV hV6 (lnext_any _ _ _ _ _ _ _)).mono ?_); go_must (rintro e w7 ⟨rfl, hV7, hV7l⟩); go_must (have c7 := loc_step hV7l (by simp) c6); clear hV7l) | (go_at_call 46; go_must (refine (calls_st hV7 (fun S1 h1 => put_any _ _ _ _ _ _ h1 HU1.out)).mono ?_); go_must (rintro e w8 ⟨rfl, hV8, hV8l⟩); go_must (have c8 := loc_step hV8l (by simp) c7); clear hV8l)) | fail
  go_wp2_with fail
  first | go_region_held3 (fun w' => (∀ o : Nat, w'.cell? ⟨w.heap.size + 1, o, none⟩ = (#[.pointer (some ⟨b, 0, none⟩), .int .i64 t, .int .i64 p, .int .i64 s, .int .i64 head] : Array Value)[o]?)) (first | assumption | exact c8) (first | (go_at_call 172; go_must (refine (calls_bl keepsPV (hV8.drew keepsPV) ((to_any _ _ HU1.out).mono fun _ _ x => ⟨x.1, x.2 ▸ Below.refl _ _⟩)).mono ?_); go_must (rintro e w9 ⟨rfl, hV9, hV9l⟩); go_must (have c9 := loc_step hV9l (by simp) c8); clear hV9l) | (go_at_call 171; go_must (refine (calls_bl keepsPV hV9 (lprev_any _ _ _ _ _ _ _)).mono ?_); go_must (rintro e w10 ⟨rfl, hV10, hV10l⟩); go_must (have c10 := loc_step hV10l (by simp) c9); clear hV10l) | (go_at_call 46; go_must (refine (calls_st hV10 (fun S1 h1 => put_any _ _ _ _ _ _ h1 HU2.out)).mono ?_); go_must (rintro e w11 ⟨rfl, hV11, hV11l⟩); go_must (have c11 := loc_step hV11l (by simp) c10); clear hV11l)) | fail
  go_wp2_with fail
  first | go_region_held3 (fun w' => (∀ o : Nat, w'.cell? ⟨w.heap.size + 1, o, none⟩ = (#[.pointer (some ⟨b, 0, none⟩), .int .i64 t, .int .i64 p, .int .i64 s, .int .i64 head] : Array Value)[o]?)) (first | assumption | exact c11) (first | (go_at_call 170; go_must (refine (calls_bl keepsPV (hV11.drew keepsPV) (lnext_any _ _ _ _ _ _ _)).mono ?_); go_must (rintro e w12 ⟨rfl, hV12, hV12l⟩); go_must (have c12 := loc_step hV12l (by simp) c11); clear hV12l) | (go_at_call 46; go_must (refine (calls_st hV12 (fun S1 h1 => put_any _ _ _ _ _ _ h1 VS.u32_zero)).mono ?_); go_must (rintro e w13 ⟨rfl, hV13, hV13l⟩); go_must (have c13 := loc_step hV13l (by simp) c12); clear hV13l)) | fail
  go_wp2_with fail
  first | go_region_held3 (fun w' => (∀ o : Nat, w'.cell? ⟨w.heap.size + 1, o, none⟩ = (#[.pointer (some ⟨b, 0, none⟩), .int .i64 t, .int .i64 p, .int .i64 s, .int .i64 head] : Array Value)[o]?)) (first | assumption | exact c13) (first | (go_at_call 171; go_must (refine (calls_bl keepsPV (hV13.drew keepsPV) (lprev_any _ _ _ _ _ _ _)).mono ?_); go_must (rintro e w14 ⟨rfl, hV14, hV14l⟩); go_must (have c14 := loc_step hV14l (by simp) c13); clear hV14l) | (go_at_call 46; go_must (refine (calls_st hV14 (fun S1 h1 => put_any _ _ _ _ _ _ h1 VS.u32_zero)).mono ?_); go_must (rintro e w15 ⟨rfl, hV15, hV15l⟩); go_must (have c15 := loc_step hV15l (by simp) c14); clear hV15l)) | fail
  go_wp2
  go_end0
  exact ⟨rfl, hV15.done keepsPV⟩

theorem pull_any (b : Nat) (t p s head q : Int) (w : World) (S : Nat → Prop) (st : VS) (h : PV w b S st) (hp : p ≤ 1024) :
    Calls Tryz.prog 197 #[.pointer (some ⟨b, 0, none⟩), .agg #[.int .i64 t, .int .i64 p, .int .i64 s], .int .i64 head, .int .i64 q] w fun e w' => e = .returned (.tuple #[]) ∧ Now w b S (pullF t p s head q st) w' := by
  cases hq : pageB p q with
  | false =>
    have hF : pullF t p s head q st = st := by simp [pullF, hq]
    rw [hF]
    exact pull_no b t p s head q w S st h hq
  | true =>
    obtain ⟨v, s1, e1⟩ : ∃ v s1, st.get (ofF t p s q 2) = (v, s1) := ⟨_, _, rfl⟩
    obtain ⟨u, s2, e2⟩ : ∃ u s2, s1.get (ofF t p s q 3) = (u, s2) := ⟨_, _, rfl⟩
    by_cases h0 : u = 0 <;> by_cases h1 : v = 0
    · have := pull_b0n0 b t p s head q w S st s1 s2 v u h hq hp e1 e2 h0 h1
      simpa [pullF, hq, e1, e2, h0, h1] using this
    · have := pull_b0n1 b t p s head q w S st s1 s2 v u h hq hp e1 e2 h0 h1
      simpa [pullF, hq, e1, e2, h0, h1] using this
    · have := pull_b1n0 b t p s head q w S st s1 s2 v u h hq hp e1 e2 h0 h1
      simpa [pullF, hq, e1, e2, h0, h1] using this
    · have := pull_b1n1 b t p s head q w S st s1 s2 v u h hq hp e1 e2 h0 h1
      simpa [pullF, hq, e1, e2, h0, h1] using this

end Go.Proofs.YtcicmljnjdhkjaaGreat
