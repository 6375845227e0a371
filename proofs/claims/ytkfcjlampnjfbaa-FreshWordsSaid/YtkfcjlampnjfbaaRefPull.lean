/- the document's link: Pull. -/
import Derived.Test.YtkfcjlampnjfbaaRefLink
namespace Go.Proofs.Ytkfcjlampnjfbaa
open Go.RowKit

theorem rpull_no (b : Nat) (t p s head q : Int) (w : World) (S : Nat → Prop) (st : VS) (h : RV w b S st) (hq : pageB p q = false) :
    Calls Try.prog 30 #[.pointer (some ⟨b, 0, none⟩), .agg #[.int .i64 t, .int .i64 p, .int .i64 s], .int .i64 head, .int .i64 q] w fun e w' => e = .returned (.tuple #[]) ∧ NowR w b S st w' := by
  have hV := (VSt.start keepsRV h).alloc keepsRV (.cells #[.int .i64 t, .int .i64 p, .int .i64 s] 23)
  clear h
  by_cases h1 : q < 0
  · clear hq
    go_enter Try.func30, Try.ntmps30
    go_wp2
    refine bodyPost_ret (results_none rfl _ _ _) rfl ?_
    exact ⟨rfl, hV.done keepsRV⟩
  · have h2 : p ≤ q := by simp [pageB] at hq; omega
    clear hq
    go_enter Try.func30, Try.ntmps30
    go_wp2
    refine bodyPost_ret (results_none rfl _ _ _) rfl ?_
    exact ⟨rfl, hV.done keepsRV⟩

set_option maxRecDepth 100000 in
theorem rpull_b0n0 (b : Nat) (t p s head q : Int) (w : World) (S : Nat → Prop) (st s1 s2 : VS) (v u : Int) (h : RV w b S st) (hq : pageB p q = true) (e1 : st.get (ofF t p s q 2) = (v, s1)) (e2 : s1.get (ofF t p s q 3) = (u, s2)) (h0 : u = 0) (h1 : v = 0) :
    Calls Try.prog 30 #[.pointer (some ⟨b, 0, none⟩), .agg #[.int .i64 t, .int .i64 p, .int .i64 s], .int .i64 head, .int .i64 q] w fun e w' => e = .returned (.tuple #[]) ∧ NowR w b S (((s2.put head v).put (ofF t p s q 2) 0).put (ofF t p s q 3) 0) w' := by
  have hV := (VSt.start keepsRV h).alloc keepsRV (.cells #[.int .i64 t, .int .i64 p, .int .i64 s] 23)
  have c0 := loc_alloc w #[.int .i64 t, .int .i64 p, .int .i64 s] 23
  have i1 := (keepsRV.inv h).get (ofF t p s q 2)
  have u1 := VS.get_u32 (keepsRV.inv h) (ofF t p s q 2)
  rw [e1] at i1 u1
  have u2 := VS.get_u32 i1 (ofF t p s q 3)
  rw [e2] at u2
  have HU1 := Lib.hid u1
  have HU2 := Lib.hid u2
  have G1 := fun (w : World) (S1 : Nat → Prop) (h1 : RV w b S1 st) => rget_any b (ofF t p s q 2) w S1 st h1
  have G2 := fun (w : World) (S1 : Nat → Prop) (h1 : RV w b S1 s1) => rget_any b (ofF t p s q 3) w S1 s1 h1
  rw [e1] at G1
  rw [e2] at G2
  have HG1 := Lib.hid G1
  have HG2 := Lib.hid G2
  have hb : (u == 0) = true := by simp [h0]
  have hc : (v != 0) = false := by simp [h1]
  have hq1 : 0 ≤ q := by simp [pageB] at hq; omega
  have hq5 : q < p := by simp [pageB] at hq; omega
  have hv3 : IntKind.i64.wrap v = v := wrap_in _ (by have := u1.1; have := u1.2; omega)
  have hv4 : IntKind.i64.wrap (v - 1) = v - 1 := wrap_in _ (by have := u1.1; have := u1.2; omega)
  have hu3 : IntKind.i64.wrap u = u := wrap_in _ (by have := u2.1; have := u2.2; omega)
  have hu4 : IntKind.i64.wrap (u - 1) = u - 1 := wrap_in _ (by have := u2.1; have := u2.2; omega)
  clear h i1 u1 u2 G1 G2 e1 e2 h0 h1 hq
  go_enter Try.func30, Try.ntmps30
  go_wp2_with fail
  refine (calls_bl keepsRV hV (rnext_any _ _ _ _ _)).mono ?_
  rintro e w1 ⟨rfl, hV1, hV1l⟩
  have c1 := loc_step hV1l (by simp) c0
  clear hV1l
  go_wp2_with fail
  refine (calls_st hV1 (HG1.out _)).mono ?_
  rintro e w2 ⟨rfl, hV2, hV2l⟩
  have c2 := loc_step hV2l (by simp) c1
  clear hV2l
  go_wp2_with fail
  refine (calls_bl keepsRV hV2 (rprev_any _ _ _ _ _)).mono ?_
  rintro e w3 ⟨rfl, hV3, hV3l⟩
  have c3 := loc_step hV3l (by simp) c2
  clear hV3l
  go_wp2_with fail
  refine (calls_st hV3 (HG2.out _)).mono ?_
  rintro e w4 ⟨rfl, hV4, hV4l⟩
  have c4 := loc_step hV4l (by simp) c3
  clear hV4l
  go_wp2_with fail
  refine (calls_st hV4 (fun S1 h1 => rput_any _ _ _ _ _ _ h1 HU1.out)).mono ?_
  rintro e w5 ⟨rfl, hV5, hV5l⟩
  have c5 := loc_step hV5l (by simp) c4
  clear hV5l
  go_wp2_with fail
  refine (calls_bl keepsRV hV5 (rnext_any _ _ _ _ _)).mono ?_
  rintro e w6 ⟨rfl, hV6, hV6l⟩
  have c6 := loc_step hV6l (by simp) c5
  clear hV6l
  go_wp2_with fail
  refine (calls_st hV6 (fun S1 h1 => rput_any _ _ _ _ _ _ h1 VS.u32_zero)).mono ?_
  rintro e w7 ⟨rfl, hV7, hV7l⟩
  have c7 := loc_step hV7l (by simp) c6
  clear hV7l
  go_wp2_with fail
  refine (calls_bl keepsRV hV7 (rprev_any _ _ _ _ _)).mono ?_
  rintro e w8 ⟨rfl, hV8, hV8l⟩
  have c8 := loc_step hV8l (by simp) c7
  clear hV8l
  go_wp2_with fail
  refine (calls_st hV8 (fun S1 h1 => rput_any _ _ _ _ _ _ h1 VS.u32_zero)).mono ?_
  rintro e w9 ⟨rfl, hV9, hV9l⟩
  have c9 := loc_step hV9l (by simp) c8
  clear hV9l
  go_wp2
  go_end0
  exact ⟨rfl, hV9.done keepsRV⟩

set_option maxRecDepth 100000 in
theorem rpull_b0n1 (b : Nat) (t p s head q : Int) (w : World) (S : Nat → Prop) (st s1 s2 : VS) (v u : Int) (h : RV w b S st) (hq : pageB p q = true) (e1 : st.get (ofF t p s q 2) = (v, s1)) (e2 : s1.get (ofF t p s q 3) = (u, s2)) (h0 : u = 0) (h1 : v ≠ 0) :
    Calls Try.prog 30 #[.pointer (some ⟨b, 0, none⟩), .agg #[.int .i64 t, .int .i64 p, .int .i64 s], .int .i64 head, .int .i64 q] w fun e w' => e = .returned (.tuple #[]) ∧ NowR w b S ((((s2.put head v).put (ofF t p s (v - 1) 3) u).put (ofF t p s q 2) 0).put (ofF t p s q 3) 0) w' := by
  have hV := (VSt.start keepsRV h).alloc keepsRV (.cells #[.int .i64 t, .int .i64 p, .int .i64 s] 23)
  have c0 := loc_alloc w #[.int .i64 t, .int .i64 p, .int .i64 s] 23
  have i1 := (keepsRV.inv h).get (ofF t p s q 2)
  have u1 := VS.get_u32 (keepsRV.inv h) (ofF t p s q 2)
  rw [e1] at i1 u1
  have u2 := VS.get_u32 i1 (ofF t p s q 3)
  rw [e2] at u2
  have HU1 := Lib.hid u1
  have HU2 := Lib.hid u2
  have G1 := fun (w : World) (S1 : Nat → Prop) (h1 : RV w b S1 st) => rget_any b (ofF t p s q 2) w S1 st h1
  have G2 := fun (w : World) (S1 : Nat → Prop) (h1 : RV w b S1 s1) => rget_any b (ofF t p s q 3) w S1 s1 h1
  rw [e1] at G1
  rw [e2] at G2
  have HG1 := Lib.hid G1
  have HG2 := Lib.hid G2
  have hb : (u == 0) = true := by simp [h0]
  have hc : (v != 0) = true := by simp [h1]
  have hq1 : 0 ≤ q := by simp [pageB] at hq; omega
  have hq5 : q < p := by simp [pageB] at hq; omega
  have hv3 : IntKind.i64.wrap v = v := wrap_in _ (by have := u1.1; have := u1.2; omega)
  have hv4 : IntKind.i64.wrap (v - 1) = v - 1 := wrap_in _ (by have := u1.1; have := u1.2; omega)
  have hu3 : IntKind.i64.wrap u = u := wrap_in _ (by have := u2.1; have := u2.2; omega)
  have hu4 : IntKind.i64.wrap (u - 1) = u - 1 := wrap_in _ (by have := u2.1; have := u2.2; omega)
  clear h i1 u1 u2 G1 G2 e1 e2 h0 h1 hq
  go_enter Try.func30, Try.ntmps30
  go_wp2_with fail
  refine (calls_bl keepsRV hV (rnext_any _ _ _ _ _)).mono ?_
  rintro e w1 ⟨rfl, hV1, hV1l⟩
  have c1 := loc_step hV1l (by simp) c0
  clear hV1l
  go_wp2_with fail
  refine (calls_st hV1 (HG1.out _)).mono ?_
  rintro e w2 ⟨rfl, hV2, hV2l⟩
  have c2 := loc_step hV2l (by simp) c1
  clear hV2l
  go_wp2_with fail
  refine (calls_bl keepsRV hV2 (rprev_any _ _ _ _ _)).mono ?_
  rintro e w3 ⟨rfl, hV3, hV3l⟩
  have c3 := loc_step hV3l (by simp) c2
  clear hV3l
  go_wp2_with fail
  refine (calls_st hV3 (HG2.out _)).mono ?_
  rintro e w4 ⟨rfl, hV4, hV4l⟩
  have c4 := loc_step hV4l (by simp) c3
  clear hV4l
  go_wp2_with fail
  refine (calls_st hV4 (fun S1 h1 => rput_any _ _ _ _ _ _ h1 HU1.out)).mono ?_
  rintro e w5 ⟨rfl, hV5, hV5l⟩
  have c5 := loc_step hV5l (by simp) c4
  clear hV5l
  go_wp2_with fail
  refine (calls_bl keepsRV hV5 (rprev_any _ _ _ _ _)).mono ?_
  rintro e w6 ⟨rfl, hV6, hV6l⟩
  have c6 := loc_step hV6l (by simp) c5
  clear hV6l
  go_wp2_with fail
  refine (calls_st hV6 (fun S1 h1 => rput_any _ _ _ _ _ _ h1 HU2.out)).mono ?_
  rintro e w7 ⟨rfl, hV7, hV7l⟩
  have c7 := loc_step hV7l (by simp) c6
  clear hV7l
  go_wp2_with fail
  refine (calls_bl keepsRV hV7 (rnext_any _ _ _ _ _)).mono ?_
  rintro e w8 ⟨rfl, hV8, hV8l⟩
  have c8 := loc_step hV8l (by simp) c7
  clear hV8l
  go_wp2_with fail
  refine (calls_st hV8 (fun S1 h1 => rput_any _ _ _ _ _ _ h1 VS.u32_zero)).mono ?_
  rintro e w9 ⟨rfl, hV9, hV9l⟩
  have c9 := loc_step hV9l (by simp) c8
  clear hV9l
  go_wp2_with fail
  refine (calls_bl keepsRV hV9 (rprev_any _ _ _ _ _)).mono ?_
  rintro e w10 ⟨rfl, hV10, hV10l⟩
  have c10 := loc_step hV10l (by simp) c9
  clear hV10l
  go_wp2_with fail
  refine (calls_st hV10 (fun S1 h1 => rput_any _ _ _ _ _ _ h1 VS.u32_zero)).mono ?_
  rintro e w11 ⟨rfl, hV11, hV11l⟩
  have c11 := loc_step hV11l (by simp) c10
  clear hV11l
  go_wp2
  go_end0
  exact ⟨rfl, hV11.done keepsRV⟩

set_option maxRecDepth 100000 in
theorem rpull_b1n0 (b : Nat) (t p s head q : Int) (w : World) (S : Nat → Prop) (st s1 s2 : VS) (v u : Int) (h : RV w b S st) (hq : pageB p q = true) (e1 : st.get (ofF t p s q 2) = (v, s1)) (e2 : s1.get (ofF t p s q 3) = (u, s2)) (h0 : u ≠ 0) (h1 : v = 0) :
    Calls Try.prog 30 #[.pointer (some ⟨b, 0, none⟩), .agg #[.int .i64 t, .int .i64 p, .int .i64 s], .int .i64 head, .int .i64 q] w fun e w' => e = .returned (.tuple #[]) ∧ NowR w b S (((s2.put (ofF t p s (u - 1) 2) v).put (ofF t p s q 2) 0).put (ofF t p s q 3) 0) w' := by
  have hV := (VSt.start keepsRV h).alloc keepsRV (.cells #[.int .i64 t, .int .i64 p, .int .i64 s] 23)
  have c0 := loc_alloc w #[.int .i64 t, .int .i64 p, .int .i64 s] 23
  have i1 := (keepsRV.inv h).get (ofF t p s q 2)
  have u1 := VS.get_u32 (keepsRV.inv h) (ofF t p s q 2)
  rw [e1] at i1 u1
  have u2 := VS.get_u32 i1 (ofF t p s q 3)
  rw [e2] at u2
  have HU1 := Lib.hid u1
  have HU2 := Lib.hid u2
  have G1 := fun (w : World) (S1 : Nat → Prop) (h1 : RV w b S1 st) => rget_any b (ofF t p s q 2) w S1 st h1
  have G2 := fun (w : World) (S1 : Nat → Prop) (h1 : RV w b S1 s1) => rget_any b (ofF t p s q 3) w S1 s1 h1
  rw [e1] at G1
  rw [e2] at G2
  have HG1 := Lib.hid G1
  have HG2 := Lib.hid G2
  have hb : (u == 0) = false := by simp [h0]
  have hc : (v != 0) = false := by simp [h1]
  have hq1 : 0 ≤ q := by simp [pageB] at hq; omega
  have hq5 : q < p := by simp [pageB] at hq; omega
  have hv3 : IntKind.i64.wrap v = v := wrap_in _ (by have := u1.1; have := u1.2; omega)
  have hv4 : IntKind.i64.wrap (v - 1) = v - 1 := wrap_in _ (by have := u1.1; have := u1.2; omega)
  have hu3 : IntKind.i64.wrap u = u := wrap_in _ (by have := u2.1; have := u2.2; omega)
  have hu4 : IntKind.i64.wrap (u - 1) = u - 1 := wrap_in _ (by have := u2.1; have := u2.2; omega)
  clear h i1 u1 u2 G1 G2 e1 e2 h0 h1 hq
  go_enter Try.func30, Try.ntmps30
  go_wp2_with fail
  refine (calls_bl keepsRV hV (rnext_any _ _ _ _ _)).mono ?_
  rintro e w1 ⟨rfl, hV1, hV1l⟩
  have c1 := loc_step hV1l (by simp) c0
  clear hV1l
  go_wp2_with fail
  refine (calls_st hV1 (HG1.out _)).mono ?_
  rintro e w2 ⟨rfl, hV2, hV2l⟩
  have c2 := loc_step hV2l (by simp) c1
  clear hV2l
  go_wp2_with fail
  refine (calls_bl keepsRV hV2 (rprev_any _ _ _ _ _)).mono ?_
  rintro e w3 ⟨rfl, hV3, hV3l⟩
  have c3 := loc_step hV3l (by simp) c2
  clear hV3l
  go_wp2_with fail
  refine (calls_st hV3 (HG2.out _)).mono ?_
  rintro e w4 ⟨rfl, hV4, hV4l⟩
  have c4 := loc_step hV4l (by simp) c3
  clear hV4l
  go_wp2_with fail
  refine (calls_bl keepsRV hV4 (rnext_any _ _ _ _ _)).mono ?_
  rintro e w5 ⟨rfl, hV5, hV5l⟩
  have c5 := loc_step hV5l (by simp) c4
  clear hV5l
  go_wp2_with fail
  refine (calls_st hV5 (fun S1 h1 => rput_any _ _ _ _ _ _ h1 HU1.out)).mono ?_
  rintro e w6 ⟨rfl, hV6, hV6l⟩
  have c6 := loc_step hV6l (by simp) c5
  clear hV6l
  go_wp2_with fail
  refine (calls_bl keepsRV hV6 (rnext_any _ _ _ _ _)).mono ?_
  rintro e w7 ⟨rfl, hV7, hV7l⟩
  have c7 := loc_step hV7l (by simp) c6
  clear hV7l
  go_wp2_with fail
  refine (calls_st hV7 (fun S1 h1 => rput_any _ _ _ _ _ _ h1 VS.u32_zero)).mono ?_
  rintro e w8 ⟨rfl, hV8, hV8l⟩
  have c8 := loc_step hV8l (by simp) c7
  clear hV8l
  go_wp2_with fail
  refine (calls_bl keepsRV hV8 (rprev_any _ _ _ _ _)).mono ?_
  rintro e w9 ⟨rfl, hV9, hV9l⟩
  have c9 := loc_step hV9l (by simp) c8
  clear hV9l
  go_wp2_with fail
  refine (calls_st hV9 (fun S1 h1 => rput_any _ _ _ _ _ _ h1 VS.u32_zero)).mono ?_
  rintro e w10 ⟨rfl, hV10, hV10l⟩
  have c10 := loc_step hV10l (by simp) c9
  clear hV10l
  go_wp2
  go_end0
  exact ⟨rfl, hV10.done keepsRV⟩

set_option maxRecDepth 100000 in
theorem rpull_b1n1 (b : Nat) (t p s head q : Int) (w : World) (S : Nat → Prop) (st s1 s2 : VS) (v u : Int) (h : RV w b S st) (hq : pageB p q = true) (e1 : st.get (ofF t p s q 2) = (v, s1)) (e2 : s1.get (ofF t p s q 3) = (u, s2)) (h0 : u ≠ 0) (h1 : v ≠ 0) :
    Calls Try.prog 30 #[.pointer (some ⟨b, 0, none⟩), .agg #[.int .i64 t, .int .i64 p, .int .i64 s], .int .i64 head, .int .i64 q] w fun e w' => e = .returned (.tuple #[]) ∧ NowR w b S ((((s2.put (ofF t p s (u - 1) 2) v).put (ofF t p s (v - 1) 3) u).put (ofF t p s q 2) 0).put (ofF t p s q 3) 0) w' := by
  have hV := (VSt.start keepsRV h).alloc keepsRV (.cells #[.int .i64 t, .int .i64 p, .int .i64 s] 23)
  have c0 := loc_alloc w #[.int .i64 t, .int .i64 p, .int .i64 s] 23
  have i1 := (keepsRV.inv h).get (ofF t p s q 2)
  have u1 := VS.get_u32 (keepsRV.inv h) (ofF t p s q 2)
  rw [e1] at i1 u1
  have u2 := VS.get_u32 i1 (ofF t p s q 3)
  rw [e2] at u2
  have HU1 := Lib.hid u1
  have HU2 := Lib.hid u2
  have G1 := fun (w : World) (S1 : Nat → Prop) (h1 : RV w b S1 st) => rget_any b (ofF t p s q 2) w S1 st h1
  have G2 := fun (w : World) (S1 : Nat → Prop) (h1 : RV w b S1 s1) => rget_any b (ofF t p s q 3) w S1 s1 h1
  rw [e1] at G1
  rw [e2] at G2
  have HG1 := Lib.hid G1
  have HG2 := Lib.hid G2
  have hb : (u == 0) = false := by simp [h0]
  have hc : (v != 0) = true := by simp [h1]
  have hq1 : 0 ≤ q := by simp [pageB] at hq; omega
  have hq5 : q < p := by simp [pageB] at hq; omega
  have hv3 : IntKind.i64.wrap v = v := wrap_in _ (by have := u1.1; have := u1.2; omega)
  have hv4 : IntKind.i64.wrap (v - 1) = v - 1 := wrap_in _ (by have := u1.1; have := u1.2; omega)
  have hu3 : IntKind.i64.wrap u = u := wrap_in _ (by have := u2.1; have := u2.2; omega)
  have hu4 : IntKind.i64.wrap (u - 1) = u - 1 := wrap_in _ (by have := u2.1; have := u2.2; omega)
  clear h i1 u1 u2 G1 G2 e1 e2 h0 h1 hq
  go_enter Try.func30, Try.ntmps30
  go_wp2_with fail
  refine (calls_bl keepsRV hV (rnext_any _ _ _ _ _)).mono ?_
  rintro e w1 ⟨rfl, hV1, hV1l⟩
  have c1 := loc_step hV1l (by simp) c0
  clear hV1l
  go_wp2_with fail
  refine (calls_st hV1 (HG1.out _)).mono ?_
  rintro e w2 ⟨rfl, hV2, hV2l⟩
  have c2 := loc_step hV2l (by simp) c1
  clear hV2l
  go_wp2_with fail
  refine (calls_bl keepsRV hV2 (rprev_any _ _ _ _ _)).mono ?_
  rintro e w3 ⟨rfl, hV3, hV3l⟩
  have c3 := loc_step hV3l (by simp) c2
  clear hV3l
  go_wp2_with fail
  refine (calls_st hV3 (HG2.out _)).mono ?_
  rintro e w4 ⟨rfl, hV4, hV4l⟩
  have c4 := loc_step hV4l (by simp) c3
  clear hV4l
  go_wp2_with fail
  refine (calls_bl keepsRV hV4 (rnext_any _ _ _ _ _)).mono ?_
  rintro e w5 ⟨rfl, hV5, hV5l⟩
  have c5 := loc_step hV5l (by simp) c4
  clear hV5l
  go_wp2_with fail
  refine (calls_st hV5 (fun S1 h1 => rput_any _ _ _ _ _ _ h1 HU1.out)).mono ?_
  rintro e w6 ⟨rfl, hV6, hV6l⟩
  have c6 := loc_step hV6l (by simp) c5
  clear hV6l
  go_wp2_with fail
  refine (calls_bl keepsRV hV6 (rprev_any _ _ _ _ _)).mono ?_
  rintro e w7 ⟨rfl, hV7, hV7l⟩
  have c7 := loc_step hV7l (by simp) c6
  clear hV7l
  go_wp2_with fail
  refine (calls_st hV7 (fun S1 h1 => rput_any _ _ _ _ _ _ h1 HU2.out)).mono ?_
  rintro e w8 ⟨rfl, hV8, hV8l⟩
  have c8 := loc_step hV8l (by simp) c7
  clear hV8l
  go_wp2_with fail
  refine (calls_bl keepsRV hV8 (rnext_any _ _ _ _ _)).mono ?_
  rintro e w9 ⟨rfl, hV9, hV9l⟩
  have c9 := loc_step hV9l (by simp) c8
  clear hV9l
  go_wp2_with fail
  refine (calls_st hV9 (fun S1 h1 => rput_any _ _ _ _ _ _ h1 VS.u32_zero)).mono ?_
  rintro e w10 ⟨rfl, hV10, hV10l⟩
  have c10 := loc_step hV10l (by simp) c9
  clear hV10l
  go_wp2_with fail
  refine (calls_bl keepsRV hV10 (rprev_any _ _ _ _ _)).mono ?_
  rintro e w11 ⟨rfl, hV11, hV11l⟩
  have c11 := loc_step hV11l (by simp) c10
  clear hV11l
  go_wp2_with fail
  refine (calls_st hV11 (fun S1 h1 => rput_any _ _ _ _ _ _ h1 VS.u32_zero)).mono ?_
  rintro e w12 ⟨rfl, hV12, hV12l⟩
  have c12 := loc_step hV12l (by simp) c11
  clear hV12l
  go_wp2
  go_end0
  exact ⟨rfl, hV12.done keepsRV⟩

theorem rpull_any (b : Nat) (t p s head q : Int) (w : World) (S : Nat → Prop) (st : VS) (h : RV w b S st) :
    Calls Try.prog 30 #[.pointer (some ⟨b, 0, none⟩), .agg #[.int .i64 t, .int .i64 p, .int .i64 s], .int .i64 head, .int .i64 q] w fun e w' => e = .returned (.tuple #[]) ∧ NowR w b S (pullF t p s head q st) w' := by
  cases hq : pageB p q with
  | false =>
    have hF : pullF t p s head q st = st := by simp [pullF, hq]
    rw [hF]
    exact rpull_no b t p s head q w S st h hq
  | true =>
    obtain ⟨v, s1, e1⟩ : ∃ v s1, st.get (ofF t p s q 2) = (v, s1) := ⟨_, _, rfl⟩
    obtain ⟨u, s2, e2⟩ : ∃ u s2, s1.get (ofF t p s q 3) = (u, s2) := ⟨_, _, rfl⟩
    by_cases h0 : u = 0 <;> by_cases h1 : v = 0
    · have := rpull_b0n0 b t p s head q w S st s1 s2 v u h hq e1 e2 h0 h1
      simpa [pullF, hq, e1, e2, h0, h1] using this
    · have := rpull_b0n1 b t p s head q w S st s1 s2 v u h hq e1 e2 h0 h1
      simpa [pullF, hq, e1, e2, h0, h1] using this
    · have := rpull_b1n0 b t p s head q w S st s1 s2 v u h hq e1 e2 h0 h1
      simpa [pullF, hq, e1, e2, h0, h1] using this
    · have := rpull_b1n1 b t p s head q w S st s1 s2 v u h hq e1 e2 h0 h1
      simpa [pullF, hq, e1, e2, h0, h1] using this

end Go.Proofs.Ytkfcjlampnjfbaa
