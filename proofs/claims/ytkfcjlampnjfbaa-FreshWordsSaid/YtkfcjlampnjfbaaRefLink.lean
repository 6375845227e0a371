/- the document's link: places of a page's cells; Push. -/
import Derived.Test.YtkfcjlampnjfbaaRefPut
import Derived.Test.YtkfcjlampnjfbaaBoundRef
import Derived.Test.YtkfcjlampnjfbaaLinkWalk
namespace Go.Proofs.Ytkfcjlampnjfbaa
open Go.RowKit

theorem rpage_any (t p s q part : Int) (w : World) (h0 : 0 ≤ part) (h1 : part ≤ 5) :
    Calls Try.prog 100 #[.agg #[.int .i64 t, .int .i64 p, .int .i64 s], .int .i64 q, .int .i64 part] w fun e w' => e = .returned (.int .i64 (ofF t p s q part)) ∧ Below w.heap.size w w' := by
  have H := rright_any t p s
  cases hr : rightB t p s
  · have hF : ofF t p s q part = -1 := by simp [ofF, hr]
    rw [hF]
    rw [hr] at H
    have HH := Lib.hid H
    clear H hF hr
    go_enter Try.func100, Try.ntmps100
    go_wp2_with fail
    refine (HH.out _).mono ?_
    rintro e w1 ⟨rfl, ha⟩
    obtain ⟨hac, haf⟩ := bcell ha
    have haz0 : w.heap.size < w1.heap.size := by have := ha.size; first | omega | (simp at this; omega)
    go_wp2
    go_ret
    refine ⟨rfl, ?_⟩
    (repeat (first | exact Below.refl _ _ | assumption | refine Below.setCell ?_ (by first | omega | (simp; done) | (simp; omega)) _ | refine Below.alloc ?_ (by first | omega | (simp; done) | (simp; omega)) _ | refine Below.drew ?_ | refine Below.trans ?_ (Below.mono ‹Below _ _ _› (by first | omega | (simp; done) | (simp; omega)))))
  · obtain ⟨b1, b2, b3, b4, b5, b6⟩ := right_bd hr
    rw [hr] at H
    have HH := Lib.hid H
    clear H
    by_cases hq : q < 0
    · have hF : ofF t p s q part = -1 := by simp [ofF, hr]; omega
      rw [hF]
      clear hF hr
      go_enter Try.func100, Try.ntmps100
      go_wp2_with fail
      refine (HH.out _).mono ?_
      rintro e w1 ⟨rfl, ha⟩
      obtain ⟨hac, haf⟩ := bcell ha
      have haz0 : w.heap.size < w1.heap.size := by have := ha.size; first | omega | (simp at this; omega)
      go_wp2
      go_ret
      refine ⟨rfl, ?_⟩
      (repeat (first | exact Below.refl _ _ | assumption | refine Below.setCell ?_ (by first | omega | (simp; done) | (simp; omega)) _ | refine Below.alloc ?_ (by first | omega | (simp; done) | (simp; omega)) _ | refine Below.drew ?_ | refine Below.trans ?_ (Below.mono ‹Below _ _ _› (by first | omega | (simp; done) | (simp; omega)))))
    · by_cases hq2 : q < p
      · have hF : ofF t p s q part = 30 + 4 * t + 6 * q + part := by simp [ofF, hr]; omega
        rw [hF]
        clear hF hr
        go_enter Try.func100, Try.ntmps100
        go_wp2_with fail
        refine (HH.out _).mono ?_
        rintro e w1 ⟨rfl, ha⟩
        obtain ⟨hac, haf⟩ := bcell ha
        have haz0 : w.heap.size < w1.heap.size := by have := ha.size; first | omega | (simp at this; omega)
        go_wp2
        go_ret
        refine ⟨ret_int (by omega), ?_⟩
        (repeat (first | exact Below.refl _ _ | assumption | refine Below.setCell ?_ (by first | omega | (simp; done) | (simp; omega)) _ | refine Below.alloc ?_ (by first | omega | (simp; done) | (simp; omega)) _ | refine Below.drew ?_ | refine Below.trans ?_ (Below.mono ‹Below _ _ _› (by first | omega | (simp; done) | (simp; omega)))))
      · have hF : ofF t p s q part = -1 := by simp [ofF, hr]; omega
        rw [hF]
        clear hF hr
        go_enter Try.func100, Try.ntmps100
        go_wp2_with fail
        refine (HH.out _).mono ?_
        rintro e w1 ⟨rfl, ha⟩
        obtain ⟨hac, haf⟩ := bcell ha
        have haz0 : w.heap.size < w1.heap.size := by have := ha.size; first | omega | (simp at this; omega)
        go_wp2
        go_ret
        refine ⟨rfl, ?_⟩
        (repeat (first | exact Below.refl _ _ | assumption | refine Below.setCell ?_ (by first | omega | (simp; done) | (simp; omega)) _ | refine Below.alloc ?_ (by first | omega | (simp; done) | (simp; omega)) _ | refine Below.drew ?_ | refine Below.trans ?_ (Below.mono ‹Below _ _ _› (by first | omega | (simp; done) | (simp; omega)))))

theorem rnext_any (t p s q : Int) (w : World) :
    Calls Try.prog 54 #[.agg #[.int .i64 t, .int .i64 p, .int .i64 s], .int .i64 q] w fun e w' => e = .returned (.int .i64 (ofF t p s q 2)) ∧ Below w.heap.size w w' := by
  go_enter Try.func54, Try.ntmps54
  go_wp2_with fail
  refine (rpage_any _ _ _ _ _ _ (by omega) (by omega)).mono ?_
  rintro e w1 ⟨rfl, ha⟩
  obtain ⟨hac, haf⟩ := bcell ha
  go_wp2
  go_ret
  refine ⟨rfl, ?_⟩
  (repeat (first | exact Below.refl _ _ | assumption | refine Below.setCell ?_ (by first | omega | (simp; done) | (simp; omega)) _ | refine Below.alloc ?_ (by first | omega | (simp; done) | (simp; omega)) _ | refine Below.drew ?_ | refine Below.trans ?_ (Below.mono ‹Below _ _ _› (by first | omega | (simp; done) | (simp; omega)))))
theorem rprev_any (t p s q : Int) (w : World) :
    Calls Try.prog 62 #[.agg #[.int .i64 t, .int .i64 p, .int .i64 s], .int .i64 q] w fun e w' => e = .returned (.int .i64 (ofF t p s q 3)) ∧ Below w.heap.size w w' := by
  go_enter Try.func62, Try.ntmps62
  go_wp2_with fail
  refine (rpage_any _ _ _ _ _ _ (by omega) (by omega)).mono ?_
  rintro e w1 ⟨rfl, ha⟩
  obtain ⟨hac, haf⟩ := bcell ha
  go_wp2
  go_ret
  refine ⟨rfl, ?_⟩
  (repeat (first | exact Below.refl _ _ | assumption | refine Below.setCell ?_ (by first | omega | (simp; done) | (simp; omega)) _ | refine Below.alloc ?_ (by first | omega | (simp; done) | (simp; omega)) _ | refine Below.drew ?_ | refine Below.trans ?_ (Below.mono ‹Below _ _ _› (by first | omega | (simp; done) | (simp; omega)))))

theorem rpush_no (b : Nat) (t p s head q : Int) (w : World) (S : Nat → Prop) (st : VS) (h : RV w b S st) (hq : pageB p q = false) :
    Calls Try.prog 31 #[.pointer (some ⟨b, 0, none⟩), .agg #[.int .i64 t, .int .i64 p, .int .i64 s], .int .i64 head, .int .i64 q] w fun e w' => e = .returned (.tuple #[]) ∧ NowR w b S st w' := by
  have hV := (VSt.start keepsRV h).alloc keepsRV (.cells #[.int .i64 t, .int .i64 p, .int .i64 s] 23)
  clear h
  by_cases h1 : q < 0
  · clear hq
    go_enter Try.func31, Try.ntmps31
    go_wp2
    refine bodyPost_ret (results_none rfl _ _ _) rfl ?_
    exact ⟨rfl, hV.done keepsRV⟩
  · have h2 : p ≤ q := by simp [pageB] at hq; omega
    clear hq
    go_enter Try.func31, Try.ntmps31
    go_wp2
    refine bodyPost_ret (results_none rfl _ _ _) rfl ?_
    exact ⟨rfl, hV.done keepsRV⟩

set_option maxRecDepth 100000 in
theorem rpush_zero (b : Nat) (t p s head q : Int) (w : World) (S : Nat → Prop) (st : VS) (h : RV w b S st) (hq : pageB p q = true) (hp : p ≤ 1024) (h0 : (st.get head).1 = 0) :
    Calls Try.prog 31 #[.pointer (some ⟨b, 0, none⟩), .agg #[.int .i64 t, .int .i64 p, .int .i64 s], .int .i64 head, .int .i64 q] w fun e w' => e = .returned (.tuple #[]) ∧ NowR w b S (pushF t p s head q st) w' := by
  have hV := (VSt.start keepsRV h).alloc keepsRV (.cells #[.int .i64 t, .int .i64 p, .int .i64 s] 23)
  have c0 := loc_alloc w #[.int .i64 t, .int .i64 p, .int .i64 s] 23
  have hu := VS.get_u32 (keepsRV.inv h) head
  have hF : pushF t p s head q st = (((st.get head).2.put (ofF t p s q 2) (st.get head).1).put (ofF t p s q 3) 0).put head (q + 1) := by simp [pushF, hq, h0]
  rw [hF]
  have hb : ((st.get head).1 != 0) = false := by simp [h0]
  have hq1 : 0 ≤ q := by simp [pageB] at hq; omega
  have hq5 : q < p := by simp [pageB] at hq; omega
  have hq2 : q < 1024 := by omega
  have HU := Lib.hid hu
  have HQ : VS.U32 (q + 1) := ⟨by omega, by omega⟩
  have HQ' := Lib.hid HQ
  have hq3 : IntKind.u32.wrap q = q := IntWalk.u32_in _ (by omega)
  have hq4 : IntKind.u32.wrap (q + 1) = q + 1 := IntWalk.u32_in _ (by omega)
  have hv3 : IntKind.i64.wrap (st.get head).1 = (st.get head).1 := wrap_in _ (by have := hu.1; have := hu.2; omega)
  have hv4 : IntKind.i64.wrap ((st.get head).1 - 1) = (st.get head).1 - 1 := wrap_in _ (by have := hu.1; have := hu.2; omega)
  have HG := Lib.hid (fun (w : World) (S1 : Nat → Prop) (h1 : RV w b S1 st) => rget_any b head w S1 st h1)
  clear h hF hu HQ h0 hq
  generalize (st.get head).2 = s1 at *
  generalize (st.get head).1 = v at *
  go_enter Try.func31, Try.ntmps31
  go_wp2_with fail
  refine (calls_st hV (HG.out _)).mono ?_
  rintro e w1 ⟨rfl, hV1, hV1l⟩
  have c1 := loc_step hV1l (by simp) c0
  clear hV1l
  go_wp2_with fail
  refine (calls_bl keepsRV hV1 (rnext_any _ _ _ _ _)).mono ?_
  rintro e w2 ⟨rfl, hV2, hV2l⟩
  have c2 := loc_step hV2l (by simp) c1
  clear hV2l
  go_wp2_with fail
  refine (calls_st hV2 (fun S1 h1 => rput_any _ _ _ _ _ _ h1 HU.out)).mono ?_
  rintro e w3 ⟨rfl, hV3, hV3l⟩
  have c3 := loc_step hV3l (by simp) c2
  clear hV3l
  go_wp2_with fail
  refine (calls_bl keepsRV hV3 (rprev_any _ _ _ _ _)).mono ?_
  rintro e w4 ⟨rfl, hV4, hV4l⟩
  have c4 := loc_step hV4l (by simp) c3
  clear hV4l
  go_wp2_with fail
  refine (calls_st hV4 (fun S1 h1 => rput_any _ _ _ _ _ _ h1 VS.u32_zero)).mono ?_
  rintro e w5 ⟨rfl, hV5, hV5l⟩
  have c5 := loc_step hV5l (by simp) c4
  clear hV5l
  go_wp2_with fail
  refine (calls_st hV5 (fun S1 h1 => rput_any _ _ _ _ _ _ h1 HQ'.out)).mono ?_
  rintro e w6 ⟨rfl, hV6, hV6l⟩
  have c6 := loc_step hV6l (by simp) c5
  clear hV6l
  go_wp2
  go_end0
  exact ⟨rfl, hV6.done keepsRV⟩

set_option maxRecDepth 100000 in
theorem rpush_more (b : Nat) (t p s head q : Int) (w : World) (S : Nat → Prop) (st : VS) (h : RV w b S st) (hq : pageB p q = true) (hp : p ≤ 1024) (h0 : (st.get head).1 ≠ 0) :
    Calls Try.prog 31 #[.pointer (some ⟨b, 0, none⟩), .agg #[.int .i64 t, .int .i64 p, .int .i64 s], .int .i64 head, .int .i64 q] w fun e w' => e = .returned (.tuple #[]) ∧ NowR w b S (pushF t p s head q st) w' := by
  have hV := (VSt.start keepsRV h).alloc keepsRV (.cells #[.int .i64 t, .int .i64 p, .int .i64 s] 23)
  have c0 := loc_alloc w #[.int .i64 t, .int .i64 p, .int .i64 s] 23
  have hu := VS.get_u32 (keepsRV.inv h) head
  have hF : pushF t p s head q st = ((((st.get head).2.put (ofF t p s q 2) (st.get head).1).put (ofF t p s q 3) 0).put (ofF t p s ((st.get head).1 - 1) 3) (q + 1)).put head (q + 1) := by simp [pushF, hq, h0]
  rw [hF]
  have hb : ((st.get head).1 != 0) = true := by simp [h0]
  have hq1 : 0 ≤ q := by simp [pageB] at hq; omega
  have hq5 : q < p := by simp [pageB] at hq; omega
  have hq2 : q < 1024 := by omega
  have HU := Lib.hid hu
  have HQ : VS.U32 (q + 1) := ⟨by omega, by omega⟩
  have HQ' := Lib.hid HQ
  have hq3 : IntKind.u32.wrap q = q := IntWalk.u32_in _ (by omega)
  have hq4 : IntKind.u32.wrap (q + 1) = q + 1 := IntWalk.u32_in _ (by omega)
  have hv3 : IntKind.i64.wrap (st.get head).1 = (st.get head).1 := wrap_in _ (by have := hu.1; have := hu.2; omega)
  have hv4 : IntKind.i64.wrap ((st.get head).1 - 1) = (st.get head).1 - 1 := wrap_in _ (by have := hu.1; have := hu.2; omega)
  have HG := Lib.hid (fun (w : World) (S1 : Nat → Prop) (h1 : RV w b S1 st) => rget_any b head w S1 st h1)
  clear h hF hu HQ h0 hq
  generalize (st.get head).2 = s1 at *
  generalize (st.get head).1 = v at *
  go_enter Try.func31, Try.ntmps31
  go_wp2_with fail
  refine (calls_st hV (HG.out _)).mono ?_
  rintro e w1 ⟨rfl, hV1, hV1l⟩
  have c1 := loc_step hV1l (by simp) c0
  clear hV1l
  go_wp2_with fail
  refine (calls_bl keepsRV hV1 (rnext_any _ _ _ _ _)).mono ?_
  rintro e w2 ⟨rfl, hV2, hV2l⟩
  have c2 := loc_step hV2l (by simp) c1
  clear hV2l
  go_wp2_with fail
  refine (calls_st hV2 (fun S1 h1 => rput_any _ _ _ _ _ _ h1 HU.out)).mono ?_
  rintro e w3 ⟨rfl, hV3, hV3l⟩
  have c3 := loc_step hV3l (by simp) c2
  clear hV3l
  go_wp2_with fail
  refine (calls_bl keepsRV hV3 (rprev_any _ _ _ _ _)).mono ?_
  rintro e w4 ⟨rfl, hV4, hV4l⟩
  have c4 := loc_step hV4l (by simp) c3
  clear hV4l
  go_wp2_with fail
  refine (calls_st hV4 (fun S1 h1 => rput_any _ _ _ _ _ _ h1 VS.u32_zero)).mono ?_
  rintro e w5 ⟨rfl, hV5, hV5l⟩
  have c5 := loc_step hV5l (by simp) c4
  clear hV5l
  go_wp2_with fail
  refine (calls_bl keepsRV hV5 (rprev_any _ _ _ _ _)).mono ?_
  rintro e w6 ⟨rfl, hV6, hV6l⟩
  have c6 := loc_step hV6l (by simp) c5
  clear hV6l
  go_wp2_with fail
  refine (calls_st hV6 (fun S1 h1 => rput_any _ _ _ _ _ _ h1 HQ'.out)).mono ?_
  rintro e w7 ⟨rfl, hV7, hV7l⟩
  have c7 := loc_step hV7l (by simp) c6
  clear hV7l
  go_wp2_with fail
  refine (calls_st hV7 (fun S1 h1 => rput_any _ _ _ _ _ _ h1 HQ'.out)).mono ?_
  rintro e w8 ⟨rfl, hV8, hV8l⟩
  have c8 := loc_step hV8l (by simp) c7
  clear hV8l
  go_wp2
  go_end0
  exact ⟨rfl, hV8.done keepsRV⟩

theorem rpush_any (b : Nat) (t p s head q : Int) (w : World) (S : Nat → Prop) (st : VS) (h : RV w b S st) (hp : p ≤ 1024) :
    Calls Try.prog 31 #[.pointer (some ⟨b, 0, none⟩), .agg #[.int .i64 t, .int .i64 p, .int .i64 s], .int .i64 head, .int .i64 q] w fun e w' => e = .returned (.tuple #[]) ∧ NowR w b S (pushF t p s head q st) w' := by
  cases hq : pageB p q with
  | false =>
    have hF : pushF t p s head q st = st := by simp [pushF, hq]
    rw [hF]
    exact rpush_no b t p s head q w S st h hq
  | true =>
    by_cases h0 : (st.get head).1 = 0
    · exact rpush_zero b t p s head q w S st h hq hp h0
    · exact rpush_more b t p s head q w S st h hq hp h0

end Go.Proofs.Ytkfcjlampnjfbaa
