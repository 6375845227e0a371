/- LinkWalks: the law's walk on a heap. -/
import Derived.Test.YtkfcjlampnjfbaaWalks
namespace Go.Proofs.Ytkfcjlampnjfbaa
open Go.RowKit
section
variable {t p s : Int} {ad : Addr} {n c : Nat} {vs : List Int}

abbrev hd0 (vs : List Int) : Int → Int := fun x => vs.getD x.toNat 0
abbrev nx0 (vs : List Int) (t : Int) : Int → Int := fun x => gv vs t x 2
abbrev pv0 (vs : List Int) (t : Int) : Int → Int := fun x => gv vs t x 3
def NoS : Nat → Prop := fun _ => False

theorem split_at {l : List Int} {k : Nat} {x : Int} (h : l[k]? = some x) : l = l.take k ++ x :: l.drop (k + 1) := by
  obtain ⟨h1, h2⟩ := List.getElem?_eq_some_iff.1 h
  rw [← h2, ← List.drop_eq_getElem_cons h1, List.take_append_drop]

/-- a round of either loop: the head, and the view. -/
structure WkRel (w : World) (t p s x0 x1 : Int) (ad : Addr) (n c : Nat) (b xb : Nat) (hd nx pv : Int → Int) (v : Value) (wr : World) (a : Nat) (st : VS) : Prop where
  hv : v = .int .i64 a
  a2 : 2 ≤ a ∧ a ≤ 22
  vst : VSt PV w b NoS [xb, w.heap.size + 1, w.heap.size] st wr
  hs : HV t p s hd nx pv st
  c0 : ∀ o : Nat, wr.cell? ⟨w.heap.size, o, none⟩ = (#[.int .i64 t, .int .i64 p, .int .i64 s] : Array Value)[o]?
  c1 : ∀ o : Nat, wr.cell? ⟨w.heap.size + 1, o, none⟩ = (#[.int .i64 x0, .int .i64 x1] : Array Value)[o]?
  c2 : ∀ o : Nat, wr.cell? ⟨xb, o, none⟩ = (#[.int .i64 t, .int .i64 p, .int .i64 s, .slice (some ad) n c] : Array Value)[o]?
def WkRelE (w : World) (t p s x0 x1 : Int) (ad : Addr) (n c : Nat) (b xb : Nat) (hd nx pv : Int → Int) (v : Value) (wr : World) : Prop := ∃ a st, WkRel w t p s x0 x1 ad n c b xb hd nx pv v wr a st
theorem VSt.bel {w0 w : World} {b : Nat} {Ls : List Nat} {st : VS} (h : VSt PV w0 b NoS Ls st w) : Below w0.heap.size w0 w := h.fr.below (Nat.le_refl _) (fun _ x => x.elim)

set_option maxHeartbeats 1500000 in
set_option maxRecDepth 100000 in
theorem lwalks_main (x0 x1 : Int) (c : Nat) (w : World) (h : XV w t p s ad n vs) (hk : (chkF vs t p s).2 = true) :
    Calls Try.prog 5 #[.agg #[.int .i64 t, .int .i64 p, .int .i64 s], .slice (some ad) n c, .agg #[.int .i64 x0, .int .i64 x1]] w fun e w' => e = .returned (.bool true) ∧ Below w.heap.size w w' := by
  have HF := Lib.hid (show ∀ w, Calls Try.prog 19 #[.agg #[.int .i64 t, .int .i64 p, .int .i64 s]] w fun e w' => e = .returned (.bool true) ∧ Below w.heap.size w w' by
    intro w
    have := few_any t p s w
    rwa [show decide (p ≤ 64) = true by simp; exact h.few] at this)
  have HS := Lib.hid (show ∀ w, XV w t p s ad n vs → Calls Try.prog 20 #[.agg #[.int .i64 t, .int .i64 p, .int .i64 s], .slice (some ad) n c] w fun e w' => e = .returned (.bool true) ∧ Below w.heap.size w w' by
    intro w hw
    have := rsound_any c w hw
    rwa [hk] at this)
  have bd := h.bd
  have hlen := h.len
  have hp : p ≤ 64 := h.few
  have HOK := Lib.hid (fun (a : Nat) (h2 : 2 ≤ a) (h21 : a ≤ 21) => sound_ok h.u32 (by omega) hk a h2 h21)
  have HAp := Lib.hid (fun (a b : Nat) (h2 : 2 ≤ a) (h21 : a ≤ 21) (h3 : 2 ≤ b) (h31 : b ≤ 21) (hab : a ≠ b) => sound_apart h.u32 (by omega) hk a b h2 h21 h3 h31 hab)
  have HLi := Lib.hid (fun (a : Nat) (w : World) (h : XV w t p s ad n vs) (ha : a ≤ 21) => list_any a c w h (by have := h.bd; omega))
  have HV0 := Lib.hid (whole_hv h.right (show (vs.length : Int) = 30 + 4 * t + 6 * p by rw [hlen]; omega))
  have hrd : ∀ W, Below w.heap.size w W → Rd W (.slice (some ad) n c) 1 vs.length (uints vs) := by
    intro W hb
    have hx := h.keep hb
    refine ⟨by simp [uints], Or.inr ⟨ad, c, by rw [hlen], fun j u hj => ?_⟩⟩
    have hjl : j < vs.length := by have := (List.getElem?_eq_some_iff.1 hj).1; simpa [uints] using this
    rw [hx.cells j (by omega), ← hj]
    simp [uints, hjl]
  have HRd := Lib.hid hrd
  have HU := Lib.hid h.u32
  have HX := Lib.hid h
  have c0 := loc_old (.cells #[.int .i64 x0, .int .i64 x1] 28) (by simp) (loc_alloc w #[.int .i64 t, .int .i64 p, .int .i64 s] 23)
  have c1 := loc_alloc (w.alloc (.cells #[.int .i64 t, .int .i64 p, .int .i64 s] 23)) #[.int .i64 x0, .int .i64 x1] 28
  have S0 := ((BS.start w).alloc (.cells #[.int .i64 t, .int .i64 p, .int .i64 s] 23)).alloc (.cells #[.int .i64 x0, .int .i64 x1] 28)
  simp only [World.size_alloc] at c1 S0
  clear h hk hrd
  go_enter Try.func5, Try.ntmps5
  go_wp2_with fail
  refine (calls_b S0 (HF.out _)).mono ?_
  rintro e w1 ⟨rfl, S1, S1l⟩
  have d0 := loc_step S1l (by simp) c0
  have d1 := loc_step S1l (by simp) c1
  clear S1l
  go_wp2_with fail
  refine (calls_b S1 (HS.out _ (HX.out.keep S1.bel))).mono ?_
  rintro e w2 ⟨rfl, S2, S2l⟩
  have f0 := loc_step S2l (by simp) d0
  have f1 := loc_step S2l (by simp) d1
  clear S2l
  go_wp2_with fail
  refine (whole_any _ _ _ (HRd.out _ S2.bel) (by rw [hlen]; omega) HU.out).mono ?_
  rintro e w3 ⟨b, rfl, hP, hB⟩
  have hV : VSt PV w b NoS [w.heap.size + 1, w.heap.size] (wholeVS vs) w3 := VSt.of_new hP (S2.bel.trans (hB.mono S2.bel.size)) S2.bel.size (fun L hL => S2.ls L hL) hB.size
  have g0 := ((BS.start w2).below hB).oldbox f0 (S2.ls w.heap.size (by simp)).1
  have g1 := ((BS.start w2).below hB).oldbox f1 (S2.ls (w.heap.size + 1) (by simp)).1
  have hV4 := hV.alloc keepsPV (.cells #[.int .i64 t, .int .i64 p, .int .i64 s, .slice (some ad) n c] 39)
  have e0 := loc_old (.cells #[.int .i64 t, .int .i64 p, .int .i64 s, .slice (some ad) n c] 39) (hV.ls w.heap.size (by simp)).1 g0
  have e1 := loc_old (.cells #[.int .i64 t, .int .i64 p, .int .i64 s, .slice (some ad) n c] 39) (hV.ls (w.heap.size + 1) (by simp)).1 g1
  have e2 := loc_alloc w3 #[.int .i64 t, .int .i64 p, .int .i64 s, .slice (some ad) n c] 39
  clear S0 S1 S2 c0 c1 d0 d1 f0 f1 hP hB hV HRd HU
  go_wp2_with fail
  go_loopw [9, 10, 11] (fun v9 _ _ wr => WkRelE w t p s x0 x1 ad n c b w3.heap.size (hd0 vs) (nx0 vs t) (pv0 vs t) v9 wr) (fun v9 _ _ _ => 22 - (intOf v9).toNat)
  case atStart => exact ⟨2, _, rfl, by omega, hV4, HV0.out, e0, e1, e2⟩
  case round =>
    obtain ⟨a, st, rfl, ha, hv, hhv, k0, k1, k2⟩ := hrel
    clear e0 e1 e2 hV4
    by_cases hlt : a ≤ 21
    · have HL := Lib.hid (fun (w : World) (h : XV w t p s ad n vs) => HLi.out a w h hlt)
      have hok := HOK.out a ha.1 hlt
      generalize hll : (listF vs t p a).1 = l at *
      obtain ⟨hwk, hhv2⟩ := hhv.walk (a := (a : Int)) (by omega) (by omega) hok
      have HHV2 := Lib.hid hhv2
      have HLn := Lib.hid (show l.length ≤ 4294967296 by have := listF_len (vs := vs) (t := t) (p := p) (by omega) a; rw [hll] at this; omega)
      have HW := Lib.hid (fun (W : World) (S1 : Nat → Prop) (h1 : PV W b S1 st) => walk_any b t p s a W S1 st h1 (by omega))
      have HOk2 := Lib.hid hok
      clear hhv2 hok hll
      go_wp2_with fail
      refine (calls_rowv hv (F := fun v => .tuple #[v, .bool (listF vs t p a).2]) (HL.out _ (HX.out.keep hv.bel))).mono ?_
      rintro e w5 ⟨v5, rfl, ⟨hv5, hv5l⟩, r5⟩
      have m0 := loc_step hv5l (by simp) k0
      have m1 := loc_step hv5l (by simp) k1
      have m2 := loc_step hv5l (by simp) k2
      clear hv5l k0 k1 k2 hv
      go_wp2_with fail
      refine (calls_walk hv5 (fun S1 h1 => HW.out _ S1 h1)).mono ?_
      rintro e w6 ⟨v6, rfl, ⟨hv6, hv6l⟩, r6⟩
      have n0 := loc_step hv6l (by simp) m0
      have n1 := loc_step hv6l (by simp) m1
      have n2 := loc_step hv6l (by simp) m2
      have r56 := row_step hv6l (fun k hk => by simp [hk]) r5
      rw [hwk] at r6
      clear hv6l m0 m1 m2 hv5
      have HR6 := Lib.hid r6
      have HR56 := Lib.hid r56
      clear r6 r56 r5
      go_wp2_with fail
      refine (calls_bl keepsPV hv6 (ints_same l v6 v5 _ HR6.out HR56.out HLn.out)).mono ?_
      rintro e w7 ⟨rfl, hv7, hv7l⟩
      have o0 := loc_step hv7l (by simp) n0
      have o1 := loc_step hv7l (by simp) n1
      have o2 := loc_step hv7l (by simp) n2
      go_wp2_with fail
      go_roundw
      case rel => exact ⟨a + 1, _, by go_num, by omega, hv7.sub _ (by intro L hL; simp at hL ⊢; rcases hL with h | h | h <;> simp [h]), HHV2.out, o0, o1, o2⟩
      case measure => simp [intOf]; omega
    · obtain rfl : a = 22 := by omega
      clear hlt
      by_cases h1 : x0 ≤ 2
      · have hx1 : x0 < 21 := by omega
        have hx2 : ¬ 2 < x0 := by omega
        have HLm := Lib.hid (fun (w : World) (h : XV w t p s ad n vs) => HLi.out 2 w h (by omega))
        have hokm := HOK.out 2 (by omega) (by omega)
        have HLnm := Lib.hid (show (listF vs t p 2).1.length ≤ 4294967296 by have := listF_len (vs := vs) (t := t) (p := p) (by omega) 2; omega)
        have HOKm := Lib.hid hokm
        have HAm := Lib.hid (fun (a : Nat) (h2 : 2 ≤ a) (h21 : a ≤ 21) (h : a ≠ 2) => HAp.out a 2 h2 h21 (by omega) (by omega) h)
        clear hokm HAp
        go_wp2_with fail
        refine (calls_rowv hv (F := fun v => .tuple #[v, .bool (listF vs t p 2).2]) (HLm.out _ (HX.out.keep hv.bel))).mono ?_
        rintro e w5 ⟨v5, rfl, ⟨hv5, hv5l⟩, r5⟩
        have m0 := loc_step hv5l (by simp) k0
        have m1 := loc_step hv5l (by simp) k1
        have m2 := loc_step hv5l (by simp) k2
        clear hv5l k0 k1 k2 hv
        have HR5 := Lib.hid r5
        clear r5
        go_wp2_with fail
        refine (in13_any _ x1 v5 _ HR5.out HLnm.out).mono ?_
        rintro e w6 ⟨i, rfl, hi, hb6⟩
        have hv6 := hv5.below keepsPV hb6
        have n0 := loc_step (fun L hL => hb6.block L (hv5.ls L hL).1) (by simp) m0
        have n1 := loc_step (fun L hL => hb6.block L (hv5.ls L hL).1) (by simp) m1
        have n2 := loc_step (fun L hL => hb6.block L (hv5.ls L hL).1) (by simp) m2
        clear m0 m1 m2 hv5 HR5
        have HLs := Lib.hid (hb6.size)
        clear hb6
        rcases hi with ⟨rfl, hno⟩ | ⟨k, rfl, hkl, hkx⟩
        · clear hno
          go_wp2_with fail
          refine (live_any _).mono ?_
          rintro e w7 ⟨rfl, hb7⟩
          go_wp2
          go_ret
          exact ⟨rfl, hv6.bel.trans (hb7.mono hv6.bel.size)⟩
        · have hsp := split_at hkx
          have hok2 : LsOK p (hd0 vs) (nx0 vs t) (pv0 vs t) ((2 : Nat) : Int) ((listF vs t p 2).1.take k ++ x1 :: (listF vs t p 2).1.drop (k + 1)) := by rw [← hsp]; exact HOKm.out
          have HOk2 := Lib.hid hok2
          have HSp := Lib.hid hsp
          have HV3 := Lib.hid (hhv.pull (a := ((2 : Nat) : Int)) (by omega) (by omega) hok2)
          have hk0 : ¬ (k : Int) < 0 := by omega
          clear hsp hok2 hkx hkl
          go_wp2_with fail
          go_wp2_with fail
          refine (calls_st hv6 (fun S1 h1 => pull_any b t p s ((2 : Nat) : Int) x1 _ S1 _ h1 (by omega))).mono ?_
          rintro e w7 ⟨rfl, hv7, hv7l⟩
          have o0 := loc_step hv7l (by simp) n0
          have o1 := loc_step hv7l (by simp) n1
          have o2 := loc_step hv7l (by simp) n2
          clear hv7l
          clear n0 n1 n2 hv6
          go_wp2_with fail
          go_loopw [14, 15, 16] (fun v14 _ _ wr => WkRelE w t p s x0 x1 ad n c b w3.heap.size (pullHd (hd0 vs) (nx0 vs t) (pv0 vs t) ((2 : Nat) : Int) x1) (pullNx (nx0 vs t) (pv0 vs t) x1) (pullPv (nx0 vs t) (pv0 vs t) x1) v14 wr) (fun v14 _ _ _ => 22 - (intOf v14).toNat)
          case atStart => exact ⟨2, _, rfl, by omega, hv7.sub _ (by intro L hL; simp at hL ⊢; rcases hL with h | h | h <;> simp [h]), HV3.out, o0, o1, o2⟩
          case round =>
            clear o0 o1 o2 hv7 hhv
            obtain ⟨a, st2, rfl, ha, hv, hhv, k0, k1, k2⟩ := hrel
            by_cases hlt : a ≤ 21
            · have HL := Lib.hid (fun (w : World) (h : XV w t p s ad n vs) => HLi.out a w h hlt)
              have HLn := Lib.hid (show (listF vs t p a).1.length ≤ 4294967296 by have := listF_len (vs := vs) (t := t) (p := p) (by omega) a; omega)
              by_cases hm : 2 = a
              · subst hm
                go_wp2_with fail
                refine (calls_rowv hv (F := fun v => .tuple #[v, .bool (listF vs t p 2).2]) (HL.out _ (HX.out.keep hv.bel))).mono ?_
                rintro e w8 ⟨v8, rfl, ⟨hv8, hv8l⟩, r8⟩
                have m0 := loc_step hv8l (by simp) k0
                have m1 := loc_step hv8l (by simp) k1
                have m2 := loc_step hv8l (by simp) k2
                clear hv8l k0 k1 k2 hv r8
                go_wp2_with fail
                go_roundw
                case rel => exact ⟨2 + 1, _, by first | go_num | rfl, by omega, hv8.sub _ (by intro L hL; simp at hL ⊢; rcases hL with h | h | h <;> simp [h]), hhv, m0, m1, m2⟩
                case measure => simp [intOf]
              · have hmb : ((a : Int) != 2) = true := bne_iff_ne.2 (by omega)
                have hok := pull_other HOk2.out (HOK.out a ha.1 hlt) (by omega) (fun x hx => by have := HAm.out a ha.1 hlt (fun e => hm e.symm) x hx; rwa [← HSp.out])
                obtain ⟨hwk, hhv2⟩ := hhv.walk (a := (a : Int)) (by omega) (by omega) hok
                have HHV2 := Lib.hid hhv2
                have HW := Lib.hid (fun (W : World) (S1 : Nat → Prop) (h1 : PV W b S1 st2) => walk_any b t p s a W S1 st2 h1 (by omega))
                have HWk := Lib.hid hwk
                clear hhv2 hok hwk hhv hm
                go_wp2_with fail
                refine (calls_rowv hv (F := fun v => .tuple #[v, .bool (listF vs t p a).2]) (HL.out _ (HX.out.keep hv.bel))).mono ?_
                rintro e w8 ⟨v8, rfl, ⟨hv8, hv8l⟩, r8⟩
                have m0 := loc_step hv8l (by simp) k0
                have m1 := loc_step hv8l (by simp) k1
                have m2 := loc_step hv8l (by simp) k2
                clear hv8l k0 k1 k2 hv
                have HR8 := Lib.hid r8
                clear r8
                go_wp2_with fail
                refine (calls_walk hv8 (fun S1 h1 => HW.out _ S1 h1)).mono ?_
                rintro e w9 ⟨v9, rfl, ⟨hv9, hv9l⟩, r9⟩
                have n0 := loc_step hv9l (by simp) m0
                have n1 := loc_step hv9l (by simp) m1
                have n2 := loc_step hv9l (by simp) m2
                have HR89 := Lib.hid (row_step hv9l (fun k hk => by simp [hk]) HR8.out)
                rw [HWk.out] at r9
                have HR9 := Lib.hid r9
                clear hv9l m0 m1 m2 hv8 HR8 r9
                go_wp2_with fail
                refine (calls_bl keepsPV hv9 (ints_same _ v9 v8 _ HR9.out HR89.out HLn.out)).mono ?_
                rintro e w10 ⟨rfl, hv10, hv10l⟩
                have o0 := loc_step hv10l (by simp) n0
                have o1 := loc_step hv10l (by simp) n1
                have o2 := loc_step hv10l (by simp) n2
                clear hv10l n0 n1 n2 hv9
                go_wp2_with fail
                go_roundw
                case rel => exact ⟨a + 1, _, by go_num, by omega, hv10.sub _ (by intro L hL; simp at hL ⊢; rcases hL with h | h | h <;> simp [h]), HHV2.out, o0, o1, o2⟩
                case measure => simp [intOf]; omega
            · obtain rfl : a = 22 := by omega
              clear k0 k1 k2
              go_wp2_with fail
              refine (live_any _).mono ?_
              rintro e w8 ⟨rfl, hb8⟩
              go_wp2
              go_ret
              exact ⟨rfl, hv.bel.trans (hb8.mono hv.bel.size)⟩
      · by_cases h2 : x0 < 21
        · have hx2 : 2 < x0 := by omega
          obtain ⟨m, rfl⟩ : ∃ m : Nat, x0 = m := ⟨x0.toNat, by omega⟩
          have HLm := Lib.hid (fun (w : World) (h : XV w t p s ad n vs) => HLi.out m w h (by omega))
          have hokm := HOK.out m (by omega) (by omega)
          have HLnm := Lib.hid (show (listF vs t p m).1.length ≤ 4294967296 by have := listF_len (vs := vs) (t := t) (p := p) (by omega) m; omega)
          have HOKm := Lib.hid hokm
          have HAm := Lib.hid (fun (a : Nat) (h2 : 2 ≤ a) (h21 : a ≤ 21) (h : a ≠ m) => HAp.out a m h2 h21 (by omega) (by omega) h)
          clear hokm HAp
          go_wp2_with fail
          refine (calls_rowv hv (F := fun v => .tuple #[v, .bool (listF vs t p m).2]) (HLm.out _ (HX.out.keep hv.bel))).mono ?_
          rintro e w5 ⟨v5, rfl, ⟨hv5, hv5l⟩, r5⟩
          have m0 := loc_step hv5l (by simp) k0
          have m1 := loc_step hv5l (by simp) k1
          have m2 := loc_step hv5l (by simp) k2
          clear hv5l k0 k1 k2 hv
          have HR5 := Lib.hid r5
          clear r5
          go_wp2_with fail
          refine (in13_any _ x1 v5 _ HR5.out HLnm.out).mono ?_
          rintro e w6 ⟨i, rfl, hi, hb6⟩
          have hv6 := hv5.below keepsPV hb6
          have n0 := loc_step (fun L hL => hb6.block L (hv5.ls L hL).1) (by simp) m0
          have n1 := loc_step (fun L hL => hb6.block L (hv5.ls L hL).1) (by simp) m1
          have n2 := loc_step (fun L hL => hb6.block L (hv5.ls L hL).1) (by simp) m2
          clear m0 m1 m2 hv5 HR5
          have HLs := Lib.hid (hb6.size)
          clear hb6
          rcases hi with ⟨rfl, hno⟩ | ⟨k, rfl, hkl, hkx⟩
          · clear hno
            go_wp2_with fail
            refine (live_any _).mono ?_
            rintro e w7 ⟨rfl, hb7⟩
            go_wp2
            go_ret
            exact ⟨rfl, hv6.bel.trans (hb7.mono hv6.bel.size)⟩
          · have hsp := split_at hkx
            have hok2 : LsOK p (hd0 vs) (nx0 vs t) (pv0 vs t) ((m : Nat) : Int) ((listF vs t p m).1.take k ++ x1 :: (listF vs t p m).1.drop (k + 1)) := by rw [← hsp]; exact HOKm.out
            have HOk2 := Lib.hid hok2
            have HSp := Lib.hid hsp
            have HV3 := Lib.hid (hhv.pull (a := ((m : Nat) : Int)) (by omega) (by omega) hok2)
            have hk0 : ¬ (k : Int) < 0 := by omega
            clear hsp hok2 hkx hkl
            go_wp2_with fail
            go_wp2_with fail
            refine (calls_st hv6 (fun S1 h1 => pull_any b t p s ((m : Nat) : Int) x1 _ S1 _ h1 (by omega))).mono ?_
            rintro e w7 ⟨rfl, hv7, hv7l⟩
            have o0 := loc_step hv7l (by simp) n0
            have o1 := loc_step hv7l (by simp) n1
            have o2 := loc_step hv7l (by simp) n2
            clear hv7l
            clear n0 n1 n2 hv6
            go_wp2_with fail
            go_loopw [14, 15, 16] (fun v14 _ _ wr => WkRelE w t p s (m : Int) x1 ad n c b w3.heap.size (pullHd (hd0 vs) (nx0 vs t) (pv0 vs t) ((m : Nat) : Int) x1) (pullNx (nx0 vs t) (pv0 vs t) x1) (pullPv (nx0 vs t) (pv0 vs t) x1) v14 wr) (fun v14 _ _ _ => 22 - (intOf v14).toNat)
            case atStart => exact ⟨2, _, rfl, by omega, hv7.sub _ (by intro L hL; simp at hL ⊢; rcases hL with h | h | h <;> simp [h]), HV3.out, o0, o1, o2⟩
            case round =>
              clear o0 o1 o2 hv7 hhv
              obtain ⟨a, st2, rfl, ha, hv, hhv, k0, k1, k2⟩ := hrel
              by_cases hlt : a ≤ 21
              · have HL := Lib.hid (fun (w : World) (h : XV w t p s ad n vs) => HLi.out a w h hlt)
                have HLn := Lib.hid (show (listF vs t p a).1.length ≤ 4294967296 by have := listF_len (vs := vs) (t := t) (p := p) (by omega) a; omega)
                by_cases hm : m = a
                · subst hm
                  go_wp2_with fail
                  refine (calls_rowv hv (F := fun v => .tuple #[v, .bool (listF vs t p m).2]) (HL.out _ (HX.out.keep hv.bel))).mono ?_
                  rintro e w8 ⟨v8, rfl, ⟨hv8, hv8l⟩, r8⟩
                  have m0 := loc_step hv8l (by simp) k0
                  have m1 := loc_step hv8l (by simp) k1
                  have m2 := loc_step hv8l (by simp) k2
                  clear hv8l k0 k1 k2 hv r8
                  go_wp2_with fail
                  go_roundw
                  case rel => exact ⟨m + 1, _, by first | go_num | rfl, by omega, hv8.sub _ (by intro L hL; simp at hL ⊢; rcases hL with h | h | h <;> simp [h]), hhv, m0, m1, m2⟩
                  case measure => simp [intOf]; omega
                · have hmb : ((a : Int) != (m : Int)) = true := bne_iff_ne.2 (by omega)
                  have hok := pull_other HOk2.out (HOK.out a ha.1 hlt) (by omega) (fun x hx => by have := HAm.out a ha.1 hlt (fun e => hm e.symm) x hx; rwa [← HSp.out])
                  obtain ⟨hwk, hhv2⟩ := hhv.walk (a := (a : Int)) (by omega) (by omega) hok
                  have HHV2 := Lib.hid hhv2
                  have HW := Lib.hid (fun (W : World) (S1 : Nat → Prop) (h1 : PV W b S1 st2) => walk_any b t p s a W S1 st2 h1 (by omega))
                  have HWk := Lib.hid hwk
                  clear hhv2 hok hwk hhv hm
                  go_wp2_with fail
                  refine (calls_rowv hv (F := fun v => .tuple #[v, .bool (listF vs t p a).2]) (HL.out _ (HX.out.keep hv.bel))).mono ?_
                  rintro e w8 ⟨v8, rfl, ⟨hv8, hv8l⟩, r8⟩
                  have m0 := loc_step hv8l (by simp) k0
                  have m1 := loc_step hv8l (by simp) k1
                  have m2 := loc_step hv8l (by simp) k2
                  clear hv8l k0 k1 k2 hv
                  have HR8 := Lib.hid r8
                  clear r8
                  go_wp2_with fail
                  refine (calls_walk hv8 (fun S1 h1 => HW.out _ S1 h1)).mono ?_
                  rintro e w9 ⟨v9, rfl, ⟨hv9, hv9l⟩, r9⟩
                  have n0 := loc_step hv9l (by simp) m0
                  have n1 := loc_step hv9l (by simp) m1
                  have n2 := loc_step hv9l (by simp) m2
                  have HR89 := Lib.hid (row_step hv9l (fun k hk => by simp [hk]) HR8.out)
                  rw [HWk.out] at r9
                  have HR9 := Lib.hid r9
                  clear hv9l m0 m1 m2 hv8 HR8 r9
                  go_wp2_with fail
                  refine (calls_bl keepsPV hv9 (ints_same _ v9 v8 _ HR9.out HR89.out HLn.out)).mono ?_
                  rintro e w10 ⟨rfl, hv10, hv10l⟩
                  have o0 := loc_step hv10l (by simp) n0
                  have o1 := loc_step hv10l (by simp) n1
                  have o2 := loc_step hv10l (by simp) n2
                  clear hv10l n0 n1 n2 hv9
                  go_wp2_with fail
                  go_roundw
                  case rel => exact ⟨a + 1, _, by go_num, by omega, hv10.sub _ (by intro L hL; simp at hL ⊢; rcases hL with h | h | h <;> simp [h]), HHV2.out, o0, o1, o2⟩
                  case measure => simp [intOf]; omega
              · obtain rfl : a = 22 := by omega
                clear k0 k1 k2
                go_wp2_with fail
                refine (live_any _).mono ?_
                rintro e w8 ⟨rfl, hb8⟩
                go_wp2
                go_ret
                exact ⟨rfl, hv.bel.trans (hb8.mono hv.bel.size)⟩
        · have hx2 : 21 ≤ x0 := by omega
          have HLm := Lib.hid (fun (w : World) (h : XV w t p s ad n vs) => HLi.out 21 w h (by omega))
          have hokm := HOK.out 21 (by omega) (by omega)
          have HLnm := Lib.hid (show (listF vs t p 21).1.length ≤ 4294967296 by have := listF_len (vs := vs) (t := t) (p := p) (by omega) 21; omega)
          have HOKm := Lib.hid hokm
          have HAm := Lib.hid (fun (a : Nat) (h2 : 2 ≤ a) (h21 : a ≤ 21) (h : a ≠ 21) => HAp.out a 21 h2 h21 (by omega) (by omega) h)
          clear hokm HAp
          go_wp2_with fail
          refine (calls_rowv hv (F := fun v => .tuple #[v, .bool (listF vs t p 21).2]) (HLm.out _ (HX.out.keep hv.bel))).mono ?_
          rintro e w5 ⟨v5, rfl, ⟨hv5, hv5l⟩, r5⟩
          have m0 := loc_step hv5l (by simp) k0
          have m1 := loc_step hv5l (by simp) k1
          have m2 := loc_step hv5l (by simp) k2
          clear hv5l k0 k1 k2 hv
          have HR5 := Lib.hid r5
          clear r5
          go_wp2_with fail
          refine (in13_any _ x1 v5 _ HR5.out HLnm.out).mono ?_
          rintro e w6 ⟨i, rfl, hi, hb6⟩
          have hv6 := hv5.below keepsPV hb6
          have n0 := loc_step (fun L hL => hb6.block L (hv5.ls L hL).1) (by simp) m0
          have n1 := loc_step (fun L hL => hb6.block L (hv5.ls L hL).1) (by simp) m1
          have n2 := loc_step (fun L hL => hb6.block L (hv5.ls L hL).1) (by simp) m2
          clear m0 m1 m2 hv5 HR5
          have HLs := Lib.hid (hb6.size)
          clear hb6
          rcases hi with ⟨rfl, hno⟩ | ⟨k, rfl, hkl, hkx⟩
          · clear hno
            go_wp2_with fail
            refine (live_any _).mono ?_
            rintro e w7 ⟨rfl, hb7⟩
            go_wp2
            go_ret
            exact ⟨rfl, hv6.bel.trans (hb7.mono hv6.bel.size)⟩
          · have hsp := split_at hkx
            have hok2 : LsOK p (hd0 vs) (nx0 vs t) (pv0 vs t) ((21 : Nat) : Int) ((listF vs t p 21).1.take k ++ x1 :: (listF vs t p 21).1.drop (k + 1)) := by rw [← hsp]; exact HOKm.out
            have HOk2 := Lib.hid hok2
            have HSp := Lib.hid hsp
            have HV3 := Lib.hid (hhv.pull (a := ((21 : Nat) : Int)) (by omega) (by omega) hok2)
            have hk0 : ¬ (k : Int) < 0 := by omega
            clear hsp hok2 hkx hkl
            go_wp2_with fail
            go_wp2_with fail
            refine (calls_st hv6 (fun S1 h1 => pull_any b t p s ((21 : Nat) : Int) x1 _ S1 _ h1 (by omega))).mono ?_
            rintro e w7 ⟨rfl, hv7, hv7l⟩
            have o0 := loc_step hv7l (by simp) n0
            have o1 := loc_step hv7l (by simp) n1
            have o2 := loc_step hv7l (by simp) n2
            clear hv7l
            clear n0 n1 n2 hv6
            go_wp2_with fail
            go_loopw [14, 15, 16] (fun v14 _ _ wr => WkRelE w t p s x0 x1 ad n c b w3.heap.size (pullHd (hd0 vs) (nx0 vs t) (pv0 vs t) ((21 : Nat) : Int) x1) (pullNx (nx0 vs t) (pv0 vs t) x1) (pullPv (nx0 vs t) (pv0 vs t) x1) v14 wr) (fun v14 _ _ _ => 22 - (intOf v14).toNat)
            case atStart => exact ⟨2, _, rfl, by omega, hv7.sub _ (by intro L hL; simp at hL ⊢; rcases hL with h | h | h <;> simp [h]), HV3.out, o0, o1, o2⟩
            case round =>
              clear o0 o1 o2 hv7 hhv
              obtain ⟨a, st2, rfl, ha, hv, hhv, k0, k1, k2⟩ := hrel
              by_cases hlt : a ≤ 21
              · have HL := Lib.hid (fun (w : World) (h : XV w t p s ad n vs) => HLi.out a w h hlt)
                have HLn := Lib.hid (show (listF vs t p a).1.length ≤ 4294967296 by have := listF_len (vs := vs) (t := t) (p := p) (by omega) a; omega)
                by_cases hm : 21 = a
                · subst hm
                  go_wp2_with fail
                  refine (calls_rowv hv (F := fun v => .tuple #[v, .bool (listF vs t p 21).2]) (HL.out _ (HX.out.keep hv.bel))).mono ?_
                  rintro e w8 ⟨v8, rfl, ⟨hv8, hv8l⟩, r8⟩
                  have m0 := loc_step hv8l (by simp) k0
                  have m1 := loc_step hv8l (by simp) k1
                  have m2 := loc_step hv8l (by simp) k2
                  clear hv8l k0 k1 k2 hv r8
                  go_wp2_with fail
                  go_roundw
                  case rel => exact ⟨21 + 1, _, by first | go_num | rfl, by omega, hv8.sub _ (by intro L hL; simp at hL ⊢; rcases hL with h | h | h <;> simp [h]), hhv, m0, m1, m2⟩
                  case measure => simp [intOf]
                · have hmb : ((a : Int) != 21) = true := bne_iff_ne.2 (by omega)
                  have hok := pull_other HOk2.out (HOK.out a ha.1 hlt) (by omega) (fun x hx => by have := HAm.out a ha.1 hlt (fun e => hm e.symm) x hx; rwa [← HSp.out])
                  obtain ⟨hwk, hhv2⟩ := hhv.walk (a := (a : Int)) (by omega) (by omega) hok
                  have HHV2 := Lib.hid hhv2
                  have HW := Lib.hid (fun (W : World) (S1 : Nat → Prop) (h1 : PV W b S1 st2) => walk_any b t p s a W S1 st2 h1 (by omega))
                  have HWk := Lib.hid hwk
                  clear hhv2 hok hwk hhv hm
                  go_wp2_with fail
                  refine (calls_rowv hv (F := fun v => .tuple #[v, .bool (listF vs t p a).2]) (HL.out _ (HX.out.keep hv.bel))).mono ?_
                  rintro e w8 ⟨v8, rfl, ⟨hv8, hv8l⟩, r8⟩
                  have m0 := loc_step hv8l (by simp) k0
                  have m1 := loc_step hv8l (by simp) k1
                  have m2 := loc_step hv8l (by simp) k2
                  clear hv8l k0 k1 k2 hv
                  have HR8 := Lib.hid r8
                  clear r8
                  go_wp2_with fail
                  refine (calls_walk hv8 (fun S1 h1 => HW.out _ S1 h1)).mono ?_
                  rintro e w9 ⟨v9, rfl, ⟨hv9, hv9l⟩, r9⟩
                  have n0 := loc_step hv9l (by simp) m0
                  have n1 := loc_step hv9l (by simp) m1
                  have n2 := loc_step hv9l (by simp) m2
                  have HR89 := Lib.hid (row_step hv9l (fun k hk => by simp [hk]) HR8.out)
                  rw [HWk.out] at r9
                  have HR9 := Lib.hid r9
                  clear hv9l m0 m1 m2 hv8 HR8 r9
                  go_wp2_with fail
                  refine (calls_bl keepsPV hv9 (ints_same _ v9 v8 _ HR9.out HR89.out HLn.out)).mono ?_
                  rintro e w10 ⟨rfl, hv10, hv10l⟩
                  have o0 := loc_step hv10l (by simp) n0
                  have o1 := loc_step hv10l (by simp) n1
                  have o2 := loc_step hv10l (by simp) n2
                  clear hv10l n0 n1 n2 hv9
                  go_wp2_with fail
                  go_roundw
                  case rel => exact ⟨a + 1, _, by go_num, by omega, hv10.sub _ (by intro L hL; simp at hL ⊢; rcases hL with h | h | h <;> simp [h]), HHV2.out, o0, o1, o2⟩
                  case measure => simp [intOf]; omega
              · obtain rfl : a = 22 := by omega
                clear k0 k1 k2
                go_wp2_with fail
                refine (live_any _).mono ?_
                rintro e w8 ⟨rfl, hb8⟩
                go_wp2
                go_ret
                exact ⟨rfl, hv.bel.trans (hb8.mono hv.bel.size)⟩
end
end Go.Proofs.Ytkfcjlampnjfbaa
