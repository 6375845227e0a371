/- the document's audit: bins and racks. -/
import Derived.Test.YtcicmljnjdhkjaaGreatAudE
namespace Go.Proofs.YtcicmljnjdhkjaaGreat
open Go.RowKit

def allN (f : Nat → Bool) : Nat → Bool
  | 0 => true
  | k + 1 => allN f k && f k
theorem allN_no {f : Nat → Bool} {k N : Nat} (hk : k < N) (h : f k = false) : allN f N = false := by
  induction N with
  | zero => omega
  | succ N ih =>
    by_cases e : k = N
    · subst e; simp [allN, h]
    · simp [allN, ih (by omega)]
theorem allN_iff {f : Nat → Bool} {N : Nat} : allN f N = true ↔ ∀ k, k < N → f k = true := by
  induction N with
  | zero => simp [allN]
  | succ N ih =>
    simp only [allN, Bool.and_eq_true, ih]
    constructor
    · intro h k hk
      by_cases e : k = N
      · rw [e]; exact h.2
      · exact h.1 k (by omega)
    · exact fun h => ⟨fun k hk => h k (by omega), h N (by omega)⟩
theorem RowP.row {w w' : World} {l : List Int} {v : Value} (h : RowP w l v w') : ∃ a c, v = .slice a l.length c := row_shape h.1
theorem listL_len {vs : List Int} {t p : Int} : ∀ (f : Nat) (q ah : Int) (out : List Int), (out.length : Int) ≤ p → ((listL vs t p f q ah out).1.length : Int) ≤ p := by
  intro f
  induction f with
  | zero => intro q ah out h; exact h
  | succ f ih =>
    intro q ah out h
    unfold listL
    split
    · exact h
    · split
      · exact h
      · split
        · exact h
        · exact ih _ _ _ (by simp; omega)
theorem listF_len {vs : List Int} {t p : Int} (h : 0 ≤ p) (k : Nat) : ((listF vs t p k).1.length : Int) ≤ p := listL_len _ _ _ _ (by simpa using h)
def wantI (b : Bool) : Int := if b then 1 else 0
section
variable {t p s : Int} {ad : Addr} {n c : Nat} {vs : List Int}
def AllRel (f : Nat → Bool) (N : Nat) (W0 : World) (v : Value) (wr : World) : Prop := ∃ k : Nat, k ≤ N ∧ v = .int .i64 k ∧ allN f k = true ∧ Below W0.heap.size W0 wr
theorem xbin_rel {w W0 wr : World} (h : XB w t p s ad n c vs W0) (hb : Below W0.heap.size W0 wr) : XB w t p s ad n c vs wr := h.keep hb

def binsInB (vs : List Int) (t : Int) (l : List Int) (k : Nat) (q : Nat) : Bool := ((l.count (q : Int) : Nat) : Int) == wantI (binnedB (gv vs t (q : Int) 0) k)
def binsB (vs : List Int) (t p : Int) (k : Nat) : Bool := (listF vs t p (2 + k)).2 && allN (binsInB vs t (listF vs t p (2 + k)).1 k) p.toNat
def binsF (vs : List Int) (t p : Int) : Bool := allN (binsB vs t p) 11

set_option maxHeartbeats 1000000 in
set_option maxRecDepth 100000 in
theorem bins_any (c : Nat) (w : World) (h : XV w t p s ad n vs) :
    Calls Tryz.prog 63 #[.agg #[.int .i64 t, .int .i64 p, .int .i64 s, .slice (some ad) n c]] w fun e w' => e = .returned (.bool (binsF vs t p)) ∧ Below w.heap.size w w' := by
  have X0 := h.boxed c
  have bd : 4 ≤ p ∧ p ≤ 64 := by have := h.bd; omega
  have hnn : (n : Int) = 30 + 4 * t + 6 * p ∧ 1 ≤ t := by have := h.bd; omega
  have HN := Lib.hid hnn
  generalize hr : binsF vs t p = r
  have hr2 : allN (binsB vs t p) 11 = r := hr
  have HR := Lib.hid hr2
  clear h hr hr2 hnn
  go_enter Tryz.func63, Tryz.ntmps63
  go_wp2_with fail
  go_loopw [3, 4, 5, 6, 7] (fun v3 _ _ _ _ wr => AllRel (binsB vs t p) 11 (w.alloc (.cells #[.int .i64 t, .int .i64 p, .int .i64 s, .slice (some ad) n c] 89)) v3 wr) (fun v3 _ _ _ _ _ => 11 - (intOf v3).toNat)
  case atStart => exact ⟨0, by omega, rfl, rfl, Below.refl _ _⟩
  case round =>
    obtain ⟨k, hk, rfl, hall, hbel⟩ := hrel
    have X1 := X0.keep hbel
    have HA := Lib.hid hall
    have HBel := Lib.hid hbel
    clear hall hbel X0
    by_cases hlt : k < 11
    · have hBin := Lib.hid (fun w => rbin_any k w hlt)
      have hLi := Lib.hid (fun (w : World) (h : XV w t p s ad n vs) => list_any (2 + k) c w h (by have := HN.out; omega))
      have hfk : binsB vs t p k = ((listF vs t p (2 + k)).2 && allN (binsInB vs t (listF vs t p (2 + k)).1 k) p.toNat) := rfl
      have HFK := Lib.hid hfk
      have hlen : (listF vs t p (2 + k)).1.length ≤ 4294967296 := by have := listF_len (vs := vs) (t := t) (p := p) (by omega) (2 + k); omega
      have HLen := Lib.hid hlen
      clear hfk hlen
      have Xr := X1.box
      have Xl := X1.lt
      generalize listF vs t p (2 + k) = lr at *
      obtain ⟨l, lb⟩ := lr
      go_wp2_with fail
      refine wp_region_noPanic ?_
      refine wp_region_held_drew (S := fun w' => BS wr ([] : List Nat) w' ∧ (∀ o : Nat, w'.cell? ⟨w.heap.size, o, none⟩ = (#[.int .i64 t, .int .i64 p, .int .i64 s, .slice (some ad) n c] : Array Value)[o]?)) (by kernel_rfl) ?_ (fun hHeld => ?_)
      · exact ⟨(BS.start wr).drew, Xr⟩
      refine wpAnyH_take (i := 0) (oi := _) (v := ?_) rfl (by kernel_rfl) (by kernel_rfl) (by kernel_rfl) (fun _ _ _ h => h) (Or.inl ⟨by rfl, ?_⟩) (by assumption) ?_
      rotate_left
      · intro w hSw; (try dsimp only at hSw); go_simp; try with_reducible rfl
      try simp only [Act.put, List.getElem_toArray, List.getElem_cons_zero, List.setIfInBounds_toArray, List.set_cons_zero, List.set_cons_succ]
      refine wpAnyH_take (i := 1) (oi := _) (v := ?_) rfl (by kernel_rfl) (by kernel_rfl) (by kernel_rfl) (fun _ _ _ h => h) (Or.inl ⟨by rfl, ?_⟩) (by assumption) ?_
      rotate_left
      · intro w hSw; (try dsimp only at hSw); go_simp; try with_reducible rfl
      try simp only [Act.put, List.getElem_toArray, List.getElem_cons_zero, List.getElem_cons_succ, List.setIfInBounds_toArray, List.set_cons_zero, List.set_cons_succ]
      refine wpAnyH_ready (rs := [2]) (by kernel_rfl) (by simp) ?_
      refine AllReadyH.cons (o := _) rfl (fun K hK => ?_) AllReadyH.nil
      go_simp
      refine (calls_b hHeld.1 (hBin.out _)).mono ?_
      rintro e wr1 ⟨rfl, hV, hVl⟩
      dsimp only
      refine hK.out _ _ ?_ (fun hHeld2 => ?_)
      · exact ⟨hV, hV.oldbox Xr Xl⟩
      clear hK K hV hVl hHeld
      have hHeld := hHeld2
      clear hHeld2
      try simp only [Act.put, List.getElem_toArray, List.getElem_cons_zero, List.getElem_cons_succ, List.setIfInBounds_toArray, List.set_cons_zero, List.set_cons_succ]
      refine wpAnyH_ready (rs := [3]) (by kernel_rfl) (by simp) ?_
      refine AllReadyH.cons (o := _) rfl (fun K hK => ?_) AllReadyH.nil
      go_simp
      refine (calls_row hHeld.1 (hLi.out _ (X1.xv.keep hHeld.1.bel))).mono ?_
      rintro e wr2 ⟨lv, rfl, ⟨hV, hVl⟩, hlv⟩
      dsimp only
      refine hK.out _ _ ?_ (fun hHeld2 => ?_)
      · exact ⟨hV, hV.oldbox Xr Xl⟩
      clear hK K hV hVl hHeld
      have hHeld := hHeld2
      clear hHeld2
      try simp only [Act.put, List.getElem_toArray, List.getElem_cons_zero, List.getElem_cons_succ, List.setIfInBounds_toArray, List.set_cons_zero, List.set_cons_succ]
      refine wpAnyH_take (i := 4) (oi := _) (v := ?_) rfl (by kernel_rfl) (by kernel_rfl) (by kernel_rfl) (fun _ _ _ h => h) (Or.inl ⟨by rfl, ?_⟩) (by assumption) ?_
      rotate_left
      · intro w hSw; (try dsimp only at hSw); go_simp; try with_reducible rfl
      try simp only [Act.put, List.getElem_toArray, List.getElem_cons_zero, List.getElem_cons_succ, List.setIfInBounds_toArray, List.set_cons_zero, List.set_cons_succ]
      refine wpAnyH_take (i := 5) (oi := _) (v := ?_) rfl (by kernel_rfl) (by kernel_rfl) (by kernel_rfl) (fun _ _ _ h => h) (Or.inl ⟨by rfl, ?_⟩) (by assumption) ?_
      rotate_left
      · intro w hSw; (try dsimp only at hSw); go_simp; try with_reducible rfl
      try simp only [Act.put, List.getElem_toArray, List.getElem_cons_zero, List.getElem_cons_succ, List.setIfInBounds_toArray, List.set_cons_zero, List.set_cons_succ]
      refine wpAnyH_take (i := 6) (oi := _) (v := ?_) rfl (by kernel_rfl) (by kernel_rfl) (by kernel_rfl) (fun _ _ _ h => h) (Or.inl ⟨by rfl, ?_⟩) (by assumption) ?_
      rotate_left
      · intro w hSw; (try dsimp only at hSw); go_simp; try with_reducible rfl
      try simp only [Act.put, List.getElem_toArray, List.getElem_cons_zero, List.getElem_cons_succ, List.setIfInBounds_toArray, List.set_cons_zero, List.set_cons_succ]
      refine wpAnyH_take (i := 7) (oi := _) (v := ?_) rfl (by kernel_rfl) (by kernel_rfl) (by kernel_rfl) (fun _ _ _ h => h) (Or.inl ⟨by rfl, ?_⟩) (by assumption) ?_
      rotate_left
      · intro w hSw; (try dsimp only at hSw); go_simp; try with_reducible rfl
      try simp only [Act.put, List.getElem_toArray, List.getElem_cons_zero, List.getElem_cons_succ, List.setIfInBounds_toArray, List.set_cons_zero, List.set_cons_succ]
      refine wpAnyH_take (i := 8) (oi := _) (v := ?_) rfl (by kernel_rfl) (by kernel_rfl) (by kernel_rfl) (fun _ _ _ h => h) (Or.inl ⟨by rfl, ?_⟩) (by assumption) ?_
      rotate_left
      · intro w hSw; (try dsimp only at hSw); go_simp; try with_reducible rfl
      try simp only [Act.put, List.getElem_toArray, List.getElem_cons_zero, List.getElem_cons_succ, List.setIfInBounds_toArray, List.set_cons_zero, List.set_cons_succ]
      refine wpAnyH_done (by kernel_rfl) ?_ _
      refine NoPanic.normal ?_
      refine world_gen ?_
      intro wz hwz
      rw [← hwz] at hHeld hlv
      clear hwz
      have X2 := X1.keep hHeld.1.bel
      obtain ⟨x0, x1, x2, x3⟩ := X2.cells
      have xl := X2.lt
      have bel2 := hHeld.1.bel
      clear hHeld Xr Xl
      obtain ⟨la, lc, rfl⟩ := hlv.row
      have HL := Lib.hid hlv
      have HB2 := Lib.hid bel2
      clear hlv bel2
      cases lb
      · have hno : binsB vs t p k = false := by rw [HFK.out]; rfl
        have hres : r = false := by rw [← HR.out]; exact allN_no hlt hno
        subst hres
        clear hno
        go_wp2
        go_ret
        exact ⟨rfl, X2.bel⟩
      · have hfk2 : binsB vs t p k = allN (binsInB vs t l k) p.toNat := by rw [HFK.out]; rfl
        have HFK2 := Lib.hid hfk2
        clear hfk2 HFK
        go_wp2_with fail
        go_loopw [6, 7] (fun v6 _ wq => AllRel (binsInB vs t l k) p.toNat wz v6 wq) (fun v6 _ _ => p.toNat - (intOf v6).toNat)
        case atStart => exact ⟨0, by omega, rfl, rfl, Below.refl _ _⟩
        case round =>
          obtain ⟨q, hq, rfl, hallq, hbq⟩ := hrel
          have X3 := X2.keep hbq
          have HQ := Lib.hid hallq
          have HBq := Lib.hid hbq
          clear hallq hbq x0 x1 x2 x3 X2
          obtain ⟨x0, x1, x2, x3⟩ := X3.cells
          by_cases hqp : (q : Int) < p
          · have hC := Lib.hid (fun (w : World) (h : XV w t p s ad n vs) => binned_any q k c w h (by omega) hqp)
            have hin : binsInB vs t l k q = (((l.count (q : Int) : Nat) : Int) == wantI (binnedB (gv vs t (q : Int) 0) k)) := rfl
            have hIn := Lib.hid (fun (w' : World) (hb : Below wz.heap.size wz w') => xin_any l q (.slice la l.length lc) w' (ownsRow_block HL.out.1 fun k hk => hb.block k (ownsRow_lt HL.out.1 hk)) HLen.out)
            have hcb : l.count (q : Int) ≤ 4294967296 := Nat.le_trans List.count_le_length HLen.out
            generalize binnedB (gv vs t (q : Int) 0) k = cd at *
            generalize l.count (q : Int) = cn at *
            have HIN := Lib.hid hin
            clear hin
            by_cases hw : (cn : Int) = wantI cd
            · have hyes : binsInB vs t l k q = true := by rw [HIN.out]; simpa using hw
              have HY := Lib.hid hyes
              have HW := Lib.hid hw
              clear hyes hw HIN
              cases cd
              · have e1 := HW.out
                have hb1 : ((cn : Int) != 0) = false := by rw [e1]; rfl
                clear e1
                go_wp2_with fail
                refine (hC.out _ X3.xv).mono ?_
                rintro e w5 ⟨rfl, hb5⟩
                have X5 := X3.keep hb5
                obtain ⟨X50, X51, X52, X53⟩ := X5.cells
                have X5z := X5.lt
                go_wp2_with fail
                refine (hIn.out _ (HBq.out.trans (hb5.mono HBq.out.size))).mono ?_
                rintro e w6 ⟨rfl, hb6⟩
                have bel6 := (HBq.out.trans (hb5.mono HBq.out.size)).trans (hb6.mono (Nat.le_trans HBq.out.size hb5.size))
                go_wp2_with fail
                go_roundw
                case rel => exact ⟨q + 1, by omega, by go_num, by simp [allN, HQ.out, HY.out], bel6⟩
                case measure => simp [intOf]; omega
              · have e1 := HW.out
                have hb1 : ((cn : Int) != 1) = false := by rw [e1]; rfl
                clear e1
                go_wp2_with fail
                refine (hC.out _ X3.xv).mono ?_
                rintro e w5 ⟨rfl, hb5⟩
                have X5 := X3.keep hb5
                obtain ⟨X50, X51, X52, X53⟩ := X5.cells
                have X5z := X5.lt
                go_wp2_with fail
                refine (hIn.out _ (HBq.out.trans (hb5.mono HBq.out.size))).mono ?_
                rintro e w6 ⟨rfl, hb6⟩
                have bel6 := (HBq.out.trans (hb5.mono HBq.out.size)).trans (hb6.mono (Nat.le_trans HBq.out.size hb5.size))
                go_wp2_with fail
                go_roundw
                case rel => exact ⟨q + 1, by omega, by go_num, by simp [allN, HQ.out, HY.out], bel6⟩
                case measure => simp [intOf]; omega
            · have hno : binsInB vs t l k q = false := by rw [HIN.out]; simpa using hw
              have hno2 : binsB vs t p k = false := by rw [HFK2.out]; exact allN_no (by omega) hno
              have hres : r = false := by rw [← HR.out]; exact allN_no hlt hno2
              subst hres
              have HW := Lib.hid hw
              clear hno hno2 hw HIN HR
              cases cd
              · have hb1 : ((cn : Int) != 0) = true := by have := HW.out; simpa [wantI] using this
                go_wp2_with fail
                refine (hC.out _ X3.xv).mono ?_
                rintro e w5 ⟨rfl, hb5⟩
                have X5 := X3.keep hb5
                obtain ⟨X50, X51, X52, X53⟩ := X5.cells
                have X5z := X5.lt
                go_wp2_with fail
                refine (hIn.out _ (HBq.out.trans (hb5.mono HBq.out.size))).mono ?_
                rintro e w6 ⟨rfl, hb6⟩
                go_wp2_with fail
                go_ret
                exact ⟨rfl, (X5.keep hb6).bel⟩
              · have hb1 : ((cn : Int) != 1) = true := by have := HW.out; simpa [wantI] using this
                go_wp2_with fail
                refine (hC.out _ X3.xv).mono ?_
                rintro e w5 ⟨rfl, hb5⟩
                have X5 := X3.keep hb5
                obtain ⟨X50, X51, X52, X53⟩ := X5.cells
                have X5z := X5.lt
                go_wp2_with fail
                refine (hIn.out _ (HBq.out.trans (hb5.mono HBq.out.size))).mono ?_
                rintro e w6 ⟨rfl, hb6⟩
                go_wp2_with fail
                go_ret
                exact ⟨rfl, (X5.keep hb6).bel⟩
          · obtain rfl : q = p.toNat := by omega
            have bel6 := HBel.out.trans ((HB2.out.trans (HBq.out.mono HB2.out.size)).mono HBel.out.size)
            have hyes : binsB vs t p k = true := by rw [HFK2.out]; exact HQ.out
            have HY := Lib.hid hyes
            clear hyes
            go_wp2_with fail
            go_roundw
            case rel => exact ⟨k + 1, by omega, by go_num, by simp [allN, HA.out, HY.out], bel6⟩
            case measure => simp [intOf]; omega
    · obtain rfl : k = 11 := by omega
      have hres : r = true := by rw [← HR.out]; exact HA.out
      subst hres
      go_wp2
      go_ret
      exact ⟨rfl, X1.bel⟩

def racksInB (vs : List Int) (t : Int) (l : List Int) (k : Nat) (q : Nat) : Bool := ((l.count (q : Int) : Nat) : Int) == wantI (rackedB (gv vs t (q : Int) 0) (gv vs t (q : Int) 5) k)
def racksB (vs : List Int) (t p : Int) (k : Nat) : Bool := (listF vs t p (13 + k)).2 && allN (racksInB vs t (listF vs t p (13 + k)).1 k) p.toNat
def racksF (vs : List Int) (t p : Int) : Bool := allN (racksB vs t p) 9

set_option maxHeartbeats 1000000 in
set_option maxRecDepth 100000 in
theorem racks_any (c : Nat) (w : World) (h : XV w t p s ad n vs) :
    Calls Tryz.prog 64 #[.agg #[.int .i64 t, .int .i64 p, .int .i64 s, .slice (some ad) n c]] w fun e w' => e = .returned (.bool (racksF vs t p)) ∧ Below w.heap.size w w' := by
  have X0 := h.boxed c
  have bd : 4 ≤ p ∧ p ≤ 64 := by have := h.bd; omega
  have hnn : (n : Int) = 30 + 4 * t + 6 * p ∧ 1 ≤ t := by have := h.bd; omega
  have HN := Lib.hid hnn
  generalize hr : racksF vs t p = r
  have hr2 : allN (racksB vs t p) 9 = r := hr
  have HR := Lib.hid hr2
  clear h hr hr2 hnn
  go_enter Tryz.func64, Tryz.ntmps64
  go_wp2_with fail
  go_loopw [3, 4, 5, 6, 7] (fun v3 _ _ _ _ wr => AllRel (racksB vs t p) 9 (w.alloc (.cells #[.int .i64 t, .int .i64 p, .int .i64 s, .slice (some ad) n c] 89)) v3 wr) (fun v3 _ _ _ _ _ => 9 - (intOf v3).toNat)
  case atStart => exact ⟨0, by omega, rfl, rfl, Below.refl _ _⟩
  case round =>
    obtain ⟨k, hk, rfl, hall, hbel⟩ := hrel
    have X1 := X0.keep hbel
    have HA := Lib.hid hall
    have HBel := Lib.hid hbel
    clear hall hbel X0
    by_cases hlt : k < 9
    · have hBin := Lib.hid (fun w => rrack_any k w hlt)
      have hLi := Lib.hid (fun (w : World) (h : XV w t p s ad n vs) => list_any (13 + k) c w h (by have := HN.out; omega))
      have hfk : racksB vs t p k = ((listF vs t p (13 + k)).2 && allN (racksInB vs t (listF vs t p (13 + k)).1 k) p.toNat) := rfl
      have HFK := Lib.hid hfk
      have hlen : (listF vs t p (13 + k)).1.length ≤ 4294967296 := by have := listF_len (vs := vs) (t := t) (p := p) (by omega) (13 + k); omega
      have HLen := Lib.hid hlen
      clear hfk hlen
      have Xr := X1.box
      have Xl := X1.lt
      generalize listF vs t p (13 + k) = lr at *
      obtain ⟨l, lb⟩ := lr
      go_wp2_with fail
      refine wp_region_noPanic ?_
      refine wp_region_held_drew (S := fun w' => BS wr ([] : List Nat) w' ∧ (∀ o : Nat, w'.cell? ⟨w.heap.size, o, none⟩ = (#[.int .i64 t, .int .i64 p, .int .i64 s, .slice (some ad) n c] : Array Value)[o]?)) (by kernel_rfl) ?_ (fun hHeld => ?_)
      · exact ⟨(BS.start wr).drew, Xr⟩
      refine wpAnyH_take (i := 0) (oi := _) (v := ?_) rfl (by kernel_rfl) (by kernel_rfl) (by kernel_rfl) (fun _ _ _ h => h) (Or.inl ⟨by rfl, ?_⟩) (by assumption) ?_
      rotate_left
      · intro w hSw; (try dsimp only at hSw); go_simp; try with_reducible rfl
      try simp only [Act.put, List.getElem_toArray, List.getElem_cons_zero, List.setIfInBounds_toArray, List.set_cons_zero, List.set_cons_succ]
      refine wpAnyH_take (i := 1) (oi := _) (v := ?_) rfl (by kernel_rfl) (by kernel_rfl) (by kernel_rfl) (fun _ _ _ h => h) (Or.inl ⟨by rfl, ?_⟩) (by assumption) ?_
      rotate_left
      · intro w hSw; (try dsimp only at hSw); go_simp; try with_reducible rfl
      try simp only [Act.put, List.getElem_toArray, List.getElem_cons_zero, List.getElem_cons_succ, List.setIfInBounds_toArray, List.set_cons_zero, List.set_cons_succ]
      refine wpAnyH_ready (rs := [2]) (by kernel_rfl) (by simp) ?_
      refine AllReadyH.cons (o := _) rfl (fun K hK => ?_) AllReadyH.nil
      go_simp
      refine (calls_b hHeld.1 (hBin.out _)).mono ?_
      rintro e wr1 ⟨rfl, hV, hVl⟩
      dsimp only
      refine hK.out _ _ ?_ (fun hHeld2 => ?_)
      · exact ⟨hV, hV.oldbox Xr Xl⟩
      clear hK K hV hVl hHeld
      have hHeld := hHeld2
      clear hHeld2
      try simp only [Act.put, List.getElem_toArray, List.getElem_cons_zero, List.getElem_cons_succ, List.setIfInBounds_toArray, List.set_cons_zero, List.set_cons_succ]
      refine wpAnyH_ready (rs := [3]) (by kernel_rfl) (by simp) ?_
      refine AllReadyH.cons (o := _) rfl (fun K hK => ?_) AllReadyH.nil
      go_simp
      refine (calls_row hHeld.1 (hLi.out _ (X1.xv.keep hHeld.1.bel))).mono ?_
      rintro e wr2 ⟨lv, rfl, ⟨hV, hVl⟩, hlv⟩
      dsimp only
      refine hK.out _ _ ?_ (fun hHeld2 => ?_)
      · exact ⟨hV, hV.oldbox Xr Xl⟩
      clear hK K hV hVl hHeld
      have hHeld := hHeld2
      clear hHeld2
      try simp only [Act.put, List.getElem_toArray, List.getElem_cons_zero, List.getElem_cons_succ, List.setIfInBounds_toArray, List.set_cons_zero, List.set_cons_succ]
      refine wpAnyH_take (i := 4) (oi := _) (v := ?_) rfl (by kernel_rfl) (by kernel_rfl) (by kernel_rfl) (fun _ _ _ h => h) (Or.inl ⟨by rfl, ?_⟩) (by assumption) ?_
      rotate_left
      · intro w hSw; (try dsimp only at hSw); go_simp; try with_reducible rfl
      try simp only [Act.put, List.getElem_toArray, List.getElem_cons_zero, List.getElem_cons_succ, List.setIfInBounds_toArray, List.set_cons_zero, List.set_cons_succ]
      refine wpAnyH_take (i := 5) (oi := _) (v := ?_) rfl (by kernel_rfl) (by kernel_rfl) (by kernel_rfl) (fun _ _ _ h => h) (Or.inl ⟨by rfl, ?_⟩) (by assumption) ?_
      rotate_left
      · intro w hSw; (try dsimp only at hSw); go_simp; try with_reducible rfl
      try simp only [Act.put, List.getElem_toArray, List.getElem_cons_zero, List.getElem_cons_succ, List.setIfInBounds_toArray, List.set_cons_zero, List.set_cons_succ]
      refine wpAnyH_take (i := 6) (oi := _) (v := ?_) rfl (by kernel_rfl) (by kernel_rfl) (by kernel_rfl) (fun _ _ _ h => h) (Or.inl ⟨by rfl, ?_⟩) (by assumption) ?_
      rotate_left
      · intro w hSw; (try dsimp only at hSw); go_simp; try with_reducible rfl
      try simp only [Act.put, List.getElem_toArray, List.getElem_cons_zero, List.getElem_cons_succ, List.setIfInBounds_toArray, List.set_cons_zero, List.set_cons_succ]
      refine wpAnyH_take (i := 7) (oi := _) (v := ?_) rfl (by kernel_rfl) (by kernel_rfl) (by kernel_rfl) (fun _ _ _ h => h) (Or.inl ⟨by rfl, ?_⟩) (by assumption) ?_
      rotate_left
      · intro w hSw; (try dsimp only at hSw); go_simp; try with_reducible rfl
      try simp only [Act.put, List.getElem_toArray, List.getElem_cons_zero, List.getElem_cons_succ, List.setIfInBounds_toArray, List.set_cons_zero, List.set_cons_succ]
      refine wpAnyH_take (i := 8) (oi := _) (v := ?_) rfl (by kernel_rfl) (by kernel_rfl) (by kernel_rfl) (fun _ _ _ h => h) (Or.inl ⟨by rfl, ?_⟩) (by assumption) ?_
      rotate_left
      · intro w hSw; (try dsimp only at hSw); go_simp; try with_reducible rfl
      try simp only [Act.put, List.getElem_toArray, List.getElem_cons_zero, List.getElem_cons_succ, List.setIfInBounds_toArray, List.set_cons_zero, List.set_cons_succ]
      refine wpAnyH_done (by kernel_rfl) ?_ _
      refine NoPanic.normal ?_
      refine world_gen ?_
      intro wz hwz
      rw [← hwz] at hHeld hlv
      clear hwz
      have X2 := X1.keep hHeld.1.bel
      obtain ⟨x0, x1, x2, x3⟩ := X2.cells
      have xl := X2.lt
      have bel2 := hHeld.1.bel
      clear hHeld Xr Xl
      obtain ⟨la, lc, rfl⟩ := hlv.row
      have HL := Lib.hid hlv
      have HB2 := Lib.hid bel2
      clear hlv bel2
      cases lb
      · have hno : racksB vs t p k = false := by rw [HFK.out]; rfl
        have hres : r = false := by rw [← HR.out]; exact allN_no hlt hno
        subst hres
        clear hno
        go_wp2
        go_ret
        exact ⟨rfl, X2.bel⟩
      · have hfk2 : racksB vs t p k = allN (racksInB vs t l k) p.toNat := by rw [HFK.out]; rfl
        have HFK2 := Lib.hid hfk2
        clear hfk2 HFK
        go_wp2_with fail
        go_loopw [6, 7] (fun v6 _ wq => AllRel (racksInB vs t l k) p.toNat wz v6 wq) (fun v6 _ _ => p.toNat - (intOf v6).toNat)
        case atStart => exact ⟨0, by omega, rfl, rfl, Below.refl _ _⟩
        case round =>
          obtain ⟨q, hq, rfl, hallq, hbq⟩ := hrel
          have X3 := X2.keep hbq
          have HQ := Lib.hid hallq
          have HBq := Lib.hid hbq
          clear hallq hbq x0 x1 x2 x3 X2
          obtain ⟨x0, x1, x2, x3⟩ := X3.cells
          by_cases hqp : (q : Int) < p
          · have hC := Lib.hid (fun (w : World) (h : XV w t p s ad n vs) => racked_any q k c w h (by omega) hqp)
            have hin : racksInB vs t l k q = (((l.count (q : Int) : Nat) : Int) == wantI (rackedB (gv vs t (q : Int) 0) (gv vs t (q : Int) 5) k)) := rfl
            have hIn := Lib.hid (fun (w' : World) (hb : Below wz.heap.size wz w') => xin_any l q (.slice la l.length lc) w' (ownsRow_block HL.out.1 fun k hk => hb.block k (ownsRow_lt HL.out.1 hk)) HLen.out)
            have hcb : l.count (q : Int) ≤ 4294967296 := Nat.le_trans List.count_le_length HLen.out
            generalize rackedB (gv vs t (q : Int) 0) (gv vs t (q : Int) 5) k = cd at *
            generalize l.count (q : Int) = cn at *
            have HIN := Lib.hid hin
            clear hin
            by_cases hw : (cn : Int) = wantI cd
            · have hyes : racksInB vs t l k q = true := by rw [HIN.out]; simpa using hw
              have HY := Lib.hid hyes
              have HW := Lib.hid hw
              clear hyes hw HIN
              cases cd
              · have e1 := HW.out
                have hb1 : ((cn : Int) != 0) = false := by rw [e1]; rfl
                clear e1
                go_wp2_with fail
                refine (hC.out _ X3.xv).mono ?_
                rintro e w5 ⟨rfl, hb5⟩
                have X5 := X3.keep hb5
                obtain ⟨X50, X51, X52, X53⟩ := X5.cells
                have X5z := X5.lt
                go_wp2_with fail
                refine (hIn.out _ (HBq.out.trans (hb5.mono HBq.out.size))).mono ?_
                rintro e w6 ⟨rfl, hb6⟩
                have bel6 := (HBq.out.trans (hb5.mono HBq.out.size)).trans (hb6.mono (Nat.le_trans HBq.out.size hb5.size))
                go_wp2_with fail
                go_roundw
                case rel => exact ⟨q + 1, by omega, by go_num, by simp [allN, HQ.out, HY.out], bel6⟩
                case measure => simp [intOf]; omega
              · have e1 := HW.out
                have hb1 : ((cn : Int) != 1) = false := by rw [e1]; rfl
                clear e1
                go_wp2_with fail
                refine (hC.out _ X3.xv).mono ?_
                rintro e w5 ⟨rfl, hb5⟩
                have X5 := X3.keep hb5
                obtain ⟨X50, X51, X52, X53⟩ := X5.cells
                have X5z := X5.lt
                go_wp2_with fail
                refine (hIn.out _ (HBq.out.trans (hb5.mono HBq.out.size))).mono ?_
                rintro e w6 ⟨rfl, hb6⟩
                have bel6 := (HBq.out.trans (hb5.mono HBq.out.size)).trans (hb6.mono (Nat.le_trans HBq.out.size hb5.size))
                go_wp2_with fail
                go_roundw
                case rel => exact ⟨q + 1, by omega, by go_num, by simp [allN, HQ.out, HY.out], bel6⟩
                case measure => simp [intOf]; omega
            · have hno : racksInB vs t l k q = false := by rw [HIN.out]; simpa using hw
              have hno2 : racksB vs t p k = false := by rw [HFK2.out]; exact allN_no (by omega) hno
              have hres : r = false := by rw [← HR.out]; exact allN_no hlt hno2
              subst hres
              have HW := Lib.hid hw
              clear hno hno2 hw HIN HR
              cases cd
              · have hb1 : ((cn : Int) != 0) = true := by have := HW.out; simpa [wantI] using this
                go_wp2_with fail
                refine (hC.out _ X3.xv).mono ?_
                rintro e w5 ⟨rfl, hb5⟩
                have X5 := X3.keep hb5
                obtain ⟨X50, X51, X52, X53⟩ := X5.cells
                have X5z := X5.lt
                go_wp2_with fail
                refine (hIn.out _ (HBq.out.trans (hb5.mono HBq.out.size))).mono ?_
                rintro e w6 ⟨rfl, hb6⟩
                go_wp2_with fail
                go_ret
                exact ⟨rfl, (X5.keep hb6).bel⟩
              · have hb1 : ((cn : Int) != 1) = true := by have := HW.out; simpa [wantI] using this
                go_wp2_with fail
                refine (hC.out _ X3.xv).mono ?_
                rintro e w5 ⟨rfl, hb5⟩
                have X5 := X3.keep hb5
                obtain ⟨X50, X51, X52, X53⟩ := X5.cells
                have X5z := X5.lt
                go_wp2_with fail
                refine (hIn.out _ (HBq.out.trans (hb5.mono HBq.out.size))).mono ?_
                rintro e w6 ⟨rfl, hb6⟩
                go_wp2_with fail
                go_ret
                exact ⟨rfl, (X5.keep hb6).bel⟩
          · obtain rfl : q = p.toNat := by omega
            have bel6 := HBel.out.trans ((HB2.out.trans (HBq.out.mono HB2.out.size)).mono HBel.out.size)
            have hyes : racksB vs t p k = true := by rw [HFK2.out]; exact HQ.out
            have HY := Lib.hid hyes
            clear hyes
            go_wp2_with fail
            go_roundw
            case rel => exact ⟨k + 1, by omega, by go_num, by simp [allN, HA.out, HY.out], bel6⟩
            case measure => simp [intOf]; omega
    · obtain rfl : k = 9 := by omega
      have hres : r = true := by rw [← HR.out]; exact HA.out
      subst hres
      go_wp2
      go_ret
      exact ⟨rfl, X1.bel⟩
end
end Go.Proofs.YtcicmljnjdhkjaaGreat
