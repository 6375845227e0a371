/- parts of the proof, merged by a program. -/
import Derived.Test.YtpmoajhpgekhcaaGreatMsa2
import Derived.Test.YtpmoajhpgekhcaaGreatMsa3
import Derived.Test.YtpmoajhpgekhcaaGreatMsa8
set_option linter.unusedSimpArgs false
set_option linter.unusedVariables false
/- the document's audit: pages' bytes, slots' sizes, addresses. -/
set_option linter.unusedSimpArgs false
set_option linter.unusedVariables false
namespace Go.Proofs.YtpmoajhpgekhcaaGreat
open Go.RowKit

def pageN : Nat → Int
  | 0 => 1
  | k + 1 => pageN k * 2
def pageF (s : Int) : Int := pageN s.toNat
theorem pageN_bd : ∀ k : Nat, k ≤ 20 → 1 ≤ pageN k ∧ pageN k ≤ 1048576 := by decide
theorem pageF_bd {s : Int} (h : 10 ≤ s ∧ s ≤ 20) : 1024 ≤ pageF s ∧ pageF s ≤ 1048576 := by
  have : ∀ k : Nat, k ≤ 20 → 10 ≤ k → 1024 ≤ pageN k ∧ pageN k ≤ 1048576 := by decide
  exact this _ (by omega) (by omega)

def PgRel (s : Int) (w : World) (W0 : World) (v3 v4 : Value) (wr : World) : Prop := ∃ k : Nat, (k : Int) ≤ s ∧ v4 = .int .i64 k ∧ v3 = .int .i64 (pageN k) ∧ W0 = wr ∧ w = w

theorem rpagesz_any (t p s : Int) (w : World) (hr : rightB t p s = true) :
    Calls Tryz.prog 56 #[.agg #[.int .i64 t, .int .i64 p, .int .i64 s]] w fun e w' => e = .returned (.int .i64 (pageF s)) ∧ Below w.heap.size w w' := by
  obtain ⟨b1, b2, b3, b4, b5, b6⟩ := right_bd hr
  have H := rright_any t p s
  rw [hr] at H
  have HH := Lib.hid H
  have c0 := loc_alloc w #[.int .i64 t, .int .i64 p, .int .i64 s] 23
  generalize hF : pageF s = F
  have HF := Lib.hid hF
  clear H hr hF
  go_enter Tryz.func56, Tryz.ntmps56
  go_wp2_with fail
  refine (HH.out _).mono ?_
  rintro e w1 ⟨rfl, hb⟩
  have c2 := (hb.cell (p := ⟨w.heap.size, 2, none⟩) (by simp)).trans (c0 2)
  simp at c2
  have bel : Below w.heap.size w w1 := ((Below.refl _ _).alloc (Nat.le_refl _) _).trans (hb.mono (by simp))
  clear hb c0
  go_wp2_with fail
  go_loopw [3, 4] (fun v3 v4 wr => PgRel s w w1 v3 v4 wr) (fun _ v4 _ => s.toNat - (intOf v4).toNat)
  case atStart => exact ⟨0, by omega, rfl, rfl, rfl, rfl⟩
  case round =>
    obtain ⟨k, hk, rfl, rfl, rfl, -⟩ := hrel
    have hp := pageN_bd k (by omega)
    by_cases hlt : (k : Int) < s
    · have hs : pageN (k + 1) = pageN k * 2 := rfl
      have HS := Lib.hid hs
      clear hs
      generalize pageN k = pg at *
      go_wp2
      go_roundw
      case rel => exact ⟨k + 1, by omega, by go_num, by rw [HS.out], rfl, rfl⟩
      case measure => simp [intOf]; omega
    · have e : k = s.toNat := by omega
      have hF2 : pageN k = F := by rw [← HF.out, e]; rfl
      have HF2 := Lib.hid hF2
      clear hp hF2 e
      generalize pageN k = pg at *
      go_wp2
      go_ret
      exact ⟨ret_int HF2.out, bel⟩

def sizeF (s k : Int) : Int := if slotsF k = 0 then 0 else pageF s / slotsF k - pageF s / slotsF k % 16
theorem slots_cases (k : Int) : slotsF k = 0 ∨ slotsF k = 32 ∨ slotsF k = 21 ∨ slotsF k = 16 ∨ slotsF k = 10 ∨ slotsF k = 8 ∨ slotsF k = 5 ∨ slotsF k = 4 ∨ slotsF k = 3 ∨ slotsF k = 2 := by
  rcases (by omega : k = 0 ∨ k = 1 ∨ k = 2 ∨ k = 3 ∨ k = 4 ∨ k = 5 ∨ k = 6 ∨ k = 7 ∨ k = 8 ∨ (k < 0 ∨ 8 < k)) with rfl | rfl | rfl | rfl | rfl | rfl | rfl | rfl | rfl | h
  case inr.inr.inr.inr.inr.inr.inr.inr.inr =>
    left
    unfold slotsF
    rw [if_neg (by omega), if_neg (by omega), if_neg (by omega), if_neg (by omega), if_neg (by omega), if_neg (by omega), if_neg (by omega), if_neg (by omega), if_neg (by omega)]
  all_goals decide
theorem size_bd {s k : Int} (h : 10 ≤ s ∧ s ≤ 20) : 0 ≤ sizeF s k ∧ sizeF s k ≤ 1048576 ∧ sizeF s k * slotsF k ≤ pageF s ∧ (slotsF k ≠ 0 → 1 ≤ sizeF s k) ∧ (∀ b : Int, 0 ≤ b → b < slotsF k → 0 ≤ b * sizeF s k ∧ b * sizeF s k + sizeF s k ≤ pageF s) := by
  have hp := pageF_bd h
  unfold sizeF
  generalize pageF s = pg at *
  have key : ∀ N z : Int, 0 ≤ z → N * z ≤ pg → ∀ b : Int, 0 ≤ b → b < N → 0 ≤ b * z ∧ b * z + z ≤ pg := by
    intro N z hz hN b hb hbN
    refine ⟨Int.mul_nonneg hb hz, ?_⟩
    have h1 : (b + 1) * z ≤ N * z := Int.mul_le_mul_of_nonneg_right (by omega) hz
    have h2 : (b + 1) * z = b * z + z := by rw [Int.add_mul, Int.one_mul]
    omega
  rcases slots_cases k with e | e | e | e | e | e | e | e | e | e <;> rw [e]
  · rw [if_pos rfl]
    exact ⟨by omega, by omega, by omega, fun h => absurd rfl h, fun b h1 h2 => absurd h2 (by omega)⟩
  all_goals
    rw [if_neg (by omega)]
    refine ⟨by omega, by omega, by omega, fun _ => by omega, key _ _ (by omega) (by omega)⟩

theorem rsize_any (s k : Int) (w : World) (h : 10 ≤ s ∧ s ≤ 20) :
    Calls Tryz.prog 31 #[.int .i64 s, .int .i64 k] w fun e w' => e = .returned (.int .i64 (sizeF s k)) ∧ Below w.heap.size w w' := by
  have H := Lib.hid (fun w => rpagesz_any 1 4 s w (right_mk (by omega)))
  have hp := pageF_bd h
  have hd : sizeF s k = if slotsF k = 0 then 0 else pageF s / slotsF k - pageF s / slotsF k % 16 := rfl
  have HK := Lib.hid (fun w => rkslots_any k w)
  have hb := slots_bd k
  rw [hd]
  clear hd h
  generalize slotsF k = n at *
  generalize pageF s = pg at *
  by_cases hn : n = 0
  · subst hn
    go_enter Tryz.func31, Tryz.ntmps31
    go_wp2_with fail
    refine (H.out _).mono ?_
    rintro e w1 ⟨rfl, b1⟩
    go_wp2_with fail
    refine (HK.out _).mono ?_
    rintro e w2 ⟨rfl, b2⟩
    go_wp2
    go_ret
    exact ⟨by simp, b1.trans (b2.mono b1.size)⟩
  · rw [if_neg hn]
    have hnb : (n == 0) = false := by simp [hn]
    have hpb : (pg == 0) = false := by simp; omega
    have hq : pg.tdiv n = pg / n := Int.tdiv_eq_ediv_of_nonneg (by omega)
    have hq0 : 0 ≤ pg / n := Int.ediv_nonneg (by omega) (by omega)
    have hq1 : pg / n ≤ pg := Int.ediv_le_self _ (by omega)
    have HQ := Lib.hid hq
    go_enter Tryz.func31, Tryz.ntmps31
    go_wp2_with fail
    refine (H.out _).mono ?_
    rintro e w1 ⟨rfl, b1⟩
    go_wp2_with fail
    refine (HK.out _).mono ?_
    rintro e w2 ⟨rfl, b2⟩
    go_wp2
    go_ret
    exact ⟨rfl, b1.trans (b2.mono b1.size)⟩

/-- an address that is one. -/
def addrF (s q off : Int) : Int := (q + 1) * pageF s + off
theorem rof_any (t p s q off : Int) (w : World) (hr : rightB t p s = true) (h0 : 0 ≤ q) (h1 : q < p) (h2 : 0 ≤ off) (h3 : off < pageF s) :
    Calls Tryz.prog 88 #[.agg #[.int .i64 t, .int .i64 p, .int .i64 s], .int .i64 q, .int .i64 off] w fun e w' => e = .returned (.tuple #[.int .i64 (addrF s q off), .bool true]) ∧ Below w.heap.size w w' := by
  obtain ⟨b1, b2, b3, b4, b5, b6⟩ := right_bd hr
  have H := rright_any t p s
  rw [hr] at H
  have HH := Lib.hid H
  have HP := Lib.hid (fun w => rpagesz_any t p s w hr)
  have hp := pageF_bd (s := s) (by omega)
  have hd : addrF s q off = (q + 1) * pageF s + off := rfl
  rw [hd]
  clear H hr hd
  generalize pageF s = pg at *
  have hm0 : 0 ≤ (q + 1) * pg := Int.mul_nonneg (by omega) (by omega)
  have hm1 : (q + 1) * pg ≤ 1024 * 1048576 := Int.mul_le_mul (by omega) (by omega) (by omega) (by omega)
  have hw1 : IntKind.i64.wrap ((q + 1) * pg) = (q + 1) * pg := wrap_in _ (by omega)
  have hw2 : IntKind.i64.wrap ((q + 1) * pg + off) = (q + 1) * pg + off := wrap_in _ (by omega)
  have c0 := loc_alloc w #[.int .i64 t, .int .i64 p, .int .i64 s] 23
  go_enter Tryz.func88, Tryz.ntmps88
  go_wp2_with fail
  refine (HH.out _).mono ?_
  rintro e w1 ⟨rfl, ha⟩
  obtain ⟨hac, haf⟩ := bcell ha
  have haz0 : w.heap.size < w1.heap.size := by have := ha.size; first | omega | (simp at this; omega)
  go_wp2_with fail
  refine (HP.out _).mono ?_
  rintro e w2 ⟨rfl, hb⟩
  obtain ⟨hbc, hbf⟩ := bcell hb
  have hbz0 : w1.heap.size ≤ w2.heap.size := by have := hb.size; first | omega | (simp at this; omega)
  have hbz1 : w.heap.size < w2.heap.size := by have := hb.size; first | omega | (simp at this; omega)
  go_wp2_with fail
  refine (HP.out _).mono ?_
  rintro e w3 ⟨rfl, hc⟩
  obtain ⟨hcc, hcf⟩ := bcell hc
  go_wp2
  refine bodyPost_ret (v := .tuple #[.int .i64 ((q + 1) * pg + off), .bool true]) (by simp [results, Tryz.results88, go_sem]) rfl ⟨rfl, ?_⟩
  (repeat (first | exact Below.refl _ _ | assumption | refine Below.setCell ?_ (by first | omega | (simp; done) | (simp; omega)) _ | refine Below.alloc ?_ (by first | omega | (simp; done) | (simp; omega)) _ | refine Below.drew ?_ | refine Below.trans ?_ (Below.mono ‹Below _ _ _› (by first | omega | (simp; done) | (simp; omega)))))

theorem rat_any (t p s k q slot : Int) (w : World) (hr : rightB t p s = true) (h0 : 0 ≤ q) (h1 : q < p) (h2 : 0 ≤ slot) (h3 : slot < slotsF k) :
    Calls Tryz.prog 106 #[.agg #[.int .i64 t, .int .i64 p, .int .i64 s], .int .i64 k, .int .i64 q, .int .i64 slot] w fun e w' => e = .returned (.tuple #[.int .i64 (addrF s q (slot * sizeF s k)), .bool true]) ∧ Below w.heap.size w w' := by
  obtain ⟨b1, b2, b3, b4, b5, b6⟩ := right_bd hr
  obtain ⟨s1, s2, s3, s4, s5⟩ := size_bd (s := s) (k := k) (by omega)
  have h5 := s5 slot h2 h3
  have s6 := s4 (by omega)
  have hp := pageF_bd (s := s) (by omega)
  have HO := Lib.hid (fun w => rof_any t p s q (slot * sizeF s k) w hr h0 h1 h5.1 (by omega))
  have HK := Lib.hid (fun w => rkslots_any k w)
  have HZ := Lib.hid (fun w => rsize_any s k w (by omega))
  have hw : IntKind.i64.wrap (slot * sizeF s k) = slot * sizeF s k := wrap_in _ (by omega)
  have hS0 := ((BS.start w).alloc (.cells #[.int .i64 t, .int .i64 p, .int .i64 s] 23))
  generalize addrF s q (slot * sizeF s k) = ar at *
  generalize sizeF s k = z at *
  generalize slotsF k = sl at *
  clear s1 s2 s3 s4 s5 hr
  go_enter Tryz.func106, Tryz.ntmps106
  go_wp2_with fail
  refine (HK.out _).mono ?_
  rintro e w1 ⟨rfl, ha⟩
  obtain ⟨hac, haf⟩ := bcell ha
  have haz0 : w.heap.size < w1.heap.size := by have := ha.size; first | omega | (simp at this; omega)
  have hS1 := hS0.below ha
  have hB1 := fun o => (ha.cell (p := ⟨w.heap.size, o, none⟩) (by simp)).trans (loc_alloc w #[.int .i64 t, .int .i64 p, .int .i64 s] 23 o)
  have HB1 := Lib.hid hB1
  clear hB1
  go_wp2_with fail
  refine wp_region_noPanic ?_
  refine wp_region_held_drew (S := fun w' => BS w [w.heap.size] w' ∧ (∀ o : Nat, w'.cell? ⟨w.heap.size, o, none⟩ = (#[.int .i64 t, .int .i64 p, .int .i64 s] : Array Value)[o]?)) (by kernel_rfl) ?_ (fun hHeld => ?_)
  · exact ⟨hS1.drew, HB1.out⟩
  refine wT 0 ?_
  refine wT 1 ?_
  refine wT 2 ?_
  refine wT 3 ?_
  refine wT 4 ?_
  refine wT 5 ?_
  refine wR 6 fun K hK => ?_
  go_simp
  refine (calls_b hHeld.1 (HZ.out _)).mono ?_
  rintro e wr1 ⟨rfl, hV, hVl⟩
  dsimp only
  refine hK.out _ _ ?_ (fun hHeld2 => ?_)
  · exact ⟨hV, loc_step hVl (by simp) hHeld.2⟩
  clear hK K hV hVl hHeld
  have hHeld := hHeld2
  clear hHeld2
  try simp only [Act.put, zA, zB, zC, zD, zE, zF]
  refine wT 7 ?_
  refine wR 8 fun K hK => ?_
  go_simp
  refine (calls_b hHeld.1 (HO.out _)).mono ?_
  rintro e wr2 ⟨rfl, hV, hVl⟩
  dsimp only
  refine hK.out _ _ ?_ (fun hHeld2 => ?_)
  · exact ⟨hV, loc_step hVl (by simp) hHeld.2⟩
  clear hK K hV hVl hHeld
  have hHeld := hHeld2
  clear hHeld2
  try simp only [Act.put, zA, zB, zC, zD, zE, zF]
  refine wT 9 ?_
  refine wT 10 ?_
  refine wT 11 ?_
  refine wT 12 ?_
  refine wpAnyH_done (by kernel_rfl) (NoPanic.normal ?_) _
  refine world_gen ?_
  intro wz hwz
  rw [← hwz] at hHeld
  clear hwz
  have bel := hHeld.1.bel
  clear hHeld
  go_wp2
  exact bodyPost_ret (v := .tuple #[.int .i64 ar, .bool true]) (by simp [results, Tryz.results106, go_sem]) rfl ⟨rfl, bel⟩
end Go.Proofs.YtpmoajhpgekhcaaGreat
/- the document's audit: the parts of a slab. -/
set_option linter.unusedSimpArgs false
set_option linter.unusedVariables false
namespace Go.Proofs.YtpmoajhpgekhcaaGreat
open Go.RowKit

theorem infoPart : (Tryz.prog.info? 82).map (fun i => (i.zero, i.size, i.bytes)) = some (some (.agg #[.int .i64 0, .int .i64 0, .int .i64 0]), 3, 24) := by kernel_rfl
def partCells (l : List (Int × Int × Int)) : List Value := l.flatMap fun x => [.int .i64 x.1, .int .i64 x.2.1, .int .i64 x.2.2]
theorem partCells_len (l : List (Int × Int × Int)) : (partCells l).length = l.length * 3 := by
  induction l with
  | nil => rfl
  | cons y ys ih => unfold partCells at ih ⊢; simp [ih]; omega
theorem partCells_app (l m : List (Int × Int × Int)) : partCells (l ++ m) = partCells l ++ partCells m := by simp [partCells]
theorem cell_three_new (w : World) (u1 u2 u3 : Value) (T : TypeId) : ∀ (j : Nat) (x : Value), [u1, u2, u3][j]? = some x → (w.alloc (.cells #[u1, u2, u3] T)).cell? ((⟨w.heap.size, 0, none⟩ : Addr).add j) = some x := by
  intro j x hj
  rcases j with _ | _ | _ | j
  · simp at hj; subst hj; exact cell?_of_heap (o := 0) (heap_alloc_new w (.cells #[u1, u2, u3] T))
  · simp at hj; subst hj; exact cell?_of_heap (o := 1) (heap_alloc_new w (.cells #[u1, u2, u3] T))
  · simp at hj; subst hj; exact cell?_of_heap (o := 2) (heap_alloc_new w (.cells #[u1, u2, u3] T))
  · simp at hj

/-- a new row of parts comes back. -/
def RowQ (w : World) (l : List (Int × Int × Int)) (v : Value) (w' : World) : Prop :=
  w'.ownsRow 0 82 3 v l.length (partCells l) ∧ (∀ k, v.ownBlock = some k → w.heap.size ≤ k) ∧ Below w.heap.size w w'

def kindF (x y : Bool) : Int := if x then 2 else if y then 4 else 3
def slabL (vs : List Int) (t s q k : Int) : Nat → List (Int × Int × Int)
  | 0 => []
  | b + 1 => slabL vs t s q k b ++ [(kindF (bitB (gv vs t q 4) b) (bitB (gv vs t q 5) b), addrF s q ((b : Int) * sizeF s k), sizeF s k)]
theorem slabL_len (vs : List Int) (t s q k : Int) (b : Nat) : (slabL vs t s q k b).length = b := by
  induction b with
  | zero => rfl
  | succ b ih => simp [slabL, ih]
def restF (s k : Int) : Int := pageF s - sizeF s k * slotsF k
def slabF (vs : List Int) (t s q k : Int) : List (Int × Int × Int) :=
  slabL vs t s q k (slotsF k).toNat ++ if 0 < restF s k then [(5, addrF s q (pageF s - restF s k), restF s k)] else []
theorem slabF_len (vs : List Int) (t s q k : Int) : (slabF vs t s q k).length ≤ 33 := by
  have := slots_bd k
  unfold slabF
  rw [List.length_append, slabL_len]
  split <;> simp <;> omega

section
variable {t p s : Int} {ad : Addr} {n c : Nat} {vs : List Int}

structure SlRel (w : World) (vs : List Int) (t p s q k : Int) (ad : Addr) (n c : Nat) (v7 v9 : Value) (wr : World) (b : Nat) : Prop where
  hb : v9 = .int .i64 b
  le : (b : Int) ≤ slotsF k
  row : wr.ownsRow 0 82 3 v7 b (partCells (slabL vs t s q k b))
  bs : BS w (w.heap.size :: v7.ownBlock.toList) wr
  xb : XB w t p s ad n c vs wr
  far : ∀ k, v7.ownBlock = some k → w.heap.size < k
def SlRelE (w : World) (vs : List Int) (t p s q k : Int) (ad : Addr) (n c : Nat) (v7 v9 : Value) (wr : World) : Prop := ∃ b, SlRel w vs t p s q k ad n c v7 v9 wr b

/-- behind an append to a row that is none of X's box. -/
theorem XB.grown {w W W' : World} {ob : Obj} {row : Option Nat} (h0 : XV w t p s ad n vs) (h : XB w t p s ad n c vs W) (hS : BS w (w.heap.size :: row.toList) W) (hg : (W.alloc ob).grownBy W' row) (hr : ∀ k, row = some k → w.heap.size < k) : XB w t p s ad n c vs W' := by
  have hb : Below w.heap.size w W' := (hS.bel.alloc hS.bel.size ob).grown hg (by simp; exact Nat.le_succ_of_le hS.bel.size) (fun k hk => (hS.ls k (by simp [hk])).2)
  refine ⟨hb, loc_grown hg (by have := h.lt; simp; omega) (fun e => by have := hr _ e; omega) (loc_old _ h.lt h.box), Nat.lt_of_lt_of_le h.lt ?_, h0.keep hb⟩
  have := hg.size; simp at this; omega

set_option maxHeartbeats 4000000 in
set_option maxRecDepth 100000 in
theorem slab_any (q k : Int) (c : Nat) (w : World) (h : XV w t p s ad n vs) (h0 : 0 ≤ q) (h1 : q < p) (hk0 : 0 ≤ k) (hk8 : k ≤ 8) :
    Calls Tryz.prog 89 #[.agg #[.int .i64 t, .int .i64 p, .int .i64 s, .slice (some ad) n c], .int .i64 q, .int .i64 k] w fun e w' => ∃ v, e = .returned v ∧ RowQ w (slabF vs t s q k) v w' := by
  have X0 := (h.boxed c).alloc (.cells #[] 82)
  have r0 := row_empty (w.alloc (.cells #[.int .i64 t, .int .i64 p, .int .i64 s, .slice (some ad) n c] 88)) 82 3
  have hS0 := ((BS.start w).alloc (.cells #[.int .i64 t, .int .i64 p, .int .i64 s, .slice (some ad) n c] 88)).alloc (.cells #[] 82)
  simp only [World.size_alloc] at hS0 r0
  have bd := h.bd
  have hr := h.right
  have hb1 := slots_bd k
  obtain ⟨z1, z2, z3, z4, z5⟩ := size_bd (s := s) (k := k) (by omega)
  have hp := pageF_bd (s := s) (by omega)
  have HZ := Lib.hid (fun w => rsize_any s k w (by omega))
  have HK := Lib.hid (fun w => rkslots_any k w)
  have HP := Lib.hid (fun w => rpagesz_any t p s w hr)
  have HAt := Lib.hid (fun (b : Int) w (h2 : 0 ≤ b) (h3 : b < slotsF k) => rat_any t p s k q b w hr h0 h1 h2 h3)
  have HOf := Lib.hid (fun (off : Int) w (h2 : 0 ≤ off) (h3 : off < pageF s) => rof_any t p s q off w hr h0 h1 h2 h3)
  have HT := Lib.hid (fun (w : World) (h : XV w t p s ad n vs) => xtaken_any q c w h h0 h1)
  have HSl := Lib.hid (fun (w : World) (h : XV w t p s ad n vs) => xslots_any q c w h h0 h1)
  have g4 := (h.gu q 4).1
  have g5 := (h.gu q 5).1
  have HB4 := Lib.hid (fun (b : Nat) w (h : b < 32) => rbit_any (gv vs t q 4) b w h g4)
  have HB5 := Lib.hid (fun (b : Nat) w (h : b < 32) => rbit_any (gv vs t q 5) b w h g5)
  have hsl : ∀ b : Nat, slabL vs t s q k (b + 1) = slabL vs t s q k b ++ [(kindF (bitB (gv vs t q 4) b) (bitB (gv vs t q 5) b), addrF s q ((b : Int) * sizeF s k), sizeF s k)] := fun _ => rfl
  have HSL := Lib.hid hsl
  have hslab : slabF vs t s q k = slabL vs t s q k (slotsF k).toNat ++ if 0 < pageF s - sizeF s k * slotsF k then [(5, addrF s q (sizeF s k * slotsF k), pageF s - sizeF s k * slotsF k)] else [] := by
    have e : pageF s - restF s k = sizeF s k * slotsF k := by unfold restF; omega
    unfold slabF
    rw [e]
    rfl
  have HSlab := Lib.hid hslab
  have H0 := Lib.hid h
  obtain ⟨i0, hi0, hi1, hi2, hi3⟩ := info_parts infoPart
  have HI := Lib.hid (And.intro hi0 (And.intro hi1 (And.intro hi2 hi3)))
  have hq1 : q ≤ 1024 := by omega
  have hn := slabF_len vs t s q k
  generalize slabF vs t s q k = res at *
  have hk1 : (slotsF k ≠ 0) := by
    rcases (by omega : k = 0 ∨ k = 1 ∨ k = 2 ∨ k = 3 ∨ k = 4 ∨ k = 5 ∨ k = 6 ∨ k = 7 ∨ k = 8) with rfl | rfl | rfl | rfl | rfl | rfl | rfl | rfl | rfl <;> decide
  have z4b := z4 hk1
  clear hi0 hi1 hi2 hi3 h hsl hslab hr z5 g4 g5 bd hk0 hk8 z4
  go_enter Tryz.func89, Tryz.ntmps89
  obtain ⟨X00, X01, X02, X03⟩ := X0.cells
  have X0z := X0.lt
  go_wp2_with fail
  refine (HZ.out _).mono ?_
  rintro e w1 ⟨rfl, hb2⟩
  have X1 := X0.keep hb2
  obtain ⟨X10, X11, X12, X13⟩ := X1.cells
  have X1z := X1.lt
  have r1 := (BS.start _).below hb2 |>.row r0
  have hS1 := hS0.below hb2
  clear hb2 r0 hS0 X0 X00 X01 X02 X03 X0z
  go_wp2_with fail
  go_loopw [7, 9, 10, 11, 12] (fun v7 v9 _ _ _ wr => SlRelE w vs t p s q k ad n c v7 v9 wr) (fun _ v9 _ _ _ _ => 33 - (intOf v9).toNat)
  case atStart => exact ⟨0, rfl, by omega, r1, hS1.sub _ (by simp [Value.ownBlock]), X1, by simp [Value.ownBlock]⟩
  case round =>
    obtain ⟨b, rfl, hle, hrow, hbs, hxb, hfar⟩ := hrel
    have hlen : ∃ a c, u7 = .slice a b c := by
      rcases hrow.2 with ⟨h5, h6⟩ | ⟨g', cap', cur, h5, -⟩
      · exact ⟨_, _, by rw [h5, h6]⟩
      · exact ⟨_, _, h5⟩
    obtain ⟨pa, pc, rfl⟩ := hlen
    have HB := Lib.hid hbs
    have HF := Lib.hid hfar
    have HRow := Lib.hid hrow
    clear r1 hS1 X1 X10 X11 X12 X13 X1z hbs hfar hrow
    obtain ⟨x0, x1, x2, x3⟩ := hxb.cells
    have xz := hxb.lt
    by_cases hlt : (b : Int) < slotsF k
    · have hb32 : b < 32 := by omega
      have hsb := HSL.out b
      have HA2 := Lib.hid (fun w => HAt.out b w (by omega) hlt)
      have HC4 := Lib.hid (fun w => HB4.out b w hb32)
      have HC5 := Lib.hid (fun w => HB5.out b w hb32)
      have HSB := Lib.hid hsb
      clear hsb HAt HB4 HB5 HOf
      generalize addrF s q ((b : Int) * sizeF s k) = ar at *
      generalize bitB (gv vs t q 4) b = x at *
      generalize bitB (gv vs t q 5) b = y at *
      generalize sizeF s k = z at *
      generalize hslk : slotsF k = sl at *
      have HSLK := Lib.hid hslk
      clear hslk
      generalize pageF s = pg at *
      go_wp2_with fail
      refine (HK.out _).mono ?_
      rintro e w2 ⟨rfl, hb2⟩
      have X2 := hxb.keep hb2
      obtain ⟨X20, X21, X22, X23⟩ := X2.cells
      have X2z := X2.lt
      go_wp2_with fail
      refine (HA2.out _).mono ?_
      rintro e w3 ⟨rfl, hb3⟩
      have X3 := X2.keep hb3
      obtain ⟨X30, X31, X32, X33⟩ := X3.cells
      have X3z := X3.lt
      go_wp2_with fail
      refine (HT.out _ X3.xv).mono ?_
      rintro e w4 ⟨rfl, hb4⟩
      have X4 := X3.keep hb4
      obtain ⟨X40, X41, X42, X43⟩ := X4.cells
      have X4z := X4.lt
      go_wp2_with fail
      refine (HC5.out _).mono ?_
      rintro e w5 ⟨rfl, hb5⟩
      have X5 := X4.keep hb5
      obtain ⟨X50, X51, X52, X53⟩ := X5.cells
      have X5z := X5.lt
      cases y <;> cases x
      all_goals
        go_wp2_with fail
        refine (HSl.out _ X5.xv).mono ?_
        rintro e w6 ⟨rfl, hb6⟩
        have X6 := X5.keep hb6
        obtain ⟨X60, X61, X62, X63⟩ := X6.cells
        have X6z := X6.lt
        go_wp2_with fail
        refine (HC4.out _).mono ?_
        rintro e w7 ⟨rfl, hb7⟩
        have X7 := X6.keep hb7
        obtain ⟨X70, X71, X72, X73⟩ := X7.cells
        have X7z := X7.lt
        have S7 := ((((((BS.start wr).below hb2).below hb3).below hb4).below hb5).below hb6).below hb7
        have R7 := S7.row HRow.out
        have B7 := HB.out.below S7.bel
        clear hb2 hb3 hb4 hb5 hb6 hb7
        go_wp2_with (at_builtin; go_must (refine wpL_append rfl _ _ rfl 82 i0 (.agg #[.int .i64 0, .int .i64 0, .int .i64 0]) 3 24 Tryz.underlying75 HI.out.1 HI.out.2.1 HI.out.2.2.1 HI.out.2.2.2 rfl (by decide) (.slice pa b pc) b (partCells (slabL vs t s q k b)) rfl (R7.alloc _) ⟨w7.heap.size, 0, none⟩ 1 1 [_, .int .i64 ar, .int .i64 z] rfl rfl (cell_three_new _ _ _ _ _) ?c1 ?c2 ?c3 ?_); go_must (case c1 => (simp [Value.oneCell'])); go_must (case c2 => (unfold maxLen; omega)); go_must (case c3 => (omega)); go_must (intro v' w8 hown8 hg8 hnew8 hnil8); clear hnil8; go_must (obtain ⟨g', cap', rfl⟩ := Joins.ownsRow_form hown8 (by omega)))
        go_roundw
        case rel =>
          refine ⟨b + 1, by go_num, by have := HSLK.out; omega, ?_, B7.append hg8 hnew8 hown8, X7.grown H0.out B7 hg8 HF.out, ?_⟩
          · rw [HSB.out, partCells_app]; exact hown8
          · exact fun k hk => (hnew8 k hk).elim (HF.out k) (fun h => by have := X7.lt; simp at h; omega)
        case measure => simp [intOf]; omega
    · have hbe : (slotsF k).toNat = b := by omega
      have HO2 := Lib.hid (fun w h2 h3 => HOf.out (sizeF s k * slotsF k) w h2 h3)
      clear HAt HB4 HB5 HOf HSL HZ HT HSl
      rw [hbe] at HSlab
      have hLn : (slabL vs t s q k b).length = b := slabL_len _ _ _ _ _ _
      generalize slabL vs t s q k b = L at *
      generalize addrF s q (sizeF s k * slotsF k) = ar at *
      have hm0 : 0 ≤ sizeF s k * slotsF k := Int.mul_nonneg (by omega) (by omega)
      have hb32 : b ≤ 32 := by omega
      generalize sizeF s k = z at *
      generalize slotsF k = sl at *
      generalize pageF s = pg at *
      clear hbe
      have hm1 : IntKind.i64.wrap (z * sl) = z * sl := wrap_in _ (by omega)
      have hm2 : IntKind.i64.wrap (pg - z * sl) = pg - z * sl := wrap_in _ (by omega)
      go_wp2_with fail
      refine (HK.out _).mono ?_
      rintro e w2 ⟨rfl, hb2⟩
      have X2 := hxb.keep hb2
      obtain ⟨X20, X21, X22, X23⟩ := X2.cells
      have X2z := X2.lt
      go_wp2_with fail
      refine (HP.out _).mono ?_
      rintro e w3 ⟨rfl, hb3⟩
      have X3 := X2.keep hb3
      obtain ⟨X30, X31, X32, X33⟩ := X3.cells
      have X3z := X3.lt
      go_wp2_with fail
      refine (HK.out _).mono ?_
      rintro e w4 ⟨rfl, hb4⟩
      have X4 := X3.keep hb4
      obtain ⟨X40, X41, X42, X43⟩ := X4.cells
      have X4z := X4.lt
      have S4 := (((BS.start wr).below hb2).below hb3).below hb4
      have R4 := S4.row HRow.out
      have B4 := HB.out.below S4.bel
      clear hb2 hb3 hb4
      by_cases hrest : 0 < pg - z * sl
      · have hsl2 := HSlab.out
        rw [if_pos hrest] at hsl2
        have HRes := Lib.hid hsl2
        have HBox := Lib.hid X4.box
        have HR4 := Lib.hid R4
        clear hsl2 HSlab
        have HO3 := Lib.hid (fun w => HO2.out w (by omega) (by omega))
        have hsub : pg - (pg - z * sl) = z * sl := by omega
        go_wp2_with fail
        refine wp_region_noPanic ?_
        refine wp_region_held_drew (S := fun w' => BS w4 ([] : List Nat) w' ∧ (∀ o : Nat, w'.cell? ⟨w.heap.size, o, none⟩ = (#[.int .i64 t, .int .i64 p, .int .i64 s, .slice (some ad) n c] : Array Value)[o]?)) (by kernel_rfl) ?_ (fun hHeld => ?_)
        · exact ⟨(BS.start w4).drew, HBox.out⟩
        refine wT 0 ?_
        refine wT 1 ?_
        refine wT 2 ?_
        refine wT 3 ?_
        refine wT 4 ?_
        refine wT 6 ?_
        refine wR 5 fun K hK => ?_
        go_simp
        refine (calls_b hHeld.1 (HP.out _)).mono ?_
        rintro e wr1 ⟨rfl, hV, hVl⟩
        dsimp only
        refine hK.out _ _ ?_ (fun hHeld2 => ?_)
        · exact ⟨hV, hV.oldbox HBox.out X4z⟩
        clear hK K hV hVl hHeld
        have hHeld := hHeld2
        clear hHeld2
        try simp only [Act.put, zA, zB, zC, zD, zE, zF]
        refine wT 7 ?_
        refine wR 8 fun K hK => ?_
        go_simp
        refine (calls_b hHeld.1 (HO3.out _)).mono ?_
        rintro e wr2 ⟨rfl, hV, hVl⟩
        dsimp only
        refine hK.out _ _ ?_ (fun hHeld2 => ?_)
        · exact ⟨hV, hV.oldbox HBox.out X4z⟩
        clear hK K hV hVl hHeld
        have hHeld := hHeld2
        clear hHeld2
        try simp only [Act.put, zA, zB, zC, zD, zE, zF]
        refine wT 9 ?_
        refine wT 10 ?_
        refine wT 11 ?_
        refine wT 12 ?_
        refine wT 13 ?_
        refine wpAnyH_done (by kernel_rfl) (NoPanic.normal ?_) _
        refine world_gen ?_
        intro wz hwz
        rw [← hwz] at hHeld
        clear hwz
        have R5 := hHeld.1.row HR4.out
        have B5 := B4.below hHeld.1.bel
        have hzz := B5.bel.size
        clear hHeld
        go_wp2_with (at_builtin; go_must (refine wpL_append rfl _ _ rfl 82 i0 (.agg #[.int .i64 0, .int .i64 0, .int .i64 0]) 3 24 Tryz.underlying75 HI.out.1 HI.out.2.1 HI.out.2.2.1 HI.out.2.2.2 rfl (by decide) (.slice pa b pc) b (partCells L) rfl (R5.alloc _) ⟨wz.heap.size, 0, none⟩ 1 1 [.int .i64 5, .int .i64 ar, .int .i64 (pg - z * sl)] rfl rfl (cell_three_new _ _ _ _ _) ?c1 ?c2 ?c3 ?_); go_must (case c1 => (simp [Value.oneCell'])); go_must (case c2 => (unfold maxLen; omega)); go_must (case c3 => (omega)); go_must (intro v' w8 hown8 hg8 hnew8 hnil8); clear hnil8; go_must (obtain ⟨g', cap', rfl⟩ := Joins.ownsRow_form hown8 (by omega)))
        go_ret
        have B8 := B5.append hg8 hnew8 hown8
        refine ⟨_, rfl, ?_, fun k hk => ?_, B8.bel⟩
        · rw [HRes.out, partCells_app, List.length_append, hLn]
          exact hown8
        · exact Nat.le_of_lt ((hnew8 k hk).elim (HF.out k) (fun h => by have := X4.lt; simp at h; omega))
      · have hsl2 := HSlab.out
        rw [if_neg hrest] at hsl2
        have HRes := Lib.hid hsl2
        clear hsl2 HSlab
        go_wp2
        go_ret
        refine ⟨_, rfl, ?_, fun k hk => Nat.le_of_lt (HF.out k hk), B4.bel⟩
        rw [HRes.out, List.append_nil, hLn]
        exact R4
end
end Go.Proofs.YtpmoajhpgekhcaaGreat
/- the program's classes, sizes, addresses, places. -/
set_option linter.unusedSimpArgs false
set_option linter.unusedVariables false
namespace Go.Proofs.YtpmoajhpgekhcaaGreat
open Go.RowKit

theorem pslots9 (w : World) : Calls Tryz.prog 103 #[] w fun e w' => e = .returned (.agg #[.int .i64 32, .int .i64 21, .int .i64 16, .int .i64 10, .int .i64 8, .int .i64 5, .int .i64 4, .int .i64 3, .int .i64 2]) ∧ Below w.heap.size w w' := by
  go_enter Tryz.func103, Tryz.ntmps103
  go_wp2
  refine bodyPost_ret (v := .agg #[.int .i64 32, .int .i64 21, .int .i64 16, .int .i64 10, .int .i64 8, .int .i64 5, .int .i64 4, .int .i64 3, .int .i64 2]) (by simp [results, Tryz.results103, go_sem]) rfl ⟨rfl, ?_⟩
  (repeat (first | exact Below.refl _ _ | assumption | refine Below.setCell ?_ (by first | omega | (simp; done) | (simp; omega)) _ | refine Below.alloc ?_ (by first | omega | (simp; done) | (simp; omega)) _ | refine Below.drew ?_ | refine Below.trans ?_ (Below.mono ‹Below _ _ _› (by first | omega | (simp; done) | (simp; omega)))))
theorem pslots_any (k : Int) (w : World) : Calls Tryz.prog 82 #[.int .i64 k] w fun e w' => e = .returned (.int .i64 (slotsF k)) ∧ Below w.heap.size w w' := by
  have H := Lib.hid pslots9
  by_cases hk : 0 ≤ k ∧ k < 9
  · skip
    go_enter Tryz.func82, Tryz.ntmps82
    go_wp2_with fail
    refine (H.out _).mono ?_
    rintro e w1 ⟨rfl, b1⟩
    rcases (by omega : k = 0 ∨ k = 1 ∨ k = 2 ∨ k = 3 ∨ k = 4 ∨ k = 5 ∨ k = 6 ∨ k = 7 ∨ k = 8) with rfl | rfl | rfl | rfl | rfl | rfl | rfl | rfl | rfl
    all_goals
      go_wp2
      go_ret
      exact ⟨rfl, b1.alloc b1.size _⟩
  · have hs : slotsF k = 0 := by
      unfold slotsF
      rw [if_neg (by omega), if_neg (by omega), if_neg (by omega), if_neg (by omega), if_neg (by omega), if_neg (by omega), if_neg (by omega), if_neg (by omega), if_neg (by omega)]
    rw [hs]
    clear hs
    rcases (by omega : k < 0 ∨ (0 ≤ k ∧ 9 ≤ k)) with h | h
    · skip
      go_enter Tryz.func82, Tryz.ntmps82
      go_wp2_with fail
      refine (H.out _).mono ?_
      rintro e w1 ⟨rfl, b1⟩
      go_wp2
      go_ret
      exact ⟨rfl, b1.alloc b1.size _⟩
    · have h1 := h.1
      have h2 := h.2
      go_enter Tryz.func82, Tryz.ntmps82
      go_wp2_with fail
      refine (H.out _).mono ?_
      rintro e w1 ⟨rfl, b1⟩
      go_wp2
      go_ret
      exact ⟨rfl, b1.alloc b1.size _⟩
theorem ppslots_any (t p s q : Int) (w : World) :
    Calls Tryz.prog 23 #[.agg #[.int .i64 t, .int .i64 p, .int .i64 s], .int .i64 q] w fun e w' => e = .returned (.int .i64 (ofF t p s q 4)) ∧ Below w.heap.size w w' := by
  go_enter Tryz.func23, Tryz.ntmps23
  go_wp2_with fail
  refine (of_any _ _ _ _ _ _ (by omega) (by omega)).mono ?_
  rintro e w1 ⟨rfl, ha⟩
  obtain ⟨hac, haf⟩ := bcell ha
  go_wp2
  go_ret
  refine ⟨rfl, ?_⟩
  (repeat (first | exact Below.refl _ _ | assumption | refine Below.setCell ?_ (by first | omega | (simp; done) | (simp; omega)) _ | refine Below.alloc ?_ (by first | omega | (simp; done) | (simp; omega)) _ | refine Below.drew ?_ | refine Below.trans ?_ (Below.mono ‹Below _ _ _› (by first | omega | (simp; done) | (simp; omega)))))
theorem pptaken_any (t p s q : Int) (w : World) :
    Calls Tryz.prog 24 #[.agg #[.int .i64 t, .int .i64 p, .int .i64 s], .int .i64 q] w fun e w' => e = .returned (.int .i64 (ofF t p s q 5)) ∧ Below w.heap.size w w' := by
  go_enter Tryz.func24, Tryz.ntmps24
  go_wp2_with fail
  refine (of_any _ _ _ _ _ _ (by omega) (by omega)).mono ?_
  rintro e w1 ⟨rfl, ha⟩
  obtain ⟨hac, haf⟩ := bcell ha
  go_wp2
  go_ret
  refine ⟨rfl, ?_⟩
  (repeat (first | exact Below.refl _ _ | assumption | refine Below.setCell ?_ (by first | omega | (simp; done) | (simp; omega)) _ | refine Below.alloc ?_ (by first | omega | (simp; done) | (simp; omega)) _ | refine Below.drew ?_ | refine Below.trans ?_ (Below.mono ‹Below _ _ _› (by first | omega | (simp; done) | (simp; omega)))))
theorem pprack_any (k : Nat) (w : World) (h : k < 9) :
    Calls Tryz.prog 53 #[.int .i64 k] w fun e w' => e = .returned (.int .i64 ((13 + k : Nat) : Int)) ∧ Below w.heap.size w w' := by
  have HW := Lib.hid (fun w => within_any 13 k 9 w (by omega) (by omega) (by omega))
  have hf : withinF 13 k 9 = ((13 + k : Nat) : Int) := by unfold withinF; rw [if_neg (by omega)]; omega
  rw [hf] at HW
  go_enter Tryz.func53, Tryz.ntmps53
  go_wp2_with fail
  refine (HW.out _).mono ?_
  rintro e w1 ⟨rfl, rfl⟩
  go_wp2
  go_ret
  exact ⟨rfl, Below.refl _ _⟩
end Go.Proofs.YtpmoajhpgekhcaaGreat
/- sweep of the program: slab's methods. -/
set_option linter.unusedSimpArgs false
set_option linter.unusedVariables false
namespace Go.Proofs.YtpmoajhpgekhcaaGreat
open Go.RowKit

theorem prack_int (k : Int) (w : World) (h0 : 0 ≤ k) (h1 : k ≤ 8) :
    Calls Tryz.prog 53 #[.int .i64 k] w fun e w' => e = .returned (.int .i64 (13 + k)) ∧ Below w.heap.size w w' := by
  have := pprack_any k.toNat w (by omega)
  rw [show ((k.toNat : Nat) : Int) = k by omega, show ((13 + k.toNat : Nat) : Int) = 13 + k by omega] at this
  exact this

set_option maxHeartbeats 1000000 in
set_option maxRecDepth 100000 in
theorem sfull_any (b : Nat) (t p s q k v : Int) (w : World) (h0 : 0 ≤ v) (h1 : v < 4294967296) :
    Calls Tryz.prog 51 #[.agg #[.pointer (some ⟨b, 0, none⟩), .int .i64 t, .int .i64 p, .int .i64 s, .int .i64 q, .int .i64 k, .int .u32 v]] w fun e w' => e = .returned (.bool (fullB v k)) ∧ Below w.heap.size w w' := by
  have c0 := loc_alloc w #[.pointer (some ⟨b, 0, none⟩), .int .i64 t, .int .i64 p, .int .i64 s, .int .i64 q, .int .i64 k, .int .u32 v] 66
  have H1 := Lib.hid (fun w => pones_any v w h0 h1)
  have HS := (BS.start w).alloc (.cells #[.pointer (some ⟨b, 0, none⟩), .int .i64 t, .int .i64 p, .int .i64 s, .int .i64 q, .int .i64 k, .int .u32 v] 66)
  generalize hz : fullB v k = z
  have HZ := Lib.hid hz
  clear hz
  go_enter Tryz.func51, Tryz.ntmps51
  go_wp2_with fail
  have hX := HS.drew
  refine wp_region_noPanic ?_
  refine wp_region_held_drew (S := fun w' => (∀ o : Nat, w'.cell? ⟨w.heap.size, o, none⟩ = (#[.pointer (some ⟨b, 0, none⟩), .int .i64 t, .int .i64 p, .int .i64 s, .int .i64 q, .int .i64 k, .int .u32 v] : Array Value)[o]?)) (by kernel_rfl) ?_ (fun hHeld => ?_)
  · exact c0
  refine wT 0 ?_
  refine wT 1 ?_
  refine wT 3 ?_
  refine wT 4 ?_
  refine wR 2 fun K hK => ?_
  go_simp
  refine (calls_b hX (H1.out _)).mono ?_
  rintro e w2 ⟨rfl, hY, hXl⟩
  have hX := hY
  have c := loc_step hXl (by simp) hHeld
  clear hXl hY
  dsimp only
  refine hK.out _ _ ?_ (fun hHeld => ?_)
  · exact c
  clear hK K
  try simp only [Act.put, zA, zB, zC, zD, zE, zF]
  refine wR 5 fun K hK => ?_
  go_simp
  refine (calls_b hX (pslots_any _ _)).mono ?_
  rintro e w3 ⟨rfl, hY, hXl⟩
  have hX := hY
  have c := loc_step hXl (by simp) hHeld
  clear hXl hY
  dsimp only
  refine hK.out _ _ ?_ (fun hHeld => ?_)
  · exact c
  clear hK K
  try simp only [Act.put, zA, zB, zC, zD, zE, zF]
  refine wT 6 ?_
  refine wT 7 ?_
  refine wpAnyH_done (by kernel_rfl) (NoPanic.normal ?_) _
  go_wp2
  go_ret
  exact ⟨ret_bool HZ.out, hX.bel⟩

set_option maxHeartbeats 1000000 in
set_option maxRecDepth 100000 in
theorem sempty_any (b : Nat) (t p s q k v : Int) (w : World) (S : Nat → Prop) (st : VS) (h : PV w b S st) (hp : p ≤ 1024) (h0 : 0 ≤ v) (h1 : v < 4294967296) (hk0 : 0 ≤ k) (hk1 : k ≤ 8) (hq0 : 0 ≤ q) (hq1 : q ≤ 1024) :
    Calls Tryz.prog 50 #[.agg #[.pointer (some ⟨b, 0, none⟩), .int .i64 t, .int .i64 p, .int .i64 s, .int .i64 q, .int .i64 k, .int .u32 v]] w fun e w' => e = .returned (.tuple #[]) ∧ Now w b S (releaseF t p s q 1 (if fullB v k = true then st else pullF t p s (13 + k) q st)) w' := by
  have c0 := loc_alloc w #[.pointer (some ⟨b, 0, none⟩), .int .i64 t, .int .i64 p, .int .i64 s, .int .i64 q, .int .i64 k, .int .u32 v] 66
  have hV := (VSt.start keepsPV h).alloc keepsPV (.cells #[.pointer (some ⟨b, 0, none⟩), .int .i64 t, .int .i64 p, .int .i64 s, .int .i64 q, .int .i64 k, .int .u32 v] 66)
  have HF := fun w => sfull_any b t p s q k v w h0 h1
  cases hz : fullB v k with
  | true =>
    rw [hz] at HF
    have H1 := Lib.hid HF
    rw [if_pos rfl]
    have HR := Lib.hid (fun (w : World) (S1 : Nat → Prop) (h1 : PV w b S1 st) => release_any b t p s q 1 w S1 st h1 hp hq0 hq1 (by omega) (by omega))
    generalize releaseF t p s q 1 st = s9 at *
    clear h HF hz
    go_enter Tryz.func50, Tryz.ntmps50
    go_wp2_with fail
    refine (calls_bl keepsPV hV (H1.out _)).mono ?_
    rintro e w1 ⟨rfl, hV1, hV1l⟩
    have c1 := loc_step hV1l (by simp) c0
    clear hV1l
    go_wp2_with fail
    refine (calls_st hV1 (HR.out _)).mono ?_
    rintro e w2 ⟨rfl, hV2, hV2l⟩
    have c2 := loc_step hV2l (by simp) c1
    clear hV2l
    go_wp2
    go_end0
    exact ⟨rfl, hV2.done keepsPV⟩
  | false =>
    rw [hz] at HF
    have H1 := Lib.hid HF
    rw [if_neg (by simp)]
    have HP := Lib.hid (fun (w : World) (S1 : Nat → Prop) (h1 : PV w b S1 st) => pull_any b t p s (13 + k) q w S1 st h1 hp)
    have HR := Lib.hid (fun (w : World) (S1 : Nat → Prop) (h1 : PV w b S1 (pullF t p s (13 + k) q st)) => release_any b t p s q 1 w S1 _ h1 hp hq0 hq1 (by omega) (by omega))
    generalize pullF t p s (13 + k) q st = s8 at *
    generalize releaseF t p s q 1 s8 = s9 at *
    clear h HF hz
    go_enter Tryz.func50, Tryz.ntmps50
    go_wp2_with fail
    refine (calls_bl keepsPV hV (H1.out _)).mono ?_
    rintro e w1 ⟨rfl, hV1, hV1l⟩
    have c1 := loc_step hV1l (by simp) c0
    clear hV1l
    go_wp2_with fail
    have hV1d := hV1.drew keepsPV
    refine wp_region_noPanic ?_
    refine wp_region_held_drew (S := fun w' => (∀ o : Nat, w'.cell? ⟨w.heap.size, o, none⟩ = (#[.pointer (some ⟨b, 0, none⟩), .int .i64 t, .int .i64 p, .int .i64 s, .int .i64 q, .int .i64 k, .int .u32 v] : Array Value)[o]?)) (by kernel_rfl) ?_ (fun hHeld => ?_)
    · exact c1
    refine wT 0 ?_
    refine wT 1 ?_
    refine wT 2 ?_
    refine wT 3 ?_
    refine wT 4 ?_
    refine wT 5 ?_
    refine wT 7 ?_
    refine wT 8 ?_
    refine wR 6 fun K hK => ?_
    go_simp
    refine (calls_bl keepsPV hV1d (prack_int _ _ hk0 hk1)).mono ?_
    rintro e w2 ⟨rfl, hV2, hV2l⟩
    have c2 := loc_step hV2l (by simp) hHeld
    clear hV2l
    dsimp only
    refine hK.out _ _ ?_ (fun hHeld => ?_)
    · exact c2
    clear hK K
    try simp only [Act.put, zA, zB, zC, zD, zE, zF]
    refine wR 9 fun K hK => ?_
    go_simp
    refine (calls_st hV2 (HP.out _)).mono ?_
    rintro e w3 ⟨rfl, hV3, hV3l⟩
    have c3 := loc_step hV3l (by simp) c2
    clear hV3l
    dsimp only
    refine hK.out _ _ ?_ (fun hHeld => ?_)
    · exact c3
    clear hK K
    try simp only [Act.put, zA, zB, zC, zD, zE, zF]
    refine wpAnyH_done (by kernel_rfl) (NoPanic.normal ?_) _
    go_wp2_with fail
    refine (calls_st hV3 (HR.out _)).mono ?_
    rintro e w4 ⟨rfl, hV4, hV4l⟩
    have c4 := loc_step hV4l (by simp) c3
    clear hV4l
    go_wp2
    go_end0
    exact ⟨rfl, hV4.done keepsPV⟩

def turnF (t p s q k v l : Int) (st : VS) : VS :=
  if l = 0 then releaseF t p s q 1 (if fullB v k = true then st.put (ofF t p s q 5) l else pullF t p s (13 + k) q (st.put (ofF t p s q 5) l)) else if fullB v k = true then pushF t p s (13 + k) q (st.put (ofF t p s q 5) l) else st.put (ofF t p s q 5) l

set_option maxHeartbeats 1000000 in
set_option maxRecDepth 100000 in
theorem sturn_any (b : Nat) (t p s q k v l : Int) (w : World) (S : Nat → Prop) (st : VS) (h : PV w b S st) (hp : p ≤ 1024) (h0 : 0 ≤ v) (h1 : v < 4294967296) (hk0 : 0 ≤ k) (hk1 : k ≤ 8) (hq0 : 0 ≤ q) (hq1 : q ≤ 1024) (hl : VS.U32 l) :
    Calls Tryz.prog 25 #[.agg #[.pointer (some ⟨b, 0, none⟩), .int .i64 t, .int .i64 p, .int .i64 s, .int .i64 q, .int .i64 k, .int .u32 v], .int .u32 l] w fun e w' => e = .returned (.tuple #[]) ∧ Now w b S (turnF t p s q k v l st) w' := by
  have c0 := loc_alloc w #[.pointer (some ⟨b, 0, none⟩), .int .i64 t, .int .i64 p, .int .i64 s, .int .i64 q, .int .i64 k, .int .u32 v] 66
  have hV := (VSt.start keepsPV h).alloc keepsPV (.cells #[.pointer (some ⟨b, 0, none⟩), .int .i64 t, .int .i64 p, .int .i64 s, .int .i64 q, .int .i64 k, .int .u32 v] 66)
  have hVd := hV.drew keepsPV
  have HL := Lib.hid hl
  unfold turnF
  obtain ⟨u, hu⟩ : ∃ u, st.put (ofF t p s q 5) l = u := ⟨_, rfl⟩
  have HPut := Lib.hid (fun (w : World) (S1 : Nat → Prop) (h1 : PV w b S1 st) => hu ▸ put_any b (ofF t p s q 5) l w S1 st h1 hl)
  rw [hu]
  clear h hu hl
  by_cases hl0 : l = 0
  · subst hl0
    rw [if_pos rfl]
    have HE := Lib.hid (fun (w : World) (S1 : Nat → Prop) (h : PV w b S1 u) => sempty_any b t p s q k v w S1 u h hp h0 h1 hk0 hk1 hq0 hq1)
    generalize releaseF t p s q 1 (if fullB v k = true then u else pullF t p s (13 + k) q u) = s9 at *
    go_enter Tryz.func25, Tryz.ntmps25
    go_wp2_with fail
    refine wp_region_noPanic ?_
    refine wp_region_held_drew (S := fun w' => (∀ o : Nat, w'.cell? ⟨w.heap.size, o, none⟩ = (#[.pointer (some ⟨b, 0, none⟩), .int .i64 t, .int .i64 p, .int .i64 s, .int .i64 q, .int .i64 k, .int .u32 v] : Array Value)[o]?)) (by kernel_rfl) ?_ (fun hHeld => ?_)
    · exact c0
    refine wT 0 ?_
    refine wT 1 ?_
    refine wT 2 ?_
    refine wT 3 ?_
    refine wT 4 ?_
    refine wT 5 ?_
    refine wT 7 ?_
    refine wR 6 fun K hK => ?_
    go_simp
    refine (calls_bl keepsPV hVd (pptaken_any _ _ _ _ _)).mono ?_
    rintro e w1 ⟨rfl, hV1, hV1l⟩
    have c1 := loc_step hV1l (by simp) hHeld
    clear hV1l
    dsimp only
    refine hK.out _ _ ?_ (fun hHeld => ?_)
    · exact c1
    clear hK K
    try simp only [Act.put, zA, zB, zC, zD, zE, zF]
    refine wR 8 fun K hK => ?_
    go_simp
    refine (calls_st hV1 (HPut.out _)).mono ?_
    rintro e w2 ⟨rfl, hV2, hV2l⟩
    have c2 := loc_step hV2l (by simp) c1
    clear hV2l
    dsimp only
    refine hK.out _ _ ?_ (fun hHeld => ?_)
    · exact c2
    clear hK K
    try simp only [Act.put, zA, zB, zC, zD, zE, zF]
    refine wpAnyH_done (by kernel_rfl) (NoPanic.normal ?_) _
    go_wp2_with fail
    refine (calls_st hV2 (HE.out _)).mono ?_
    rintro e w4 ⟨rfl, hV4, hV4l⟩
    have c4 := loc_step hV4l (by simp) c2
    clear hV4l
    go_wp2
    go_end0
    exact ⟨rfl, hV4.done keepsPV⟩
  · rw [if_neg hl0]
    have HF := fun w => sfull_any b t p s q k v w h0 h1
    cases hz : fullB v k with
    | true =>
      rw [hz] at HF
      have H1 := Lib.hid HF
      rw [if_pos rfl]
      have HP := Lib.hid (fun (w : World) (S1 : Nat → Prop) (h1 : PV w b S1 u) => push_any b t p s (13 + k) q w S1 u h1 hp)
      generalize pushF t p s (13 + k) q u = s9 at *
      clear HF hz
      go_enter Tryz.func25, Tryz.ntmps25
      go_wp2_with fail
      refine wp_region_noPanic ?_
      refine wp_region_held_drew (S := fun w' => (∀ o : Nat, w'.cell? ⟨w.heap.size, o, none⟩ = (#[.pointer (some ⟨b, 0, none⟩), .int .i64 t, .int .i64 p, .int .i64 s, .int .i64 q, .int .i64 k, .int .u32 v] : Array Value)[o]?)) (by kernel_rfl) ?_ (fun hHeld => ?_)
      · exact c0
      refine wT 0 ?_
      refine wT 1 ?_
      refine wT 2 ?_
      refine wT 3 ?_
      refine wT 4 ?_
      refine wT 5 ?_
      refine wT 7 ?_
      refine wR 6 fun K hK => ?_
      go_simp
      refine (calls_bl keepsPV hVd (pptaken_any _ _ _ _ _)).mono ?_
      rintro e w1 ⟨rfl, hV1, hV1l⟩
      have c1 := loc_step hV1l (by simp) hHeld
      clear hV1l
      dsimp only
      refine hK.out _ _ ?_ (fun hHeld => ?_)
      · exact c1
      clear hK K
      try simp only [Act.put, zA, zB, zC, zD, zE, zF]
      refine wR 8 fun K hK => ?_
      go_simp
      refine (calls_st hV1 (HPut.out _)).mono ?_
      rintro e w2 ⟨rfl, hV2, hV2l⟩
      have c2 := loc_step hV2l (by simp) c1
      clear hV2l
      dsimp only
      refine hK.out _ _ ?_ (fun hHeld => ?_)
      · exact c2
      clear hK K
      try simp only [Act.put, zA, zB, zC, zD, zE, zF]
      refine wpAnyH_done (by kernel_rfl) (NoPanic.normal ?_) _
      go_wp2_with fail
      refine (calls_bl keepsPV hV2 (H1.out _)).mono ?_
      rintro e w3 ⟨rfl, hV3, hV3l⟩
      have c3 := loc_step hV3l (by simp) c2
      clear hV3l
      go_wp2_with fail
      have hV3d := hV3.drew keepsPV
      refine wp_region_noPanic ?_
      refine wp_region_held_drew (S := fun w' => (∀ o : Nat, w'.cell? ⟨w.heap.size, o, none⟩ = (#[.pointer (some ⟨b, 0, none⟩), .int .i64 t, .int .i64 p, .int .i64 s, .int .i64 q, .int .i64 k, .int .u32 v] : Array Value)[o]?)) (by kernel_rfl) ?_ (fun hHeld => ?_)
      · exact c3
      refine wT 0 ?_
      refine wT 1 ?_
      refine wT 2 ?_
      refine wT 3 ?_
      refine wT 4 ?_
      refine wT 5 ?_
      refine wT 7 ?_
      refine wT 8 ?_
      refine wR 6 fun K hK => ?_
      go_simp
      refine (calls_bl keepsPV hV3d (prack_int _ _ hk0 hk1)).mono ?_
      rintro e w4 ⟨rfl, hV4, hV4l⟩
      have c4 := loc_step hV4l (by simp) hHeld
      clear hV4l
      dsimp only
      refine hK.out _ _ ?_ (fun hHeld => ?_)
      · exact c4
      clear hK K
      try simp only [Act.put, zA, zB, zC, zD, zE, zF]
      refine wR 9 fun K hK => ?_
      go_simp
      refine (calls_st hV4 (HP.out _)).mono ?_
      rintro e w5 ⟨rfl, hV5, hV5l⟩
      have c5 := loc_step hV5l (by simp) c4
      clear hV5l
      dsimp only
      refine hK.out _ _ ?_ (fun hHeld => ?_)
      · exact c5
      clear hK K
      try simp only [Act.put, zA, zB, zC, zD, zE, zF]
      refine wpAnyH_done (by kernel_rfl) (NoPanic.normal ?_) _
      go_wp2
      go_end0
      exact ⟨rfl, hV5.done keepsPV⟩
    | false =>
      rw [hz] at HF
      have H1 := Lib.hid HF
      rw [if_neg (by simp)]
      clear HF hz
      go_enter Tryz.func25, Tryz.ntmps25
      go_wp2_with fail
      refine wp_region_noPanic ?_
      refine wp_region_held_drew (S := fun w' => (∀ o : Nat, w'.cell? ⟨w.heap.size, o, none⟩ = (#[.pointer (some ⟨b, 0, none⟩), .int .i64 t, .int .i64 p, .int .i64 s, .int .i64 q, .int .i64 k, .int .u32 v] : Array Value)[o]?)) (by kernel_rfl) ?_ (fun hHeld => ?_)
      · exact c0
      refine wT 0 ?_
      refine wT 1 ?_
      refine wT 2 ?_
      refine wT 3 ?_
      refine wT 4 ?_
      refine wT 5 ?_
      refine wT 7 ?_
      refine wR 6 fun K hK => ?_
      go_simp
      refine (calls_bl keepsPV hVd (pptaken_any _ _ _ _ _)).mono ?_
      rintro e w1 ⟨rfl, hV1, hV1l⟩
      have c1 := loc_step hV1l (by simp) hHeld
      clear hV1l
      dsimp only
      refine hK.out _ _ ?_ (fun hHeld => ?_)
      · exact c1
      clear hK K
      try simp only [Act.put, zA, zB, zC, zD, zE, zF]
      refine wR 8 fun K hK => ?_
      go_simp
      refine (calls_st hV1 (HPut.out _)).mono ?_
      rintro e w2 ⟨rfl, hV2, hV2l⟩
      have c2 := loc_step hV2l (by simp) c1
      clear hV2l
      dsimp only
      refine hK.out _ _ ?_ (fun hHeld => ?_)
      · exact c2
      clear hK K
      try simp only [Act.put, zA, zB, zC, zD, zE, zF]
      refine wpAnyH_done (by kernel_rfl) (NoPanic.normal ?_) _
      go_wp2_with fail
      refine (calls_bl keepsPV hV2 (H1.out _)).mono ?_
      rintro e w3 ⟨rfl, hV3, hV3l⟩
      have c3 := loc_step hV3l (by simp) c2
      clear hV3l
      go_wp2
      go_end0
      exact ⟨rfl, hV3.done keepsPV⟩
end Go.Proofs.YtpmoajhpgekhcaaGreat
/- sweep of the program: Page. -/
set_option linter.unusedSimpArgs false
set_option linter.unusedVariables false
namespace Go.Proofs.YtpmoajhpgekhcaaGreat
open Go.RowKit

theorem cells7 {w : World} {L : Nat} {x0 x1 x2 x3 x4 x5 x6 : Value} {T : TypeId} (h : w.heap[L]? = some (.cells #[x0, x1, x2, x3, x4, x5, x6] T)) : (w.cell? ⟨L, 0, none⟩ = some x0 ∧ w.cell? ⟨L, 1, none⟩ = some x1 ∧ w.cell? ⟨L, 2, none⟩ = some x2 ∧ w.cell? ⟨L, 3, none⟩ = some x3 ∧ w.cell? ⟨L, 4, none⟩ = some x4 ∧ w.cell? ⟨L, 5, none⟩ = some x5 ∧ w.cell? ⟨L, 6, none⟩ = some x6) ∧
    w.frozen? ⟨L, 0, none⟩ = false ∧ w.frozen? ⟨L, 1, none⟩ = false ∧ w.frozen? ⟨L, 2, none⟩ = false ∧ w.frozen? ⟨L, 3, none⟩ = false ∧ w.frozen? ⟨L, 4, none⟩ = false ∧ w.frozen? ⟨L, 5, none⟩ = false ∧ w.frozen? ⟨L, 6, none⟩ = false :=
  ⟨⟨cell?_of_heap h, cell?_of_heap h, cell?_of_heap h, cell?_of_heap h, cell?_of_heap h, cell?_of_heap h, cell?_of_heap h⟩, frozen?_of_heap h, frozen?_of_heap h, frozen?_of_heap h, frozen?_of_heap h, frozen?_of_heap h, frozen?_of_heap h, frozen?_of_heap h⟩
theorem VA.set7 {w0 w : World} {b : Nat} {S : Nat → Prop} {Ls : List Nat} {LA : Nat} {y0 y1 y2 y3 y4 y5 y6 : Value} {T : TypeId} {st : VS} (h : VA w0 b S Ls LA #[y0, y1, y2, y3, y4, y5, y6] T st w) (x0 x1 x2 x3 x4 x5 x6 : Value) :
    VA w0 b S Ls LA #[x0, x1, x2, x3, x4, x5, x6] T st (((((((w.setCell ⟨LA, 0, none⟩ x0).setCell ⟨LA, 1, none⟩ x1).setCell ⟨LA, 2, none⟩ x2).setCell ⟨LA, 3, none⟩ x3).setCell ⟨LA, 4, none⟩ x4).setCell ⟨LA, 5, none⟩ x5).setCell ⟨LA, 6, none⟩ x6) := by
  have a0 : VA w0 b S Ls LA #[x0, y1, y2, y3, y4, y5, y6] T st _ := h.set 0 x0
  have a1 : VA w0 b S Ls LA #[x0, x1, y2, y3, y4, y5, y6] T st _ := a0.set 1 x1
  have a2 : VA w0 b S Ls LA #[x0, x1, x2, y3, y4, y5, y6] T st _ := a1.set 2 x2
  have a3 : VA w0 b S Ls LA #[x0, x1, x2, x3, y4, y5, y6] T st _ := a2.set 3 x3
  have a4 : VA w0 b S Ls LA #[x0, x1, x2, x3, x4, y5, y6] T st _ := a3.set 4 x4
  have a5 : VA w0 b S Ls LA #[x0, x1, x2, x3, x4, x5, y6] T st _ := a4.set 5 x5
  have a6 : VA w0 b S Ls LA #[x0, x1, x2, x3, x4, x5, x6] T st _ := a5.set 6 x6
  exact a6
theorem VA.loc7 {w0 w : World} {b : Nat} {S : Nat → Prop} {Ls : List Nat} {LA : Nat} {cs : Array Value} {T : TypeId} {st : VS} (h : VA w0 b S Ls LA cs T st w) (x0 x1 x2 x3 x4 x5 x6 : Value) {L : Nat} {ds : Array Value} (hm : L ∈ Ls) (hc : ∀ i : Nat, w.cell? ⟨L, i, none⟩ = ds[i]?) :
    ∀ i : Nat, (((((((w.setCell ⟨LA, 0, none⟩ x0).setCell ⟨LA, 1, none⟩ x1).setCell ⟨LA, 2, none⟩ x2).setCell ⟨LA, 3, none⟩ x3).setCell ⟨LA, 4, none⟩ x4).setCell ⟨LA, 5, none⟩ x5).setCell ⟨LA, 6, none⟩ x6).cell? ⟨L, i, none⟩ = ds[i]? :=
  ((((((h.set 0 x0).set 1 x1).set 2 x2).set 3 x3).set 4 x4).set 5 x5).loc hm 6 _ (((((((h.set 0 x0).set 1 x1).set 2 x2).set 3 x3).set 4 x4)).loc hm 5 _ ((((((h.set 0 x0).set 1 x1).set 2 x2).set 3 x3)).loc hm 4 _ (((((h.set 0 x0).set 1 x1).set 2 x2)).loc hm 3 _ ((((h.set 0 x0).set 1 x1)).loc hm 2 _ ((h.set 0 x0).loc hm 1 _ (h.loc hm 0 _ hc))))))

set_option maxRecDepth 100000 in
theorem spage_out (b : Nat) (t p s q : Int) (w : World) (S : Nat → Prop) (st : VS) (h : PV w b S st) (hq : pageB p q = false) :
    Calls Tryz.prog 9 #[.pointer (some ⟨b, 0, none⟩), .agg #[.int .i64 t, .int .i64 p, .int .i64 s], .int .i64 q] w fun e w' => e = .returned (.bool (sweepF t p s q st).1) ∧ Now w b S (sweepF t p s q st).2 w' := by
  have hF : sweepF t p s q st = (false, st) := by unfold sweepF; rw [hq]; rfl
  rw [hF]
  have hV := (VSt.start keepsPV h).alloc keepsPV (.cells #[.int .i64 t, .int .i64 p, .int .i64 s] 23)
  clear hF h
  by_cases h0 : 0 ≤ q
  · have h1 : ¬ q < p := by simpa [pageB, h0] using hq
    clear hq
    go_enter Tryz.func9, Tryz.ntmps9
    go_wp2
    go_ret
    exact ⟨rfl, hV.done keepsPV⟩
  · clear hq
    go_enter Tryz.func9, Tryz.ntmps9
    go_wp2
    go_ret
    exact ⟨rfl, hV.done keepsPV⟩

set_option maxHeartbeats 4000000 in
set_option maxRecDepth 100000 in
theorem spage_any (b : Nat) (t p s q : Int) (w : World) (S : Nat → Prop) (st : VS) (h : PV w b S st) (hp : p ≤ 1024) :
    Calls Tryz.prog 9 #[.pointer (some ⟨b, 0, none⟩), .agg #[.int .i64 t, .int .i64 p, .int .i64 s], .int .i64 q] w fun e w' => e = .returned (.bool (sweepF t p s q st).1) ∧ Now w b S (sweepF t p s q st).2 w' := by
  cases hq : pageB p q with
  | false => exact spage_out b t p s q w S st h hq
  | true =>
    have hV := (VSt.start keepsPV h).alloc keepsPV (.cells #[.int .i64 t, .int .i64 p, .int .i64 s] 23)
    have c0 := loc_alloc w #[.int .i64 t, .int .i64 p, .int .i64 s] 23
    have hF : sweepF t p s q st = (if iK (st.get (ofF t p s q 0)).1 = 3 then
        if ((st.get (ofF t p s q 0)).2.get (ofF t p s q 4)).1 = (((st.get (ofF t p s q 0)).2.get (ofF t p s q 4)).2.get (ofF t p s q 5)).1 then (false, (((st.get (ofF t p s q 0)).2.get (ofF t p s q 4)).2.get (ofF t p s q 5)).2)
        else (true, turnF t p s q (iC (st.get (ofF t p s q 0)).1) (((st.get (ofF t p s q 0)).2.get (ofF t p s q 4)).2.get (ofF t p s q 5)).1 ((st.get (ofF t p s q 0)).2.get (ofF t p s q 4)).1 (((st.get (ofF t p s q 0)).2.get (ofF t p s q 4)).2.get (ofF t p s q 5)).2)
      else (false, (st.get (ofF t p s q 0)).2)) := by unfold sweepF; rw [if_pos hq]; rfl
    have hq2 : 0 ≤ q ∧ q < p := by simpa [pageB] using hq
    obtain ⟨hq0, hq1⟩ := hq2
    have i1 := (keepsPV.inv h).get (ofF t p s q 0)
    have hu := VS.get_u32 (keepsPV.inv h) (ofF t p s q 0)
    have HI := fun w => iget_any (st.get (ofF t p s q 0)).1 w hu.1 hu.2
    have hbd := inf_bd (st.get (ofF t p s q 0)).1
    have hk0 := hbd.2.2.2.2.1
    have hk1 := hbd.2.2.2.2.2.1
    obtain ⟨vi, s1, hg1⟩ : ∃ v s1, st.get (ofF t p s q 0) = (v, s1) := ⟨_, _, rfl⟩
    have G1 := Lib.hid (get_as (b := b) hg1)
    rw [hg1] at i1 HI hk0 hk1 hF
    dsimp only at i1 HI hk0 hk1 hF
    have i2 := i1.get (ofF t p s q 4)
    have u2 := VS.get_u32 i1 (ofF t p s q 4)
    obtain ⟨vl, s2, hg2⟩ : ∃ v s1', s1.get (ofF t p s q 4) = (v, s1') := ⟨_, _, rfl⟩
    have G2 := Lib.hid (get_as (b := b) hg2)
    rw [hg2] at i2 u2 hF
    dsimp only at i2 u2 hF
    have u3 := VS.get_u32 i2 (ofF t p s q 5)
    obtain ⟨vt, s3, hg3⟩ : ∃ v s1', s2.get (ofF t p s q 5) = (v, s1') := ⟨_, _, rfl⟩
    have G3 := Lib.hid (get_as (b := b) hg3)
    rw [hg3] at u3 hF
    dsimp only at u3 hF
    have HII := Lib.hid HI
    have HU2 := Lib.hid u2
    have HU3 := Lib.hid u3
    clear hbd hu i1 i2 hg1 hg2 hg3 h hq HI u2 u3
    generalize iL vi = li at *
    generalize okI vi = oi at *
    by_cases hk3 : iK vi = 3
    · rw [if_pos hk3] at hF
      rw [hk3] at HII
      clear hk3
      generalize iC vi = k at *
      have HT := Lib.hid (fun (w : World) (S1 : Nat → Prop) (h1 : PV w b S1 s3) => sturn_any b t p s q k vt vl w S1 s3 h1 hp HU3.out.1 HU3.out.2 hk0 hk1 hq0 (by omega) HU2.out)
      obtain ⟨rb, rs, hr⟩ : ∃ rb rs, (if vl = vt then (false, s3) else (true, turnF t p s q k vt vl s3)) = (rb, rs) := ⟨_, _, rfl⟩
      rw [hF, hr]
      dsimp only
      have HR := Lib.hid hr
      clear hF hr
      go_enter Tryz.func9, Tryz.ntmps9
      go_wp2_with fail
      refine (calls_bl keepsPV hV (pinfo_any _ _ _ _ _)).mono ?_
      rintro e w1 ⟨rfl, hV1, hV1l⟩
      have c1 := loc_step hV1l (by simp) c0
      clear hV1l
      go_wp2_with fail
      refine (calls_st hV1 (G1.out _)).mono ?_
      rintro e w2 ⟨rfl, hV2, hV2l⟩
      have c2 := loc_step hV2l (by simp) c1
      clear hV2l
      go_wp2_with fail
      refine (calls_bl keepsPV hV2 (HII.out _)).mono ?_
      rintro e w3 ⟨rfl, hV3, hV3l⟩
      have c3 := loc_step hV3l (by simp) c2
      clear hV3l
      have hX := hV3.alloc keepsPV (.cells #[.int .i64 3, .int .i64 li, .int .i64 k] 61)
      have e0 := loc_alloc w3 #[.int .i64 3, .int .i64 li, .int .i64 k] 61
      have c4 := loc_old (.cells #[.int .i64 3, .int .i64 li, .int .i64 k] 61) (hV3.ls _ (by simp)).1 c3
      go_wp2_with fail
      refine (calls_bl keepsPV hX (ppslots_any _ _ _ _ _)).mono ?_
      rintro e w4 ⟨rfl, hV4, hV4l⟩
      have c5 := loc_step hV4l (by simp) c4
      have e1 := loc_step hV4l (by simp) e0
      clear hV4l
      go_wp2_with fail
      refine (calls_st hV4 (G2.out _)).mono ?_
      rintro e w5 ⟨rfl, hV5, hV5l⟩
      have c6 := loc_step hV5l (by simp) c5
      have e2 := loc_step hV5l (by simp) e1
      clear hV5l
      go_wp2_with fail
      replace hX := hV5.drew keepsPV
      refine wp_region_noPanic ?_
      refine wp_region_held_drew (S := fun w' => ((∀ o : Nat, w'.cell? ⟨w.heap.size, o, none⟩ = (#[.int .i64 t, .int .i64 p, .int .i64 s] : Array Value)[o]?) ∧ (∀ o : Nat, w'.cell? ⟨w3.heap.size, o, none⟩ = (#[.int .i64 3, .int .i64 li, .int .i64 k] : Array Value)[o]?))) (by kernel_rfl) ?_ (fun hHeld => ?_)
      · exact ⟨c6, e2⟩
      refine wT 0 ?_
      refine wT 1 ?_
      refine wT 2 ?_
      refine wT 3 ?_
      refine wT 4 ?_
      refine wT 5 ?_
      refine wT 6 ?_
      refine wT 7 ?_
      refine wpAnyH_ready (rs := [8, 11]) (by kernel_rfl) (by simp) ?_
      refine AllReadyH.cons (o := _) rfl (fun K hK => ?_) (AllReadyH.cons (o := _) rfl (fun K hK => ?_) AllReadyH.nil)
      · go_simp
        refine (calls_bl keepsPV hX (pptaken_any _ _ _ _ _)).mono ?_
        rintro e w6 ⟨rfl, hY, hXl⟩
        try have hA := hA.step hY hXl
        have hX := hY
        have c := loc_step hXl (by simp) hHeld.1
        have d := loc_step hXl (by simp) hHeld.2
        clear hXl hY
        dsimp only
        refine hK.out _ _ ?_ (fun hHeld => ?_)
        · exact ⟨c, d⟩
        clear hK K
        try simp only [Act.put, zA, zB, zC, zD, zE, zF]
        refine wpAnyH_ready (rs := [9, 11]) (by kernel_rfl) (by simp) ?_
        refine AllReadyH.cons (o := _) rfl (fun K hK => ?_) (AllReadyH.cons (o := _) rfl (fun K hK => ?_) AllReadyH.nil)
        · go_simp
          refine (calls_st hX (G3.out _)).mono ?_
          rintro e w7 ⟨rfl, hY, hXl⟩
          try have hA := hA.step hY hXl
          have hX := hY
          have c := loc_step hXl (by simp) hHeld.1
          have d := loc_step hXl (by simp) hHeld.2
          clear hXl hY
          dsimp only
          refine hK.out _ _ ?_ (fun hHeld => ?_)
          · exact ⟨c, d⟩
          clear hK K
          try simp only [Act.put, zA, zB, zC, zD, zE, zF]
          refine wT 10 ?_
          refine wR 11 fun K hK => ?_
          have hP := hX
          have hPc := hHeld
          have hA := hX.allocd #[.pointer none, .int .i64 0, .int .i64 0, .int .i64 0, .int .i64 0, .int .i64 0, .int .u32 0] 66
          try simp only [World.size_drew] at hA
          have hX := hA.vs
          have c := loc_old (.cells #[.pointer none, .int .i64 0, .int .i64 0, .int .i64 0, .int .i64 0, .int .i64 0, .int .u32 0] 66) (hP.ls w.heap.size (by simp)).1 hHeld.1
          have d := loc_old (.cells #[.pointer none, .int .i64 0, .int .i64 0, .int .i64 0, .int .i64 0, .int .i64 0, .int .u32 0] 66) (hP.ls w3.heap.size (by simp)).1 hHeld.2
          go_simp
          refine hK.out _ _ ?_ (fun hHeld => ?_)
          · exact ⟨c, d⟩
          clear hK K
          try simp only [Act.put, zA, zB, zC, zD, zE, zF]
          refine wR 12 fun K hK => ?_
          obtain ⟨⟨k0, k1, k2, k3, k4, k5, k6⟩, f0, f1, f2, f3, f4, f5, f6⟩ := cells7 hA.box
          have hA2 := hA.set7 (.pointer (some ⟨b, 0, none⟩)) (.int .i64 t) (.int .i64 p) (.int .i64 s) (.int .i64 q) (.int .i64 k) (.int .u32 vt)
          try have hA3 := hP.allocd #[.pointer (some ⟨b, 0, none⟩), .int .i64 t, .int .i64 p, .int .i64 s, .int .i64 q, .int .i64 k, .int .u32 vt] 66
          go_simp
          refine hK.out _ _ ?_ (fun hHeld => ?_)
          · exact by first | with_reducible exact ⟨loc_old _ (hP.ls _ (by simp)).1 hPc.1, loc_old _ (hP.ls _ (by simp)).1 hPc.2⟩ | exact ⟨hA.loc7 _ _ _ _ _ _ _ (by simp) hHeld.1, hA.loc7 _ _ _ _ _ _ _ (by simp) hHeld.2⟩
          clear hK K
          try simp only [Act.put, zA, zB, zC, zD, zE, zF]
          refine wpAnyH_done (by kernel_rfl) (NoPanic.normal ?_) _
          refine world_gen ?_
          intro wz hwz
          first | rw [← hwz] at hA2; have hZ := hA2 | rw [← hwz] at hA3; have hZ := hA3
          have hH2 := hHeld
          rw [← hwz] at hH2
          clear hwz hX hA hHeld
          obtain ⟨⟨k0, k1, k2, k3, k4, k5, k6⟩, f0, f1, f2, f3, f4, f5, f6⟩ := cells7 hZ.box
          by_cases e : vl = vt
          · have hr := HR.out
            rw [if_pos e] at hr
            obtain ⟨rfl, rfl⟩ := Prod.mk.inj hr
            subst e
            go_wp2
            go_ret
            exact ⟨rfl, hZ.vs.done keepsPV⟩
          · have hr := HR.out
            rw [if_neg e] at hr
            obtain ⟨rfl, rfl⟩ := Prod.mk.inj hr
            clear hr
            go_wp2_with fail
            refine (calls_st hZ.vs (HT.out _)).mono ?_
            rintro e w9 ⟨rfl, hV9, -⟩
            go_wp2
            go_ret
            exact ⟨rfl, hV9.done keepsPV⟩
        · have hP := hX
          have hPc := hHeld
          have hA := hX.allocd #[.pointer none, .int .i64 0, .int .i64 0, .int .i64 0, .int .i64 0, .int .i64 0, .int .u32 0] 66
          try simp only [World.size_drew] at hA
          have hX := hA.vs
          have c := loc_old (.cells #[.pointer none, .int .i64 0, .int .i64 0, .int .i64 0, .int .i64 0, .int .i64 0, .int .u32 0] 66) (hP.ls w.heap.size (by simp)).1 hHeld.1
          have d := loc_old (.cells #[.pointer none, .int .i64 0, .int .i64 0, .int .i64 0, .int .i64 0, .int .i64 0, .int .u32 0] 66) (hP.ls w3.heap.size (by simp)).1 hHeld.2
          go_simp
          refine hK.out _ _ ?_ (fun hHeld => ?_)
          · exact ⟨c, d⟩
          clear hK K
          try simp only [Act.put, zA, zB, zC, zD, zE, zF]
          refine wR 9 fun K hK => ?_
          go_simp
          refine (calls_st hX (G3.out _)).mono ?_
          rintro e w7 ⟨rfl, hY, hXl⟩
          try have hA := hA.step hY hXl
          have hX := hY
          have c := loc_step hXl (by simp) hHeld.1
          have d := loc_step hXl (by simp) hHeld.2
          clear hXl hY
          dsimp only
          refine hK.out _ _ ?_ (fun hHeld => ?_)
          · exact ⟨c, d⟩
          clear hK K
          try simp only [Act.put, zA, zB, zC, zD, zE, zF]
          refine wT 10 ?_
          refine wR 12 fun K hK => ?_
          obtain ⟨⟨k0, k1, k2, k3, k4, k5, k6⟩, f0, f1, f2, f3, f4, f5, f6⟩ := cells7 hA.box
          have hA2 := hA.set7 (.pointer (some ⟨b, 0, none⟩)) (.int .i64 t) (.int .i64 p) (.int .i64 s) (.int .i64 q) (.int .i64 k) (.int .u32 vt)
          try have hA3 := hP.allocd #[.pointer (some ⟨b, 0, none⟩), .int .i64 t, .int .i64 p, .int .i64 s, .int .i64 q, .int .i64 k, .int .u32 vt] 66
          go_simp
          refine hK.out _ _ ?_ (fun hHeld => ?_)
          · exact by first | with_reducible exact ⟨loc_old _ (hP.ls _ (by simp)).1 hPc.1, loc_old _ (hP.ls _ (by simp)).1 hPc.2⟩ | exact ⟨hA.loc7 _ _ _ _ _ _ _ (by simp) hHeld.1, hA.loc7 _ _ _ _ _ _ _ (by simp) hHeld.2⟩
          clear hK K
          try simp only [Act.put, zA, zB, zC, zD, zE, zF]
          refine wpAnyH_done (by kernel_rfl) (NoPanic.normal ?_) _
          refine world_gen ?_
          intro wz hwz
          first | rw [← hwz] at hA2; have hZ := hA2 | rw [← hwz] at hA3; have hZ := hA3
          have hH2 := hHeld
          rw [← hwz] at hH2
          clear hwz hX hA hHeld
          obtain ⟨⟨k0, k1, k2, k3, k4, k5, k6⟩, f0, f1, f2, f3, f4, f5, f6⟩ := cells7 hZ.box
          by_cases e : vl = vt
          · have hr := HR.out
            rw [if_pos e] at hr
            obtain ⟨rfl, rfl⟩ := Prod.mk.inj hr
            subst e
            go_wp2
            go_ret
            exact ⟨rfl, hZ.vs.done keepsPV⟩
          · have hr := HR.out
            rw [if_neg e] at hr
            obtain ⟨rfl, rfl⟩ := Prod.mk.inj hr
            clear hr
            go_wp2_with fail
            refine (calls_st hZ.vs (HT.out _)).mono ?_
            rintro e w9 ⟨rfl, hV9, -⟩
            go_wp2
            go_ret
            exact ⟨rfl, hV9.done keepsPV⟩
      · have hP := hX
        have hPc := hHeld
        have hA := hX.allocd #[.pointer none, .int .i64 0, .int .i64 0, .int .i64 0, .int .i64 0, .int .i64 0, .int .u32 0] 66
        try simp only [World.size_drew] at hA
        have hX := hA.vs
        have c := loc_old (.cells #[.pointer none, .int .i64 0, .int .i64 0, .int .i64 0, .int .i64 0, .int .i64 0, .int .u32 0] 66) (hP.ls w.heap.size (by simp)).1 hHeld.1
        have d := loc_old (.cells #[.pointer none, .int .i64 0, .int .i64 0, .int .i64 0, .int .i64 0, .int .i64 0, .int .u32 0] 66) (hP.ls w3.heap.size (by simp)).1 hHeld.2
        go_simp
        refine hK.out _ _ ?_ (fun hHeld => ?_)
        · exact ⟨c, d⟩
        clear hK K
        try simp only [Act.put, zA, zB, zC, zD, zE, zF]
        refine wR 8 fun K hK => ?_
        go_simp
        refine (calls_bl keepsPV hX (pptaken_any _ _ _ _ _)).mono ?_
        rintro e w6 ⟨rfl, hY, hXl⟩
        try have hA := hA.step hY hXl
        have hX := hY
        have c := loc_step hXl (by simp) hHeld.1
        have d := loc_step hXl (by simp) hHeld.2
        clear hXl hY
        dsimp only
        refine hK.out _ _ ?_ (fun hHeld => ?_)
        · exact ⟨c, d⟩
        clear hK K
        try simp only [Act.put, zA, zB, zC, zD, zE, zF]
        refine wR 9 fun K hK => ?_
        go_simp
        refine (calls_st hX (G3.out _)).mono ?_
        rintro e w7 ⟨rfl, hY, hXl⟩
        try have hA := hA.step hY hXl
        have hX := hY
        have c := loc_step hXl (by simp) hHeld.1
        have d := loc_step hXl (by simp) hHeld.2
        clear hXl hY
        dsimp only
        refine hK.out _ _ ?_ (fun hHeld => ?_)
        · exact ⟨c, d⟩
        clear hK K
        try simp only [Act.put, zA, zB, zC, zD, zE, zF]
        refine wT 10 ?_
        refine wR 12 fun K hK => ?_
        obtain ⟨⟨k0, k1, k2, k3, k4, k5, k6⟩, f0, f1, f2, f3, f4, f5, f6⟩ := cells7 hA.box
        have hA2 := hA.set7 (.pointer (some ⟨b, 0, none⟩)) (.int .i64 t) (.int .i64 p) (.int .i64 s) (.int .i64 q) (.int .i64 k) (.int .u32 vt)
        try have hA3 := hP.allocd #[.pointer (some ⟨b, 0, none⟩), .int .i64 t, .int .i64 p, .int .i64 s, .int .i64 q, .int .i64 k, .int .u32 vt] 66
        go_simp
        refine hK.out _ _ ?_ (fun hHeld => ?_)
        · exact by first | with_reducible exact ⟨loc_old _ (hP.ls _ (by simp)).1 hPc.1, loc_old _ (hP.ls _ (by simp)).1 hPc.2⟩ | exact ⟨hA.loc7 _ _ _ _ _ _ _ (by simp) hHeld.1, hA.loc7 _ _ _ _ _ _ _ (by simp) hHeld.2⟩
        clear hK K
        try simp only [Act.put, zA, zB, zC, zD, zE, zF]
        refine wpAnyH_done (by kernel_rfl) (NoPanic.normal ?_) _
        refine world_gen ?_
        intro wz hwz
        first | rw [← hwz] at hA2; have hZ := hA2 | rw [← hwz] at hA3; have hZ := hA3
        have hH2 := hHeld
        rw [← hwz] at hH2
        clear hwz hX hA hHeld
        obtain ⟨⟨k0, k1, k2, k3, k4, k5, k6⟩, f0, f1, f2, f3, f4, f5, f6⟩ := cells7 hZ.box
        by_cases e : vl = vt
        · have hr := HR.out
          rw [if_pos e] at hr
          obtain ⟨rfl, rfl⟩ := Prod.mk.inj hr
          subst e
          go_wp2
          go_ret
          exact ⟨rfl, hZ.vs.done keepsPV⟩
        · have hr := HR.out
          rw [if_neg e] at hr
          obtain ⟨rfl, rfl⟩ := Prod.mk.inj hr
          clear hr
          go_wp2_with fail
          refine (calls_st hZ.vs (HT.out _)).mono ?_
          rintro e w9 ⟨rfl, hV9, -⟩
          go_wp2
          go_ret
          exact ⟨rfl, hV9.done keepsPV⟩
    · rw [if_neg hk3] at hF
      rw [hF]
      generalize iK vi = ki at *
      generalize iC vi = k at *
      clear hF
      go_enter Tryz.func9, Tryz.ntmps9
      go_wp2_with fail
      refine (calls_bl keepsPV hV (pinfo_any _ _ _ _ _)).mono ?_
      rintro e w1 ⟨rfl, hV1, hV1l⟩
      have c1 := loc_step hV1l (by simp) c0
      clear hV1l
      go_wp2_with fail
      refine (calls_st hV1 (G1.out _)).mono ?_
      rintro e w2 ⟨rfl, hV2, hV2l⟩
      have c2 := loc_step hV2l (by simp) c1
      clear hV2l
      go_wp2_with fail
      refine (calls_bl keepsPV hV2 (HII.out _)).mono ?_
      rintro e w3 ⟨rfl, hV3, hV3l⟩
      have c3 := loc_step hV3l (by simp) c2
      clear hV3l
      go_wp2
      go_ret
      exact ⟨rfl, (hV3.alloc keepsPV _).done keepsPV⟩
end Go.Proofs.YtpmoajhpgekhcaaGreat
