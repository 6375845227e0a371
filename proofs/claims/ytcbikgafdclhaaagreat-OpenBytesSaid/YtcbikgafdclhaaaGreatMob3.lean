/- parts of the proof, merged by a program. -/
import Derived.Test.YtcbikgafdclhaaaGreatMob1
import Derived.Test.YtcbikgafdclhaaaGreatMob2
set_option linter.unusedSimpArgs false
set_option linter.unusedVariables false
/- the document's audit: the bits of pages, the starts of spans. -/
set_option linter.unusedSimpArgs false
set_option linter.unusedVariables false
namespace Go.Proofs.YtcbikgafdclhaaaGreat
open Go.RowKit
section
variable {t p s : Int} {ad : Addr} {n : Nat} {vs : List Int}

/-- a new row of numbers comes back. -/
def RowP (w : World) (l : List Int) (v : Value) (w' : World) : Prop :=
  w'.ownsRow 0 3 1 v l.length (ints l) ∧ (∀ k, v.ownBlock = some k → w.heap.size ≤ k) ∧ Below w.heap.size w w'

def startsL (g : Int → Int) (p : Int) : Nat → Int → List Int → List Int × Bool
  | 0, a, out => (out, a == p)
  | f + 1, a, out => if a < p then (if okI (g a) = false ∨ iK (g a) = 0 then ([], false) else startsL g p f (a + iL (g a)) (out ++ [a])) else (out, a == p)
def startsF (g : Int → Int) (p : Int) : List Int × Bool := startsL g p (p.toNat + 1) 0 []

end
end Go.Proofs.YtcbikgafdclhaaaGreat
/- the document's audit: in, binned, racked; the state of a walk that only reads. -/
set_option linter.unusedSimpArgs false
set_option linter.unusedVariables false
namespace Go.Proofs.YtcbikgafdclhaaaGreat
open Go.RowKit

/-- X in its box, since w. -/
structure XB (w : World) (t p s : Int) (ad : Addr) (n c : Nat) (vs : List Int) (W : World) : Prop where
  bel : Below w.heap.size w W
  box : ∀ o : Nat, W.cell? ⟨w.heap.size, o, none⟩ = (#[.int .i64 t, .int .i64 p, .int .i64 s, .slice (some ad) n c] : Array Value)[o]?
  lt : w.heap.size < W.heap.size
  xv : XV W t p s ad n vs
section
variable {t p s : Int} {ad : Addr} {n c : Nat} {vs : List Int} {w W W' : World}
theorem XB.keep (h : XB w t p s ad n c vs W) (hb : Below W.heap.size W W') : XB w t p s ad n c vs W' :=
  ⟨h.bel.trans (hb.mono h.bel.size), fun o => (hb.cell (p := ⟨w.heap.size, o, none⟩) h.lt).trans (h.box o), Nat.lt_of_lt_of_le h.lt hb.size, h.xv.keep hb⟩
theorem XB.alloc (h : XB w t p s ad n c vs W) (o : Obj) : XB w t p s ad n c vs (W.alloc o) := h.keep ((Below.refl _ _).alloc (Nat.le_refl _) _)
theorem XB.drew (h : XB w t p s ad n c vs W) : XB w t p s ad n c vs W.drew := h.keep ((Below.refl _ _).drew)
theorem XB.cells (h : XB w t p s ad n c vs W) : W.cell? ⟨w.heap.size, 0, none⟩ = some (.int .i64 t) ∧ W.cell? ⟨w.heap.size, 1, none⟩ = some (.int .i64 p) ∧ W.cell? ⟨w.heap.size, 2, none⟩ = some (.int .i64 s) ∧ W.cell? ⟨w.heap.size, 3, none⟩ = some (.slice (some ad) n c) :=
  ⟨h.box 0, h.box 1, h.box 2, h.box 3⟩

def binnedB (v k : Int) : Bool := iK v == 1 && logF (iL v) == k
def rackedB (v u k : Int) : Bool := iK v == 3 && iC v == k && !fullB u k

end
end Go.Proofs.YtcbikgafdclhaaaGreat
/- the document's audit: the lists of a heap. -/
set_option linter.unusedSimpArgs false
set_option linter.unusedVariables false
namespace Go.Proofs.YtcbikgafdclhaaaGreat
open Go.RowKit
section
variable {t p s : Int} {ad : Addr} {n c : Nat} {vs : List Int}

def listL (vs : List Int) (t p : Int) : Nat → Int → Int → List Int → List Int × Bool
  | 0, _, _, out => (out, false)
  | f + 1, q, ah, out => if q = 0 then (out, true) else if p < q ∨ p ≤ out.length then (out, false) else if gv vs t (q - 1) 3 ≠ ah then (out, false) else listL vs t p f (gv vs t (q - 1) 2) q (out ++ [q - 1])
def listF (vs : List Int) (t p : Int) (head : Nat) : List Int × Bool := listL vs t p (p.toNat + 1) (vs.getD head 0) 0 []

end
end Go.Proofs.YtcbikgafdclhaaaGreat
/- the document's audit: bins and racks. -/
set_option linter.unusedSimpArgs false
set_option linter.unusedVariables false
namespace Go.Proofs.YtcbikgafdclhaaaGreat
open Go.RowKit

def allN (f : Nat → Bool) : Nat → Bool
  | 0 => true
  | k + 1 => allN f k && f k
theorem allN_no {f : Nat → Bool} {k N : Nat} (hk : k < N) (h : f k = false) : allN f N = false := by
  induction N with
  | zero => omega
  | succ N ih =>
    by_cases e : k = N
    · subst e; simp [allN, h]
    · simp [allN, ih (by omega)]
theorem allN_iff {f : Nat → Bool} {N : Nat} : allN f N = true ↔ ∀ k, k < N → f k = true := by
  induction N with
  | zero => simp [allN]
  | succ N ih =>
    simp only [allN, Bool.and_eq_true, ih]
    constructor
    · intro h k hk
      by_cases e : k = N
      · rw [e]; exact h.2
      · exact h.1 k (by omega)
    · exact fun h => ⟨fun k hk => h k (by omega), h N (by omega)⟩
theorem RowP.row {w w' : World} {l : List Int} {v : Value} (h : RowP w l v w') : ∃ a c, v = .slice a l.length c := row_shape h.1
def wantI (b : Bool) : Int := if b then 1 else 0
section
variable {t p s : Int} {ad : Addr} {n c : Nat} {vs : List Int}
def binsInB (vs : List Int) (t : Int) (l : List Int) (k : Nat) (q : Nat) : Bool := ((l.count (q : Int) : Nat) : Int) == wantI (binnedB (gv vs t (q : Int) 0) k)
def binsB (vs : List Int) (t p : Int) (k : Nat) : Bool := (listF vs t p (2 + k)).2 && allN (binsInB vs t (listF vs t p (2 + k)).1 k) p.toNat
def binsF (vs : List Int) (t p : Int) : Bool := allN (binsB vs t p) 11

def racksInB (vs : List Int) (t : Int) (l : List Int) (k : Nat) (q : Nat) : Bool := ((l.count (q : Int) : Nat) : Int) == wantI (rackedB (gv vs t (q : Int) 0) (gv vs t (q : Int) 5) k)
def racksB (vs : List Int) (t p : Int) (k : Nat) : Bool := (listF vs t p (13 + k)).2 && allN (racksInB vs t (listF vs t p (13 + k)).1 k) p.toNat
def racksF (vs : List Int) (t p : Int) : Bool := allN (racksB vs t p) 9

end
end Go.Proofs.YtcbikgafdclhaaaGreat
/- the document's audit: tiles, apart, feet. -/
set_option linter.unusedSimpArgs false
set_option linter.unusedVariables false
namespace Go.Proofs.YtcbikgafdclhaaaGreat
open Go.RowKit

def tilesN (vs : List Int) (t : Int) (l : List Int) : Nat → Option Nat
  | 0 => some 0
  | q + 1 => match tilesN vs t l q with
    | none => none
    | some n => if l[n]? = some (q : Int) then some (n + 1) else if gv vs t (q : Int) 0 = 0 then some n else none
def tilesF (vs : List Int) (t p : Int) : Bool := (startsF (fun q => gv vs t q 0) p).2 && (tilesN vs t (startsF (fun q => gv vs t q 0) p).1 p.toNat).isSome
theorem RowP.cell {w w' : World} {l : List Int} {a : Option Addr} {m c : Nat} (h : RowP w l (.slice a m c) w') {k : Nat} (hk : k < l.length) :
    ∃ g, a = some ⟨g, 0, none⟩ ∧ w'.cell? ⟨g, k, none⟩ = some (.int .i64 (l.getD k 0)) := by
  obtain ⟨g, cap, e⟩ := Joins.ownsRow_form h.1 (by omega)
  simp only [Value.slice.injEq] at e
  obtain ⟨rfl, rfl, rfl⟩ := e
  refine ⟨g, rfl, ?_⟩
  rw [h.1.cellAt k (by omega)]
  simp [ints, hk]

section
variable {t p s : Int} {ad : Addr} {n c : Nat} {vs : List Int}

end
end Go.Proofs.YtcbikgafdclhaaaGreat
/- the document's audit: pages' bytes, slots' sizes, addresses. -/
set_option linter.unusedSimpArgs false
set_option linter.unusedVariables false
namespace Go.Proofs.YtcbikgafdclhaaaGreat
open Go.RowKit

def pageN : Nat → Int
  | 0 => 1
  | k + 1 => pageN k * 2
def pageF (s : Int) : Int := pageN s.toNat
theorem pageF_bd {s : Int} (h : 10 ≤ s ∧ s ≤ 20) : 1024 ≤ pageF s ∧ pageF s ≤ 1048576 := by
  have : ∀ k : Nat, k ≤ 20 → 10 ≤ k → 1024 ≤ pageN k ∧ pageN k ≤ 1048576 := by decide
  exact this _ (by omega) (by omega)

def sizeF (s k : Int) : Int := if slotsF k = 0 then 0 else pageF s / slotsF k - pageF s / slotsF k % 16
theorem slots_cases (k : Int) : slotsF k = 0 ∨ slotsF k = 32 ∨ slotsF k = 21 ∨ slotsF k = 16 ∨ slotsF k = 10 ∨ slotsF k = 8 ∨ slotsF k = 5 ∨ slotsF k = 4 ∨ slotsF k = 3 ∨ slotsF k = 2 := by
  rcases (by omega : k = 0 ∨ k = 1 ∨ k = 2 ∨ k = 3 ∨ k = 4 ∨ k = 5 ∨ k = 6 ∨ k = 7 ∨ k = 8 ∨ (k < 0 ∨ 8 < k)) with rfl | rfl | rfl | rfl | rfl | rfl | rfl | rfl | rfl | h
  case inr.inr.inr.inr.inr.inr.inr.inr.inr =>
    left
    unfold slotsF
    rw [if_neg (by omega), if_neg (by omega), if_neg (by omega), if_neg (by omega), if_neg (by omega), if_neg (by omega), if_neg (by omega), if_neg (by omega), if_neg (by omega)]
  all_goals decide
theorem size_bd {s k : Int} (h : 10 ≤ s ∧ s ≤ 20) : 0 ≤ sizeF s k ∧ sizeF s k ≤ 1048576 ∧ sizeF s k * slotsF k ≤ pageF s ∧ (slotsF k ≠ 0 → 1 ≤ sizeF s k) ∧ (∀ b : Int, 0 ≤ b → b < slotsF k → 0 ≤ b * sizeF s k ∧ b * sizeF s k + sizeF s k ≤ pageF s) := by
  have hp := pageF_bd h
  unfold sizeF
  generalize pageF s = pg at *
  have key : ∀ N z : Int, 0 ≤ z → N * z ≤ pg → ∀ b : Int, 0 ≤ b → b < N → 0 ≤ b * z ∧ b * z + z ≤ pg := by
    intro N z hz hN b hb hbN
    refine ⟨Int.mul_nonneg hb hz, ?_⟩
    have h1 : (b + 1) * z ≤ N * z := Int.mul_le_mul_of_nonneg_right (by omega) hz
    have h2 : (b + 1) * z = b * z + z := by rw [Int.add_mul, Int.one_mul]
    omega
  rcases slots_cases k with e | e | e | e | e | e | e | e | e | e <;> rw [e]
  · rw [if_pos rfl]
    exact ⟨by omega, by omega, by omega, fun h => absurd rfl h, fun b h1 h2 => absurd h2 (by omega)⟩
  all_goals
    rw [if_neg (by omega)]
    refine ⟨by omega, by omega, by omega, fun _ => by omega, key _ _ (by omega) (by omega)⟩

/-- an address that is one. -/
def addrF (s q off : Int) : Int := (q + 1) * pageF s + off
end Go.Proofs.YtcbikgafdclhaaaGreat
/- the document's audit: the parts of a slab. -/
set_option linter.unusedSimpArgs false
set_option linter.unusedVariables false
namespace Go.Proofs.YtcbikgafdclhaaaGreat
open Go.RowKit

theorem infoPart : (Tryz.prog.info? 162).map (fun i => (i.zero, i.size, i.bytes)) = some (some (.agg #[.int .i64 0, .int .i64 0, .int .i64 0]), 3, 24) := by kernel_rfl
def partCells (l : List (Int × Int × Int)) : List Value := l.flatMap fun x => [.int .i64 x.1, .int .i64 x.2.1, .int .i64 x.2.2]
theorem partCells_len (l : List (Int × Int × Int)) : (partCells l).length = l.length * 3 := by
  induction l with
  | nil => rfl
  | cons y ys ih => unfold partCells at ih ⊢; simp [ih]; omega
theorem partCells_app (l m : List (Int × Int × Int)) : partCells (l ++ m) = partCells l ++ partCells m := by simp [partCells]
theorem cell_three_new (w : World) (u1 u2 u3 : Value) (T : TypeId) : ∀ (j : Nat) (x : Value), [u1, u2, u3][j]? = some x → (w.alloc (.cells #[u1, u2, u3] T)).cell? ((⟨w.heap.size, 0, none⟩ : Addr).add j) = some x := by
  intro j x hj
  rcases j with _ | _ | _ | j
  · simp at hj; subst hj; exact cell?_of_heap (o := 0) (heap_alloc_new w (.cells #[u1, u2, u3] T))
  · simp at hj; subst hj; exact cell?_of_heap (o := 1) (heap_alloc_new w (.cells #[u1, u2, u3] T))
  · simp at hj; subst hj; exact cell?_of_heap (o := 2) (heap_alloc_new w (.cells #[u1, u2, u3] T))
  · simp at hj

/-- a new row of parts comes back. -/
def RowQ (w : World) (l : List (Int × Int × Int)) (v : Value) (w' : World) : Prop :=
  w'.ownsRow 0 162 3 v l.length (partCells l) ∧ (∀ k, v.ownBlock = some k → w.heap.size ≤ k) ∧ Below w.heap.size w w'

def kindF (x y : Bool) : Int := if x then 2 else if y then 4 else 3
def slabL (vs : List Int) (t s q k : Int) : Nat → List (Int × Int × Int)
  | 0 => []
  | b + 1 => slabL vs t s q k b ++ [(kindF (bitB (gv vs t q 4) b) (bitB (gv vs t q 5) b), addrF s q ((b : Int) * sizeF s k), sizeF s k)]
theorem slabL_len (vs : List Int) (t s q k : Int) (b : Nat) : (slabL vs t s q k b).length = b := by
  induction b with
  | zero => rfl
  | succ b ih => simp [slabL, ih]
def restF (s k : Int) : Int := pageF s - sizeF s k * slotsF k
def slabF (vs : List Int) (t s q k : Int) : List (Int × Int × Int) :=
  slabL vs t s q k (slotsF k).toNat ++ if 0 < restF s k then [(5, addrF s q (pageF s - restF s k), restF s k)] else []
theorem slabF_len (vs : List Int) (t s q k : Int) : (slabF vs t s q k).length ≤ 33 := by
  have := slots_bd k
  unfold slabF
  rw [List.length_append, slabL_len]
  split <;> simp <;> omega

section
variable {t p s : Int} {ad : Addr} {n c : Nat} {vs : List Int}

/-- behind an append to a row that is none of X's box. -/
theorem XB.grown {w W W' : World} {ob : Obj} {row : Option Nat} (h0 : XV w t p s ad n vs) (h : XB w t p s ad n c vs W) (hS : BS w (w.heap.size :: row.toList) W) (hg : (W.alloc ob).grownBy W' row) (hr : ∀ k, row = some k → w.heap.size < k) : XB w t p s ad n c vs W' := by
  have hb : Below w.heap.size w W' := (hS.bel.alloc hS.bel.size ob).grown hg (by simp; exact Nat.le_succ_of_le hS.bel.size) (fun k hk => (hS.ls k (by simp [hk])).2)
  refine ⟨hb, loc_grown hg (by have := h.lt; simp; omega) (fun e => by have := hr _ e; omega) (loc_old _ h.lt h.box), Nat.lt_of_lt_of_le h.lt ?_, h0.keep hb⟩
  have := hg.size; simp at this; omega

end
end Go.Proofs.YtcbikgafdclhaaaGreat
/- the program's classes, sizes, addresses, places. -/
set_option linter.unusedSimpArgs false
set_option linter.unusedVariables false
namespace Go.Proofs.YtcbikgafdclhaaaGreat
open Go.RowKit

theorem pslots9 (w : World) : Calls Tryz.prog 233 #[] w fun e w' => e = .returned (.agg #[.int .i64 32, .int .i64 21, .int .i64 16, .int .i64 10, .int .i64 8, .int .i64 5, .int .i64 4, .int .i64 3, .int .i64 2]) ∧ Below w.heap.size w w' := by
  go_enter Tryz.func233, Tryz.ntmps233
  go_wp2
  refine bodyPost_ret (v := .agg #[.int .i64 32, .int .i64 21, .int .i64 16, .int .i64 10, .int .i64 8, .int .i64 5, .int .i64 4, .int .i64 3, .int .i64 2]) (by simp [results, Tryz.results233, go_sem]) rfl ⟨rfl, ?_⟩
  (repeat (first | exact Below.refl _ _ | assumption | refine Below.setCell ?_ (by first | omega | (simp; done) | (simp; omega)) _ | refine Below.alloc ?_ (by first | omega | (simp; done) | (simp; omega)) _ | refine Below.drew ?_ | refine Below.trans ?_ (Below.mono ‹Below _ _ _› (by first | omega | (simp; done) | (simp; omega)))))
theorem pslots_any (k : Int) (w : World) : Calls Tryz.prog 192 #[.int .i64 k] w fun e w' => e = .returned (.int .i64 (slotsF k)) ∧ Below w.heap.size w w' := by
  have H := Lib.hid pslots9
  by_cases hk : 0 ≤ k ∧ k < 9
  · skip
    go_enter Tryz.func192, Tryz.ntmps192
    go_wp2_with fail
    refine (H.out _).mono ?_
    rintro e w1 ⟨rfl, b1⟩
    rcases (by omega : k = 0 ∨ k = 1 ∨ k = 2 ∨ k = 3 ∨ k = 4 ∨ k = 5 ∨ k = 6 ∨ k = 7 ∨ k = 8) with rfl | rfl | rfl | rfl | rfl | rfl | rfl | rfl | rfl
    all_goals
      go_wp2
      go_ret
      exact ⟨rfl, b1.alloc b1.size _⟩
  · have hs : slotsF k = 0 := by
      unfold slotsF
      rw [if_neg (by omega), if_neg (by omega), if_neg (by omega), if_neg (by omega), if_neg (by omega), if_neg (by omega), if_neg (by omega), if_neg (by omega), if_neg (by omega)]
    rw [hs]
    clear hs
    rcases (by omega : k < 0 ∨ (0 ≤ k ∧ 9 ≤ k)) with h | h
    · skip
      go_enter Tryz.func192, Tryz.ntmps192
      go_wp2_with fail
      refine (H.out _).mono ?_
      rintro e w1 ⟨rfl, b1⟩
      go_wp2
      go_ret
      exact ⟨rfl, b1.alloc b1.size _⟩
    · have h1 := h.1
      have h2 := h.2
      go_enter Tryz.func192, Tryz.ntmps192
      go_wp2_with fail
      refine (H.out _).mono ?_
      rintro e w1 ⟨rfl, b1⟩
      go_wp2
      go_ret
      exact ⟨rfl, b1.alloc b1.size _⟩
theorem pageN_pow (k : Nat) : pageN k = 2 ^ k := by
  induction k with
  | zero => rfl
  | succ k ih => rw [Int.pow_succ, ← ih]; rfl
theorem wrap64_in (n : Int) (h : -9223372036854775808 ≤ n ∧ n ≤ 9223372036854775807) : wrap64 n = n := by
  unfold wrap64
  omega
theorem pageF_wrap {s : Int} (h : 10 ≤ s ∧ s ≤ 20) : wrap64 (2 ^ s.toNat) = pageF s := by
  have hp := pageF_bd h
  unfold pageF at *
  rw [pageN_pow] at *
  exact wrap64_in ((2 : Int) ^ s.toNat) (by omega)
theorem andNot15 {x : Int} (h0 : 0 ≤ x) (h1 : x < 4611686018427387904) : bits BinOp.andNot IntKind.i64 x 15 = x - x % 16 := by
  obtain ⟨a, rfl⟩ := Int.eq_ofNat_of_zero_le h0
  have ha : a < 4611686018427387904 := by omega
  have e1 : BitVec.ofInt 64 (a : Int) = BitVec.ofNat 64 a := BitVec.ofInt_natCast ..
  have e2 : BitVec.ofInt 64 (15 : Int) = BitVec.ofNat 64 15 := by decide
  have e3 : BitVec.ofNat 64 a &&& ~~~ BitVec.ofNat 64 15 = BitVec.ofNat 64 (2 ^ 4 * (a / 2 ^ 4)) := by
    apply BitVec.eq_of_getLsbD_eq
    intro i hi
    have h15 : Nat.testBit 15 i = decide (i < 4) := Nat.testBit_two_pow_sub_one 4 i
    simp only [BitVec.getLsbD_and, BitVec.getLsbD_not, BitVec.getLsbD_ofNat, Nat.testBit_two_pow_mul, Nat.testBit_div_two_pow, h15, hi, decide_true, Bool.true_and]
    by_cases h : i < 4
    · simp [h]; omega
    · have : 4 ≤ i := by omega
      simp [h, this]
  show IntKind.i64.wrap ((BitVec.ofInt 64 (a : Int) &&& ~~~ BitVec.ofInt 64 (15 : Int)).toNat : Int) = _
  rw [e1, e2, e3, BitVec.toNat_ofNat, Nat.mod_eq_of_lt (by omega)]
  have : IntKind.i64.wrap ((2 ^ 4 * (a / 2 ^ 4) : Nat) : Int) = ((2 ^ 4 * (a / 2 ^ 4) : Nat) : Int) := wrap_in _ (by omega)
  rw [this]
  omega
theorem cpage_any (t p s : Int) (w : World) (hr : rightB t p s = true) :
    Calls Tryz.prog 202 #[.agg #[.int .i64 t, .int .i64 p, .int .i64 s]] w fun e w' => e = .returned (.int .i64 (pageF s)) ∧ Below w.heap.size w w' := by
  obtain ⟨b1, b2, b3, b4, b5, b6⟩ := right_bd hr
  have H := Lib.hid (fun w => check_right t p s w hr)
  have HP := Lib.hid (pageF_wrap (s := s) (by omega))
  go_enter Tryz.func202, Tryz.ntmps202
  go_wp2_with fail
  refine (H.out _).mono ?_
  rintro e w1 ⟨rfl, ha⟩
  obtain ⟨hac, haf⟩ := bcell ha
  have haz0 : w.heap.size < w1.heap.size := by have := ha.size; first | omega | (simp at this; omega)
  go_wp2
  go_ret
  refine ⟨ret_int HP.out, ?_⟩
  (repeat (first | exact Below.refl _ _ | assumption | refine Below.setCell ?_ (by first | omega | (simp; done) | (simp; omega)) _ | refine Below.alloc ?_ (by first | omega | (simp; done) | (simp; omega)) _ | refine Below.drew ?_ | refine Below.trans ?_ (Below.mono ‹Below _ _ _› (by first | omega | (simp; done) | (simp; omega)))))
theorem psize_any (s k : Int) (w : World) (h : 10 ≤ s ∧ s ≤ 20) :
    Calls Tryz.prog 204 #[.int .i64 s, .int .i64 k] w fun e w' => e = .returned (.int .i64 (sizeF s k)) ∧ Below w.heap.size w w' := by
  have HK := Lib.hid (fun w => pslots_any k w)
  have hb := slots_bd k
  have h1 := h.1
  have h2 := h.2
  have HP := pageF_wrap h
  have hp := pageF_bd h
  have hd : sizeF s k = if slotsF k = 0 then 0 else pageF s / slotsF k - pageF s / slotsF k % 16 := rfl
  rw [hd]
  clear hd
  generalize slotsF k = n at *
  by_cases hn : n = 0
  · subst hn
    go_enter Tryz.func204, Tryz.ntmps204
    go_wp2_with fail
    refine (HK.out _).mono ?_
    rintro e w2 ⟨rfl, b2⟩
    go_wp2
    go_ret
    exact ⟨by simp, b2⟩
  · have hnb : (n == 0) = false := by simp [hn]
    rw [if_neg hn]
    have hq0 : 0 ≤ pageF s / n := Int.ediv_nonneg (by omega) (by omega)
    have hq1 : pageF s / n ≤ pageF s := Int.ediv_le_self _ (by omega)
    have HA := Lib.hid (andNot15 (x := pageF s / n) hq0 (by omega))
    go_enter Tryz.func204, Tryz.ntmps204
    go_wp2_with fail
    refine (HK.out _).mono ?_
    rintro e w2 ⟨rfl, b2⟩
    go_wp2
    go_ret
    exact ⟨ret_int HA.out, b2⟩
theorem whole_bd (n : Int) (h0 : 0 ≤ n) (h1 : n ≤ 32) : IntKind.u64.wrap (IntKind.u64.wrap (2 ^ n.toNat) - 1) % 4294967296 = 2 ^ n.toNat - 1 ∧ (0 : Int) ≤ 2 ^ n.toNat - 1 ∧ (2 : Int) ^ n.toNat - 1 < 4294967296 := by
  have a : (2 : Int) ^ n.toNat ≤ 2 ^ 32 := by
    have := Nat.pow_le_pow_right (n := 2) (by omega) (show n.toNat ≤ 32 by omega)
    exact_mod_cast this
  have b : (0 : Int) < 2 ^ n.toNat := Int.pow_pos (by omega)
  have c : (2 : Int) ^ 32 = 4294967296 := by rfl
  rw [c] at a
  generalize (2 : Int) ^ n.toNat = z at *
  rw [wrapsA_u64 z (by omega) (by omega), wrapsA_u64 (z - 1) (by omega) (by omega)]
  omega
theorem pwhole_any (k : Int) (w : World) : Calls Tryz.prog 150 #[.int .i64 k] w fun e w' => e = .returned (.int .u32 (2 ^ (slotsF k).toNat - 1)) ∧ Below w.heap.size w w' := by
  have HK := Lib.hid (fun w => pslots_any k w)
  have hb := slots_bd k
  have HW := Lib.hid (whole_bd _ hb.1 hb.2).1
  generalize slotsF k = n at *
  go_enter Tryz.func150, Tryz.ntmps150
  go_wp2_with fail
  refine (HK.out _).mono ?_
  rintro e w2 ⟨rfl, b2⟩
  go_wp2
  go_ret
  exact ⟨ret_int HW.out, b2⟩
theorem pthere_any (t p s q off : Int) (w : World) (hr : rightB t p s = true) (h0 : 0 ≤ q) (h1 : q < p) (h2 : 0 ≤ off) (h3 : off < pageF s) :
    Calls Tryz.prog 235 #[.agg #[.int .i64 q, .int .i64 off], .agg #[.int .i64 t, .int .i64 p, .int .i64 s]] w fun e w' => e = .returned (.bool true) ∧ Below w.heap.size w w' := by
  have HC := Lib.hid (fun w => check_right t p s w hr)
  have HP := Lib.hid (fun w => cpage_any t p s w hr)
  generalize pageF s = pg at *
  clear hr
  have S0 := ((BS.start w).alloc (.cells #[.int .i64 q, .int .i64 off] 248)).alloc (.cells #[.int .i64 t, .int .i64 p, .int .i64 s] 44)
  have c0 := loc_old (.cells #[.int .i64 t, .int .i64 p, .int .i64 s] 44) (by simp) (loc_alloc w #[.int .i64 q, .int .i64 off] 248)
  have d0 := loc_alloc (w.alloc (.cells #[.int .i64 q, .int .i64 off] 248)) #[.int .i64 t, .int .i64 p, .int .i64 s] 44
  simp only [World.size_alloc] at S0 d0
  go_enter Tryz.func235, Tryz.ntmps235
  go_wp2_with fail
  refine wp_region_noPanic ?_
  refine wp_region_held_drew (S := fun w' => (∀ o : Nat, w'.cell? ⟨w.heap.size, o, none⟩ = (#[.int .i64 q, .int .i64 off] : Array Value)[o]?) ∧ (∀ o : Nat, w'.cell? ⟨w.heap.size + 1, o, none⟩ = (#[.int .i64 t, .int .i64 p, .int .i64 s] : Array Value)[o]?)) (by kernel_rfl) ?_ (fun hHeld => ?_)
  · exact ⟨c0, d0⟩
  refine wT 0 ?_
  refine wR 1 fun K hK => ?_
  go_simp
  refine (calls_b S0.drew (HC.out _)).mono ?_
  rintro e w1 ⟨rfl, S1, S1l⟩
  have c1 := loc_step S1l (by simp) hHeld.1
  have d1 := loc_step S1l (by simp) hHeld.2
  clear S1l
  dsimp only
  refine hK.out _ _ ?_ (fun hHeld => ?_)
  · exact ⟨c1, d1⟩
  clear hK K
  try simp only [Act.put, zA, zB, zC, zD, zE, zF]
  refine wT 2 ?_
  refine wT 3 ?_
  refine wT 4 ?_
  refine wT 5 ?_
  refine wT 6 ?_
  refine wT 7 ?_
  refine wT 8 ?_
  refine wT 9 ?_
  refine wT 10 ?_
  refine wT 11 ?_
  refine wT 12 ?_
  refine wT 13 ?_
  refine wT 14 ?_
  refine wT 15 ?_
  refine wT 16 ?_
  refine wT 17 ?_
  refine wT 18 ?_
  refine wT 19 ?_
  refine wT 20 ?_
  refine wT 21 ?_
  refine wT 22 ?_
  refine wT 23 ?_
  refine wR 24 fun K hK => ?_
  go_simp
  refine (calls_b S1 (HP.out _)).mono ?_
  rintro e w2 ⟨rfl, S2, S2l⟩
  have c2 := loc_step S2l (by simp) hHeld.1
  have d2 := loc_step S2l (by simp) hHeld.2
  clear S2l
  dsimp only
  refine hK.out _ _ ?_ (fun hHeld => ?_)
  · exact ⟨c2, d2⟩
  clear hK K
  try simp only [Act.put, zA, zB, zC, zD, zE, zF]
  refine wT 25 ?_
  refine wT 26 ?_
  refine wT 27 ?_
  refine wpAnyH_done (by kernel_rfl) (NoPanic.normal ?_) _
  go_wp2
  go_ret
  exact ⟨rfl, S2.bel⟩
theorem shl_or {q off pg : Int} {n : Nat} (hpg : pg = 2 ^ n) (hn : n ≤ 20) (h0 : 0 ≤ q) (h1 : q ≤ 1024) (h2 : 0 ≤ off) (h3 : off < pg) : bits BinOp.or IntKind.i64 (wrap64 ((q + 1) * 2 ^ n)) off = (q + 1) * pg + off := by
  have a : (2 : Int) ^ n ≤ 2 ^ 20 := by
    have := Nat.pow_le_pow_right (n := 2) (by omega) hn
    exact_mod_cast this
  have c : (2 : Int) ^ 20 = 1048576 := by rfl
  rw [c] at a
  have hm0 : 0 ≤ (q + 1) * 2 ^ n := Int.mul_nonneg (by omega) (Int.pow_nonneg (by omega))
  have hm1 : (q + 1) * 2 ^ n ≤ 1025 * 1048576 := Int.mul_le_mul (by omega) a (Int.pow_nonneg (by omega)) (by omega)
  have hd : (q + 1) * 2 ^ n % 2 ^ n = 0 := Int.mul_emod_left ..
  have := bits_join .i64 62 (by decide) (fun n h₀ h₁ => wrap_in n (by omega)) n ((q + 1) * 2 ^ n) off hm0 hd (by omega) h2 (by rw [← hpg]; exact h3) (by omega)
  rw [wrap64_in _ (by omega), this, hpg]
theorem pof_any (t p s q off : Int) (w : World) (hr : rightB t p s = true) (h0 : 0 ≤ q) (h1 : q < p) (h2 : 0 ≤ off) (h3 : off < pageF s) :
    Calls Tryz.prog 203 #[.agg #[.int .i64 t, .int .i64 p, .int .i64 s], .int .i64 q, .int .i64 off] w fun e w' => e = .returned (.tuple #[.int .i64 (addrF s q off), .bool true]) ∧ Below w.heap.size w w' := by
  obtain ⟨b1, b2, b3, b4, b5, b6⟩ := right_bd hr
  have HT := Lib.hid (fun w => pthere_any t p s q off w hr h0 h1 h2 h3)
  have hpg : pageF s = 2 ^ s.toNat := by unfold pageF; exact pageN_pow _
  have hO := shl_or hpg (by omega) h0 (by omega) h2 h3
  have HO := Lib.hid hO
  have hd : addrF s q off = (q + 1) * pageF s + off := rfl
  rw [hd]
  clear hr hd hO
  go_enter Tryz.func203, Tryz.ntmps203
  go_wp2_with fail
  refine (HT.out _).mono ?_
  rintro e w1 ⟨rfl, ha⟩
  obtain ⟨hac, haf⟩ := bcell ha
  have haz0 : w.heap.size < w1.heap.size := by have := ha.size; first | omega | (simp at this; omega)
  go_wp2
  refine bodyPost_ret (v := .tuple #[.int .i64 ((q + 1) * pageF s + off), .bool true]) (by simp only [results, Tryz.results203]; simp [go_sem]; exact HO.out) rfl ⟨rfl, ?_⟩
  (repeat (first | exact Below.refl _ _ | assumption | refine Below.setCell ?_ (by first | omega | (simp; done) | (simp; omega)) _ | refine Below.alloc ?_ (by first | omega | (simp; done) | (simp; omega)) _ | refine Below.drew ?_ | refine Below.trans ?_ (Below.mono ‹Below _ _ _› (by first | omega | (simp; done) | (simp; omega)))))
theorem ppnext_any (t p s q : Int) (w : World) :
    Calls Tryz.prog 155 #[.agg #[.int .i64 t, .int .i64 p, .int .i64 s], .int .i64 q] w fun e w' => e = .returned (.int .i64 (ofF t p s q 2)) ∧ Below w.heap.size w w' := by
  go_enter Tryz.func155, Tryz.ntmps155
  go_wp2_with fail
  refine (of_any _ _ _ _ _ _ (by omega) (by omega)).mono ?_
  rintro e w1 ⟨rfl, ha⟩
  obtain ⟨hac, haf⟩ := bcell ha
  go_wp2
  go_ret
  refine ⟨rfl, ?_⟩
  (repeat (first | exact Below.refl _ _ | assumption | refine Below.setCell ?_ (by first | omega | (simp; done) | (simp; omega)) _ | refine Below.alloc ?_ (by first | omega | (simp; done) | (simp; omega)) _ | refine Below.drew ?_ | refine Below.trans ?_ (Below.mono ‹Below _ _ _› (by first | omega | (simp; done) | (simp; omega)))))
theorem ppprev_any (t p s q : Int) (w : World) :
    Calls Tryz.prog 156 #[.agg #[.int .i64 t, .int .i64 p, .int .i64 s], .int .i64 q] w fun e w' => e = .returned (.int .i64 (ofF t p s q 3)) ∧ Below w.heap.size w w' := by
  go_enter Tryz.func156, Tryz.ntmps156
  go_wp2_with fail
  refine (of_any _ _ _ _ _ _ (by omega) (by omega)).mono ?_
  rintro e w1 ⟨rfl, ha⟩
  obtain ⟨hac, haf⟩ := bcell ha
  go_wp2
  go_ret
  refine ⟨rfl, ?_⟩
  (repeat (first | exact Below.refl _ _ | assumption | refine Below.setCell ?_ (by first | omega | (simp; done) | (simp; omega)) _ | refine Below.alloc ?_ (by first | omega | (simp; done) | (simp; omega)) _ | refine Below.drew ?_ | refine Below.trans ?_ (Below.mono ‹Below _ _ _› (by first | omega | (simp; done) | (simp; omega)))))
theorem ppslots_any (t p s q : Int) (w : World) :
    Calls Tryz.prog 148 #[.agg #[.int .i64 t, .int .i64 p, .int .i64 s], .int .i64 q] w fun e w' => e = .returned (.int .i64 (ofF t p s q 4)) ∧ Below w.heap.size w w' := by
  go_enter Tryz.func148, Tryz.ntmps148
  go_wp2_with fail
  refine (of_any _ _ _ _ _ _ (by omega) (by omega)).mono ?_
  rintro e w1 ⟨rfl, ha⟩
  obtain ⟨hac, haf⟩ := bcell ha
  go_wp2
  go_ret
  refine ⟨rfl, ?_⟩
  (repeat (first | exact Below.refl _ _ | assumption | refine Below.setCell ?_ (by first | omega | (simp; done) | (simp; omega)) _ | refine Below.alloc ?_ (by first | omega | (simp; done) | (simp; omega)) _ | refine Below.drew ?_ | refine Below.trans ?_ (Below.mono ‹Below _ _ _› (by first | omega | (simp; done) | (simp; omega)))))
theorem pptaken_any (t p s q : Int) (w : World) :
    Calls Tryz.prog 149 #[.agg #[.int .i64 t, .int .i64 p, .int .i64 s], .int .i64 q] w fun e w' => e = .returned (.int .i64 (ofF t p s q 5)) ∧ Below w.heap.size w w' := by
  go_enter Tryz.func149, Tryz.ntmps149
  go_wp2_with fail
  refine (of_any _ _ _ _ _ _ (by omega) (by omega)).mono ?_
  rintro e w1 ⟨rfl, ha⟩
  obtain ⟨hac, haf⟩ := bcell ha
  go_wp2
  go_ret
  refine ⟨rfl, ?_⟩
  (repeat (first | exact Below.refl _ _ | assumption | refine Below.setCell ?_ (by first | omega | (simp; done) | (simp; omega)) _ | refine Below.alloc ?_ (by first | omega | (simp; done) | (simp; omega)) _ | refine Below.drew ?_ | refine Below.trans ?_ (Below.mono ‹Below _ _ _› (by first | omega | (simp; done) | (simp; omega)))))
theorem pprack_any (k : Nat) (w : World) (h : k < 9) :
    Calls Tryz.prog 199 #[.int .i64 k] w fun e w' => e = .returned (.int .i64 ((13 + k : Nat) : Int)) ∧ Below w.heap.size w w' := by
  have HW := Lib.hid (fun w => within_any 13 k 9 w (by omega) (by omega) (by omega))
  have hf : withinF 13 k 9 = ((13 + k : Nat) : Int) := by unfold withinF; rw [if_neg (by omega)]; omega
  rw [hf] at HW
  go_enter Tryz.func199, Tryz.ntmps199
  go_wp2_with fail
  refine (HW.out _).mono ?_
  rintro e w1 ⟨rfl, rfl⟩
  go_wp2
  go_ret
  exact ⟨rfl, Below.refl _ _⟩
theorem pproot_any (k : Nat) (w : World) (h : k < 8) :
    Calls Tryz.prog 57 #[.int .i64 k] w fun e w' => e = .returned (.int .i64 ((22 + k : Nat) : Int)) ∧ Below w.heap.size w w' := by
  have HW := Lib.hid (fun w => within_any 22 k 8 w (by omega) (by omega) (by omega))
  have hf : withinF 22 k 8 = ((22 + k : Nat) : Int) := by unfold withinF; rw [if_neg (by omega)]; omega
  rw [hf] at HW
  go_enter Tryz.func57, Tryz.ntmps57
  go_wp2_with fail
  refine (HW.out _).mono ?_
  rintro e w1 ⟨rfl, rfl⟩
  go_wp2
  go_ret
  exact ⟨rfl, Below.refl _ _⟩
end Go.Proofs.YtcbikgafdclhaaaGreat
/- the document's audit: the parts of a heap. -/
set_option linter.unusedSimpArgs false
set_option linter.unusedVariables false
namespace Go.Proofs.YtcbikgafdclhaaaGreat
open Go.RowKit
section
variable {t p s : Int} {ad : Addr} {n c : Nat} {vs : List Int}

def partQ (vs : List Int) (t s : Int) (q : Nat) : List (Int × Int × Int) :=
  if iK (gv vs t q 0) = 1 ∨ iK (gv vs t q 0) = 2 then [(iK (gv vs t q 0), addrF s q 0, iL (gv vs t q 0) * pageF s)]
  else if iK (gv vs t q 0) = 3 then slabF vs t s q (iC (gv vs t q 0)) else []
def partsL (vs : List Int) (t s : Int) : Nat → List (Int × Int × Int)
  | 0 => []
  | q + 1 => partsL vs t s q ++ partQ vs t s q
def partsF (vs : List Int) (t p s : Int) : List (Int × Int × Int) := partsL vs t s p.toNat
theorem slabF_pos (vs : List Int) (t s q k : Int) (h0 : 0 ≤ k) (h8 : k ≤ 8) : 0 < (slabF vs t s q k).length := by
  have hk1 : 0 < slotsF k := by
    rcases (by omega : k = 0 ∨ k = 1 ∨ k = 2 ∨ k = 3 ∨ k = 4 ∨ k = 5 ∨ k = 6 ∨ k = 7 ∨ k = 8) with rfl | rfl | rfl | rfl | rfl | rfl | rfl | rfl | rfl <;> decide
  unfold slabF
  rw [List.length_append, slabL_len]
  omega

end
end Go.Proofs.YtcbikgafdclhaaaGreat
/- the document's audit: blocks, Has, roots. -/
set_option linter.unusedSimpArgs false
set_option linter.unusedVariables false
namespace Go.Proofs.YtcbikgafdclhaaaGreat
open Go.RowKit

theorem infoBlock : (Tryz.prog.info? 80).map (fun i => (i.zero, i.size, i.bytes)) = some (some (.agg #[.int .i64 0, .int .i64 0]), 2, 16) := by kernel_rfl
def blockCells (l : List (Int × Int)) : List Value := l.flatMap fun x => [.int .i64 x.1, .int .i64 x.2]
theorem blockCells_len (l : List (Int × Int)) : (blockCells l).length = l.length * 2 := by
  induction l with
  | nil => rfl
  | cons y ys ih => unfold blockCells at ih ⊢; simp [ih]; omega
theorem blockCells_app (l m : List (Int × Int)) : blockCells (l ++ m) = blockCells l ++ blockCells m := by simp [blockCells]
def RowB (w : World) (l : List (Int × Int)) (v : Value) (w' : World) : Prop :=
  w'.ownsRow 0 80 2 v l.length (blockCells l) ∧ (∀ k, v.ownBlock = some k → w.heap.size ≤ k) ∧ Below w.heap.size w w'

/-- the live ones of parts. -/
def liveL : List (Int × Int × Int) → List (Int × Int)
  | [] => []
  | x :: l => (if x.1 = 2 then [(x.2.1, x.2.2)] else []) ++ liveL l
theorem liveL_app (l m : List (Int × Int × Int)) : liveL (l ++ m) = liveL l ++ liveL m := by
  induction l with
  | nil => rfl
  | cons x l ih => simp [liveL, ih]
theorem liveL_len (l : List (Int × Int × Int)) : (liveL l).length ≤ l.length := by
  induction l with
  | nil => exact Nat.le_refl _
  | cons x l ih =>
    simp only [liveL, List.length_append, List.length_cons]
    split <;> simp <;> omega
theorem liveL_take {l : List (Int × Int × Int)} {k : Nat} {x : Int × Int × Int} (h : l[k]? = some x) : liveL (l.take (k + 1)) = liveL (l.take k) ++ if x.1 = 2 then [(x.2.1, x.2.2)] else [] := by
  rw [List.take_add_one, h, liveL_app]
  simp [liveL]
theorem part_cell {l : List (Int × Int × Int)} {k : Nat} {x : Int × Int × Int} (h : l[k]? = some x) : (partCells l)[k * 3]? = some (.int .i64 x.1) ∧ (partCells l)[k * 3 + 1]? = some (.int .i64 x.2.1) ∧ (partCells l)[k * 3 + 2]? = some (.int .i64 x.2.2) := by
  induction l generalizing k with
  | nil => simp at h
  | cons y ys ih =>
    have e : partCells (y :: ys) = [.int .i64 y.1, .int .i64 y.2.1, .int .i64 y.2.2] ++ partCells ys := by simp [partCells]
    rw [e]
    cases k with
    | zero => simp at h; subst h; simp
    | succ k =>
      have h2 : ys[k]? = some x := by simpa using h
      obtain ⟨a, b, d⟩ := ih h2
      refine ⟨?_, ?_, ?_⟩
      · rw [List.getElem?_append_right (by simp; omega)]; rw [← a]; congr 1; simp; omega
      · rw [List.getElem?_append_right (by simp; omega)]; rw [← b]; congr 1; simp; omega
      · rw [List.getElem?_append_right (by simp; omega)]; rw [← d]; congr 1; simp; omega
theorem block_cell {l : List (Int × Int)} {k : Nat} {x : Int × Int} (h : l[k]? = some x) : (blockCells l)[k * 2]? = some (.int .i64 x.1) ∧ (blockCells l)[k * 2 + 1]? = some (.int .i64 x.2) := by
  induction l generalizing k with
  | nil => simp at h
  | cons y ys ih =>
    have e : blockCells (y :: ys) = [.int .i64 y.1, .int .i64 y.2] ++ blockCells ys := by simp [blockCells]
    rw [e]
    cases k with
    | zero => simp at h; subst h; simp
    | succ k =>
      have h2 : ys[k]? = some x := by simpa using h
      obtain ⟨a, b⟩ := ih h2
      refine ⟨?_, ?_⟩
      · rw [List.getElem?_append_right (by simp; omega)]; rw [← a]; congr 1; simp; omega
      · rw [List.getElem?_append_right (by simp; omega)]; rw [← b]; congr 1; simp; omega

section
variable {t p s : Int} {ad : Addr} {n c : Nat} {vs : List Int}
def blocksF (vs : List Int) (t p s : Int) : List (Int × Int) := liveL (partsF vs t p s)

def hasB (l : List (Int × Int)) (a : Int) : Bool := l.any fun x => x.1 == a
def rootB (vs : List Int) (bl : List (Int × Int)) (i : Nat) : Bool := vs.getD (22 + i) 0 == 0 || hasB bl (vs.getD (22 + i) 0)
def rootsF (vs : List Int) (t p s : Int) : Bool := allN (rootB vs (blocksF vs t p s)) 8
end
end Go.Proofs.YtcbikgafdclhaaaGreat
