/- lines: the document's number. -/
import Derived.Test.YtloilknkhloegaaDoorLinP
import Derived.Test.YtloilknkhloegaaDoorTellD
import Derived.Test.YtloilknkhloegaaDoorTellI
set_option linter.unusedSimpArgs false
set_option linter.unusedVariables false
namespace Go.Proofs.YtloilknkhloegaaDoor
open Go.RowKit

def stripS : List UInt8 → List UInt8
  | [] => []
  | c :: r => if c = 45 then r else c :: r
theorem strip_mem {l : List UInt8} {k : Nat} {c : UInt8} (h : l[k]? = some c) (h2 : k ≠ 0 ∨ c ≠ 45) : c ∈ stripS l := by
  cases l with
  | nil => simp at h
  | cons x r =>
    unfold stripS
    cases k with
    | zero =>
      simp at h
      subst h
      have h3 : ¬ x = 45 := by simpa using h2
      simp [h3]
    | succ k =>
      simp only [List.getElem?_cons_succ] at h
      have hm : c ∈ r := List.mem_of_getElem? h
      by_cases hx : x = 45
      · simp [hx]; exact hm
      · simp [hx]; exact Or.inr hm
theorem strip_snoc {l : List UInt8} {k : Nat} {c : UInt8} (h : l[k]? = some c) (h2 : k ≠ 0 ∨ c ≠ 45) : stripS (l.take (k + 1)) = stripS (l.take k) ++ [c] := by
  cases l with
  | nil => simp at h
  | cons x r =>
    cases k with
    | zero =>
      simp at h
      subst h
      have : ¬ x = 45 := by simpa using h2
      simp [stripS, this]
    | succ k =>
      simp only [List.getElem?_cons_succ] at h
      have ht : r.take (k + 1) = r.take k ++ [c] := by rw [List.take_add_one, h]; rfl
      simp only [List.take_succ_cons, stripS]
      split
      · exact ht
      · rw [ht]; rfl
theorem dec_len19 : ∀ (k u : Nat), u < 10 ^ (k + 1) → (Lib.decDigits u).length ≤ k + 1
  | 0, u, h => by rw [Lib.decDigits_one (by omega)]; simp
  | k + 1, u, h => by
    by_cases h10 : u < 10
    · rw [Lib.decDigits_one h10]; simp
    · have := dec_len19 k (u / 10) (by rw [Nat.pow_succ] at h; omega)
      rw [Lib.decDigits.eq_1 u, dif_neg h10]
      simp
      omega
theorem itoa_len20 {m : Int} (h : inI m) : 1 ≤ (Lib.itoa m).length ∧ (Lib.itoa m).length ≤ 20 := by
  have h1 := h.1
  have h2 := h.2
  unfold Lib.itoa
  split
  · have := dec_len19 18 m.natAbs (by omega)
    simp
    omega
  · have := dec_len19 18 m.toNat (by omega)
    obtain ⟨c, r, hq, -⟩ := dec_cons m.toNat
    rw [hq] at this ⊢
    simp at this ⊢
    omega
theorem itoa_strip (m : Int) : ∀ c ∈ stripS (Lib.itoa m), isDig c := by
  unfold Lib.itoa
  split
  · intro c hc
    exact dec_digit m.natAbs c (by simpa [stripS] using hc)
  · obtain ⟨c, r, hq, hd⟩ := dec_cons m.toNat
    intro x hx
    refine dec_digit m.toNat x ?_
    rw [hq] at hx ⊢
    have : ¬ c = 45 := by intro e; subst e; exact absurd hd.1 (by decide)
    simpa [stripS, this] using hx
theorem num_len {l : List UInt8} (h : ¬ (1 ≤ l.length ∧ l.length ≤ 20)) : numV l = none := by
  cases hq : numV l with
  | none => rfl
  | some m =>
    obtain ⟨a, rfl⟩ := numV_some.1 hq
    exact absurd (itoa_len20 a) h
theorem num_dig {l : List UInt8} {k : Nat} {c : UInt8} (h : l[k]? = some c) (h2 : k ≠ 0 ∨ c ≠ 45) (hd : ¬ isDig c) : numV l = none := by
  cases hq : numV l with
  | none => rfl
  | some m =>
    obtain ⟨a, rfl⟩ := numV_some.1 hq
    exact absurd (itoa_strip m c (strip_mem h h2)) hd
/-- the number that the document reads. -/
def readV (l : List UInt8) : Int :=
  let n : Int := ((valD (stripS l) % 18446744073709551616 : Nat) : Int)
  let u : Int := if l.head? = some 45 then (0 - n) % 18446744073709551616 else n
  if u < 9223372036854775808 then u else u - 18446744073709551616
theorem readV_in (l : List UInt8) : inI (readV l) := by
  unfold readV inI
  simp only []
  split <;> split <;> constructor <;> omega
theorem readV_itoa {m : Int} (h : inI m) : readV (Lib.itoa m) = m := by
  have h1 := h.1
  have h2 := h.2
  unfold Lib.itoa
  split
  · have hs : stripS (45 :: Lib.decDigits m.natAbs) = Lib.decDigits m.natAbs := by simp [stripS]
    unfold readV
    rw [hs, valD_dec]
    simp only [List.head?_cons, if_true]
    split <;> omega
  · obtain ⟨c, r, hq, hd⟩ := dec_cons m.toNat
    have h45 : ¬ c = 45 := by intro e; subst e; exact absurd hd.1 (by decide)
    have hs : stripS (Lib.decDigits m.toNat) = Lib.decDigits m.toNat := by rw [hq]; simp [stripS, h45]
    unfold readV
    rw [hs, valD_dec, hq]
    simp only [List.head?_cons, Option.some.injEq, h45, if_false]
    split <;> omega
theorem readV_num {l : List UInt8} (h : (Lib.itoa (readV l) == l) = false) : numV l = none := by
  cases hq : numV l with
  | none => rfl
  | some m =>
    obtain ⟨a, rfl⟩ := numV_some.1 hq
    rw [readV_itoa a] at h
    simp at h
theorem wrapu (x : Int) : IntKind.u64.wrap x = x % 18446744073709551616 := by
  rfl
theorem readV_neg {l : List UInt8} (h : l.head? = some 45) : wrap64 (IntKind.u64.wrap (-((valD (stripS l) : Int) % 18446744073709551616))) = readV l := by
  have e : readV l = if (0 - ((valD (stripS l) % 18446744073709551616 : Nat) : Int)) % 18446744073709551616 < 9223372036854775808 then (0 - ((valD (stripS l) % 18446744073709551616 : Nat) : Int)) % 18446744073709551616 else (0 - ((valD (stripS l) % 18446744073709551616 : Nat) : Int)) % 18446744073709551616 - 18446744073709551616 := by
    unfold readV
    simp only [h, if_true]
  rw [e]
  unfold wrap64
  rw [wrapu]
  split <;> omega
theorem readV_pos {l : List UInt8} {c : UInt8} (h : l.head? = some c) (hc : c ≠ 45) : wrap64 ((valD (stripS l) : Int) % 18446744073709551616) = readV l := by
  have e : readV l = if ((valD (stripS l) % 18446744073709551616 : Nat) : Int) < 9223372036854775808 then ((valD (stripS l) % 18446744073709551616 : Nat) : Int) else ((valD (stripS l) % 18446744073709551616 : Nat) : Int) - 18446744073709551616 := by
    unfold readV
    simp only [h, Option.some.injEq, hc, if_false]
  rw [e]
  unfold wrap64
  split <;> omega
theorem num_next {l : List UInt8} {k : Nat} {c : UInt8} (h : l[k]? = some c) (h2 : k ≠ 0 ∨ c ≠ 45) (hd : 48 ≤ c.toNat) :
    IntKind.u64.wrap (IntKind.u64.wrap ((valD (stripS (l.take k)) : Int) % 18446744073709551616 * 10) + ((c.toNat : Int) - 48)) = ((valD (stripS (l.take (k + 1))) % 18446744073709551616 : Nat) : Int) := by
  rw [strip_snoc h h2, valD_snoc, wrapu, wrapu]
  omega
theorem numP_end {l : List UInt8} {w w' : World} {v : Int} (h : v = readV l) (hB : Below w.heap.size w w') : NumP w l (.returned (.tuple #[.int .i64 v, .bool (Lib.itoa v == l)])) w' := by
  subst h
  exact numP_of (readV_in l) rfl readV_num hB
def RdNum (l : List UInt8) (n i : Value) : Prop := ∃ k : Nat, k ≤ l.length ∧ i = .int .i64 k ∧ n = .int .u64 ((valD (stripS (l.take k)) % 18446744073709551616 : Nat) : Int)
set_option maxHeartbeats 1000000 in
set_option maxRecDepth 100000 in
theorem rnumber_any (l : List UInt8) (w : World) (hl : l.length ≤ 100000) :
    Calls Tryd.prog 43 #[.string (bs l)] w (NumP w l) := by
  by_cases hlen : 1 ≤ l.length ∧ l.length ≤ 20
  · obtain ⟨hl1, hl20⟩ := hlen
    go_enter Tryd.func43, Tryd.ntmps43
    go_wp2
    go_loop [4, 5] (fun n i => RdNum l n i) (fun _ i => l.length - (intOf i).toNat)
    case atStart => exact ⟨0, Nat.zero_le _, rfl, rfl⟩
    case round =>
      obtain ⟨k, hk, rfl, rfl⟩ := hrel
      by_cases hlt : k < l.length
      · have hsz : k < (bs l).size := by simpa [ByteArray.size] using hlt
        obtain ⟨c, hc⟩ : ∃ c, l[k]? = some c := ⟨_, List.getElem?_eq_getElem hlt⟩
        have hcb : (bs l)[k]'hsz = c := by
          obtain ⟨h1, h2⟩ := List.getElem?_eq_some_iff.1 hc
          rw [← h2]
          rfl
        have HC := Lib.hid hc
        clear hc
        by_cases h45 : c = 45
        · subst h45
          cases k with
          | zero =>
            go_wp2
            go_round
            case rel =>
              refine ⟨1, by omega, by go_num, ?_⟩
              have e : stripS (l.take 1) = [] := by
                have hc := HC.out
                cases l with
                | nil => simp at hlt
                | cons x r =>
                  simp at hc
                  subst hc
                  simp [stripS]
              rw [e]
              rfl
            case measure => simp [intOf]; omega
          | succ k =>
            have HN := Lib.hid (num_dig HC.out (Or.inl (by omega)) (by intro h; exact absurd h.1 (by decide)))
            go_wp2
            go_ret2
            exact Or.inr ⟨HN.out, ⟨0, rfl⟩, Below.refl _ _⟩
        · have h45b : (c.toNat : Int) ≠ 45 := by
            intro e
            exact h45 (UInt8.toNat_inj.1 (by simpa using (by omega : c.toNat = 45)))
          by_cases hd : 48 ≤ c.toNat ∧ c.toNat ≤ 57
          · have hc48 : ¬ ((c.toNat : Int) < 48) := by omega
            have hc57 : ¬ ((57 : Int) < c.toNat) := by omega
            have HNx := Lib.hid (num_next HC.out (Or.inr h45) hd.1)
            go_wp2
            go_round
            case rel => exact ⟨k + 1, by omega, by go_num, by rw [HNx.out]⟩
            case measure => simp [intOf]; omega
          · have HN := Lib.hid (num_dig HC.out (Or.inr h45) hd)
            by_cases h48 : (c.toNat : Int) < 48
            · go_wp2
              go_ret2
              exact Or.inr ⟨HN.out, ⟨0, rfl⟩, Below.refl _ _⟩
            · have hc57 : ((57 : Int) < c.toNat) := by omega
              go_wp2
              go_ret2
              exact Or.inr ⟨HN.out, ⟨0, rfl⟩, Below.refl _ _⟩
      · obtain rfl : k = l.length := by omega
        have hsz : 0 < (bs l).size := by simp [ByteArray.size]; omega
        have hv := readV_in l
        obtain ⟨c, hc⟩ : ∃ c, l[0]? = some c := ⟨_, List.getElem?_eq_getElem (by omega)⟩
        have hcb : (bs l)[0]'hsz = c := by
          obtain ⟨h1, h2⟩ := List.getElem?_eq_some_iff.1 hc
          rw [← h2]
          rfl
        have hhd : l.head? = some c := by rw [← hc]; cases l <;> rfl
        by_cases h45 : c = 45
        · have hq : ((c.toNat : Int) == 45) = true := by rw [h45]; rfl
          have HV := Lib.hid (readV_neg (l := l) (by rw [hhd, h45]))
          go_wp2_with fail
          refine (digits_any _ w (by rw [HV.out]; exact readV_in l)).mono ?_
          rintro e w1 ⟨rfl, b1⟩
          have HE := Lib.hid (numP_end HV.out b1)
          clear b1
          go_wp2
          go_ret2
          exact HE.out
        · have hq : ((c.toNat : Int) == 45) = false := by
            rw [beq_eq_false_iff_ne]
            intro e
            exact h45 (UInt8.toNat_inj.1 (by simpa using (by omega : c.toNat = 45)))
          have HV := Lib.hid (readV_pos hhd h45)
          go_wp2_with fail
          refine (digits_any _ w (by rw [HV.out]; exact readV_in l)).mono ?_
          rintro e w1 ⟨rfl, b1⟩
          have HE := Lib.hid (numP_end HV.out b1)
          clear b1
          go_wp2
          go_ret2
          exact HE.out
  · have HN := Lib.hid (num_len hlen)
    go_enter Tryd.func43, Tryd.ntmps43
    by_cases h1 : l.length < 1
    · go_wp2
      go_ret2
      exact Or.inr ⟨HN.out, ⟨0, rfl⟩, Below.refl _ _⟩
    · have h2 : 20 < l.length := by omega
      go_wp2
      go_ret2
      exact Or.inr ⟨HN.out, ⟨0, rfl⟩, Below.refl _ _⟩
end Go.Proofs.YtloilknkhloegaaDoor
