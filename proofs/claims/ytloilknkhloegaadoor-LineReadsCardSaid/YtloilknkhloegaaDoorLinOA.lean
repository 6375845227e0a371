/- lines: the document's entry of a word and numbers. -/
import Derived.Test.YtloilknkhloegaaDoorLinO
set_option linter.unusedSimpArgs false
set_option linter.unusedVariables false
namespace Go.Proofs.YtloilknkhloegaaDoor
open Go.RowKit

/-- numbers in a row. -/
def RowN (w : World) (p : Option Addr) (ns : List Int) : Prop := ∀ (j : Nat) (u : Int), ns[j]? = some u → ∃ g, p = some ⟨g, 0, none⟩ ∧ g < w.heap.size ∧ w.cell? ⟨g, j, none⟩ = some (.int .i64 u)
theorem one_len {f : Fm} {ns : List Int} (hi : formOf f.w = some f) (h : ns.length ≠ f.ns.length) : oneF f.w ns = none := by
  simp only [oneF, hi]
  exact if_neg h
theorem one_f0 (ns : List Int) (p : Option Addr) (cap : Nat) (w : World) (hr : RowN w p ns) :
    Calls Tryd.prog 44 #[.string ⟨#[97, 108, 108, 111, 99]⟩, .slice p ns.length cap] w (OneP w (oneF [97, 108, 108, 111, 99] ns)) := by
  have hs : formOf [97, 108, 108, 111, 99] = some formsL[0] := formOf_self (f := formsL[0]) (by simp [formsL])
  by_cases hl : ns.length = 3
  · obtain ⟨a, b, c, rfl⟩ : ∃ a b c, ns = [a, b, c] := by
      match ns, hl with
      | [a, b, c], _ => exact ⟨a, b, c, rfl⟩
    obtain ⟨g, rfl, hlt, h0⟩ := hr 0 a rfl
    obtain ⟨g1, e1, -, h1⟩ := hr 1 b rfl
    cases e1
    obtain ⟨g2, e2, -, h2⟩ := hr 2 c rfl
    cases e2
    refine (one_y0 a b c g cap w h0 h1 h2 hlt).mono ?_
    rintro en w1 ⟨rfl, hb⟩
    exact Or.inl ⟨⟨1, a, b, ⟨1, c, 0⟩, 0, 0⟩, rfl, rfl, hb⟩
  · refine (one_n0 p ns.length cap w hl (Lib.hid (rop1_lit 1 _ _ (by decide) rfl rfl))).mono ?_
    rintro en w1 ⟨rfl, hb⟩
    exact Or.inr ⟨one_len (f := formsL[0]) hs hl, rfl, hb⟩
theorem one_f1 (ns : List Int) (p : Option Addr) (cap : Nat) (w : World) (hr : RowN w p ns) :
    Calls Tryd.prog 44 #[.string ⟨#[102, 114, 101, 101]⟩, .slice p ns.length cap] w (OneP w (oneF [102, 114, 101, 101] ns)) := by
  have hs : formOf [102, 114, 101, 101] = some formsL[1] := formOf_self (f := formsL[1]) (by simp [formsL])
  by_cases hl : ns.length = 3
  · obtain ⟨a, b, c, rfl⟩ : ∃ a b c, ns = [a, b, c] := by
      match ns, hl with
      | [a, b, c], _ => exact ⟨a, b, c, rfl⟩
    obtain ⟨g, rfl, hlt, h0⟩ := hr 0 a rfl
    obtain ⟨g1, e1, -, h1⟩ := hr 1 b rfl
    cases e1
    obtain ⟨g2, e2, -, h2⟩ := hr 2 c rfl
    cases e2
    refine (one_y1 a b c g cap w h0 h1 h2 hlt).mono ?_
    rintro en w1 ⟨rfl, hb⟩
    exact Or.inl ⟨⟨1, a, b, ⟨2, c, 0⟩, 0, 0⟩, rfl, rfl, hb⟩
  · refine (one_n1 p ns.length cap w hl (Lib.hid (rop1_lit 2 _ _ (by decide) rfl rfl))).mono ?_
    rintro en w1 ⟨rfl, hb⟩
    exact Or.inr ⟨one_len (f := formsL[1]) hs hl, rfl, hb⟩
theorem one_f2 (ns : List Int) (p : Option Addr) (cap : Nat) (w : World) (hr : RowN w p ns) :
    Calls Tryd.prog 44 #[.string ⟨#[114, 101, 97, 108, 108, 111, 99]⟩, .slice p ns.length cap] w (OneP w (oneF [114, 101, 97, 108, 108, 111, 99] ns)) := by
  have hs : formOf [114, 101, 97, 108, 108, 111, 99] = some formsL[2] := formOf_self (f := formsL[2]) (by simp [formsL])
  by_cases hl : ns.length = 4
  · obtain ⟨a, b, c, d, rfl⟩ : ∃ a b c d, ns = [a, b, c, d] := by
      match ns, hl with
      | [a, b, c, d], _ => exact ⟨a, b, c, d, rfl⟩
    obtain ⟨g, rfl, hlt, h0⟩ := hr 0 a rfl
    obtain ⟨g1, e1, -, h1⟩ := hr 1 b rfl
    cases e1
    obtain ⟨g2, e2, -, h2⟩ := hr 2 c rfl
    cases e2
    obtain ⟨g3, e3, -, h3⟩ := hr 3 d rfl
    cases e3
    refine (one_y2 a b c d g cap w h0 h1 h2 h3 hlt).mono ?_
    rintro en w1 ⟨rfl, hb⟩
    exact Or.inl ⟨⟨1, a, b, ⟨3, c, d⟩, 0, 0⟩, rfl, rfl, hb⟩
  · refine (one_n2 p ns.length cap w hl (Lib.hid (rop1_lit 3 _ _ (by decide) rfl rfl))).mono ?_
    rintro en w1 ⟨rfl, hb⟩
    exact Or.inr ⟨one_len (f := formsL[2]) hs hl, rfl, hb⟩
theorem one_f3 (ns : List Int) (p : Option Addr) (cap : Nat) (w : World) (hr : RowN w p ns) :
    Calls Tryd.prog 44 #[.string ⟨#[97, 108, 108, 111, 99, 114, 111, 111, 116]⟩, .slice p ns.length cap] w (OneP w (oneF [97, 108, 108, 111, 99, 114, 111, 111, 116] ns)) := by
  have hs : formOf [97, 108, 108, 111, 99, 114, 111, 111, 116] = some formsL[3] := formOf_self (f := formsL[3]) (by simp [formsL])
  by_cases hl : ns.length = 4
  · obtain ⟨a, b, c, d, rfl⟩ : ∃ a b c d, ns = [a, b, c, d] := by
      match ns, hl with
      | [a, b, c, d], _ => exact ⟨a, b, c, d, rfl⟩
    obtain ⟨g, rfl, hlt, h0⟩ := hr 0 a rfl
    obtain ⟨g1, e1, -, h1⟩ := hr 1 b rfl
    cases e1
    obtain ⟨g2, e2, -, h2⟩ := hr 2 c rfl
    cases e2
    obtain ⟨g3, e3, -, h3⟩ := hr 3 d rfl
    cases e3
    refine (one_y3 a b c d g cap w h0 h1 h2 h3 hlt).mono ?_
    rintro en w1 ⟨rfl, hb⟩
    exact Or.inl ⟨⟨1, a, b, ⟨4, c, d⟩, 0, 0⟩, rfl, rfl, hb⟩
  · refine (one_n3 p ns.length cap w hl (Lib.hid (rop1_lit 4 _ _ (by decide) rfl rfl))).mono ?_
    rintro en w1 ⟨rfl, hb⟩
    exact Or.inr ⟨one_len (f := formsL[3]) hs hl, rfl, hb⟩
theorem one_f4 (ns : List Int) (p : Option Addr) (cap : Nat) (w : World) (hr : RowN w p ns) :
    Calls Tryd.prog 44 #[.string ⟨#[115, 101, 116, 114, 111, 111, 116]⟩, .slice p ns.length cap] w (OneP w (oneF [115, 101, 116, 114, 111, 111, 116] ns)) := by
  have hs : formOf [115, 101, 116, 114, 111, 111, 116] = some formsL[4] := formOf_self (f := formsL[4]) (by simp [formsL])
  by_cases hl : ns.length = 4
  · obtain ⟨a, b, c, d, rfl⟩ : ∃ a b c d, ns = [a, b, c, d] := by
      match ns, hl with
      | [a, b, c, d], _ => exact ⟨a, b, c, d, rfl⟩
    obtain ⟨g, rfl, hlt, h0⟩ := hr 0 a rfl
    obtain ⟨g1, e1, -, h1⟩ := hr 1 b rfl
    cases e1
    obtain ⟨g2, e2, -, h2⟩ := hr 2 c rfl
    cases e2
    obtain ⟨g3, e3, -, h3⟩ := hr 3 d rfl
    cases e3
    refine (one_y4 a b c d g cap w h0 h1 h2 h3 hlt).mono ?_
    rintro en w1 ⟨rfl, hb⟩
    exact Or.inl ⟨⟨1, a, b, ⟨5, c, d⟩, 0, 0⟩, rfl, rfl, hb⟩
  · refine (one_n4 p ns.length cap w hl (Lib.hid (rop1_lit 5 _ _ (by decide) rfl rfl))).mono ?_
    rintro en w1 ⟨rfl, hb⟩
    exact Or.inr ⟨one_len (f := formsL[4]) hs hl, rfl, hb⟩
theorem one_f5 (ns : List Int) (p : Option Addr) (cap : Nat) (w : World) (hr : RowN w p ns) :
    Calls Tryd.prog 44 #[.string ⟨#[103, 101, 116, 114, 111, 111, 116]⟩, .slice p ns.length cap] w (OneP w (oneF [103, 101, 116, 114, 111, 111, 116] ns)) := by
  have hs : formOf [103, 101, 116, 114, 111, 111, 116] = some formsL[5] := formOf_self (f := formsL[5]) (by simp [formsL])
  by_cases hl : ns.length = 3
  · obtain ⟨a, b, c, rfl⟩ : ∃ a b c, ns = [a, b, c] := by
      match ns, hl with
      | [a, b, c], _ => exact ⟨a, b, c, rfl⟩
    obtain ⟨g, rfl, hlt, h0⟩ := hr 0 a rfl
    obtain ⟨g1, e1, -, h1⟩ := hr 1 b rfl
    cases e1
    obtain ⟨g2, e2, -, h2⟩ := hr 2 c rfl
    cases e2
    refine (one_y5 a b c g cap w h0 h1 h2 hlt).mono ?_
    rintro en w1 ⟨rfl, hb⟩
    exact Or.inl ⟨⟨1, a, b, ⟨6, c, 0⟩, 0, 0⟩, rfl, rfl, hb⟩
  · refine (one_n5 p ns.length cap w hl (Lib.hid (rop1_lit 6 _ _ (by decide) rfl rfl))).mono ?_
    rintro en w1 ⟨rfl, hb⟩
    exact Or.inr ⟨one_len (f := formsL[5]) hs hl, rfl, hb⟩
theorem one_f6 (ns : List Int) (p : Option Addr) (cap : Nat) (w : World) (hr : RowN w p ns) :
    Calls Tryd.prog 44 #[.string ⟨#[117, 115, 97, 98, 108, 101]⟩, .slice p ns.length cap] w (OneP w (oneF [117, 115, 97, 98, 108, 101] ns)) := by
  have hs : formOf [117, 115, 97, 98, 108, 101] = some formsL[6] := formOf_self (f := formsL[6]) (by simp [formsL])
  by_cases hl : ns.length = 3
  · obtain ⟨a, b, c, rfl⟩ : ∃ a b c, ns = [a, b, c] := by
      match ns, hl with
      | [a, b, c], _ => exact ⟨a, b, c, rfl⟩
    obtain ⟨g, rfl, hlt, h0⟩ := hr 0 a rfl
    obtain ⟨g1, e1, -, h1⟩ := hr 1 b rfl
    cases e1
    obtain ⟨g2, e2, -, h2⟩ := hr 2 c rfl
    cases e2
    refine (one_y6 a b c g cap w h0 h1 h2 hlt).mono ?_
    rintro en w1 ⟨rfl, hb⟩
    exact Or.inl ⟨⟨1, a, b, ⟨7, c, 0⟩, 0, 0⟩, rfl, rfl, hb⟩
  · refine (one_n6 p ns.length cap w hl (Lib.hid (rop1_lit 7 _ _ (by decide) rfl rfl))).mono ?_
    rintro en w1 ⟨rfl, hb⟩
    exact Or.inr ⟨one_len (f := formsL[6]) hs hl, rfl, hb⟩
theorem one_f7 (ns : List Int) (p : Option Addr) (cap : Nat) (w : World) (hr : RowN w p ns) :
    Calls Tryd.prog 44 #[.string ⟨#[115, 116, 97, 116, 115]⟩, .slice p ns.length cap] w (OneP w (oneF [115, 116, 97, 116, 115] ns)) := by
  have hs : formOf [115, 116, 97, 116, 115] = some formsL[7] := formOf_self (f := formsL[7]) (by simp [formsL])
  by_cases hl : ns.length = 2
  · obtain ⟨a, b, rfl⟩ : ∃ a b, ns = [a, b] := by
      match ns, hl with
      | [a, b], _ => exact ⟨a, b, rfl⟩
    obtain ⟨g, rfl, hlt, h0⟩ := hr 0 a rfl
    obtain ⟨g1, e1, -, h1⟩ := hr 1 b rfl
    cases e1
    refine (one_y7 a b g cap w h0 h1 hlt).mono ?_
    rintro en w1 ⟨rfl, hb⟩
    exact Or.inl ⟨⟨1, a, b, ⟨8, 0, 0⟩, 0, 0⟩, rfl, rfl, hb⟩
  · refine (one_n7 p ns.length cap w hl (Lib.hid (rop1_lit 8 _ _ (by decide) rfl rfl))).mono ?_
    rintro en w1 ⟨rfl, hb⟩
    exact Or.inr ⟨one_len (f := formsL[7]) hs hl, rfl, hb⟩
theorem one_f8 (ns : List Int) (p : Option Addr) (cap : Nat) (w : World) (hr : RowN w p ns) :
    Calls Tryd.prog 44 #[.string ⟨#[102, 108, 117, 115, 104]⟩, .slice p ns.length cap] w (OneP w (oneF [102, 108, 117, 115, 104] ns)) := by
  have hs : formOf [102, 108, 117, 115, 104] = some formsL[8] := formOf_self (f := formsL[8]) (by simp [formsL])
  by_cases hl : ns.length = 3
  · obtain ⟨a, b, c, rfl⟩ : ∃ a b c, ns = [a, b, c] := by
      match ns, hl with
      | [a, b, c], _ => exact ⟨a, b, c, rfl⟩
    obtain ⟨g, rfl, hlt, h0⟩ := hr 0 a rfl
    obtain ⟨g1, e1, -, h1⟩ := hr 1 b rfl
    cases e1
    obtain ⟨g2, e2, -, h2⟩ := hr 2 c rfl
    cases e2
    refine (one_y8 a b c g cap w h0 h1 h2 hlt).mono ?_
    rintro en w1 ⟨rfl, hb⟩
    exact Or.inl ⟨⟨1, a, b, ⟨9, c, 0⟩, 0, 0⟩, rfl, rfl, hb⟩
  · refine (one_n8 p ns.length cap w hl (Lib.hid (rop1_lit 9 _ _ (by decide) rfl rfl))).mono ?_
    rintro en w1 ⟨rfl, hb⟩
    exact Or.inr ⟨one_len (f := formsL[8]) hs hl, rfl, hb⟩
theorem one_f9 (ns : List Int) (p : Option Addr) (cap : Nat) (w : World) (hr : RowN w p ns) :
    Calls Tryd.prog 44 #[.string ⟨#[115, 116, 101, 112]⟩, .slice p ns.length cap] w (OneP w (oneF [115, 116, 101, 112] ns)) := by
  have hs : formOf [115, 116, 101, 112] = some formsL[9] := formOf_self (f := formsL[9]) (by simp [formsL])
  by_cases hl : ns.length = 2
  · obtain ⟨a, b, rfl⟩ : ∃ a b, ns = [a, b] := by
      match ns, hl with
      | [a, b], _ => exact ⟨a, b, rfl⟩
    obtain ⟨g, rfl, hlt, h0⟩ := hr 0 a rfl
    obtain ⟨g1, e1, -, h1⟩ := hr 1 b rfl
    cases e1
    refine (one_y9 a b g cap w h0 h1 hlt).mono ?_
    rintro en w1 ⟨rfl, hb⟩
    exact Or.inl ⟨⟨2, a, 0, ⟨0, 0, 0⟩, b, 0⟩, rfl, rfl, hb⟩
  · refine (one_n9 p ns.length cap w hl (Lib.hid (rop0_lit [115, 116, 101, 112] (by intro k h1 h2; have := kinds k; rcases this with rfl | rfl | rfl | rfl | rfl | rfl | rfl | rfl | rfl | h3 <;> first | decide | omega) _ rfl))).mono ?_
    rintro en w1 ⟨rfl, hb⟩
    exact Or.inr ⟨one_len (f := formsL[9]) hs hl, rfl, hb⟩
theorem one_f10 (ns : List Int) (p : Option Addr) (cap : Nat) (w : World) (hr : RowN w p ns) :
    Calls Tryd.prog 44 #[.string ⟨#[101, 118, 105, 99, 116]⟩, .slice p ns.length cap] w (OneP w (oneF [101, 118, 105, 99, 116] ns)) := by
  have hs : formOf [101, 118, 105, 99, 116] = some formsL[10] := formOf_self (f := formsL[10]) (by simp [formsL])
  by_cases hl : ns.length = 2
  · obtain ⟨a, b, rfl⟩ : ∃ a b, ns = [a, b] := by
      match ns, hl with
      | [a, b], _ => exact ⟨a, b, rfl⟩
    obtain ⟨g, rfl, hlt, h0⟩ := hr 0 a rfl
    obtain ⟨g1, e1, -, h1⟩ := hr 1 b rfl
    cases e1
    refine (one_y10 a b g cap w h0 h1 hlt).mono ?_
    rintro en w1 ⟨rfl, hb⟩
    exact Or.inl ⟨⟨3, 0, 0, ⟨0, 0, 0⟩, a, b⟩, rfl, rfl, hb⟩
  · refine (one_n10 p ns.length cap w hl (Lib.hid (rop0_lit [101, 118, 105, 99, 116] (by intro k h1 h2; have := kinds k; rcases this with rfl | rfl | rfl | rfl | rfl | rfl | rfl | rfl | rfl | h3 <;> first | decide | omega) _ rfl))).mono ?_
    rintro en w1 ⟨rfl, hb⟩
    exact Or.inr ⟨one_len (f := formsL[10]) hs hl, rfl, hb⟩
theorem one_f11 (ns : List Int) (p : Option Addr) (cap : Nat) (w : World) (hr : RowN w p ns) :
    Calls Tryd.prog 44 #[.string ⟨#[99, 114, 97, 115, 104]⟩, .slice p ns.length cap] w (OneP w (oneF [99, 114, 97, 115, 104] ns)) := by
  have hs : formOf [99, 114, 97, 115, 104] = some formsL[11] := formOf_self (f := formsL[11]) (by simp [formsL])
  by_cases hl : ns.length = 0
  · obtain rfl : ns = [] := List.eq_nil_of_length_eq_zero hl
    refine (one_y11 p cap w).mono ?_
    rintro en w1 ⟨rfl, hb⟩
    exact Or.inl ⟨⟨4, 0, 0, ⟨0, 0, 0⟩, 0, 0⟩, rfl, rfl, hb⟩
  · refine (one_n11 p ns.length cap w hl (Lib.hid (rop0_lit [99, 114, 97, 115, 104] (by intro k h1 h2; have := kinds k; rcases this with rfl | rfl | rfl | rfl | rfl | rfl | rfl | rfl | rfl | h3 <;> first | decide | omega) _ rfl))).mono ?_
    rintro en w1 ⟨rfl, hb⟩
    exact Or.inr ⟨one_len (f := formsL[11]) hs hl, rfl, hb⟩
theorem one_f12 (ns : List Int) (p : Option Addr) (cap : Nat) (w : World) (hr : RowN w p ns) :
    Calls Tryd.prog 44 #[.string ⟨#[109, 101, 110, 100]⟩, .slice p ns.length cap] w (OneP w (oneF [109, 101, 110, 100] ns)) := by
  have hs : formOf [109, 101, 110, 100] = some formsL[12] := formOf_self (f := formsL[12]) (by simp [formsL])
  by_cases hl : ns.length = 1
  · obtain ⟨a, rfl⟩ : ∃ a, ns = [a] := by
      match ns, hl with
      | [a], _ => exact ⟨a, rfl⟩
    obtain ⟨g, rfl, hlt, h0⟩ := hr 0 a rfl
    refine (one_y12 a g cap w h0 hlt).mono ?_
    rintro en w1 ⟨rfl, hb⟩
    exact Or.inl ⟨⟨5, 0, 0, ⟨0, 0, 0⟩, a, 0⟩, rfl, rfl, hb⟩
  · refine (one_n12 p ns.length cap w hl (Lib.hid (rop0_lit [109, 101, 110, 100] (by intro k h1 h2; have := kinds k; rcases this with rfl | rfl | rfl | rfl | rfl | rfl | rfl | rfl | rfl | h3 <;> first | decide | omega) _ rfl))).mono ?_
    rintro en w1 ⟨rfl, hb⟩
    exact Or.inr ⟨one_len (f := formsL[12]) hs hl, rfl, hb⟩
theorem one_f13 (ns : List Int) (p : Option Addr) (cap : Nat) (w : World) (hr : RowN w p ns) :
    Calls Tryd.prog 44 #[.string ⟨#[114, 101, 115, 111, 108, 118, 101]⟩, .slice p ns.length cap] w (OneP w (oneF [114, 101, 115, 111, 108, 118, 101] ns)) := by
  have hs : formOf [114, 101, 115, 111, 108, 118, 101] = some formsL[13] := formOf_self (f := formsL[13]) (by simp [formsL])
  by_cases hl : ns.length = 2
  · obtain ⟨a, b, rfl⟩ : ∃ a b, ns = [a, b] := by
      match ns, hl with
      | [a, b], _ => exact ⟨a, b, rfl⟩
    obtain ⟨g, rfl, hlt, h0⟩ := hr 0 a rfl
    obtain ⟨g1, e1, -, h1⟩ := hr 1 b rfl
    cases e1
    refine (one_y13 a b g cap w h0 h1 hlt).mono ?_
    rintro en w1 ⟨rfl, hb⟩
    exact Or.inl ⟨⟨6, a, b, ⟨0, 0, 0⟩, 0, 0⟩, rfl, rfl, hb⟩
  · refine (one_n13 p ns.length cap w hl (Lib.hid (rop0_lit [114, 101, 115, 111, 108, 118, 101] (by intro k h1 h2; have := kinds k; rcases this with rfl | rfl | rfl | rfl | rfl | rfl | rfl | rfl | rfl | h3 <;> first | decide | omega) _ rfl))).mono ?_
    rintro en w1 ⟨rfl, hb⟩
    exact Or.inr ⟨one_len (f := formsL[13]) hs hl, rfl, hb⟩
theorem form_no {x : List UInt8} (h : formOf x = none) {f : Fm} (hf : f ∈ formsL) : x ≠ f.w := fun e => by
  rw [e, formOf_self hf] at h
  cases h
theorem one_any (x : List UInt8) (ns : List Int) (p : Option Addr) (cap : Nat) (w : World) (hr : RowN w p ns) :
    Calls Tryd.prog 44 #[.string (bs x), .slice p ns.length cap] w (OneP w (oneF x ns)) := by
  cases hf : formOf x with
  | none =>
    have hk : ∀ k, 1 ≤ k → k ≤ 9 → x ≠ wordB k := by
      intro k h1 h2
      rcases kinds k with rfl | rfl | rfl | rfl | rfl | rfl | rfl | rfl | rfl | h3
      · exact form_no hf (f := formsL[0]) (by simp [formsL])
      · exact form_no hf (f := formsL[1]) (by simp [formsL])
      · exact form_no hf (f := formsL[2]) (by simp [formsL])
      · exact form_no hf (f := formsL[3]) (by simp [formsL])
      · exact form_no hf (f := formsL[4]) (by simp [formsL])
      · exact form_no hf (f := formsL[5]) (by simp [formsL])
      · exact form_no hf (f := formsL[6]) (by simp [formsL])
      · exact form_no hf (f := formsL[7]) (by simp [formsL])
      · exact form_no hf (f := formsL[8]) (by simp [formsL])
      · omega
    refine (one_no x p ns.length cap w (form_no hf (f := formsL[9]) (by simp [formsL])) (form_no hf (f := formsL[10]) (by simp [formsL])) (form_no hf (f := formsL[11]) (by simp [formsL])) (form_no hf (f := formsL[12]) (by simp [formsL])) (form_no hf (f := formsL[13]) (by simp [formsL])) (Lib.hid (rop_none x · hk))).mono ?_
    rintro en w1 ⟨rfl, hb⟩
    exact Or.inr ⟨by simp [oneF, hf], rfl, hb⟩
  | some f =>
    obtain ⟨hm, rfl⟩ := formOf_mem hf
    rcases forms14 hm with rfl | rfl | rfl | rfl | rfl | rfl | rfl | rfl | rfl | rfl | rfl | rfl | rfl | rfl
    · exact one_f0 ns p cap w hr
    · exact one_f1 ns p cap w hr
    · exact one_f2 ns p cap w hr
    · exact one_f3 ns p cap w hr
    · exact one_f4 ns p cap w hr
    · exact one_f5 ns p cap w hr
    · exact one_f6 ns p cap w hr
    · exact one_f7 ns p cap w hr
    · exact one_f8 ns p cap w hr
    · exact one_f9 ns p cap w hr
    · exact one_f10 ns p cap w hr
    · exact one_f11 ns p cap w hr
    · exact one_f12 ns p cap w hr
    · exact one_f13 ns p cap w hr
end Go.Proofs.YtloilknkhloegaaDoor
