/- the program's memories: an act. -/
import Derived.Test.YtdfjgaeiodjmnaaNvG
set_option linter.unusedSimpArgs false
set_option linter.unusedVariables false
namespace Go.Proofs.Ytdfjgaeiodjmnaa
open Go.RowKit

def actV (a : NM.A) : Value := .agg #[.int .i64 a.d, .int .i64 a.who, .int .i64 a.at_, .int .i64 a.mask, .int .u64 a.old, .int .u64 a.val]

/-- what an act tells. -/
def actR (s : NM) (a : NM.A) : Value := .tuple #[.int .u64 (s.act a).1.1, .bool (s.act a).1.2]

theorem u64_small (n : Nat) (h : n ≤ 1000000) : IntKind.u64.wrap (n : Int) = n := IntWalk.u64_in _ ⟨by omega, by omega⟩

theorem mdo_load (b : Nat) (who at_ mask old val : Int) (w : World) (S : Nat → Prop) (s : NM) (h : PM w b S s) (hu : NM.U64 val) :
    Calls Try.prog 12 #[.pointer (some ⟨b, 0, none⟩), actV ⟨1, who, at_, mask, old, val⟩] w fun e w' => e = .returned (actR s ⟨1, who, at_, mask, old, val⟩) ∧ (PM w' b (upd S w w') (s.act ⟨1, who, at_, mask, old, val⟩).2 ∧ Fr S w w') := by
  have HS := Lib.hid ((NSt.start keepsPM h).alloc keepsPM (.cells #[.int .i64 1, .int .i64 who, .int .i64 at_, .int .i64 mask, .int .u64 old, .int .u64 val] 26))
  have HC := Lib.hid (fun W S1 (h1 : PM W b S1 s) => mload_any b at_ W S1 s h1)
  have ha : s.act ⟨1, who, at_, mask, old, val⟩ = (s.load at_, s) := rfl
  unfold actV actR
  rw [ha]
  dsimp only
  clear ha h hu
  go_enter Try.func12, Try.ntmps12
  go_wp2_with fail
  obtain ⟨S1, h1⟩ := HS.out.get
  refine (HC.out _ S1 h1).mono ?_
  rintro e w2 ⟨rfl, rfl⟩
  clear h1
  go_wp2
  exact bodyPost_ret (v := .tuple #[.int .u64 (s.load at_).1, .bool (s.load at_).2]) (by simp [results, Try.results12, go_sem]) rfl ⟨rfl, HS.out.done keepsPM⟩
theorem mdo_store (b : Nat) (who at_ mask old val : Int) (w : World) (S : Nat → Prop) (s : NM) (h : PM w b S s) (hu : NM.U64 val) :
    Calls Try.prog 12 #[.pointer (some ⟨b, 0, none⟩), actV ⟨2, who, at_, mask, old, val⟩] w fun e w' => e = .returned (actR s ⟨2, who, at_, mask, old, val⟩) ∧ (PM w' b (upd S w w') (s.act ⟨2, who, at_, mask, old, val⟩).2 ∧ Fr S w w') := by
  have HS := Lib.hid ((NSt.start keepsPM h).alloc keepsPM (.cells #[.int .i64 2, .int .i64 who, .int .i64 at_, .int .i64 mask, .int .u64 old, .int .u64 val] 26))
  have HC := Lib.hid (fun W S1 (h1 : PM W b S1 s) => mstore_any b at_ val W S1 s h1 hu)
  have ha : s.act ⟨2, who, at_, mask, old, val⟩ = ((0, (s.store at_ val).1), (s.store at_ val).2) := rfl
  unfold actV actR
  rw [ha]
  dsimp only
  clear ha h hu
  go_enter Try.func12, Try.ntmps12
  go_wp2_with fail
  refine (calls_nst HS.out (HC.out _)).mono ?_
  rintro e w2 ⟨rfl, hn, -⟩
  have HN := Lib.hid hn
  clear hn
  go_wp2
  exact bodyPost_ret (v := .tuple #[.int .u64 0, .bool (s.store at_ val).1]) (by simp [results, Try.results12, go_sem]) rfl ⟨rfl, HN.out.done keepsPM⟩
theorem mdo_swap (b : Nat) (who at_ mask old val : Int) (w : World) (S : Nat → Prop) (s : NM) (h : PM w b S s) (hu : NM.U64 val) :
    Calls Try.prog 12 #[.pointer (some ⟨b, 0, none⟩), actV ⟨3, who, at_, mask, old, val⟩] w fun e w' => e = .returned (actR s ⟨3, who, at_, mask, old, val⟩) ∧ (PM w' b (upd S w w') (s.act ⟨3, who, at_, mask, old, val⟩).2 ∧ Fr S w w') := by
  have HS := Lib.hid ((NSt.start keepsPM h).alloc keepsPM (.cells #[.int .i64 3, .int .i64 who, .int .i64 at_, .int .i64 mask, .int .u64 old, .int .u64 val] 26))
  have HC := Lib.hid (fun W S1 (h1 : PM W b S1 s) => mswap_any b at_ old val W S1 s h1 hu)
  have ha : s.act ⟨3, who, at_, mask, old, val⟩ = ((0, (s.swap at_ old val).1), (s.swap at_ old val).2) := rfl
  unfold actV actR
  rw [ha]
  dsimp only
  clear ha h hu
  go_enter Try.func12, Try.ntmps12
  go_wp2_with fail
  refine (calls_nst HS.out (HC.out _)).mono ?_
  rintro e w2 ⟨rfl, hn, -⟩
  have HN := Lib.hid hn
  clear hn
  go_wp2
  exact bodyPost_ret (v := .tuple #[.int .u64 0, .bool (s.swap at_ old val).1]) (by simp [results, Try.results12, go_sem]) rfl ⟨rfl, HN.out.done keepsPM⟩
theorem mdo_flush (b : Nat) (who at_ mask old val : Int) (w : World) (S : Nat → Prop) (s : NM) (h : PM w b S s) (hu : NM.U64 val) :
    Calls Try.prog 12 #[.pointer (some ⟨b, 0, none⟩), actV ⟨4, who, at_, mask, old, val⟩] w fun e w' => e = .returned (actR s ⟨4, who, at_, mask, old, val⟩) ∧ (PM w' b (upd S w w') (s.act ⟨4, who, at_, mask, old, val⟩).2 ∧ Fr S w w') := by
  have HS := Lib.hid ((NSt.start keepsPM h).alloc keepsPM (.cells #[.int .i64 4, .int .i64 who, .int .i64 at_, .int .i64 mask, .int .u64 old, .int .u64 val] 26))
  have HC := Lib.hid (fun W S1 (h1 : PM W b S1 s) => mflush_any b who at_ W S1 s h1)
  have ha : s.act ⟨4, who, at_, mask, old, val⟩ = ((0, (s.flush who at_).1), (s.flush who at_).2) := rfl
  unfold actV actR
  rw [ha]
  dsimp only
  clear ha h hu
  go_enter Try.func12, Try.ntmps12
  go_wp2_with fail
  refine (calls_nst HS.out (HC.out _)).mono ?_
  rintro e w2 ⟨rfl, hn, -⟩
  have HN := Lib.hid hn
  clear hn
  go_wp2
  exact bodyPost_ret (v := .tuple #[.int .u64 0, .bool (s.flush who at_).1]) (by simp [results, Try.results12, go_sem]) rfl ⟨rfl, HN.out.done keepsPM⟩
theorem mdo_fence (b : Nat) (who at_ mask old val : Int) (w : World) (S : Nat → Prop) (s : NM) (h : PM w b S s) (hu : NM.U64 val) :
    Calls Try.prog 12 #[.pointer (some ⟨b, 0, none⟩), actV ⟨5, who, at_, mask, old, val⟩] w fun e w' => e = .returned (actR s ⟨5, who, at_, mask, old, val⟩) ∧ (PM w' b (upd S w w') (s.act ⟨5, who, at_, mask, old, val⟩).2 ∧ Fr S w w') := by
  have HS := Lib.hid ((NSt.start keepsPM h).alloc keepsPM (.cells #[.int .i64 5, .int .i64 who, .int .i64 at_, .int .i64 mask, .int .u64 old, .int .u64 val] 26))
  have HC := Lib.hid (fun W S1 (h1 : PM W b S1 s) => mfence_any b who W S1 s h1)
  have hw : IntKind.u64.wrap (s.fence who).1 = (s.fence who).1 := by
    have h1 := NM.pend_le h.inv who
    have h2 := h.inv.small
    exact u64_small _ (by omega)
  have ha : s.act ⟨5, who, at_, mask, old, val⟩ = (((s.fence who).1, true), (s.fence who).2) := rfl
  unfold actV actR
  rw [ha]
  dsimp only
  clear ha h hu
  generalize (s.fence who).1 = z at *
  generalize (s.fence who).2 = s2 at *
  go_enter Try.func12, Try.ntmps12
  go_wp2_with fail
  refine (calls_nst HS.out (HC.out _)).mono ?_
  rintro e w2 ⟨rfl, hn, -⟩
  have HN := Lib.hid hn
  clear hn
  go_wp2
  exact bodyPost_ret (v := .tuple #[.int .u64 z, .bool true]) (by simp [results, Try.results12, go_sem]) rfl ⟨rfl, HN.out.done keepsPM⟩
theorem mdo_evict (b : Nat) (who at_ mask old val : Int) (w : World) (S : Nat → Prop) (s : NM) (h : PM w b S s) (hu : NM.U64 val) :
    Calls Try.prog 12 #[.pointer (some ⟨b, 0, none⟩), actV ⟨6, who, at_, mask, old, val⟩] w fun e w' => e = .returned (actR s ⟨6, who, at_, mask, old, val⟩) ∧ (PM w' b (upd S w w') (s.act ⟨6, who, at_, mask, old, val⟩).2 ∧ Fr S w w') := by
  have HS := Lib.hid ((NSt.start keepsPM h).alloc keepsPM (.cells #[.int .i64 6, .int .i64 who, .int .i64 at_, .int .i64 mask, .int .u64 old, .int .u64 val] 26))
  have HC := Lib.hid (fun W S1 (h1 : PM W b S1 s) => mevict_any b at_ mask W S1 s h1)
  have ha : s.act ⟨6, who, at_, mask, old, val⟩ = ((0, (s.evict at_ mask).1), (s.evict at_ mask).2) := rfl
  unfold actV actR
  rw [ha]
  dsimp only
  clear ha h hu
  go_enter Try.func12, Try.ntmps12
  go_wp2_with fail
  refine (calls_nst HS.out (HC.out _)).mono ?_
  rintro e w2 ⟨rfl, hn, -⟩
  have HN := Lib.hid hn
  clear hn
  go_wp2
  exact bodyPost_ret (v := .tuple #[.int .u64 0, .bool (s.evict at_ mask).1]) (by simp [results, Try.results12, go_sem]) rfl ⟨rfl, HN.out.done keepsPM⟩
theorem mdo_crash (b : Nat) (who at_ mask old val : Int) (w : World) (S : Nat → Prop) (s : NM) (h : PM w b S s) (hu : NM.U64 val) :
    Calls Try.prog 12 #[.pointer (some ⟨b, 0, none⟩), actV ⟨7, who, at_, mask, old, val⟩] w fun e w' => e = .returned (actR s ⟨7, who, at_, mask, old, val⟩) ∧ (PM w' b (upd S w w') (s.act ⟨7, who, at_, mask, old, val⟩).2 ∧ Fr S w w') := by
  have HS := Lib.hid ((NSt.start keepsPM h).alloc keepsPM (.cells #[.int .i64 7, .int .i64 who, .int .i64 at_, .int .i64 mask, .int .u64 old, .int .u64 val] 26))
  have HC := Lib.hid (fun W S1 (h1 : PM W b S1 s) => mcrash_any b W S1 s h1)
  have ha : s.act ⟨7, who, at_, mask, old, val⟩ = ((0, true), s.crash) := rfl
  unfold actV actR
  rw [ha]
  dsimp only
  clear ha h hu
  go_enter Try.func12, Try.ntmps12
  go_wp2_with fail
  refine (calls_nst HS.out (HC.out _)).mono ?_
  rintro e w2 ⟨rfl, hn, -⟩
  have HN := Lib.hid hn
  clear hn
  go_wp2
  exact bodyPost_ret (v := .tuple #[.int .u64 0, .bool true]) (by simp [results, Try.results12, go_sem]) rfl ⟨rfl, HN.out.done keepsPM⟩
theorem mdo_none (b : Nat) (d who at_ mask old val : Int) (w : World) (S : Nat → Prop) (s : NM) (h : PM w b S s) (hd : ¬ (1 ≤ d ∧ d ≤ 7)) :
    Calls Try.prog 12 #[.pointer (some ⟨b, 0, none⟩), actV ⟨d, who, at_, mask, old, val⟩] w fun e w' => e = .returned (actR s ⟨d, who, at_, mask, old, val⟩) ∧ (PM w' b (upd S w w') (s.act ⟨d, who, at_, mask, old, val⟩).2 ∧ Fr S w w') := by
  have HS := Lib.hid ((NSt.start keepsPM h).alloc keepsPM (.cells #[.int .i64 d, .int .i64 who, .int .i64 at_, .int .i64 mask, .int .u64 old, .int .u64 val] 26))
  have ha : s.act ⟨d, who, at_, mask, old, val⟩ = ((0, true), s) := by
    unfold NM.act
    dsimp only
    rw [if_neg (by omega), if_neg (by omega), if_neg (by omega), if_neg (by omega), if_neg (by omega), if_neg (by omega), if_neg (by omega)]
  have e1 : (d == 1) = false := by simp; omega
  have e2 : (d == 2) = false := by simp; omega
  have e3 : (d == 3) = false := by simp; omega
  have e4 : (d == 4) = false := by simp; omega
  have e5 : (d == 5) = false := by simp; omega
  have e6 : (d == 6) = false := by simp; omega
  have e7 : (d == 7) = false := by simp; omega
  unfold actV actR
  rw [ha]
  dsimp only
  clear ha h hd
  go_enter Try.func12, Try.ntmps12
  go_wp2
  exact bodyPost_ret (v := .tuple #[.int .u64 0, .bool true]) (by simp [results, Try.results12, go_sem]) rfl ⟨rfl, HS.out.done keepsPM⟩

theorem mdo_any (b : Nat) (a : NM.A) (w : World) (S : Nat → Prop) (s : NM) (h : PM w b S s) (hu : NM.U64 a.val) :
    Calls Try.prog 12 #[.pointer (some ⟨b, 0, none⟩), actV a] w fun e w' => e = .returned (actR s a) ∧ (PM w' b (upd S w w') (s.act a).2 ∧ Fr S w w') := by
  obtain ⟨d, who, at_, mask, old, val⟩ := a
  by_cases hd : 1 ≤ d ∧ d ≤ 7
  · have : d = 1 ∨ d = 2 ∨ d = 3 ∨ d = 4 ∨ d = 5 ∨ d = 6 ∨ d = 7 := by omega
    rcases this with rfl | rfl | rfl | rfl | rfl | rfl | rfl
    · exact mdo_load b who at_ mask old val w S s h hu
    · exact mdo_store b who at_ mask old val w S s h hu
    · exact mdo_swap b who at_ mask old val w S s h hu
    · exact mdo_flush b who at_ mask old val w S s h hu
    · exact mdo_fence b who at_ mask old val w S s h hu
    · exact mdo_evict b who at_ mask old val w S s h hu
    · exact mdo_crash b who at_ mask old val w S s h hu
  · exact mdo_none b d who at_ mask old val w S s h hd
end Go.Proofs.Ytdfjgaeiodjmnaa
