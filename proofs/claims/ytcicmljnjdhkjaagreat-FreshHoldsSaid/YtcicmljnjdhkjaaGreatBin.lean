/- bin: a free span is added. -/
import Derived.Test.YtcicmljnjdhkjaaGreatHalf
import Derived.Test.YtcicmljnjdhkjaaGreatLinkPush
import Derived.Shelf.Strconv.Itoa0
namespace Go.Proofs.YtcicmljnjdhkjaaGreat
open Go.RowKit

theorem pinfo_any (t p s q : Int) (w : World) :
    Calls Tryz.prog 83 #[.agg #[.int .i64 t, .int .i64 p, .int .i64 s], .int .i64 q] w fun e w' => e = .returned (.int .i64 (ofF t p s q 0)) ∧ Below w.heap.size w w' := by
  go_enter Tryz.func83, Tryz.ntmps83
  go_wp2_with fail
  refine (of_any _ _ _ _ _ _ (by omega) (by omega)).mono ?_
  rintro e w1 ⟨rfl, ha⟩
  obtain ⟨hac, haf⟩ := bcell ha
  go_wp2
  go_ret
  refine ⟨rfl, ?_⟩
  (repeat (first | exact Below.refl _ _ | assumption | refine Below.setCell ?_ (by first | omega | (simp; done) | (simp; omega)) _ | refine Below.alloc ?_ (by first | omega | (simp; done) | (simp; omega)) _ | refine Below.drew ?_ | refine Below.trans ?_ (Below.mono ‹Below _ _ _› (by first | omega | (simp; done) | (simp; omega)))))
theorem pfoot_any (t p s q : Int) (w : World) :
    Calls Tryz.prog 108 #[.agg #[.int .i64 t, .int .i64 p, .int .i64 s], .int .i64 q] w fun e w' => e = .returned (.int .i64 (ofF t p s q 1)) ∧ Below w.heap.size w w' := by
  go_enter Tryz.func108, Tryz.ntmps108
  go_wp2_with fail
  refine (of_any _ _ _ _ _ _ (by omega) (by omega)).mono ?_
  rintro e w1 ⟨rfl, ha⟩
  obtain ⟨hac, haf⟩ := bcell ha
  go_wp2
  go_ret
  refine ⟨rfl, ?_⟩
  (repeat (first | exact Below.refl _ _ | assumption | refine Below.setCell ?_ (by first | omega | (simp; done) | (simp; omega)) _ | refine Below.alloc ?_ (by first | omega | (simp; done) | (simp; omega)) _ | refine Below.drew ?_ | refine Below.trans ?_ (Below.mono ‹Below _ _ _› (by first | omega | (simp; done) | (simp; omega)))))
theorem pbin_any (k : Int) (w : World) :
    Calls Tryz.prog 110 #[.int .i64 k] w fun e w' => e = .returned (.int .i64 (withinF 2 k 11)) ∧ Below w.heap.size w w' := by
  go_enter Tryz.func110, Tryz.ntmps110
  go_wp2_with fail
  refine (within_any 2 k 11 w (by omega) (by omega) (by omega)).mono ?_
  rintro e w1 ⟨rfl, rfl⟩
  go_wp2
  go_ret
  exact ⟨rfl, Below.refl _ _⟩
/-- math/bits.Len64 by the library's contract: the body is the one that the contract speaks of. -/
def lenRen : Go.Shelf.Ren := ⟨fun | 129 => 204 | n => n, fun | 3 => 3 | 4 => 4 | 5 => 5 | 9 => 9 | 46 => 181 | 53 => 72 | n => n, fun n => n⟩
theorem lenLays : Go.Proofs.Lays.n129 Tryz.prog lenRen where
  mixed := by kernel_rfl
  f129 := Tryz.func204.trans (congrArg some (by kernel_rfl))
  t3 := Tryz.underlying3
  a3 := Tryz.isAgg3
  z3 := Tryz.sizeOf3
  v3 := Tryz.zeroValue3
  t4 := Tryz.underlying4
  a4 := Tryz.isAgg4
  z4 := Tryz.sizeOf4
  v4 := Tryz.zeroValue4
  t5 := Tryz.underlying5
  a5 := Tryz.isAgg5
  z5 := Tryz.sizeOf5
  v5 := Tryz.zeroValue5
  t9 := Tryz.underlying9
  a9 := Tryz.isAgg9
  z9 := Tryz.sizeOf9
  v9 := Tryz.zeroValue9
  t46 := Tryz.underlying181
  a46 := Tryz.isAgg181
  z46 := Tryz.sizeOf181
  v46 := Tryz.zeroValue181
  t53 := Tryz.underlying72
  a53 := Tryz.isAgg72
  z53 := Tryz.sizeOf72
  v53 := Tryz.zeroValue72
theorem len64_any (n : Int) (w : World) (h1 : 0 ≤ n) (h2 : n ≤ 18446744073709551615) :
    Calls Tryz.prog 204 #[.int .u64 n] w fun e w' => e = .returned (.int .i64 (Lib.bitLen n.toNat)) ∧ Below w.heap.size w w' :=
  (Go.Proofs.Any.bits_Len64 lenLays n w h1 h2).mono fun _ _ ⟨he, hw⟩ => ⟨he, by rw [hw]; exact Below.refl _ _⟩

theorem bitLen_le : ∀ n : Nat, n < 1025 → Lib.bitLen n = bitsN n := by decide +kernel
theorem hlog_any (n : Nat) (w : World) (h1 : 1 ≤ n) (h2 : n ≤ 1024) :
    Calls Tryz.prog 173 #[.int .i64 n] w fun e w' => e = .returned (.int .i64 (logF n)) ∧ Below w.heap.size w w' := by
  have H := Lib.hid (fun w => len64_any n w (by omega) (by omega))
  have hb := bitLen_le n (by omega)
  have hl : logF n = (Lib.bitLen n : Int) - 1 := by rw [hb]; simp [logF]
  have hbl := bitsN_le n
  have HL := Lib.hid hl
  rw [← hb] at hbl
  simp only [Int.toNat_natCast] at H
  generalize Lib.bitLen n = m at *
  clear hb hl
  go_enter Tryz.func173, Tryz.ntmps173
  go_wp2_with fail
  refine (H.out _).mono ?_
  rintro e w1 ⟨rfl, b1⟩
  go_wp2
  go_ret
  exact ⟨ret_int HL.out.symm, b1⟩
theorem bof_any (n : Nat) (w : World) (h1 : 1 ≤ n) (h2 : n ≤ 1024) :
    Calls Tryz.prog 111 #[.int .i64 n] w fun e w' => e = .returned (.int .i64 (logF n)) ∧ Below w.heap.size w w' := by
  have H := Lib.hid (fun w => hlog_any n w h1 h2)
  generalize logF n = m at *
  go_enter Tryz.func111, Tryz.ntmps111
  go_wp2_with fail
  refine (H.out _).mono ?_
  rintro e w1 ⟨rfl, b1⟩
  go_wp2
  go_ret
  exact ⟨rfl, b1⟩
end Go.Proofs.YtcicmljnjdhkjaaGreat
