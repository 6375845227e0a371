/- parts of the proof, merged by a program. -/
import Derived.Test.YtpmoajhpgekhcaaGreatMsa1
import Derived.Shelf.Strconv.Itoa0
import Derived.Lib.BitFns
import Derived.Lib.Tables
import Derived.Laws.BitsLemmas
set_option linter.unusedSimpArgs false
set_option linter.unusedVariables false
/- half, info: what a free span's info is worth. -/
set_option linter.unusedSimpArgs false
set_option linter.unusedVariables false
namespace Go.Proofs.YtpmoajhpgekhcaaGreat
open Go.RowKit

theorem hfield_any (a b : Int) (w : World) (h0 : 0 ≤ a) (h1 : 1 ≤ b) (h2 : b ≤ 64) (h3 : a ≤ 64 - b) :
    Calls Tryz.prog 76 #[.int .i64 a, .int .i64 b] w fun e w' => e = .returned (.bool true) ∧ Below w.heap.size w w' := by
  go_enter Tryz.func76, Tryz.ntmps76
  go_wp2
  go_ret
  exact ⟨rfl, Below.refl _ _⟩
theorem hmask12 (w : World) : Calls Tryz.prog 77 #[.int .i64 12] w fun e w' => e = .returned (.int .u64 4095) ∧ Below w.heap.size w w' := by
  go_enter Tryz.func77, Tryz.ntmps77
  go_wp2
  go_ret
  exact ⟨rfl, Below.refl _ _⟩
theorem hmask4 (w : World) : Calls Tryz.prog 77 #[.int .i64 4] w fun e w' => e = .returned (.int .u64 15) ∧ Below w.heap.size w w' := by
  go_enter Tryz.func77, Tryz.ntmps77
  go_wp2
  go_ret
  exact ⟨rfl, Below.refl _ _⟩
theorem hlo_any (v : Int) (w : World) (h0 : 0 ≤ v) (h1 : v < 4294967296) : Calls Tryz.prog 120 #[.int .u64 v] w fun e w' => e = .returned (.int .u32 v) ∧ Below w.heap.size w w' := by
  have hw : IntKind.u32.wrap v = v := IntWalk.u32_in _ (by omega)
  go_enter Tryz.func120, Tryz.ntmps120
  go_wp2
  go_ret
  exact ⟨rfl, Below.refl _ _⟩
theorem iright_free (n : Int) (w : World) (h1 : 1 ≤ n) (h2 : n ≤ 1024) : Calls Tryz.prog 47 #[.agg #[.int .i64 1, .int .i64 n, .int .i64 0]] w fun e w' => e = .returned (.bool true) ∧ Below w.heap.size w w' := by
  go_enter Tryz.func47, Tryz.ntmps47
  go_wp2
  go_ret
  exact ⟨rfl, (Below.refl _ _).alloc (Nat.le_refl _) _⟩
theorem bpage_any (t p s q : Int) (w : World) (h0 : 0 ≤ q) (h1 : q < p) : Calls Tryz.prog 113 #[.agg #[.int .i64 t, .int .i64 p, .int .i64 s], .int .i64 q] w fun e w' => e = .returned (.bool true) ∧ Below w.heap.size w w' := by
  go_enter Tryz.func113, Tryz.ntmps113
  go_wp2
  go_ret
  exact ⟨rfl, (Below.refl _ _).alloc (Nat.le_refl _) _⟩
theorem put12 : ∀ n : Nat, n < 1025 → bits BinOp.or IntKind.u64 (bits BinOp.andNot IntKind.u64 1 (IntKind.u64.wrap 65520)) (IntKind.u64.wrap ((n : Int) * 16)) = 1 + 16 * (n : Int) := by decide +kernel
theorem put4 : ∀ n : Nat, n < 1025 → bits BinOp.or IntKind.u64 (bits BinOp.andNot IntKind.u64 (1 + 16 * (n : Int)) (IntKind.u64.wrap 983040)) 0 = 1 + 16 * (n : Int) := by decide +kernel
theorem hput1_any (n : Nat) (w : World) (h1 : 1 ≤ n) (h2 : n ≤ 1024) : Calls Tryz.prog 119 #[.int .u64 1, .int .i64 4, .int .i64 12, .int .u64 n] w fun e w' => e = .returned (.tuple #[.int .u64 (1 + 16 * n), .bool true]) ∧ Below w.heap.size w w' := by
  go_enter Tryz.func119, Tryz.ntmps119
  go_wp2_with fail
  refine (hfield_any _ _ _ (by omega) (by omega) (by omega) (by omega)).mono ?_
  rintro e w1 ⟨rfl, b1⟩
  go_wp2_with fail
  refine (hmask12 _).mono ?_
  rintro e w2 ⟨rfl, b2⟩
  go_wp2_with fail
  refine wp_region_noPanic ?_
  refine wp_region_held_drew (S := fun w' => BS w2 ([] : List Nat) w') (by kernel_rfl) ?_ (fun hHeld => ?_)
  · exact (BS.start w2).drew
  refine wT 0 ?_
  refine wT 1 ?_
  refine wT 3 ?_
  refine wT 6 ?_
  refine wT 7 ?_
  refine wT 8 ?_
  refine wR 2 fun K hK => ?_
  go_simp
  refine (calls_b hHeld (hmask12 _)).mono ?_
  rintro e wr1 ⟨rfl, hV, hVl⟩
  dsimp only
  refine hK.out _ _ ?_ (fun hHeld2 => ?_)
  · exact hV
  clear hK K hV hVl hHeld
  have hHeld := hHeld2
  clear hHeld2
  try simp only [Act.put, zA, zB, zC, zD, zE, zF]
  refine wT 4 ?_
  refine wT 5 ?_
  refine wT 9 ?_
  refine wT 10 ?_
  refine wT 11 ?_
  refine wpAnyH_done (by kernel_rfl) (NoPanic.normal ?_) _
  refine world_gen ?_
  intro wz hwz
  rw [← hwz] at hHeld
  clear hwz
  have bel := hHeld.bel
  clear hHeld
  go_wp2
  exact bodyPost_ret (v := .tuple #[.int .u64 (1 + 16 * n), .bool true]) (by simp [results, Tryz.results119, go_sem]; exact put12 n (by omega)) rfl ⟨rfl, b1.trans ((b2.trans (bel.mono b2.size)).mono b1.size)⟩
theorem hput2_any (n : Nat) (w : World) (h1 : 1 ≤ n) (h2 : n ≤ 1024) : Calls Tryz.prog 119 #[.int .u64 (1 + 16 * n), .int .i64 16, .int .i64 4, .int .u64 0] w fun e w' => e = .returned (.tuple #[.int .u64 (1 + 16 * n), .bool true]) ∧ Below w.heap.size w w' := by
  have hp := put4 n (by omega)
  have HP := Lib.hid hp
  clear hp
  generalize (1 + 16 * (n : Int)) = v at *
  go_enter Tryz.func119, Tryz.ntmps119
  go_wp2_with fail
  refine (hfield_any _ _ _ (by omega) (by omega) (by omega) (by omega)).mono ?_
  rintro e w1 ⟨rfl, b1⟩
  go_wp2_with fail
  refine (hmask4 _).mono ?_
  rintro e w2 ⟨rfl, b2⟩
  go_wp2_with fail
  refine wp_region_noPanic ?_
  refine wp_region_held_drew (S := fun w' => BS w2 ([] : List Nat) w') (by kernel_rfl) ?_ (fun hHeld => ?_)
  · exact (BS.start w2).drew
  refine wT 0 ?_
  refine wT 1 ?_
  refine wT 3 ?_
  refine wT 6 ?_
  refine wT 7 ?_
  refine wT 8 ?_
  refine wR 2 fun K hK => ?_
  go_simp
  refine (calls_b hHeld (hmask4 _)).mono ?_
  rintro e wr1 ⟨rfl, hV, hVl⟩
  dsimp only
  refine hK.out _ _ ?_ (fun hHeld2 => ?_)
  · exact hV
  clear hK K hV hVl hHeld
  have hHeld := hHeld2
  clear hHeld2
  try simp only [Act.put, zA, zB, zC, zD, zE, zF]
  refine wT 4 ?_
  refine wT 5 ?_
  refine wT 9 ?_
  refine wT 10 ?_
  refine wT 11 ?_
  refine wpAnyH_done (by kernel_rfl) (NoPanic.normal ?_) _
  refine world_gen ?_
  intro wz hwz
  rw [← hwz] at hHeld
  clear hwz
  have bel := hHeld.bel
  clear hHeld
  go_wp2
  exact bodyPost_ret (v := .tuple #[.int .u64 v, .bool true]) (by simp [results, Tryz.results119, go_sem]; exact HP.out) rfl ⟨rfl, b1.trans ((b2.trans (bel.mono b2.size)).mono b1.size)⟩

/-- a free span's info. -/
theorem iput_free (n : Nat) (w : World) (h1 : 1 ≤ n) (h2 : n ≤ 1024) : Calls Tryz.prog 114 #[.agg #[.int .i64 1, .int .i64 n, .int .i64 0]] w fun e w' => e = .returned (.tuple #[.int .u32 (1 + 16 * n), .bool true]) ∧ Below w.heap.size w w' := by
  have H1 := Lib.hid (fun w => iright_free n w (by omega) (by omega))
  have H2 := Lib.hid (fun w => hput1_any n w h1 h2)
  have H3 := Lib.hid (fun w => hput2_any n w h1 h2)
  have H4 := Lib.hid (fun w => hlo_any (1 + 16 * n) w (by omega) (by omega))
  generalize (1 + 16 * (n : Int)) = v at *
  go_enter Tryz.func114, Tryz.ntmps114
  go_wp2_with fail
  refine (H1.out _).mono ?_
  rintro e w1 ⟨rfl, ha⟩
  obtain ⟨hac, haf⟩ := bcell ha
  have haz0 : w.heap.size < w1.heap.size := by have := ha.size; first | omega | (simp at this; omega)
  go_wp2_with fail
  refine (H2.out _).mono ?_
  rintro e w2 ⟨rfl, hb⟩
  obtain ⟨hbc, hbf⟩ := bcell hb
  have hbz0 : w1.heap.size ≤ w2.heap.size := by have := hb.size; first | omega | (simp at this; omega)
  have hbz1 : w.heap.size < w2.heap.size := by have := hb.size; first | omega | (simp at this; omega)
  go_wp2_with fail
  refine (H3.out _).mono ?_
  rintro e w3 ⟨rfl, hc⟩
  obtain ⟨hcc, hcf⟩ := bcell hc
  have hcz0 : w2.heap.size ≤ w3.heap.size := by have := hc.size; first | omega | (simp at this; omega)
  have hcz1 : w.heap.size < w3.heap.size := by have := hc.size; first | omega | (simp at this; omega)
  go_wp2_with fail
  refine (H4.out _).mono ?_
  rintro e w4 ⟨rfl, hd⟩
  obtain ⟨hdc, hdf⟩ := bcell hd
  go_wp2
  refine bodyPost_ret (v := .tuple #[.int .u32 v, .bool true]) (by simp [results, Tryz.results114, go_sem]) rfl ⟨rfl, ?_⟩
  (repeat (first | exact Below.refl _ _ | assumption | refine Below.setCell ?_ (by first | omega | (simp; done) | (simp; omega)) _ | refine Below.alloc ?_ (by first | omega | (simp; done) | (simp; omega)) _ | refine Below.drew ?_ | refine Below.trans ?_ (Below.mono ‹Below _ _ _› (by first | omega | (simp; done) | (simp; omega)))))
end Go.Proofs.YtpmoajhpgekhcaaGreat
/- bin: a free span is added. -/
set_option linter.unusedSimpArgs false
set_option linter.unusedVariables false
namespace Go.Proofs.YtpmoajhpgekhcaaGreat
open Go.RowKit

theorem pinfo_any (t p s q : Int) (w : World) :
    Calls Tryz.prog 22 #[.agg #[.int .i64 t, .int .i64 p, .int .i64 s], .int .i64 q] w fun e w' => e = .returned (.int .i64 (ofF t p s q 0)) ∧ Below w.heap.size w w' := by
  go_enter Tryz.func22, Tryz.ntmps22
  go_wp2_with fail
  refine (of_any _ _ _ _ _ _ (by omega) (by omega)).mono ?_
  rintro e w1 ⟨rfl, ha⟩
  obtain ⟨hac, haf⟩ := bcell ha
  go_wp2
  go_ret
  refine ⟨rfl, ?_⟩
  (repeat (first | exact Below.refl _ _ | assumption | refine Below.setCell ?_ (by first | omega | (simp; done) | (simp; omega)) _ | refine Below.alloc ?_ (by first | omega | (simp; done) | (simp; omega)) _ | refine Below.drew ?_ | refine Below.trans ?_ (Below.mono ‹Below _ _ _› (by first | omega | (simp; done) | (simp; omega)))))
theorem pfoot_any (t p s q : Int) (w : World) :
    Calls Tryz.prog 111 #[.agg #[.int .i64 t, .int .i64 p, .int .i64 s], .int .i64 q] w fun e w' => e = .returned (.int .i64 (ofF t p s q 1)) ∧ Below w.heap.size w w' := by
  go_enter Tryz.func111, Tryz.ntmps111
  go_wp2_with fail
  refine (of_any _ _ _ _ _ _ (by omega) (by omega)).mono ?_
  rintro e w1 ⟨rfl, ha⟩
  obtain ⟨hac, haf⟩ := bcell ha
  go_wp2
  go_ret
  refine ⟨rfl, ?_⟩
  (repeat (first | exact Below.refl _ _ | assumption | refine Below.setCell ?_ (by first | omega | (simp; done) | (simp; omega)) _ | refine Below.alloc ?_ (by first | omega | (simp; done) | (simp; omega)) _ | refine Below.drew ?_ | refine Below.trans ?_ (Below.mono ‹Below _ _ _› (by first | omega | (simp; done) | (simp; omega)))))
theorem pbin_any (k : Int) (w : World) :
    Calls Tryz.prog 115 #[.int .i64 k] w fun e w' => e = .returned (.int .i64 (withinF 2 k 11)) ∧ Below w.heap.size w w' := by
  go_enter Tryz.func115, Tryz.ntmps115
  go_wp2_with fail
  refine (within_any 2 k 11 w (by omega) (by omega) (by omega)).mono ?_
  rintro e w1 ⟨rfl, rfl⟩
  go_wp2
  go_ret
  exact ⟨rfl, Below.refl _ _⟩
/-- math/bits.Len64 by the library's contract: the body is the one that the contract speaks of. -/
def lenRen : Go.Shelf.Ren := ⟨fun | 129 => 122 | n => n, fun | 3 => 3 | 4 => 4 | 5 => 5 | 9 => 9 | 46 => 121 | 53 => 92 | n => n, fun n => n⟩
theorem lenLays : Go.Proofs.Lays.n129 Tryz.prog lenRen where
  mixed := by kernel_rfl
  f129 := Tryz.func122.trans (congrArg some (by kernel_rfl))
  t3 := Tryz.underlying3
  a3 := Tryz.isAgg3
  z3 := Tryz.sizeOf3
  v3 := Tryz.zeroValue3
  t4 := Tryz.underlying4
  a4 := Tryz.isAgg4
  z4 := Tryz.sizeOf4
  v4 := Tryz.zeroValue4
  t5 := Tryz.underlying5
  a5 := Tryz.isAgg5
  z5 := Tryz.sizeOf5
  v5 := Tryz.zeroValue5
  t9 := Tryz.underlying9
  a9 := Tryz.isAgg9
  z9 := Tryz.sizeOf9
  v9 := Tryz.zeroValue9
  t46 := Tryz.underlying121
  a46 := Tryz.isAgg121
  z46 := Tryz.sizeOf121
  v46 := Tryz.zeroValue121
  t53 := Tryz.underlying92
  a53 := Tryz.isAgg92
  z53 := Tryz.sizeOf92
  v53 := Tryz.zeroValue92
theorem len64_any (n : Int) (w : World) (h1 : 0 ≤ n) (h2 : n ≤ 18446744073709551615) :
    Calls Tryz.prog 122 #[.int .u64 n] w fun e w' => e = .returned (.int .i64 (Lib.bitLen n.toNat)) ∧ Below w.heap.size w w' :=
  (Go.Proofs.Any.bits_Len64 lenLays n w h1 h2).mono fun _ _ ⟨he, hw⟩ => ⟨he, by rw [hw]; exact Below.refl _ _⟩

theorem bitLen_le : ∀ n : Nat, n < 1025 → Lib.bitLen n = bitsN n := by decide +kernel
theorem hlog_any (n : Nat) (w : World) (h1 : 1 ≤ n) (h2 : n ≤ 1024) :
    Calls Tryz.prog 121 #[.int .i64 n] w fun e w' => e = .returned (.int .i64 (logF n)) ∧ Below w.heap.size w w' := by
  have H := Lib.hid (fun w => len64_any n w (by omega) (by omega))
  have hb := bitLen_le n (by omega)
  have hl : logF n = (Lib.bitLen n : Int) - 1 := by rw [hb]; simp [logF]
  have hbl := bitsN_le n
  have HL := Lib.hid hl
  rw [← hb] at hbl
  simp only [Int.toNat_natCast] at H
  generalize Lib.bitLen n = m at *
  clear hb hl
  go_enter Tryz.func121, Tryz.ntmps121
  go_wp2_with fail
  refine (H.out _).mono ?_
  rintro e w1 ⟨rfl, b1⟩
  go_wp2
  go_ret
  exact ⟨ret_int HL.out.symm, b1⟩
theorem bof_any (n : Nat) (w : World) (h1 : 1 ≤ n) (h2 : n ≤ 1024) :
    Calls Tryz.prog 116 #[.int .i64 n] w fun e w' => e = .returned (.int .i64 (logF n)) ∧ Below w.heap.size w w' := by
  have H := Lib.hid (fun w => hlog_any n w h1 h2)
  generalize logF n = m at *
  go_enter Tryz.func116, Tryz.ntmps116
  go_wp2_with fail
  refine (H.out _).mono ?_
  rintro e w1 ⟨rfl, b1⟩
  go_wp2
  go_ret
  exact ⟨rfl, b1⟩
end Go.Proofs.YtpmoajhpgekhcaaGreat
/- bin: Add. -/
set_option linter.unusedSimpArgs false
set_option linter.unusedVariables false
namespace Go.Proofs.YtpmoajhpgekhcaaGreat
open Go.RowKit

def addF (t p s : Int) (q n : Nat) (st : VS) : VS :=
  pushF t p s (withinF 2 (logF n) 11) q ((st.put (ofF t p s q 0) (1 + 16 * n)).put (ofF t p s ((q : Int) + n - 1) 1) ((q : Int) + 1))

set_option maxHeartbeats 1000000 in
set_option maxRecDepth 100000 in
theorem badd_any (b : Nat) (t p s : Int) (q n : Nat) (w : World) (S : Nat → Prop) (st : VS) (h : PV w b S st) (hp : p ≤ 1024) (h0 : (q : Int) < p) (h1 : 1 ≤ n) (h2 : (n : Int) ≤ p - q) :
    Calls Tryz.prog 100 #[.pointer (some ⟨b, 0, none⟩), .agg #[.int .i64 t, .int .i64 p, .int .i64 s], .int .i64 q, .int .i64 n] w fun e w' => e = .returned (.tuple #[]) ∧ Now w b S (addF t p s q n st) w' := by
  have hV := (VSt.start keepsPV h).alloc keepsPV (.cells #[.int .i64 t, .int .i64 p, .int .i64 s] 23)
  have c0 := loc_alloc w #[.int .i64 t, .int .i64 p, .int .i64 s] 23
  have HP := Lib.hid (fun w => bpage_any t p s q w (by omega) h0)
  have HI := Lib.hid (fun w => iput_free n w h1 (by omega))
  have HO := Lib.hid (fun w => bof_any n w h1 (by omega))
  have U1 := Lib.hid (show VS.U32 (1 + 16 * (n : Int)) from ⟨by omega, by omega⟩)
  have U2 := Lib.hid (show VS.U32 ((q : Int) + 1) from ⟨by omega, by omega⟩)
  have hF : addF t p s q n st = pushF t p s (withinF 2 (logF n) 11) q ((st.put (ofF t p s q 0) (1 + 16 * n)).put (ofF t p s ((q : Int) + n - 1) 1) ((q : Int) + 1)) := rfl
  rw [hF]
  have hw1 : IntKind.i64.wrap ((q : Int) + n - 1) = (q : Int) + n - 1 := wrap_in _ (by omega)
  have hw2 : IntKind.u32.wrap ((q : Int) + 1) = (q : Int) + 1 := IntWalk.u32_in _ (by omega)
  clear h hF
  generalize logF n = lg at *
  generalize hx : 1 + 16 * (n : Int) = iv at *
  clear hx
  go_enter Tryz.func100, Tryz.ntmps100
  go_wp2_with fail
  refine (calls_bl keepsPV hV (HP.out _)).mono ?_
  rintro e w1 ⟨rfl, hV1, hV1l⟩
  have c1 := loc_step hV1l (by simp) c0
  clear hV1l
  go_wp2_with fail
  refine (calls_bl keepsPV hV1 (HI.out _)).mono ?_
  rintro e w2 ⟨rfl, hV2, hV2l⟩
  have c2 := loc_step hV2l (by simp) c1
  clear hV2l
  go_wp2_with fail
  refine (calls_bl keepsPV hV2 (pinfo_any _ _ _ _ _)).mono ?_
  rintro e w3 ⟨rfl, hV3, hV3l⟩
  have c3 := loc_step hV3l (by simp) c2
  clear hV3l
  go_wp2_with fail
  refine (calls_st hV3 (fun S1 h1 => put_any _ _ _ _ _ _ h1 U1.out)).mono ?_
  rintro e w4 ⟨rfl, hV4, hV4l⟩
  have c4 := loc_step hV4l (by simp) c3
  clear hV4l
  go_wp2_with fail
  refine (calls_bl keepsPV hV4 (pfoot_any _ _ _ _ _)).mono ?_
  rintro e w5 ⟨rfl, hV5, hV5l⟩
  have c5 := loc_step hV5l (by simp) c4
  clear hV5l
  go_wp2_with fail
  refine (calls_st hV5 (fun S1 h1 => put_any _ _ _ _ _ _ h1 U2.out)).mono ?_
  rintro e w6 ⟨rfl, hV6, hV6l⟩
  have c6 := loc_step hV6l (by simp) c5
  clear hV6l
  go_wp2_with fail
  have hV6d := hV6.drew keepsPV
  refine wp_region_noPanic ?_
  refine wp_region_held_drew (S := fun w' => (∀ o : Nat, w'.cell? ⟨w.heap.size, o, none⟩ = (#[.int .i64 t, .int .i64 p, .int .i64 s] : Array Value)[o]?)) (by kernel_rfl) ?_ (fun hHeld => ?_)
  · exact c6
  refine wT 0 ?_
  refine wT 1 ?_
  refine wT 2 ?_
  refine wT 5 ?_
  refine wR 3 fun K hK => ?_
  go_simp
  refine (calls_bl keepsPV hV6d (HO.out _)).mono ?_
  rintro e w7 ⟨rfl, hV7, hV7l⟩
  have c7 := loc_step hV7l (by simp) hHeld
  clear hV7l
  dsimp only
  refine hK.out _ _ ?_ (fun hHeld => ?_)
  · exact c7
  clear hK K
  try simp only [Act.put, zA, zB, zC, zD, zE, zF]
  refine wR 4 fun K hK => ?_
  go_simp
  refine (calls_bl keepsPV hV7 (pbin_any _ _)).mono ?_
  rintro e w8 ⟨rfl, hV8, hV8l⟩
  have c8 := loc_step hV8l (by simp) c7
  clear hV8l
  dsimp only
  refine hK.out _ _ ?_ (fun hHeld => ?_)
  · exact c8
  clear hK K
  try simp only [Act.put, zA, zB, zC, zD, zE, zF]
  refine wR 6 fun K hK => ?_
  go_simp
  refine (calls_st hV8 (fun S1 h1 => push_any b t p s _ q _ S1 _ h1 hp)).mono ?_
  rintro e w9 ⟨rfl, hV9, hV9l⟩
  have c9 := loc_step hV9l (by simp) c8
  clear hV9l
  dsimp only
  refine hK.out _ _ ?_ (fun hHeld => ?_)
  · exact c9
  clear hK K
  try simp only [Act.put, zA, zB, zC, zD, zE, zF]
  refine wpAnyH_done (by kernel_rfl) (NoPanic.normal ?_) _
  go_wp2
  go_end0
  exact ⟨rfl, hV9.done keepsPV⟩
end Go.Proofs.YtpmoajhpgekhcaaGreat
/- the program's small functions that its audit calls: fields of infos, bits. -/
set_option linter.unusedSimpArgs false
set_option linter.unusedVariables false
namespace Go.Proofs.YtpmoajhpgekhcaaGreat
open Go.RowKit

theorem wrapsA_u32 (n : Int) (h₀ : 0 ≤ n) (h₁ : n < 2 ^ 32) : IntKind.u32.wrap n = n := by rw [IntKind.wrap_u32]; omega
theorem wrapsA_u64 (n : Int) (h₀ : 0 ≤ n) (h₁ : n < 2 ^ 64) : IntKind.u64.wrap n = n := by rw [IntKind.wrap_u64]; omega
theorem and255 {x : Int} (h0 : 0 ≤ x) (h1 : x < 4294967296) : bits .and .u32 x 255 = x % 256 := bits_mask .u32 32 (by decide) wrapsA_u32 8 (by decide) x h0 (by omega)
theorem byte_bit (v : Int) (a i : Nat) (h : a + 8 ≤ 32) (hi : i < 8) : bitB (v / 2 ^ a % 256) i = bitB v (a + i) := by
  have e : (256 : Int) = 2 ^ i * (2 * 2 ^ (7 - i)) := by
    rw [← Int.pow_succ', ← Int.pow_add, show i + (7 - i + 1) = 8 by omega]
    rfl
  have hp : (0 : Int) < 2 ^ i := Int.pow_pos (by omega)
  unfold bitB
  have h1 : decide (i < 32) = true := by simp; omega
  have h2 : decide (a + i < 32) = true := by simp; omega
  rw [h1, h2]
  have hq : v / 2 ^ a % 256 / 2 ^ i % 2 = v / 2 ^ (a + i) % 2 := by
    rw [Int.pow_add, ← Int.ediv_ediv_of_nonneg (Int.pow_nonneg (by omega))]
    generalize v / 2 ^ a = x
    have hx := Int.emod_def x 256
    generalize x / 256 = q at hx
    rw [hx, e, show x - 2 ^ i * (2 * 2 ^ (7 - i)) * q = x + (-(2 * 2 ^ (7 - i) * q)) * 2 ^ i by rw [Int.neg_mul, Int.mul_comm (2 * 2 ^ (7 - i) * q), Int.mul_assoc (2 ^ i)]; rfl, Int.add_mul_ediv_right _ _ (by omega), Int.mul_assoc]
    generalize 2 ^ (7 - i) * q = z
    omega
  rw [hq]
theorem ones_byte (v : Int) (a : Nat) (h : a + 8 ≤ 32) : ∀ k, k ≤ 8 → onesN v (a + k) = onesN v a + onesN (v / 2 ^ a % 256) k
  | 0, _ => by simp [onesN]
  | k + 1, hk => by
    have ih := ones_byte v a h k (by omega)
    have e1 : onesN v (a + (k + 1)) = onesN v (a + k) + if bitB v (a + k) then 1 else 0 := rfl
    have e2 : onesN (v / 2 ^ a % 256) (k + 1) = onesN (v / 2 ^ a % 256) k + if bitB (v / 2 ^ a % 256) k then 1 else 0 := rfl
    rw [e1, e2, byte_bit v a k h (by omega), ih]
    omega
theorem pop8_ones : ∀ n : Fin 256, Lib.pop8 (n.val : Int) = (onesN (n.val : Int) 8 : Int) := by decide +kernel
theorem pop8_at (b : Int) (h0 : 0 ≤ b) (h1 : b ≤ 255) : Lib.pop8 b = (onesN b 8 : Int) := by
  have e := pop8_ones ⟨b.toNat, by omega⟩
  simpa only [Int.toNat_of_nonneg h0] using e
theorem ones_sum {v : Int} (h0 : 0 ≤ v) (h1 : v < 4294967296) : (onesN v 32 : Int) = Lib.pop8 (v / 16777216) + Lib.pop8 (v / 65536 % 256) + Lib.pop8 (v / 256 % 256) + Lib.pop8 (v % 256) := by
  rw [pop8_at _ (by omega) (by omega), pop8_at _ (by omega) (by omega), pop8_at _ (by omega) (by omega), pop8_at _ (by omega) (by omega)]
  have a0 : onesN v 8 = onesN v 0 + onesN (v % 256) 8 := by
    have := ones_byte v 0 (by omega) 8 (by omega)
    rwa [show v / 2 ^ 0 % 256 = v % 256 by simp] at this
  have a1 : onesN v 16 = onesN v 8 + onesN (v / 256 % 256) 8 := ones_byte v 8 (by omega) 8 (by omega)
  have a2 : onesN v 24 = onesN v 16 + onesN (v / 65536 % 256) 8 := ones_byte v 16 (by omega) 8 (by omega)
  have a3 : onesN v 32 = onesN v 24 + onesN (v / 16777216) 8 := by
    have : onesN v 32 = onesN v 24 + onesN (v / 16777216 % 256) 8 := ones_byte v 24 (by omega) 8 (by omega)
    rwa [show v / 16777216 % 256 = v / 16777216 by omega] at this
  have z : onesN v 0 = 0 := rfl
  omega

set_option maxRecDepth 100000 in
theorem ones_any (v : Int) (w : World) (h0 : 0 ≤ v) (h1 : v < 4294967296) :
    Calls Tryz.prog 102 #[.int .u32 v] w fun e w' => e = .returned (.int .i64 (onesN v 32)) ∧ Below w.heap.size w w' := by
  have a1 := and255 (x := v / 65536) (by omega) (by omega)
  have a2 := and255 (x := v / 256) (by omega) (by omega)
  have a3 := and255 h0 h1
  have hs := ones_sum h0 h1
  have k0 := fun w => Lib.run_index_pop8tab (P := Tryz.prog) w 9 .u32 (v / 16777216) Tryz.underlying9 (by omega) (by omega)
  have k1 := fun w => Lib.run_index_pop8tab (P := Tryz.prog) w 9 .u32 (v / 65536 % 256) Tryz.underlying9 (by omega) (by omega)
  have k2 := fun w => Lib.run_index_pop8tab (P := Tryz.prog) w 9 .u32 (v / 256 % 256) Tryz.underlying9 (by omega) (by omega)
  have k3 := fun w => Lib.run_index_pop8tab (P := Tryz.prog) w 9 .u32 (v % 256) Tryz.underlying9 (by omega) (by omega)
  go_enter Tryz.func102, Tryz.ntmps102
  go_wp2
  go_region
  go_wp2
  go_ret
  refine ⟨ret_int ?_, (Below.refl _ _).drew⟩
  have := onesN_le v 32
  omega
theorem hmask44 (w : World) : Calls Tryz.prog 77 #[.int .i64 44] w fun e w' => e = .returned (.int .u64 17592186044415) ∧ Below w.heap.size w w' := by
  go_enter Tryz.func77, Tryz.ntmps77
  go_wp2
  go_ret
  exact ⟨rfl, Below.refl _ _⟩
theorem hgetK (v : Int) (w : World) (h0 : 0 ≤ v) (h1 : v < 4294967296) :
    Calls Tryz.prog 46 #[.int .u64 v, .int .i64 0, .int .i64 4] w fun e w' => e = .returned (.int .u64 (v % 16)) ∧ Below w.heap.size w w' := by
  have ha : bits .and .u64 (v) 15 = v % 16 := bits_mask .u64 64 (by decide) wrapsA_u64 4 (by decide) (v) (by omega) (by omega)
  go_enter Tryz.func46, Tryz.ntmps46
  go_wp2_with fail
  refine (hfield_any _ _ _ (by omega) (by omega) (by omega) (by omega)).mono ?_
  rintro e w1 ⟨rfl, b1⟩
  go_wp2
  refine wp_region_noPanic ?_
  refine wp_region_held_drew (S := fun w' => BS w1 ([] : List Nat) w') (by kernel_rfl) ?_ (fun hHeld => ?_)
  · exact (BS.start w1).drew
  refine wT 0 ?_
  refine wT 1 ?_
  refine wT 2 ?_
  refine wT 3 ?_
  refine wR 4 fun K hK => ?_
  go_simp
  refine (calls_b hHeld (hmask4 _)).mono ?_
  rintro e wr1 ⟨rfl, hV, hVl⟩
  dsimp only
  refine hK.out _ _ ?_ (fun hHeld2 => ?_)
  · exact hV
  clear hK K hV hVl hHeld
  have hHeld := hHeld2
  clear hHeld2
  try simp only [Act.put, zA, zB, zC, zD, zE, zF]
  refine wT 5 ?_
  refine wT 6 ?_
  refine wpAnyH_done (by kernel_rfl) (NoPanic.normal ?_) _
  refine world_gen ?_
  intro wz hwz
  rw [← hwz] at hHeld
  clear hwz
  go_wp2
  go_ret
  exact ⟨rfl, b1.trans (hHeld.bel.mono b1.size)⟩
theorem hgetL (v : Int) (w : World) (h0 : 0 ≤ v) (h1 : v < 4294967296) :
    Calls Tryz.prog 46 #[.int .u64 v, .int .i64 4, .int .i64 12] w fun e w' => e = .returned (.int .u64 (v / 16 % 4096)) ∧ Below w.heap.size w w' := by
  have ha : bits .and .u64 (v / 16) 4095 = v / 16 % 4096 := bits_mask .u64 64 (by decide) wrapsA_u64 12 (by decide) (v / 16) (by omega) (by omega)
  go_enter Tryz.func46, Tryz.ntmps46
  go_wp2_with fail
  refine (hfield_any _ _ _ (by omega) (by omega) (by omega) (by omega)).mono ?_
  rintro e w1 ⟨rfl, b1⟩
  go_wp2
  refine wp_region_noPanic ?_
  refine wp_region_held_drew (S := fun w' => BS w1 ([] : List Nat) w') (by kernel_rfl) ?_ (fun hHeld => ?_)
  · exact (BS.start w1).drew
  refine wT 0 ?_
  refine wT 1 ?_
  refine wT 2 ?_
  refine wT 3 ?_
  refine wR 4 fun K hK => ?_
  go_simp
  refine (calls_b hHeld (hmask12 _)).mono ?_
  rintro e wr1 ⟨rfl, hV, hVl⟩
  dsimp only
  refine hK.out _ _ ?_ (fun hHeld2 => ?_)
  · exact hV
  clear hK K hV hVl hHeld
  have hHeld := hHeld2
  clear hHeld2
  try simp only [Act.put, zA, zB, zC, zD, zE, zF]
  refine wT 5 ?_
  refine wT 6 ?_
  refine wpAnyH_done (by kernel_rfl) (NoPanic.normal ?_) _
  refine world_gen ?_
  intro wz hwz
  rw [← hwz] at hHeld
  clear hwz
  go_wp2
  go_ret
  exact ⟨rfl, b1.trans (hHeld.bel.mono b1.size)⟩
theorem hgetC (v : Int) (w : World) (h0 : 0 ≤ v) (h1 : v < 4294967296) :
    Calls Tryz.prog 46 #[.int .u64 v, .int .i64 16, .int .i64 4] w fun e w' => e = .returned (.int .u64 (v / 65536 % 16)) ∧ Below w.heap.size w w' := by
  have ha : bits .and .u64 (v / 65536) 15 = v / 65536 % 16 := bits_mask .u64 64 (by decide) wrapsA_u64 4 (by decide) (v / 65536) (by omega) (by omega)
  go_enter Tryz.func46, Tryz.ntmps46
  go_wp2_with fail
  refine (hfield_any _ _ _ (by omega) (by omega) (by omega) (by omega)).mono ?_
  rintro e w1 ⟨rfl, b1⟩
  go_wp2
  refine wp_region_noPanic ?_
  refine wp_region_held_drew (S := fun w' => BS w1 ([] : List Nat) w') (by kernel_rfl) ?_ (fun hHeld => ?_)
  · exact (BS.start w1).drew
  refine wT 0 ?_
  refine wT 1 ?_
  refine wT 2 ?_
  refine wT 3 ?_
  refine wR 4 fun K hK => ?_
  go_simp
  refine (calls_b hHeld (hmask4 _)).mono ?_
  rintro e wr1 ⟨rfl, hV, hVl⟩
  dsimp only
  refine hK.out _ _ ?_ (fun hHeld2 => ?_)
  · exact hV
  clear hK K hV hVl hHeld
  have hHeld := hHeld2
  clear hHeld2
  try simp only [Act.put, zA, zB, zC, zD, zE, zF]
  refine wT 5 ?_
  refine wT 6 ?_
  refine wpAnyH_done (by kernel_rfl) (NoPanic.normal ?_) _
  refine world_gen ?_
  intro wz hwz
  rw [← hwz] at hHeld
  clear hwz
  go_wp2
  go_ret
  exact ⟨rfl, b1.trans (hHeld.bel.mono b1.size)⟩
theorem hgetR (v : Int) (w : World) (h0 : 0 ≤ v) (h1 : v < 4294967296) :
    Calls Tryz.prog 46 #[.int .u64 v, .int .i64 20, .int .i64 44] w fun e w' => e = .returned (.int .u64 (v / 1048576 % 17592186044416)) ∧ Below w.heap.size w w' := by
  have ha : bits .and .u64 (v / 1048576) 17592186044415 = v / 1048576 % 17592186044416 := bits_mask .u64 64 (by decide) wrapsA_u64 44 (by decide) (v / 1048576) (by omega) (by omega)
  go_enter Tryz.func46, Tryz.ntmps46
  go_wp2_with fail
  refine (hfield_any _ _ _ (by omega) (by omega) (by omega) (by omega)).mono ?_
  rintro e w1 ⟨rfl, b1⟩
  go_wp2
  refine wp_region_noPanic ?_
  refine wp_region_held_drew (S := fun w' => BS w1 ([] : List Nat) w') (by kernel_rfl) ?_ (fun hHeld => ?_)
  · exact (BS.start w1).drew
  refine wT 0 ?_
  refine wT 1 ?_
  refine wT 2 ?_
  refine wT 3 ?_
  refine wR 4 fun K hK => ?_
  go_simp
  refine (calls_b hHeld (hmask44 _)).mono ?_
  rintro e wr1 ⟨rfl, hV, hVl⟩
  dsimp only
  refine hK.out _ _ ?_ (fun hHeld2 => ?_)
  · exact hV
  clear hK K hV hVl hHeld
  have hHeld := hHeld2
  clear hHeld2
  try simp only [Act.put, zA, zB, zC, zD, zE, zF]
  refine wT 5 ?_
  refine wT 6 ?_
  refine wpAnyH_done (by kernel_rfl) (NoPanic.normal ?_) _
  refine world_gen ?_
  intro wz hwz
  rw [← hwz] at hHeld
  clear hwz
  go_wp2
  go_ret
  exact ⟨rfl, b1.trans (hHeld.bel.mono b1.size)⟩

theorem pones_any (v : Int) (w : World) (h0 : 0 ≤ v) (h1 : v < 4294967296) :
    Calls Tryz.prog 81 #[.int .u32 v] w fun e w' => e = .returned (.int .i64 (onesN v 32)) ∧ Below w.heap.size w w' := by
  have H := Lib.hid (fun w => ones_any v w h0 h1)
  go_enter Tryz.func81, Tryz.ntmps81
  go_wp2_with fail
  refine (H.out _).mono ?_
  rintro e w1 ⟨rfl, b1⟩
  go_wp2
  go_ret
  exact ⟨rfl, b1⟩
theorem iright_any (k l c : Int) (w : World) :
    Calls Tryz.prog 47 #[.agg #[.int .i64 k, .int .i64 l, .int .i64 c]] w fun e w' => e = .returned (.bool (rightI k l c)) ∧ Below w.heap.size w w' := by
  generalize hr : rightI k l c = r
  have HR := Lib.hid hr
  clear hr
  go_enter Tryz.func47, Tryz.ntmps47
  go_wp2
  all_goals
    go_ret
    refine ⟨ret_bool ?_, ?_⟩
    · have e := HR.out
      subst e
      clear HR
      rw [Bool.eq_iff_iff]
      simp_all [rightI]
      try omega
    · clear HR
      (repeat (first | exact Below.refl _ _ | assumption | refine Below.setCell ?_ (by first | omega | (simp; done) | (simp; omega)) _ | refine Below.alloc ?_ (by first | omega | (simp; done) | (simp; omega)) _ | refine Below.drew ?_ | refine Below.trans ?_ (Below.mono ‹Below _ _ _› (by first | omega | (simp; done) | (simp; omega)))))
theorem okI_eq {v : Int} (h0 : 0 ≤ v) : (decide (v / 1048576 % 17592186044416 = 0) && rightI (v % 16) (v / 16 % 4096) (v / 65536 % 16)) = okI v ∨ ¬ v < 4294967296 := by
  by_cases h : v < 4294967296
  · left
    unfold okI
    by_cases h2 : v / 1048576 = 0
    · rw [show v / 1048576 % 17592186044416 = 0 by omega, show v / 65536 % 16 = v / 65536 by omega]
      simp
    · rw [show decide (v / 1048576 % 17592186044416 = 0) = false by simp; omega]
      have h3 : 16 ≤ v / 65536 := by omega
      have hr : rightI (v % 16) (v / 16 % 4096) (v / 65536) = false := by
        unfold rightI
        repeat' split
        all_goals simp <;> omega
      rw [hr]
      rfl
  · exact Or.inr h
theorem iget_any (v : Int) (w : World) (h0 : 0 ≤ v) (h1 : v < 4294967296) :
    Calls Tryz.prog 21 #[.int .u32 v] w fun e w' => e = .returned (.tuple #[.agg #[.int .i64 (iK v), .int .i64 (iL v), .int .i64 (iC v)], .bool (okI v)]) ∧ Below w.heap.size w w' := by
  have hok := (okI_eq h0).resolve_right (by omega)
  have HK := Lib.hid (fun w => hgetK v w h0 h1)
  have HL := Lib.hid (fun w => hgetL v w h0 h1)
  have HC := Lib.hid (fun w => hgetC v w h0 h1)
  have HR := Lib.hid (fun w => hgetR v w h0 h1)
  have HI := Lib.hid (fun w => iright_any (v % 16) (v / 16 % 4096) (v / 65536 % 16) w)
  have hw : IntKind.u64.wrap v = v := wrapsA_u64 _ h0 (by omega)
  have hwk : IntKind.i64.wrap (v % 16) = v % 16 := wrap_in _ (by omega)
  have hwl : IntKind.i64.wrap (v / 16 % 4096) = v / 16 % 4096 := wrap_in _ (by omega)
  have hwc : IntKind.i64.wrap (v / 65536 % 16) = v / 65536 % 16 := wrap_in _ (by omega)
  have S0 := (BS.start w).alloc (.cells #[.int .i64 0, .int .i64 0, .int .i64 0] 61)
  have r0 := heap_alloc_new w (.cells #[.int .i64 0, .int .i64 0, .int .i64 0] 61)
  have hv1 : iK v = if okI v then v % 16 else 0 := rfl
  have hv2 : iL v = if okI v then v / 16 % 4096 else 0 := rfl
  have hv3 : okI v = true → iC v = v / 65536 % 16 := by
    intro h
    have e : iC v = v / 65536 := by unfold iC; rw [if_pos h]
    have := inf_bd v
    rw [e] at this ⊢
    omega
  have hv4 : okI v = false → iC v = 0 := by intro h; unfold iC; rw [h]; rfl
  have HVV := Lib.hid (And.intro hv1 (And.intro hv2 (And.intro hv3 hv4)))
  clear hv1 hv2 hv3 hv4
  generalize rightI (v % 16) (v / 16 % 4096) (v / 65536 % 16) = rg at *
  generalize v / 1048576 % 17592186044416 = rs at *
  have HOK := Lib.hid hok
  clear hok
  generalize v % 16 = k at *
  generalize v / 16 % 4096 = l at *
  generalize v / 65536 % 16 = c at *
  go_enter Tryz.func21, Tryz.ntmps21
  go_wp2_with fail
  refine (calls_b S0 (HK.out _)).mono ?_
  rintro e w1 ⟨rfl, S1, q1⟩
  have r1 := (q1 w.heap.size (by simp)).trans r0
  go_wp2_with fail
  refine (calls_b S1 (HL.out _)).mono ?_
  rintro e w2 ⟨rfl, S2, q2⟩
  have r2 := (q2 w.heap.size (by simp)).trans r1
  go_wp2_with fail
  refine (calls_b S2 (HC.out _)).mono ?_
  rintro e w3 ⟨rfl, S3, q3⟩
  have r3 := (q3 w.heap.size (by simp)).trans r2
  have A3 := S3.allocd #[.int .i64 k, .int .i64 l, .int .i64 c] 61
  have r3a := (heap_alloc_old _ (.cells #[.int .i64 k, .int .i64 l, .int .i64 c] 61) (S3.ls w.heap.size (by simp)).1).trans r3
  have hne : w.heap.size ≠ w3.heap.size := by have := (S3.ls w.heap.size (by simp)).1; omega
  clear S0 S1 S2 S3 q1 q2 q3 r0 r1 r2 r3 HK HL HC
  go_wp2_with fail
  refine (calls_b A3.bs (HR.out _)).mono ?_
  rintro e w4 ⟨rfl, S4, q4⟩
  have r4 := (q4 w.heap.size (by simp)).trans r3a
  have i4 := (q4 w3.heap.size (by simp)).trans A3.box
  obtain ⟨⟨a0, a1, a2⟩, -, -, -⟩ := cells3 i4
  clear A3 r3a q4 HR
  by_cases hrs : rs = 0
  · subst hrs
    go_wp2_with fail
    refine (calls_b S4 (HI.out _)).mono ?_
    rintro e w5 ⟨rfl, S5, q5⟩
    have r5 := (q5 w.heap.size (by simp)).trans r4
    have i5 := (q5 w3.heap.size (by simp)).trans i4
    clear r4 i4 S4 q5 a0 a1 a2
    obtain ⟨⟨a0, a1, a2⟩, -, -, -⟩ := cells3 i5
    clear i5
    cases rg
    · have rZ := r5
      have SZ := S5
      clear r5 S5
      obtain ⟨⟨d0, d1, d2⟩, j0, j1, j2⟩ := cells3 rZ
      have HSZ := Lib.hid SZ
      clear rZ SZ
      go_wp2
      refine bodyPost_ret (v := .tuple #[.agg #[.int .i64 0, .int .i64 0, .int .i64 0], .bool false]) (by simp [results, Tryz.results21, go_sem, *]) rfl ⟨?_, ?_⟩
      · obtain ⟨f1, f2, f3, f4⟩ := HVV.out
        have hO := HOK.out
        have hF : okI v = false := by rw [← hO]; rfl
        rw [f1, f2, f4 hF, hF]
        rfl
      · have hm : w.heap.size ∈ [w3.heap.size, w.heap.size] := by simp
        exact (((HSZ.out.setCell hm 0 _).setCell hm 1 _).setCell hm 2 _).bel
    · have rZ := r5
      have SZ := S5
      clear r5 S5
      obtain ⟨⟨d0, d1, d2⟩, j0, j1, j2⟩ := cells3 rZ
      have HSZ := Lib.hid SZ
      clear rZ SZ
      go_wp2
      refine bodyPost_ret (v := .tuple #[.agg #[.int .i64 k, .int .i64 l, .int .i64 c], .bool true]) (by simp [results, Tryz.results21, go_sem, *]) rfl ⟨?_, ?_⟩
      · obtain ⟨f1, f2, f3, f4⟩ := HVV.out
        have hO := HOK.out
        have hT : okI v = true := by rw [← hO]; rfl
        rw [f1, f2, f3 hT, hT]
        rfl
      · have hm : w.heap.size ∈ [w3.heap.size, w.heap.size] := by simp
        exact (((HSZ.out.setCell hm 0 _).setCell hm 1 _).setCell hm 2 _).bel
  · have hrb : (rs != 0) = true := by simpa using hrs
    have rZ := r4
    have SZ := S4
    clear r4 S4 i4
    obtain ⟨⟨d0, d1, d2⟩, j0, j1, j2⟩ := cells3 rZ
    have HSZ := Lib.hid SZ
    clear rZ SZ
    go_wp2
    refine bodyPost_ret (v := .tuple #[.agg #[.int .i64 0, .int .i64 0, .int .i64 0], .bool false]) (by simp [results, Tryz.results21, go_sem, *]) rfl ⟨?_, ?_⟩
    · obtain ⟨f1, f2, f3, f4⟩ := HVV.out
      have hO := HOK.out
      have hF : okI v = false := by rw [← hO]; simp [hrs]
      rw [f1, f2, f4 hF, hF]
      rfl
    · have hm : w.heap.size ∈ [w3.heap.size, w.heap.size] := by simp
      exact (((HSZ.out.setCell hm 0 _).setCell hm 1 _).setCell hm 2 _).bel
end Go.Proofs.YtpmoajhpgekhcaaGreat
