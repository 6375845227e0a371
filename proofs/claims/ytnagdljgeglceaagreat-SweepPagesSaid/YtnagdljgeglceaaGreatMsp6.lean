/- parts of the proof, merged by a program. -/
import Derived.Test.YtnagdljgeglceaaGreatMsp1
import Derived.Test.YtnagdljgeglceaaGreatMsp3
import Derived.Shelf.Strconv.Itoa0
import Derived.Lib.BitFns
import Derived.Lib.Tables
import Derived.Laws.BitsLemmas
set_option linter.unusedSimpArgs false
set_option linter.unusedVariables false
/- half, info: what a free span's info is worth. -/
set_option linter.unusedSimpArgs false
set_option linter.unusedVariables false
namespace Go.Proofs.YtnagdljgeglceaaGreat
open Go.RowKit

theorem hfield_any (a b : Int) (w : World) (h0 : 0 ≤ a) (h1 : 1 ≤ b) (h2 : b ≤ 64) (h3 : a ≤ 64 - b) :
 Calls Tryz.prog 115 #[.int .i64 a, .int .i64 b] w fun e w' => e = .returned (.bool true) ∧ Below w.heap.size w w' := by
 go_enter Tryz.func115, Tryz.ntmps115
 go_wp2
 go_ret
 exact ⟨rfl, Below.refl _ _⟩
theorem hmask12 (w : World) : Calls Tryz.prog 116 #[.int .i64 12] w fun e w' => e = .returned (.int .u64 4095) ∧ Below w.heap.size w w' := by
 go_enter Tryz.func116, Tryz.ntmps116
 go_wp2
 go_ret
 exact ⟨rfl, Below.refl _ _⟩
theorem hmask4 (w : World) : Calls Tryz.prog 116 #[.int .i64 4] w fun e w' => e = .returned (.int .u64 15) ∧ Below w.heap.size w w' := by
 go_enter Tryz.func116, Tryz.ntmps116
 go_wp2
 go_ret
 exact ⟨rfl, Below.refl _ _⟩
theorem hlo_any (v : Int) (w : World) (h0 : 0 ≤ v) (h1 : v < 4294967296) : Calls Tryz.prog 191 #[.int .u64 v] w fun e w' => e = .returned (.int .u32 v) ∧ Below w.heap.size w w' := by
 have hw : IntKind.u32.wrap v = v := IntWalk.u32_in _ (by omega)
 go_enter Tryz.func191, Tryz.ntmps191
 go_wp2
 go_ret
 exact ⟨rfl, Below.refl _ _⟩
theorem iright_free (n : Int) (w : World) (h1 : 1 ≤ n) (h2 : n ≤ 1024) : Calls Tryz.prog 78 #[.agg #[.int .i64 1, .int .i64 n, .int .i64 0]] w fun e w' => e = .returned (.bool true) ∧ Below w.heap.size w w' := by
 go_enter Tryz.func78, Tryz.ntmps78
 go_wp2
 go_ret
 exact ⟨rfl, (Below.refl _ _).alloc (Nat.le_refl _) _⟩
theorem bpage_any (t p s q : Int) (w : World) (h0 : 0 ≤ q) (h1 : q < p) : Calls Tryz.prog 175 #[.agg #[.int .i64 t, .int .i64 p, .int .i64 s], .int .i64 q] w fun e w' => e = .returned (.bool true) ∧ Below w.heap.size w w' := by
 go_enter Tryz.func175, Tryz.ntmps175
 go_wp2
 go_ret
 exact ⟨rfl, (Below.refl _ _).alloc (Nat.le_refl _) _⟩
theorem put12 : ∀ n : Nat, n < 1025 → bits BinOp.or IntKind.u64 (bits BinOp.andNot IntKind.u64 1 (IntKind.u64.wrap 65520)) (IntKind.u64.wrap ((n : Int) * 16)) = 1 + 16 * (n : Int) := by decide +kernel
theorem put4 : ∀ n : Nat, n < 1025 → bits BinOp.or IntKind.u64 (bits BinOp.andNot IntKind.u64 (1 + 16 * (n : Int)) (IntKind.u64.wrap 983040)) 0 = 1 + 16 * (n : Int) := by decide +kernel
theorem hput1_any (n : Nat) (w : World) (h1 : 1 ≤ n) (h2 : n ≤ 1024) : Calls Tryz.prog 190 #[.int .u64 1, .int .i64 4, .int .i64 12, .int .u64 n] w fun e w' => e = .returned (.tuple #[.int .u64 (1 + 16 * n), .bool true]) ∧ Below w.heap.size w w' := by
 go_enter Tryz.func190, Tryz.ntmps190
 go_wp2_with fail
 refine (hfield_any _ _ _ (by omega) (by omega) (by omega) (by omega)).mono ?_
 rintro e w1 ⟨rfl, b1⟩
 go_wp2_with fail
 refine (hmask12 _).mono ?_
 rintro e w2 ⟨rfl, b2⟩
 go_wp2_with fail
 refine wp_region_noPanic ?_
 refine wp_region_held_drew (S := fun w' => BS w2 ([] : List Nat) w') (by kernel_rfl) ?_ (fun hHeld => ?_)
 ·exact (BS.start w2).drew
 refine wpAnyH_take (i := 0) (oi := _) (v := ?_) rfl (by kernel_rfl) (by kernel_rfl) (by kernel_rfl) (fun _ _ _ h => h) (Or.inl ⟨by rfl, ?_⟩) (by assumption) ?_
 rotate_left
 ·intro w hSw; (try dsimp only at hSw); go_simp; try with_reducible rfl
 try simp only [Act.put, zA, zB, zD, zE, zF]
 refine wpAnyH_take (i := 1) (oi := _) (v := ?_) rfl (by kernel_rfl) (by kernel_rfl) (by kernel_rfl) (fun _ _ _ h => h) (Or.inl ⟨by rfl, ?_⟩) (by assumption) ?_
 rotate_left
 ·intro w hSw; (try dsimp only at hSw); go_simp; try with_reducible rfl
 try simp only [Act.put, zA, zB, zC, zD, zE, zF]
 refine wpAnyH_take (i := 3) (oi := _) (v := ?_) rfl (by kernel_rfl) (by kernel_rfl) (by kernel_rfl) (fun _ _ _ h => h) (Or.inl ⟨by rfl, ?_⟩) (by assumption) ?_
 rotate_left
 ·intro w hSw; (try dsimp only at hSw); go_simp; try with_reducible rfl
 try simp only [Act.put, zA, zB, zC, zD, zE, zF]
 refine wpAnyH_take (i := 6) (oi := _) (v := ?_) rfl (by kernel_rfl) (by kernel_rfl) (by kernel_rfl) (fun _ _ _ h => h) (Or.inl ⟨by rfl, ?_⟩) (by assumption) ?_
 rotate_left
 ·intro w hSw; (try dsimp only at hSw); go_simp; try with_reducible rfl
 try simp only [Act.put, zA, zB, zC, zD, zE, zF]
 refine wpAnyH_take (i := 7) (oi := _) (v := ?_) rfl (by kernel_rfl) (by kernel_rfl) (by kernel_rfl) (fun _ _ _ h => h) (Or.inl ⟨by rfl, ?_⟩) (by assumption) ?_
 rotate_left
 ·intro w hSw; (try dsimp only at hSw); go_simp; try with_reducible rfl
 try simp only [Act.put, zA, zB, zC, zD, zE, zF]
 refine wpAnyH_take (i := 8) (oi := _) (v := ?_) rfl (by kernel_rfl) (by kernel_rfl) (by kernel_rfl) (fun _ _ _ h => h) (Or.inl ⟨by rfl, ?_⟩) (by assumption) ?_
 rotate_left
 ·intro w hSw; (try dsimp only at hSw); go_simp; try with_reducible rfl
 try simp only [Act.put, zA, zB, zC, zD, zE, zF]
 refine wpAnyH_ready (rs := [2]) (by kernel_rfl) (by simp) ?_
 refine AllReadyH.cons (o := _) rfl (fun K hK => ?_) AllReadyH.nil
 go_simp
 refine (calls_b hHeld (hmask12 _)).mono ?_
 rintro e wr1 ⟨rfl, hV, hVl⟩
 dsimp only
 refine hK.out _ _ ?_ (fun hHeld2 => ?_)
 ·exact hV
 clear hK K hV hVl hHeld
 have hHeld := hHeld2
 clear hHeld2
 try simp only [Act.put, zA, zB, zC, zD, zE, zF]
 refine wpAnyH_take (i := 4) (oi := _) (v := ?_) rfl (by kernel_rfl) (by kernel_rfl) (by kernel_rfl) (fun _ _ _ h => h) (Or.inl ⟨by rfl, ?_⟩) (by assumption) ?_
 rotate_left
 ·intro w hSw; (try dsimp only at hSw); go_simp; try with_reducible rfl
 try simp only [Act.put, zA, zB, zC, zD, zE, zF]
 refine wpAnyH_take (i := 5) (oi := _) (v := ?_) rfl (by kernel_rfl) (by kernel_rfl) (by kernel_rfl) (fun _ _ _ h => h) (Or.inl ⟨by rfl, ?_⟩) (by assumption) ?_
 rotate_left
 ·intro w hSw; (try dsimp only at hSw); go_simp; try with_reducible rfl
 try simp only [Act.put, zA, zB, zC, zD, zE, zF]
 refine wpAnyH_take (i := 9) (oi := _) (v := ?_) rfl (by kernel_rfl) (by kernel_rfl) (by kernel_rfl) (fun _ _ _ h => h) (Or.inl ⟨by rfl, ?_⟩) (by assumption) ?_
 rotate_left
 ·intro w hSw; (try dsimp only at hSw); go_simp; try with_reducible rfl
 try simp only [Act.put, zA, zB, zC, zD, zE, zF]
 refine wpAnyH_take (i := 10) (oi := _) (v := ?_) rfl (by kernel_rfl) (by kernel_rfl) (by kernel_rfl) (fun _ _ _ h => h) (Or.inl ⟨by rfl, ?_⟩) (by assumption) ?_
 rotate_left
 ·intro w hSw; (try dsimp only at hSw); go_simp; try with_reducible rfl
 try simp only [Act.put, zA, zB, zC, zD, zE, zF]
 refine wpAnyH_take (i := 11) (oi := _) (v := ?_) rfl (by kernel_rfl) (by kernel_rfl) (by kernel_rfl) (fun _ _ _ h => h) (Or.inl ⟨by rfl, ?_⟩) (by assumption) ?_
 rotate_left
 ·intro w hSw; (try dsimp only at hSw); go_simp; try with_reducible rfl
 try simp only [Act.put, zA, zB, zC, zD, zE, zF]
 refine wpAnyH_done (by kernel_rfl) ?_ _
 refine NoPanic.normal ?_
 refine world_gen ?_
 intro wz hwz
 rw [← hwz] at hHeld
 clear hwz
 have bel := hHeld.bel
 clear hHeld
 go_wp2
 exact bodyPost_ret (v := .tuple #[.int .u64 (1 + 16 * n), .bool true]) (by simp [results, Tryz.results190, go_sem]; exact put12 n (by omega)) rfl ⟨rfl, b1.trans ((b2.trans (bel.mono b2.size)).mono b1.size)⟩
theorem hput2_any (n : Nat) (w : World) (h1 : 1 ≤ n) (h2 : n ≤ 1024) : Calls Tryz.prog 190 #[.int .u64 (1 + 16 * n), .int .i64 16, .int .i64 4, .int .u64 0] w fun e w' => e = .returned (.tuple #[.int .u64 (1 + 16 * n), .bool true]) ∧ Below w.heap.size w w' := by
 have hp := put4 n (by omega)
 have HP := Lib.hid hp
 clear hp
 generalize (1 + 16 * (n : Int)) = v at *
 go_enter Tryz.func190, Tryz.ntmps190
 go_wp2_with fail
 refine (hfield_any _ _ _ (by omega) (by omega) (by omega) (by omega)).mono ?_
 rintro e w1 ⟨rfl, b1⟩
 go_wp2_with fail
 refine (hmask4 _).mono ?_
 rintro e w2 ⟨rfl, b2⟩
 go_wp2_with fail
 refine wp_region_noPanic ?_
 refine wp_region_held_drew (S := fun w' => BS w2 ([] : List Nat) w') (by kernel_rfl) ?_ (fun hHeld => ?_)
 ·exact (BS.start w2).drew
 refine wpAnyH_take (i := 0) (oi := _) (v := ?_) rfl (by kernel_rfl) (by kernel_rfl) (by kernel_rfl) (fun _ _ _ h => h) (Or.inl ⟨by rfl, ?_⟩) (by assumption) ?_
 rotate_left
 ·intro w hSw; (try dsimp only at hSw); go_simp; try with_reducible rfl
 try simp only [Act.put, zA, zB, zD, zE, zF]
 refine wpAnyH_take (i := 1) (oi := _) (v := ?_) rfl (by kernel_rfl) (by kernel_rfl) (by kernel_rfl) (fun _ _ _ h => h) (Or.inl ⟨by rfl, ?_⟩) (by assumption) ?_
 rotate_left
 ·intro w hSw; (try dsimp only at hSw); go_simp; try with_reducible rfl
 try simp only [Act.put, zA, zB, zC, zD, zE, zF]
 refine wpAnyH_take (i := 3) (oi := _) (v := ?_) rfl (by kernel_rfl) (by kernel_rfl) (by kernel_rfl) (fun _ _ _ h => h) (Or.inl ⟨by rfl, ?_⟩) (by assumption) ?_
 rotate_left
 ·intro w hSw; (try dsimp only at hSw); go_simp; try with_reducible rfl
 try simp only [Act.put, zA, zB, zC, zD, zE, zF]
 refine wpAnyH_take (i := 6) (oi := _) (v := ?_) rfl (by kernel_rfl) (by kernel_rfl) (by kernel_rfl) (fun _ _ _ h => h) (Or.inl ⟨by rfl, ?_⟩) (by assumption) ?_
 rotate_left
 ·intro w hSw; (try dsimp only at hSw); go_simp; try with_reducible rfl
 try simp only [Act.put, zA, zB, zC, zD, zE, zF]
 refine wpAnyH_take (i := 7) (oi := _) (v := ?_) rfl (by kernel_rfl) (by kernel_rfl) (by kernel_rfl) (fun _ _ _ h => h) (Or.inl ⟨by rfl, ?_⟩) (by assumption) ?_
 rotate_left
 ·intro w hSw; (try dsimp only at hSw); go_simp; try with_reducible rfl
 try simp only [Act.put, zA, zB, zC, zD, zE, zF]
 refine wpAnyH_take (i := 8) (oi := _) (v := ?_) rfl (by kernel_rfl) (by kernel_rfl) (by kernel_rfl) (fun _ _ _ h => h) (Or.inl ⟨by rfl, ?_⟩) (by assumption) ?_
 rotate_left
 ·intro w hSw; (try dsimp only at hSw); go_simp; try with_reducible rfl
 try simp only [Act.put, zA, zB, zC, zD, zE, zF]
 refine wpAnyH_ready (rs := [2]) (by kernel_rfl) (by simp) ?_
 refine AllReadyH.cons (o := _) rfl (fun K hK => ?_) AllReadyH.nil
 go_simp
 refine (calls_b hHeld (hmask4 _)).mono ?_
 rintro e wr1 ⟨rfl, hV, hVl⟩
 dsimp only
 refine hK.out _ _ ?_ (fun hHeld2 => ?_)
 ·exact hV
 clear hK K hV hVl hHeld
 have hHeld := hHeld2
 clear hHeld2
 try simp only [Act.put, zA, zB, zC, zD, zE, zF]
 refine wpAnyH_take (i := 4) (oi := _) (v := ?_) rfl (by kernel_rfl) (by kernel_rfl) (by kernel_rfl) (fun _ _ _ h => h) (Or.inl ⟨by rfl, ?_⟩) (by assumption) ?_
 rotate_left
 ·intro w hSw; (try dsimp only at hSw); go_simp; try with_reducible rfl
 try simp only [Act.put, zA, zB, zC, zD, zE, zF]
 refine wpAnyH_take (i := 5) (oi := _) (v := ?_) rfl (by kernel_rfl) (by kernel_rfl) (by kernel_rfl) (fun _ _ _ h => h) (Or.inl ⟨by rfl, ?_⟩) (by assumption) ?_
 rotate_left
 ·intro w hSw; (try dsimp only at hSw); go_simp; try with_reducible rfl
 try simp only [Act.put, zA, zB, zC, zD, zE, zF]
 refine wpAnyH_take (i := 9) (oi := _) (v := ?_) rfl (by kernel_rfl) (by kernel_rfl) (by kernel_rfl) (fun _ _ _ h => h) (Or.inl ⟨by rfl, ?_⟩) (by assumption) ?_
 rotate_left
 ·intro w hSw; (try dsimp only at hSw); go_simp; try with_reducible rfl
 try simp only [Act.put, zA, zB, zC, zD, zE, zF]
 refine wpAnyH_take (i := 10) (oi := _) (v := ?_) rfl (by kernel_rfl) (by kernel_rfl) (by kernel_rfl) (fun _ _ _ h => h) (Or.inl ⟨by rfl, ?_⟩) (by assumption) ?_
 rotate_left
 ·intro w hSw; (try dsimp only at hSw); go_simp; try with_reducible rfl
 try simp only [Act.put, zA, zB, zC, zD, zE, zF]
 refine wpAnyH_take (i := 11) (oi := _) (v := ?_) rfl (by kernel_rfl) (by kernel_rfl) (by kernel_rfl) (fun _ _ _ h => h) (Or.inl ⟨by rfl, ?_⟩) (by assumption) ?_
 rotate_left
 ·intro w hSw; (try dsimp only at hSw); go_simp; try with_reducible rfl
 try simp only [Act.put, zA, zB, zC, zD, zE, zF]
 refine wpAnyH_done (by kernel_rfl) ?_ _
 refine NoPanic.normal ?_
 refine world_gen ?_
 intro wz hwz
 rw [← hwz] at hHeld
 clear hwz
 have bel := hHeld.bel
 clear hHeld
 go_wp2
 exact bodyPost_ret (v := .tuple #[.int .u64 v, .bool true]) (by simp [results, Tryz.results190, go_sem]; exact HP.out) rfl ⟨rfl, b1.trans ((b2.trans (bel.mono b2.size)).mono b1.size)⟩

/-- a free span's info. -/
theorem iput_free (n : Nat) (w : World) (h1 : 1 ≤ n) (h2 : n ≤ 1024) : Calls Tryz.prog 176 #[.agg #[.int .i64 1, .int .i64 n, .int .i64 0]] w fun e w' => e = .returned (.tuple #[.int .u32 (1 + 16 * n), .bool true]) ∧ Below w.heap.size w w' := by
 have H1 := Lib.hid (fun w => iright_free n w (by omega) (by omega))
 have H2 := Lib.hid (fun w => hput1_any n w h1 h2)
 have H3 := Lib.hid (fun w => hput2_any n w h1 h2)
 have H4 := Lib.hid (fun w => hlo_any (1 + 16 * n) w (by omega) (by omega))
 generalize (1 + 16 * (n : Int)) = v at *
 go_enter Tryz.func176, Tryz.ntmps176
 go_wp2_with fail
 refine (H1.out _).mono ?_
 rintro e w1 ⟨rfl, ha⟩
 obtain ⟨hac, haf⟩ := bcell ha
 have haz0 : w.heap.size < w1.heap.size := by have := ha.size; first | omega | (simp at this; omega)
 go_wp2_with fail
 refine (H2.out _).mono ?_
 rintro e w2 ⟨rfl, hb⟩
 obtain ⟨hbc, hbf⟩ := bcell hb
 have hbz0 : w1.heap.size ≤ w2.heap.size := by have := hb.size; first | omega | (simp at this; omega)
 have hbz1 : w.heap.size < w2.heap.size := by have := hb.size; first | omega | (simp at this; omega)
 go_wp2_with fail
 refine (H3.out _).mono ?_
 rintro e w3 ⟨rfl, hc⟩
 obtain ⟨hcc, hcf⟩ := bcell hc
 have hcz0 : w2.heap.size ≤ w3.heap.size := by have := hc.size; first | omega | (simp at this; omega)
 have hcz1 : w.heap.size < w3.heap.size := by have := hc.size; first | omega | (simp at this; omega)
 go_wp2_with fail
 refine (H4.out _).mono ?_
 rintro e w4 ⟨rfl, hd⟩
 obtain ⟨hdc, hdf⟩ := bcell hd
 go_wp2
 refine bodyPost_ret (v := .tuple #[.int .u32 v, .bool true]) (by simp [results, Tryz.results176, go_sem]) rfl ⟨rfl, ?_⟩
 (repeat (first | exact Below.refl _ _ | assumption | refine Below.setCell ?_ (by first | omega | (simp; done) | (simp; omega)) _ | refine Below.alloc ?_ (by first | omega | (simp; done) | (simp; omega)) _ | refine Below.drew ?_ | refine Below.trans ?_ (Below.mono ‹Below _ _ _› (by first | omega | (simp; done) | (simp; omega)))))
end Go.Proofs.YtnagdljgeglceaaGreat
/- bin: a free span is added. -/
set_option linter.unusedSimpArgs false
set_option linter.unusedVariables false
namespace Go.Proofs.YtnagdljgeglceaaGreat
open Go.RowKit

theorem pinfo_any (t p s q : Int) (w : World) :
 Calls Tryz.prog 33 #[.agg #[.int .i64 t, .int .i64 p, .int .i64 s], .int .i64 q] w fun e w' => e = .returned (.int .i64 (ofF t p s q 0)) ∧ Below w.heap.size w w' := by
 go_enter Tryz.func33, Tryz.ntmps33
 go_wp2_with fail
 refine (of_any _ _ _ _ _ _ (by omega) (by omega)).mono ?_
 rintro e w1 ⟨rfl, ha⟩
 obtain ⟨hac, haf⟩ := bcell ha
 go_wp2
 go_ret
 refine ⟨rfl, ?_⟩
 (repeat (first | exact Below.refl _ _ | assumption | refine Below.setCell ?_ (by first | omega | (simp; done) | (simp; omega)) _ | refine Below.alloc ?_ (by first | omega | (simp; done) | (simp; omega)) _ | refine Below.drew ?_ | refine Below.trans ?_ (Below.mono ‹Below _ _ _› (by first | omega | (simp; done) | (simp; omega)))))
theorem pfoot_any (t p s q : Int) (w : World) :
 Calls Tryz.prog 159 #[.agg #[.int .i64 t, .int .i64 p, .int .i64 s], .int .i64 q] w fun e w' => e = .returned (.int .i64 (ofF t p s q 1)) ∧ Below w.heap.size w w' := by
 go_enter Tryz.func159, Tryz.ntmps159
 go_wp2_with fail
 refine (of_any _ _ _ _ _ _ (by omega) (by omega)).mono ?_
 rintro e w1 ⟨rfl, ha⟩
 obtain ⟨hac, haf⟩ := bcell ha
 go_wp2
 go_ret
 refine ⟨rfl, ?_⟩
 (repeat (first | exact Below.refl _ _ | assumption | refine Below.setCell ?_ (by first | omega | (simp; done) | (simp; omega)) _ | refine Below.alloc ?_ (by first | omega | (simp; done) | (simp; omega)) _ | refine Below.drew ?_ | refine Below.trans ?_ (Below.mono ‹Below _ _ _› (by first | omega | (simp; done) | (simp; omega)))))
theorem pbin_any (k : Int) (w : World) :
 Calls Tryz.prog 177 #[.int .i64 k] w fun e w' => e = .returned (.int .i64 (withinF 2 k 11)) ∧ Below w.heap.size w w' := by
 go_enter Tryz.func177, Tryz.ntmps177
 go_wp2_with fail
 refine (within_any 2 k 11 w (by omega) (by omega) (by omega)).mono ?_
 rintro e w1 ⟨rfl, rfl⟩
 go_wp2
 go_ret
 exact ⟨rfl, Below.refl _ _⟩
/-- math/bits.Len64 by the library's contract: the body is the one that the contract speaks of. -/
def lenRen : Go.Shelf.Ren := ⟨fun | 129 => 192 | n => n, fun | 3 => 3 | 4 => 4 | 5 => 5 | 9 => 9 | 46 => 157 | 53 => 118 | n => n, fun n => n⟩
theorem lenLays : Go.Proofs.Lays.n129 Tryz.prog lenRen where
 mixed := by kernel_rfl
 f129 := Tryz.func192.trans (congrArg some (by kernel_rfl))
 t3 := Tryz.underlying3
 a3 := Tryz.isAgg3
 z3 := Tryz.sizeOf3
 v3 := Tryz.zeroValue3
 t4 := Tryz.underlying4
 a4 := Tryz.isAgg4
 z4 := Tryz.sizeOf4
 v4 := Tryz.zeroValue4
 t5 := Tryz.underlying5
 a5 := Tryz.isAgg5
 z5 := Tryz.sizeOf5
 v5 := Tryz.zeroValue5
 t9 := Tryz.underlying9
 a9 := Tryz.isAgg9
 z9 := Tryz.sizeOf9
 v9 := Tryz.zeroValue9
 t46 := Tryz.underlying157
 a46 := Tryz.isAgg157
 z46 := Tryz.sizeOf157
 v46 := Tryz.zeroValue157
 t53 := Tryz.underlying118
 a53 := Tryz.isAgg118
 z53 := Tryz.sizeOf118
 v53 := Tryz.zeroValue118
theorem len64_any (n : Int) (w : World) (h1 : 0 ≤ n) (h2 : n ≤ 18446744073709551615) :
 Calls Tryz.prog 192 #[.int .u64 n] w fun e w' => e = .returned (.int .i64 (Lib.bitLen n.toNat)) ∧ Below w.heap.size w w' :=
 (Go.Proofs.Any.bits_Len64 lenLays n w h1 h2).mono fun _ _ ⟨he, hw⟩ => ⟨he, by rw [hw]; exact Below.refl _ _⟩

theorem bitLen_le : ∀ n : Nat, n < 1025 → Lib.bitLen n = bitsN n := by decide +kernel
theorem hlog_any (n : Nat) (w : World) (h1 : 1 ≤ n) (h2 : n ≤ 1024) :
 Calls Tryz.prog 181 #[.int .i64 n] w fun e w' => e = .returned (.int .i64 (logF n)) ∧ Below w.heap.size w w' := by
 have H := Lib.hid (fun w => len64_any n w (by omega) (by omega))
 have hb := bitLen_le n (by omega)
 have hl : logF n = (Lib.bitLen n : Int) - 1 := by rw [hb]; simp [logF]
 have hbl := bitsN_le n
 have HL := Lib.hid hl
 rw [← hb] at hbl
 simp only [Int.toNat_natCast] at H
 generalize Lib.bitLen n = m at *
 clear hb hl
 go_enter Tryz.func181, Tryz.ntmps181
 go_wp2_with fail
 refine (H.out _).mono ?_
 rintro e w1 ⟨rfl, b1⟩
 go_wp2
 go_ret
 exact ⟨ret_int HL.out.symm, b1⟩
theorem bof_any (n : Nat) (w : World) (h1 : 1 ≤ n) (h2 : n ≤ 1024) :
 Calls Tryz.prog 178 #[.int .i64 n] w fun e w' => e = .returned (.int .i64 (logF n)) ∧ Below w.heap.size w w' := by
 have H := Lib.hid (fun w => hlog_any n w h1 h2)
 generalize logF n = m at *
 go_enter Tryz.func178, Tryz.ntmps178
 go_wp2_with fail
 refine (H.out _).mono ?_
 rintro e w1 ⟨rfl, b1⟩
 go_wp2
 go_ret
 exact ⟨rfl, b1⟩
end Go.Proofs.YtnagdljgeglceaaGreat
/- bin: Add. -/
set_option linter.unusedSimpArgs false
set_option linter.unusedVariables false
namespace Go.Proofs.YtnagdljgeglceaaGreat
open Go.RowKit

def addF (t p s : Int) (q n : Nat) (st : VS) : VS :=
 pushF t p s (withinF 2 (logF n) 11) q ((st.put (ofF t p s q 0) (1 + 16 * n)).put (ofF t p s ((q : Int) + n - 1) 1) ((q : Int) + 1))

set_option maxHeartbeats 1000000 in
set_option maxRecDepth 100000 in
theorem badd_any (b : Nat) (t p s : Int) (q n : Nat) (w : World) (S : Nat → Prop) (st : VS) (h : PV w b S st) (hp : p ≤ 1024) (h0 : (q : Int) < p) (h1 : 1 ≤ n) (h2 : (n : Int) ≤ p - q) :
 Calls Tryz.prog 149 #[.pointer (some ⟨b, 0, none⟩), .agg #[.int .i64 t, .int .i64 p, .int .i64 s], .int .i64 q, .int .i64 n] w fun e w' => e = .returned (.tuple #[]) ∧ Now w b S (addF t p s q n st) w' := by
 have hV := (VSt.start keepsPV h).alloc keepsPV (.cells #[.int .i64 t, .int .i64 p, .int .i64 s] 23)
 have c0 := loc_alloc w #[.int .i64 t, .int .i64 p, .int .i64 s] 23
 have HP := Lib.hid (fun w => bpage_any t p s q w (by omega) h0)
 have HI := Lib.hid (fun w => iput_free n w h1 (by omega))
 have HO := Lib.hid (fun w => bof_any n w h1 (by omega))
 have U1 := Lib.hid (show VS.U32 (1 + 16 * (n : Int)) from ⟨by omega, by omega⟩)
 have U2 := Lib.hid (show VS.U32 ((q : Int) + 1) from ⟨by omega, by omega⟩)
 have hF : addF t p s q n st = pushF t p s (withinF 2 (logF n) 11) q ((st.put (ofF t p s q 0) (1 + 16 * n)).put (ofF t p s ((q : Int) + n - 1) 1) ((q : Int) + 1)) := rfl
 rw [hF]
 have hw1 : IntKind.i64.wrap ((q : Int) + n - 1) = (q : Int) + n - 1 := wrap_in _ (by omega)
 have hw2 : IntKind.u32.wrap ((q : Int) + 1) = (q : Int) + 1 := IntWalk.u32_in _ (by omega)
 clear h hF
 generalize logF n = lg at *
 generalize hx : 1 + 16 * (n : Int) = iv at *
 clear hx
 go_enter Tryz.func149, Tryz.ntmps149
 go_wp2_with fail
 refine (calls_bl keepsPV hV (HP.out _)).mono ?_
 rintro e w1 ⟨rfl, hV1, hV1l⟩
 have c1 := loc_step hV1l (by simp) c0
 clear hV1l
 go_wp2_with fail
 refine (calls_bl keepsPV hV1 (HI.out _)).mono ?_
 rintro e w2 ⟨rfl, hV2, hV2l⟩
 have c2 := loc_step hV2l (by simp) c1
 clear hV2l
 go_wp2_with fail
 refine (calls_bl keepsPV hV2 (pinfo_any _ _ _ _ _)).mono ?_
 rintro e w3 ⟨rfl, hV3, hV3l⟩
 have c3 := loc_step hV3l (by simp) c2
 clear hV3l
 go_wp2_with fail
 refine (calls_st hV3 (fun S1 h1 => put_any _ _ _ _ _ _ h1 U1.out)).mono ?_
 rintro e w4 ⟨rfl, hV4, hV4l⟩
 have c4 := loc_step hV4l (by simp) c3
 clear hV4l
 go_wp2_with fail
 refine (calls_bl keepsPV hV4 (pfoot_any _ _ _ _ _)).mono ?_
 rintro e w5 ⟨rfl, hV5, hV5l⟩
 have c5 := loc_step hV5l (by simp) c4
 clear hV5l
 go_wp2_with fail
 refine (calls_st hV5 (fun S1 h1 => put_any _ _ _ _ _ _ h1 U2.out)).mono ?_
 rintro e w6 ⟨rfl, hV6, hV6l⟩
 have c6 := loc_step hV6l (by simp) c5
 clear hV6l
 go_wp2_with fail
 have hV6d := hV6.drew keepsPV
 refine wp_region_noPanic ?_
 refine wp_region_held_drew (S := fun w' => (∀ o : Nat, w'.cell? ⟨w.heap.size, o, none⟩ = (#[.int .i64 t, .int .i64 p, .int .i64 s] : Array Value)[o]?)) (by kernel_rfl) ?_ (fun hHeld => ?_)
 ·exact c6
 refine wpAnyH_take (i := 0) (oi := _) (v := ?_) rfl (by kernel_rfl) (by kernel_rfl) (by kernel_rfl) (fun _ _ _ h => h) (Or.inl ⟨by rfl, ?_⟩) (by assumption) ?_
 rotate_left
 ·intro w hSw; (try dsimp only at hSw); go_simp; try with_reducible rfl
 try simp only [Act.put, zA, zB, zD, zE, zF]
 refine wpAnyH_take (i := 1) (oi := _) (v := ?_) rfl (by kernel_rfl) (by kernel_rfl) (by kernel_rfl) (fun _ _ _ h => h) (Or.inl ⟨by rfl, ?_⟩) (by assumption) ?_
 rotate_left
 ·intro w hSw; (try dsimp only at hSw); go_simp; try with_reducible rfl
 try simp only [Act.put, zA, zB, zC, zD, zE, zF]
 refine wpAnyH_take (i := 2) (oi := _) (v := ?_) rfl (by kernel_rfl) (by kernel_rfl) (by kernel_rfl) (fun _ _ _ h => h) (Or.inl ⟨by rfl, ?_⟩) (by assumption) ?_
 rotate_left
 ·intro w hSw; (try dsimp only at hSw); go_simp; try with_reducible rfl
 try simp only [Act.put, zA, zB, zC, zD, zE, zF]
 refine wpAnyH_take (i := 5) (oi := _) (v := ?_) rfl (by kernel_rfl) (by kernel_rfl) (by kernel_rfl) (fun _ _ _ h => h) (Or.inl ⟨by rfl, ?_⟩) (by assumption) ?_
 rotate_left
 ·intro w hSw; (try dsimp only at hSw); go_simp; try with_reducible rfl
 try simp only [Act.put, zA, zB, zC, zD, zE, zF]
 refine wpAnyH_ready (rs := [3]) (by kernel_rfl) (by simp) ?_
 refine AllReadyH.cons (o := _) rfl (fun K hK => ?_) AllReadyH.nil
 go_simp
 refine (calls_bl keepsPV hV6d (HO.out _)).mono ?_
 rintro e w7 ⟨rfl, hV7, hV7l⟩
 have c7 := loc_step hV7l (by simp) hHeld
 clear hV7l
 dsimp only
 refine hK.out _ _ ?_ (fun hHeld => ?_)
 ·exact c7
 clear hK K
 try simp only [Act.put, zA, zB, zC, zD, zE, zF]
 refine wpAnyH_ready (rs := [4]) (by kernel_rfl) (by simp) ?_
 refine AllReadyH.cons (o := _) rfl (fun K hK => ?_) AllReadyH.nil
 go_simp
 refine (calls_bl keepsPV hV7 (pbin_any _ _)).mono ?_
 rintro e w8 ⟨rfl, hV8, hV8l⟩
 have c8 := loc_step hV8l (by simp) c7
 clear hV8l
 dsimp only
 refine hK.out _ _ ?_ (fun hHeld => ?_)
 ·exact c8
 clear hK K
 try simp only [Act.put, zA, zB, zC, zD, zE, zF]
 refine wpAnyH_ready (rs := [6]) (by kernel_rfl) (by simp) ?_
 refine AllReadyH.cons (o := _) rfl (fun K hK => ?_) AllReadyH.nil
 go_simp
 refine (calls_st hV8 (fun S1 h1 => push_any b t p s _ q _ S1 _ h1 hp)).mono ?_
 rintro e w9 ⟨rfl, hV9, hV9l⟩
 have c9 := loc_step hV9l (by simp) c8
 clear hV9l
 dsimp only
 refine hK.out _ _ ?_ (fun hHeld => ?_)
 ·exact c9
 clear hK K
 try simp only [Act.put, zA, zB, zC, zD, zE, zF]
 refine wpAnyH_done (by kernel_rfl) ?_ _
 refine NoPanic.normal ?_
 go_wp2
 go_end0
 exact ⟨rfl, hV9.done keepsPV⟩
end Go.Proofs.YtnagdljgeglceaaGreat
/- the program's small functions that its audit calls: fields of infos, bits. -/
set_option linter.unusedSimpArgs false
set_option linter.unusedVariables false
namespace Go.Proofs.YtnagdljgeglceaaGreat
open Go.RowKit

theorem wrapsA_u32 (n : Int) (h₀ : 0 ≤ n) (h₁ : n < 2 ^ 32) : IntKind.u32.wrap n = n := by rw [IntKind.wrap_u32]; omega
theorem wrapsA_u64 (n : Int) (h₀ : 0 ≤ n) (h₁ : n < 2 ^ 64) : IntKind.u64.wrap n = n := by rw [IntKind.wrap_u64]; omega
theorem and255 {x : Int} (h0 : 0 ≤ x) (h1 : x < 4294967296) : bits .and .u32 x 255 = x % 256 := bits_mask .u32 32 (by decide) wrapsA_u32 8 (by decide) x h0 (by omega)
theorem byte_bit (v : Int) (a i : Nat) (h : a + 8 ≤ 32) (hi : i < 8) : bitB (v / 2 ^ a % 256) i = bitB v (a + i) := by
 have e : (256 : Int) = 2 ^ i * (2 * 2 ^ (7 - i)) := by
  rw [← Int.pow_succ', ← Int.pow_add, show i + (7 - i + 1) = 8 by omega]
  rfl
 have hp : (0 : Int) < 2 ^ i := Int.pow_pos (by omega)
 unfold bitB
 have h1 : decide (i < 32) = true := by simp; omega
 have h2 : decide (a + i < 32) = true := by simp; omega
 rw [h1, h2]
 have hq : v / 2 ^ a % 256 / 2 ^ i % 2 = v / 2 ^ (a + i) % 2 := by
  rw [Int.pow_add, ← Int.ediv_ediv_of_nonneg (Int.pow_nonneg (by omega))]
  generalize v / 2 ^ a = x
  have hx := Int.emod_def x 256
  generalize x / 256 = q at hx
  rw [hx, e, show x - 2 ^ i * (2 * 2 ^ (7 - i)) * q = x + (-(2 * 2 ^ (7 - i) * q)) * 2 ^ i by rw [Int.neg_mul, Int.mul_comm (2 * 2 ^ (7 - i) * q), Int.mul_assoc (2 ^ i)]; rfl, Int.add_mul_ediv_right _ _ (by omega), Int.mul_assoc]
  generalize 2 ^ (7 - i) * q = z
  omega
 rw [hq]
theorem ones_byte (v : Int) (a : Nat) (h : a + 8 ≤ 32) : ∀ k, k ≤ 8 → onesN v (a + k) = onesN v a + onesN (v / 2 ^ a % 256) k
 | 0, _ => by simp [onesN]
 | k + 1, hk => by
  have ih := ones_byte v a h k (by omega)
  have e1 : onesN v (a + (k + 1)) = onesN v (a + k) + if bitB v (a + k) then 1 else 0 := rfl
  have e2 : onesN (v / 2 ^ a % 256) (k + 1) = onesN (v / 2 ^ a % 256) k + if bitB (v / 2 ^ a % 256) k then 1 else 0 := rfl
  rw [e1, e2, byte_bit v a k h (by omega), ih]
  omega
theorem pop8_ones : ∀ n : Fin 256, Lib.pop8 (n.val : Int) = (onesN (n.val : Int) 8 : Int) := by decide +kernel
theorem pop8_at (b : Int) (h0 : 0 ≤ b) (h1 : b ≤ 255) : Lib.pop8 b = (onesN b 8 : Int) := by
 have e := pop8_ones ⟨b.toNat, by omega⟩
 simpa only [Int.toNat_of_nonneg h0] using e
theorem ones_sum {v : Int} (h0 : 0 ≤ v) (h1 : v < 4294967296) : (onesN v 32 : Int) = Lib.pop8 (v / 16777216) + Lib.pop8 (v / 65536 % 256) + Lib.pop8 (v / 256 % 256) + Lib.pop8 (v % 256) := by
 rw [pop8_at _ (by omega) (by omega), pop8_at _ (by omega) (by omega), pop8_at _ (by omega) (by omega), pop8_at _ (by omega) (by omega)]
 have a0 : onesN v 8 = onesN v 0 + onesN (v % 256) 8 := by
  have := ones_byte v 0 (by omega) 8 (by omega)
  rwa [show v / 2 ^ 0 % 256 = v % 256 by simp] at this
 have a1 : onesN v 16 = onesN v 8 + onesN (v / 256 % 256) 8 := ones_byte v 8 (by omega) 8 (by omega)
 have a2 : onesN v 24 = onesN v 16 + onesN (v / 65536 % 256) 8 := ones_byte v 16 (by omega) 8 (by omega)
 have a3 : onesN v 32 = onesN v 24 + onesN (v / 16777216) 8 := by
  have : onesN v 32 = onesN v 24 + onesN (v / 16777216 % 256) 8 := ones_byte v 24 (by omega) 8 (by omega)
  rwa [show v / 16777216 % 256 = v / 16777216 by omega] at this
 have z : onesN v 0 = 0 := rfl
 omega

set_option maxRecDepth 100000 in
theorem ones_any (v : Int) (w : World) (h0 : 0 ≤ v) (h1 : v < 4294967296) :
 Calls Tryz.prog 151 #[.int .u32 v] w fun e w' => e = .returned (.int .i64 (onesN v 32)) ∧ Below w.heap.size w w' := by
 have a1 := and255 (x := v / 65536) (by omega) (by omega)
 have a2 := and255 (x := v / 256) (by omega) (by omega)
 have a3 := and255 h0 h1
 have hs := ones_sum h0 h1
 have k0 := fun w => Lib.run_index_pop8tab (P := Tryz.prog) w 9 .u32 (v / 16777216) Tryz.underlying9 (by omega) (by omega)
 have k1 := fun w => Lib.run_index_pop8tab (P := Tryz.prog) w 9 .u32 (v / 65536 % 256) Tryz.underlying9 (by omega) (by omega)
 have k2 := fun w => Lib.run_index_pop8tab (P := Tryz.prog) w 9 .u32 (v / 256 % 256) Tryz.underlying9 (by omega) (by omega)
 have k3 := fun w => Lib.run_index_pop8tab (P := Tryz.prog) w 9 .u32 (v % 256) Tryz.underlying9 (by omega) (by omega)
 go_enter Tryz.func151, Tryz.ntmps151
 go_wp2
 go_region
 go_wp2
 go_ret
 refine ⟨ret_int ?_, (Below.refl _ _).drew⟩
 have := onesN_le v 32
 omega
theorem hmask44 (w : World) : Calls Tryz.prog 116 #[.int .i64 44] w fun e w' => e = .returned (.int .u64 17592186044415) ∧ Below w.heap.size w w' := by
 go_enter Tryz.func116, Tryz.ntmps116
 go_wp2
 go_ret
 exact ⟨rfl, Below.refl _ _⟩
theorem hgetK (v : Int) (w : World) (h0 : 0 ≤ v) (h1 : v < 4294967296) :
 Calls Tryz.prog 77 #[.int .u64 v, .int .i64 0, .int .i64 4] w fun e w' => e = .returned (.int .u64 (v % 16)) ∧ Below w.heap.size w w' := by
 have ha : bits .and .u64 (v) 15 = v % 16 := bits_mask .u64 64 (by decide) wrapsA_u64 4 (by decide) (v) (by omega) (by omega)
 go_enter Tryz.func77, Tryz.ntmps77
 go_wp2_with fail
 refine (hfield_any _ _ _ (by omega) (by omega) (by omega) (by omega)).mono ?_
 rintro e w1 ⟨rfl, b1⟩
 go_wp2
 refine wp_region_noPanic ?_
 refine wp_region_held_drew (S := fun w' => BS w1 ([] : List Nat) w') (by kernel_rfl) ?_ (fun hHeld => ?_)
 ·exact (BS.start w1).drew
 refine wpAnyH_take (i := 0) (oi := _) (v := ?_) rfl (by kernel_rfl) (by kernel_rfl) (by kernel_rfl) (fun _ _ _ h => h) (Or.inl ⟨by rfl, ?_⟩) (by assumption) ?_
 rotate_left
 ·intro w hSw; (try dsimp only at hSw); go_simp; try with_reducible rfl
 try simp only [Act.put, zA, zB, zD, zE, zF]
 refine wpAnyH_take (i := 1) (oi := _) (v := ?_) rfl (by kernel_rfl) (by kernel_rfl) (by kernel_rfl) (fun _ _ _ h => h) (Or.inl ⟨by rfl, ?_⟩) (by assumption) ?_
 rotate_left
 ·intro w hSw; (try dsimp only at hSw); go_simp; try with_reducible rfl
 try simp only [Act.put, zA, zB, zC, zD, zE, zF]
 refine wpAnyH_take (i := 2) (oi := _) (v := ?_) rfl (by kernel_rfl) (by kernel_rfl) (by kernel_rfl) (fun _ _ _ h => h) (Or.inl ⟨by rfl, ?_⟩) (by assumption) ?_
 rotate_left
 ·intro w hSw; (try dsimp only at hSw); go_simp; try with_reducible rfl
 try simp only [Act.put, zA, zB, zC, zD, zE, zF]
 refine wpAnyH_take (i := 3) (oi := _) (v := ?_) rfl (by kernel_rfl) (by kernel_rfl) (by kernel_rfl) (fun _ _ _ h => h) (Or.inl ⟨by rfl, ?_⟩) (by assumption) ?_
 rotate_left
 ·intro w hSw; (try dsimp only at hSw); go_simp; try with_reducible rfl
 try simp only [Act.put, zA, zB, zC, zD, zE, zF]
 refine wpAnyH_ready (rs := [4]) (by kernel_rfl) (by simp) ?_
 refine AllReadyH.cons (o := _) rfl (fun K hK => ?_) AllReadyH.nil
 go_simp
 refine (calls_b hHeld (hmask4 _)).mono ?_
 rintro e wr1 ⟨rfl, hV, hVl⟩
 dsimp only
 refine hK.out _ _ ?_ (fun hHeld2 => ?_)
 ·exact hV
 clear hK K hV hVl hHeld
 have hHeld := hHeld2
 clear hHeld2
 try simp only [Act.put, zA, zB, zC, zD, zE, zF]
 refine wpAnyH_take (i := 5) (oi := _) (v := ?_) rfl (by kernel_rfl) (by kernel_rfl) (by kernel_rfl) (fun _ _ _ h => h) (Or.inl ⟨by rfl, ?_⟩) (by assumption) ?_
 rotate_left
 ·intro w hSw; (try dsimp only at hSw); go_simp; try with_reducible rfl
 try simp only [Act.put, zA, zB, zC, zD, zE, zF]
 refine wpAnyH_take (i := 6) (oi := _) (v := ?_) rfl (by kernel_rfl) (by kernel_rfl) (by kernel_rfl) (fun _ _ _ h => h) (Or.inl ⟨by rfl, ?_⟩) (by assumption) ?_
 rotate_left
 ·intro w hSw; (try dsimp only at hSw); go_simp; try with_reducible rfl
 try simp only [Act.put, zA, zB, zC, zD, zE, zF]
 refine wpAnyH_done (by kernel_rfl) ?_ _
 refine NoPanic.normal ?_
 refine world_gen ?_
 intro wz hwz
 rw [← hwz] at hHeld
 clear hwz
 go_wp2
 go_ret
 exact ⟨rfl, b1.trans (hHeld.bel.mono b1.size)⟩
theorem hgetL (v : Int) (w : World) (h0 : 0 ≤ v) (h1 : v < 4294967296) :
 Calls Tryz.prog 77 #[.int .u64 v, .int .i64 4, .int .i64 12] w fun e w' => e = .returned (.int .u64 (v / 16 % 4096)) ∧ Below w.heap.size w w' := by
 have ha : bits .and .u64 (v / 16) 4095 = v / 16 % 4096 := bits_mask .u64 64 (by decide) wrapsA_u64 12 (by decide) (v / 16) (by omega) (by omega)
 go_enter Tryz.func77, Tryz.ntmps77
 go_wp2_with fail
 refine (hfield_any _ _ _ (by omega) (by omega) (by omega) (by omega)).mono ?_
 rintro e w1 ⟨rfl, b1⟩
 go_wp2
 refine wp_region_noPanic ?_
 refine wp_region_held_drew (S := fun w' => BS w1 ([] : List Nat) w') (by kernel_rfl) ?_ (fun hHeld => ?_)
 ·exact (BS.start w1).drew
 refine wpAnyH_take (i := 0) (oi := _) (v := ?_) rfl (by kernel_rfl) (by kernel_rfl) (by kernel_rfl) (fun _ _ _ h => h) (Or.inl ⟨by rfl, ?_⟩) (by assumption) ?_
 rotate_left
 ·intro w hSw; (try dsimp only at hSw); go_simp; try with_reducible rfl
 try simp only [Act.put, zA, zB, zD, zE, zF]
 refine wpAnyH_take (i := 1) (oi := _) (v := ?_) rfl (by kernel_rfl) (by kernel_rfl) (by kernel_rfl) (fun _ _ _ h => h) (Or.inl ⟨by rfl, ?_⟩) (by assumption) ?_
 rotate_left
 ·intro w hSw; (try dsimp only at hSw); go_simp; try with_reducible rfl
 try simp only [Act.put, zA, zB, zC, zD, zE, zF]
 refine wpAnyH_take (i := 2) (oi := _) (v := ?_) rfl (by kernel_rfl) (by kernel_rfl) (by kernel_rfl) (fun _ _ _ h => h) (Or.inl ⟨by rfl, ?_⟩) (by assumption) ?_
 rotate_left
 ·intro w hSw; (try dsimp only at hSw); go_simp; try with_reducible rfl
 try simp only [Act.put, zA, zB, zC, zD, zE, zF]
 refine wpAnyH_take (i := 3) (oi := _) (v := ?_) rfl (by kernel_rfl) (by kernel_rfl) (by kernel_rfl) (fun _ _ _ h => h) (Or.inl ⟨by rfl, ?_⟩) (by assumption) ?_
 rotate_left
 ·intro w hSw; (try dsimp only at hSw); go_simp; try with_reducible rfl
 try simp only [Act.put, zA, zB, zC, zD, zE, zF]
 refine wpAnyH_ready (rs := [4]) (by kernel_rfl) (by simp) ?_
 refine AllReadyH.cons (o := _) rfl (fun K hK => ?_) AllReadyH.nil
 go_simp
 refine (calls_b hHeld (hmask12 _)).mono ?_
 rintro e wr1 ⟨rfl, hV, hVl⟩
 dsimp only
 refine hK.out _ _ ?_ (fun hHeld2 => ?_)
 ·exact hV
 clear hK K hV hVl hHeld
 have hHeld := hHeld2
 clear hHeld2
 try simp only [Act.put, zA, zB, zC, zD, zE, zF]
 refine wpAnyH_take (i := 5) (oi := _) (v := ?_) rfl (by kernel_rfl) (by kernel_rfl) (by kernel_rfl) (fun _ _ _ h => h) (Or.inl ⟨by rfl, ?_⟩) (by assumption) ?_
 rotate_left
 ·intro w hSw; (try dsimp only at hSw); go_simp; try with_reducible rfl
 try simp only [Act.put, zA, zB, zC, zD, zE, zF]
 refine wpAnyH_take (i := 6) (oi := _) (v := ?_) rfl (by kernel_rfl) (by kernel_rfl) (by kernel_rfl) (fun _ _ _ h => h) (Or.inl ⟨by rfl, ?_⟩) (by assumption) ?_
 rotate_left
 ·intro w hSw; (try dsimp only at hSw); go_simp; try with_reducible rfl
 try simp only [Act.put, zA, zB, zC, zD, zE, zF]
 refine wpAnyH_done (by kernel_rfl) ?_ _
 refine NoPanic.normal ?_
 refine world_gen ?_
 intro wz hwz
 rw [← hwz] at hHeld
 clear hwz
 go_wp2
 go_ret
 exact ⟨rfl, b1.trans (hHeld.bel.mono b1.size)⟩
theorem hgetC (v : Int) (w : World) (h0 : 0 ≤ v) (h1 : v < 4294967296) :
 Calls Tryz.prog 77 #[.int .u64 v, .int .i64 16, .int .i64 4] w fun e w' => e = .returned (.int .u64 (v / 65536 % 16)) ∧ Below w.heap.size w w' := by
 have ha : bits .and .u64 (v / 65536) 15 = v / 65536 % 16 := bits_mask .u64 64 (by decide) wrapsA_u64 4 (by decide) (v / 65536) (by omega) (by omega)
 go_enter Tryz.func77, Tryz.ntmps77
 go_wp2_with fail
 refine (hfield_any _ _ _ (by omega) (by omega) (by omega) (by omega)).mono ?_
 rintro e w1 ⟨rfl, b1⟩
 go_wp2
 refine wp_region_noPanic ?_
 refine wp_region_held_drew (S := fun w' => BS w1 ([] : List Nat) w') (by kernel_rfl) ?_ (fun hHeld => ?_)
 ·exact (BS.start w1).drew
 refine wpAnyH_take (i := 0) (oi := _) (v := ?_) rfl (by kernel_rfl) (by kernel_rfl) (by kernel_rfl) (fun _ _ _ h => h) (Or.inl ⟨by rfl, ?_⟩) (by assumption) ?_
 rotate_left
 ·intro w hSw; (try dsimp only at hSw); go_simp; try with_reducible rfl
 try simp only [Act.put, zA, zB, zD, zE, zF]
 refine wpAnyH_take (i := 1) (oi := _) (v := ?_) rfl (by kernel_rfl) (by kernel_rfl) (by kernel_rfl) (fun _ _ _ h => h) (Or.inl ⟨by rfl, ?_⟩) (by assumption) ?_
 rotate_left
 ·intro w hSw; (try dsimp only at hSw); go_simp; try with_reducible rfl
 try simp only [Act.put, zA, zB, zC, zD, zE, zF]
 refine wpAnyH_take (i := 2) (oi := _) (v := ?_) rfl (by kernel_rfl) (by kernel_rfl) (by kernel_rfl) (fun _ _ _ h => h) (Or.inl ⟨by rfl, ?_⟩) (by assumption) ?_
 rotate_left
 ·intro w hSw; (try dsimp only at hSw); go_simp; try with_reducible rfl
 try simp only [Act.put, zA, zB, zC, zD, zE, zF]
 refine wpAnyH_take (i := 3) (oi := _) (v := ?_) rfl (by kernel_rfl) (by kernel_rfl) (by kernel_rfl) (fun _ _ _ h => h) (Or.inl ⟨by rfl, ?_⟩) (by assumption) ?_
 rotate_left
 ·intro w hSw; (try dsimp only at hSw); go_simp; try with_reducible rfl
 try simp only [Act.put, zA, zB, zC, zD, zE, zF]
 refine wpAnyH_ready (rs := [4]) (by kernel_rfl) (by simp) ?_
 refine AllReadyH.cons (o := _) rfl (fun K hK => ?_) AllReadyH.nil
 go_simp
 refine (calls_b hHeld (hmask4 _)).mono ?_
 rintro e wr1 ⟨rfl, hV, hVl⟩
 dsimp only
 refine hK.out _ _ ?_ (fun hHeld2 => ?_)
 ·exact hV
 clear hK K hV hVl hHeld
 have hHeld := hHeld2
 clear hHeld2
 try simp only [Act.put, zA, zB, zC, zD, zE, zF]
 refine wpAnyH_take (i := 5) (oi := _) (v := ?_) rfl (by kernel_rfl) (by kernel_rfl) (by kernel_rfl) (fun _ _ _ h => h) (Or.inl ⟨by rfl, ?_⟩) (by assumption) ?_
 rotate_left
 ·intro w hSw; (try dsimp only at hSw); go_simp; try with_reducible rfl
 try simp only [Act.put, zA, zB, zC, zD, zE, zF]
 refine wpAnyH_take (i := 6) (oi := _) (v := ?_) rfl (by kernel_rfl) (by kernel_rfl) (by kernel_rfl) (fun _ _ _ h => h) (Or.inl ⟨by rfl, ?_⟩) (by assumption) ?_
 rotate_left
 ·intro w hSw; (try dsimp only at hSw); go_simp; try with_reducible rfl
 try simp only [Act.put, zA, zB, zC, zD, zE, zF]
 refine wpAnyH_done (by kernel_rfl) ?_ _
 refine NoPanic.normal ?_
 refine world_gen ?_
 intro wz hwz
 rw [← hwz] at hHeld
 clear hwz
 go_wp2
 go_ret
 exact ⟨rfl, b1.trans (hHeld.bel.mono b1.size)⟩
theorem hgetR (v : Int) (w : World) (h0 : 0 ≤ v) (h1 : v < 4294967296) :
 Calls Tryz.prog 77 #[.int .u64 v, .int .i64 20, .int .i64 44] w fun e w' => e = .returned (.int .u64 (v / 1048576 % 17592186044416)) ∧ Below w.heap.size w w' := by
 have ha : bits .and .u64 (v / 1048576) 17592186044415 = v / 1048576 % 17592186044416 := bits_mask .u64 64 (by decide) wrapsA_u64 44 (by decide) (v / 1048576) (by omega) (by omega)
 go_enter Tryz.func77, Tryz.ntmps77
 go_wp2_with fail
 refine (hfield_any _ _ _ (by omega) (by omega) (by omega) (by omega)).mono ?_
 rintro e w1 ⟨rfl, b1⟩
 go_wp2
 refine wp_region_noPanic ?_
 refine wp_region_held_drew (S := fun w' => BS w1 ([] : List Nat) w') (by kernel_rfl) ?_ (fun hHeld => ?_)
 ·exact (BS.start w1).drew
 refine wpAnyH_take (i := 0) (oi := _) (v := ?_) rfl (by kernel_rfl) (by kernel_rfl) (by kernel_rfl) (fun _ _ _ h => h) (Or.inl ⟨by rfl, ?_⟩) (by assumption) ?_
 rotate_left
 ·intro w hSw; (try dsimp only at hSw); go_simp; try with_reducible rfl
 try simp only [Act.put, zA, zB, zD, zE, zF]
 refine wpAnyH_take (i := 1) (oi := _) (v := ?_) rfl (by kernel_rfl) (by kernel_rfl) (by kernel_rfl) (fun _ _ _ h => h) (Or.inl ⟨by rfl, ?_⟩) (by assumption) ?_
 rotate_left
 ·intro w hSw; (try dsimp only at hSw); go_simp; try with_reducible rfl
 try simp only [Act.put, zA, zB, zC, zD, zE, zF]
 refine wpAnyH_take (i := 2) (oi := _) (v := ?_) rfl (by kernel_rfl) (by kernel_rfl) (by kernel_rfl) (fun _ _ _ h => h) (Or.inl ⟨by rfl, ?_⟩) (by assumption) ?_
 rotate_left
 ·intro w hSw; (try dsimp only at hSw); go_simp; try with_reducible rfl
 try simp only [Act.put, zA, zB, zC, zD, zE, zF]
 refine wpAnyH_take (i := 3) (oi := _) (v := ?_) rfl (by kernel_rfl) (by kernel_rfl) (by kernel_rfl) (fun _ _ _ h => h) (Or.inl ⟨by rfl, ?_⟩) (by assumption) ?_
 rotate_left
 ·intro w hSw; (try dsimp only at hSw); go_simp; try with_reducible rfl
 try simp only [Act.put, zA, zB, zC, zD, zE, zF]
 refine wpAnyH_ready (rs := [4]) (by kernel_rfl) (by simp) ?_
 refine AllReadyH.cons (o := _) rfl (fun K hK => ?_) AllReadyH.nil
 go_simp
 refine (calls_b hHeld (hmask44 _)).mono ?_
 rintro e wr1 ⟨rfl, hV, hVl⟩
 dsimp only
 refine hK.out _ _ ?_ (fun hHeld2 => ?_)
 ·exact hV
 clear hK K hV hVl hHeld
 have hHeld := hHeld2
 clear hHeld2
 try simp only [Act.put, zA, zB, zC, zD, zE, zF]
 refine wpAnyH_take (i := 5) (oi := _) (v := ?_) rfl (by kernel_rfl) (by kernel_rfl) (by kernel_rfl) (fun _ _ _ h => h) (Or.inl ⟨by rfl, ?_⟩) (by assumption) ?_
 rotate_left
 ·intro w hSw; (try dsimp only at hSw); go_simp; try with_reducible rfl
 try simp only [Act.put, zA, zB, zC, zD, zE, zF]
 refine wpAnyH_take (i := 6) (oi := _) (v := ?_) rfl (by kernel_rfl) (by kernel_rfl) (by kernel_rfl) (fun _ _ _ h => h) (Or.inl ⟨by rfl, ?_⟩) (by assumption) ?_
 rotate_left
 ·intro w hSw; (try dsimp only at hSw); go_simp; try with_reducible rfl
 try simp only [Act.put, zA, zB, zC, zD, zE, zF]
 refine wpAnyH_done (by kernel_rfl) ?_ _
 refine NoPanic.normal ?_
 refine world_gen ?_
 intro wz hwz
 rw [← hwz] at hHeld
 clear hwz
 go_wp2
 go_ret
 exact ⟨rfl, b1.trans (hHeld.bel.mono b1.size)⟩

theorem pones_any (v : Int) (w : World) (h0 : 0 ≤ v) (h1 : v < 4294967296) :
 Calls Tryz.prog 120 #[.int .u32 v] w fun e w' => e = .returned (.int .i64 (onesN v 32)) ∧ Below w.heap.size w w' := by
 have H := Lib.hid (fun w => ones_any v w h0 h1)
 go_enter Tryz.func120, Tryz.ntmps120
 go_wp2_with fail
 refine (H.out _).mono ?_
 rintro e w1 ⟨rfl, b1⟩
 go_wp2
 go_ret
 exact ⟨rfl, b1⟩
theorem iright_any (k l c : Int) (w : World) :
 Calls Tryz.prog 78 #[.agg #[.int .i64 k, .int .i64 l, .int .i64 c]] w fun e w' => e = .returned (.bool (rightI k l c)) ∧ Below w.heap.size w w' := by
 generalize hr : rightI k l c = r
 have HR := Lib.hid hr
 clear hr
 go_enter Tryz.func78, Tryz.ntmps78
 go_wp2
 all_goals
  go_ret
  refine ⟨ret_bool ?_, ?_⟩
  ·have e := HR.out
   subst e
   clear HR
   rw [Bool.eq_iff_iff]
   simp_all [rightI]
   try omega
  ·clear HR
   (repeat (first | exact Below.refl _ _ | assumption | refine Below.setCell ?_ (by first | omega | (simp; done) | (simp; omega)) _ | refine Below.alloc ?_ (by first | omega | (simp; done) | (simp; omega)) _ | refine Below.drew ?_ | refine Below.trans ?_ (Below.mono ‹Below _ _ _› (by first | omega | (simp; done) | (simp; omega)))))
theorem okI_eq {v : Int} (h0 : 0 ≤ v) : (decide (v / 1048576 % 17592186044416 = 0) && rightI (v % 16) (v / 16 % 4096) (v / 65536 % 16)) = okI v ∨ ¬ v < 4294967296 := by
 by_cases h : v < 4294967296
 ·left
  unfold okI
  by_cases h2 : v / 1048576 = 0
  ·rw [show v / 1048576 % 17592186044416 = 0 by omega, show v / 65536 % 16 = v / 65536 by omega]
   simp
  ·rw [show decide (v / 1048576 % 17592186044416 = 0) = false by simp; omega]
   have h3 : 16 ≤ v / 65536 := by omega
   have hr : rightI (v % 16) (v / 16 % 4096) (v / 65536) = false := by
    unfold rightI
    repeat' split
    all_goals simp <;> omega
   rw [hr]
   rfl
 ·exact Or.inr h
theorem iget_any (v : Int) (w : World) (h0 : 0 ≤ v) (h1 : v < 4294967296) :
 Calls Tryz.prog 32 #[.int .u32 v] w fun e w' => e = .returned (.tuple #[.agg #[.int .i64 (iK v), .int .i64 (iL v), .int .i64 (iC v)], .bool (okI v)]) ∧ Below w.heap.size w w' := by
 have hok := (okI_eq h0).resolve_right (by omega)
 have HK := Lib.hid (fun w => hgetK v w h0 h1)
 have HL := Lib.hid (fun w => hgetL v w h0 h1)
 have HC := Lib.hid (fun w => hgetC v w h0 h1)
 have HR := Lib.hid (fun w => hgetR v w h0 h1)
 have HI := Lib.hid (fun w => iright_any (v % 16) (v / 16 % 4096) (v / 65536 % 16) w)
 have hw : IntKind.u64.wrap v = v := wrapsA_u64 _ h0 (by omega)
 have hwk : IntKind.i64.wrap (v % 16) = v % 16 := wrap_in _ (by omega)
 have hwl : IntKind.i64.wrap (v / 16 % 4096) = v / 16 % 4096 := wrap_in _ (by omega)
 have hwc : IntKind.i64.wrap (v / 65536 % 16) = v / 65536 % 16 := wrap_in _ (by omega)
 have S0 := (BS.start w).alloc (.cells #[.int .i64 0, .int .i64 0, .int .i64 0] 73)
 have r0 := heap_alloc_new w (.cells #[.int .i64 0, .int .i64 0, .int .i64 0] 73)
 have hv1 : iK v = if okI v then v % 16 else 0 := rfl
 have hv2 : iL v = if okI v then v / 16 % 4096 else 0 := rfl
 have hv3 : okI v = true → iC v = v / 65536 % 16 := by
  intro h
  have e : iC v = v / 65536 := by unfold iC; rw [if_pos h]
  have := inf_bd v
  rw [e] at this ⊢
  omega
 have hv4 : okI v = false → iC v = 0 := by intro h; unfold iC; rw [h]; rfl
 have HVV := Lib.hid (And.intro hv1 (And.intro hv2 (And.intro hv3 hv4)))
 clear hv1 hv2 hv3 hv4
 generalize rightI (v % 16) (v / 16 % 4096) (v / 65536 % 16) = rg at *
 generalize v / 1048576 % 17592186044416 = rs at *
 have HOK := Lib.hid hok
 clear hok
 generalize v % 16 = k at *
 generalize v / 16 % 4096 = l at *
 generalize v / 65536 % 16 = c at *
 go_enter Tryz.func32, Tryz.ntmps32
 go_wp2_with fail
 refine (calls_b S0 (HK.out _)).mono ?_
 rintro e w1 ⟨rfl, S1, q1⟩
 have r1 := (q1 w.heap.size (by simp)).trans r0
 go_wp2_with fail
 refine (calls_b S1 (HL.out _)).mono ?_
 rintro e w2 ⟨rfl, S2, q2⟩
 have r2 := (q2 w.heap.size (by simp)).trans r1
 go_wp2_with fail
 refine (calls_b S2 (HC.out _)).mono ?_
 rintro e w3 ⟨rfl, S3, q3⟩
 have r3 := (q3 w.heap.size (by simp)).trans r2
 have A3 := S3.allocd #[.int .i64 k, .int .i64 l, .int .i64 c] 73
 have r3a := (heap_alloc_old _ (.cells #[.int .i64 k, .int .i64 l, .int .i64 c] 73) (S3.ls w.heap.size (by simp)).1).trans r3
 have hne : w.heap.size ≠ w3.heap.size := by have := (S3.ls w.heap.size (by simp)).1; omega
 clear S0 S1 S2 S3 q1 q2 q3 r0 r1 r2 r3 HK HL HC
 go_wp2_with fail
 refine (calls_b A3.bs (HR.out _)).mono ?_
 rintro e w4 ⟨rfl, S4, q4⟩
 have r4 := (q4 w.heap.size (by simp)).trans r3a
 have i4 := (q4 w3.heap.size (by simp)).trans A3.box
 obtain ⟨⟨a0, a1, a2⟩, -, -, -⟩ := cells3 i4
 clear A3 r3a q4 HR
 by_cases hrs : rs = 0
 ·subst hrs
  go_wp2_with fail
  refine (calls_b S4 (HI.out _)).mono ?_
  rintro e w5 ⟨rfl, S5, q5⟩
  have r5 := (q5 w.heap.size (by simp)).trans r4
  have i5 := (q5 w3.heap.size (by simp)).trans i4
  clear r4 i4 S4 q5 a0 a1 a2
  obtain ⟨⟨a0, a1, a2⟩, -, -, -⟩ := cells3 i5
  clear i5
  cases rg
  ·have rZ := r5
   have SZ := S5
   clear r5 S5
   obtain ⟨⟨d0, d1, d2⟩, j0, j1, j2⟩ := cells3 rZ
   have HSZ := Lib.hid SZ
   clear rZ SZ
   go_wp2
   refine bodyPost_ret (v := .tuple #[.agg #[.int .i64 0, .int .i64 0, .int .i64 0], .bool false]) (by simp [results, Tryz.results32, go_sem, *]) rfl ⟨?_, ?_⟩
   ·obtain ⟨f1, f2, f3, f4⟩ := HVV.out
    have hO := HOK.out
    have hF : okI v = false := by rw [← hO]; rfl
    rw [f1, f2, f4 hF, hF]
    rfl
   ·have hm : w.heap.size ∈ [w3.heap.size, w.heap.size] := by simp
    exact (((HSZ.out.setCell hm 0 _).setCell hm 1 _).setCell hm 2 _).bel
  ·have rZ := r5
   have SZ := S5
   clear r5 S5
   obtain ⟨⟨d0, d1, d2⟩, j0, j1, j2⟩ := cells3 rZ
   have HSZ := Lib.hid SZ
   clear rZ SZ
   go_wp2
   refine bodyPost_ret (v := .tuple #[.agg #[.int .i64 k, .int .i64 l, .int .i64 c], .bool true]) (by simp [results, Tryz.results32, go_sem, *]) rfl ⟨?_, ?_⟩
   ·obtain ⟨f1, f2, f3, f4⟩ := HVV.out
    have hO := HOK.out
    have hT : okI v = true := by rw [← hO]; rfl
    rw [f1, f2, f3 hT, hT]
    rfl
   ·have hm : w.heap.size ∈ [w3.heap.size, w.heap.size] := by simp
    exact (((HSZ.out.setCell hm 0 _).setCell hm 1 _).setCell hm 2 _).bel
 ·have hrb : (rs != 0) = true := by simpa using hrs
  have rZ := r4
  have SZ := S4
  clear r4 S4 i4
  obtain ⟨⟨d0, d1, d2⟩, j0, j1, j2⟩ := cells3 rZ
  have HSZ := Lib.hid SZ
  clear rZ SZ
  go_wp2
  refine bodyPost_ret (v := .tuple #[.agg #[.int .i64 0, .int .i64 0, .int .i64 0], .bool false]) (by simp [results, Tryz.results32, go_sem, *]) rfl ⟨?_, ?_⟩
  ·obtain ⟨f1, f2, f3, f4⟩ := HVV.out
   have hO := HOK.out
   have hF : okI v = false := by rw [← hO]; simp [hrs]
   rw [f1, f2, f4 hF, hF]
   rfl
  ·have hm : w.heap.size ∈ [w3.heap.size, w.heap.size] := by simp
   exact (((HSZ.out.setCell hm 0 _).setCell hm 1 _).setCell hm 2 _).bel
end Go.Proofs.YtnagdljgeglceaaGreat
/- what is given back of a page, as plain data on a view. -/
set_option linter.unusedSimpArgs false
set_option linter.unusedVariables false
namespace Go.Proofs.YtnagdljgeglceaaGreat
open Go.RowKit

/-- how many pages the free span has whose info is v; 0: it is none. -/
def freeV (v : Int) : Int := if iK v = 1 then iL v else 0
theorem freeV_bd (v : Int) : 0 ≤ freeV v ∧ freeV v ≤ 1024 ∧ (iK v = 1 → 1 ≤ freeV v ∧ freeV v = iL v) ∧ (iK v ≠ 1 → freeV v = 0) := by
 have h := inf_bd v
 unfold freeV
 split <;> refine ⟨by omega, by omega, ?_, ?_⟩
 ·intro e
  have := h.2.2.2.2.2.2.1 (by omega)
  exact ⟨this.2, rfl⟩
 ·intro e; contradiction
 ·intro e; contradiction
 ·intro e; rfl

def freeAt (t p s q : Int) (st : VS) : Int × VS := (freeV (st.get (ofF t p s q 0)).1, (st.get (ofF t p s q 0)).2)
def dropF (t p s q : Int) (st : VS) : Int × VS :=
 if pageB p q = true then
  let r := freeAt t p s q st
  (r.1, if r.1 = 0 then r.2 else pullF t p s (withinF 2 (logF r.1) 11) q r.2)
 else (0, st)
def addG (t p s q n : Int) (st : VS) : VS := if 0 ≤ q ∧ q < p ∧ 1 ≤ n ∧ n ≤ p - q then addF t p s q.toNat n.toNat st else st
def joinF (t p s q b : Int) (st : VS) : Int × VS := ((dropF t p s q st).1, ((dropF t p s q st).2.put (ofF t p s b 0) 0).put (ofF t p s (b - 1) 1) 0)
def aheadF (t p s q : Int) (st : VS) : Int × VS := if q = 0 then (-1, st) else ((st.get (ofF t p s (q - 1) 1)).1 - 1, (st.get (ofF t p s (q - 1) 1)).2)
/-- where it begins, how long it is, and the view then. -/
def backF (t p s q n : Int) (st : VS) : (Int × Int) × VS :=
 let f := aheadF t p s q st
 if f.1 < 0 then ((q, n), f.2) else
  let g := freeAt t p s f.1 f.2
  if g.1 = 0 then ((q, n), g.2) else
   let j := joinF t p s f.1 q g.2
   ((f.1, n + j.1), j.2)
def foreF (t p s r l : Int) (st : VS) : Int × VS :=
 if r < p then
  let g := freeAt t p s r st
  if g.1 = 0 then (l, g.2) else
   let j := joinF t p s r r g.2
   (l + j.1, j.2)
 else (l, st)
def countF (n : Int) (st : VS) : VS := (st.get 0).2.put 0 (IntKind.u32.wrap ((st.get 0).1 + n))
def releaseF (t p s q n : Int) (st : VS) : VS :=
 let b := backF t p s q n st
 let e := foreF t p s (q + n) b.1.2 b.2
 countF n (addG t p s b.1.1 e.1 e.2)
def sweepF (t p s q : Int) (st : VS) : Bool × VS :=
 if pageB p q = true then
  let i := st.get (ofF t p s q 0)
  if iK i.1 = 3 then
   let l := i.2.get (ofF t p s q 4)
   let k := l.2.get (ofF t p s q 5)
   if l.1 = k.1 then (false, k.2) else
    let u := k.2.put (ofF t p s q 5) l.1
    (true, if l.1 = 0 then releaseF t p s q 1 (if fullB k.1 (iC i.1) = true then u else pullF t p s (13 + iC i.1) q u) else if fullB k.1 (iC i.1) = true then pushF t p s (13 + iC i.1) q u else u)
  else (false, i.2)
 else (false, st)
def sweepN (t p s : Int) : Nat → VS → Nat × VS
 | 0, st => (0, st)
 | k + 1, st => ((if (sweepF t p s k (sweepN t p s k st).2).1 = true then (sweepN t p s k st).1 + 1 else (sweepN t p s k st).1), (sweepF t p s k (sweepN t p s k st).2).2)

/- how many cells are written. -/
theorem wl_setW (l : List (Nat × Int)) (i : Nat) (v : Int) : (VS.setW l i v).length ≤ l.length + 1 := by
 unfold VS.setW; split <;> simp
theorem wl_put (st : VS) (i v : Int) : (st.put i v).writes.length ≤ st.writes.length + 1 := by
 unfold VS.put; split
 ·exact wl_setW _ _ _
 ·omega
theorem wl_get (st : VS) (i : Int) : (st.get i).2.writes = st.writes := by
 unfold VS.get VS.read1; repeat' split
 all_goals rfl
theorem wl_push (t p s head q : Int) (st : VS) : (pushF t p s head q st).writes.length ≤ st.writes.length + 4 := by
 unfold pushF
 split
 ·dsimp only
  have h1 := wl_put (st.get head).2 (ofF t p s q 2) (st.get head).1
  have h2 := wl_put ((st.get head).2.put (ofF t p s q 2) (st.get head).1) (ofF t p s q 3) 0
  rw [wl_get] at h1
  generalize (((st.get head).2.put (ofF t p s q 2) (st.get head).1).put (ofF t p s q 3) 0) = s2 at *
  have h3 := wl_put s2 (ofF t p s ((st.get head).1 - 1) 3) (q + 1)
  split
  ·have h4 := wl_put s2 head (q + 1); omega
  ·have h4 := wl_put (s2.put (ofF t p s ((st.get head).1 - 1) 3) (q + 1)) head (q + 1); omega
 ·omega
theorem wl_pull (t p s head q : Int) (st : VS) : (pullF t p s head q st).writes.length ≤ st.writes.length + 4 := by
 unfold pullF
 split
 ·dsimp only
  have e1 : ((st.get (ofF t p s q 2)).2.get (ofF t p s q 3)).2.writes = st.writes := by rw [wl_get, wl_get]
  generalize ((st.get (ofF t p s q 2)).2.get (ofF t p s q 3)) = f at *
  generalize (st.get (ofF t p s q 2)).1 = g at *
  have h3 : (if f.1 = 0 then f.2.put head g else f.2.put (ofF t p s (f.1 - 1) 2) g).writes.length ≤ st.writes.length + 1 := by
   rw [← e1]; split <;> exact wl_put _ _ _
  generalize (if f.1 = 0 then f.2.put head g else f.2.put (ofF t p s (f.1 - 1) 2) g) = s3 at *
  have h4 : (if g = 0 then s3 else s3.put (ofF t p s (g - 1) 3) f.1).writes.length ≤ s3.writes.length + 1 := by
   split
   ·omega
   ·exact wl_put _ _ _
  generalize (if g = 0 then s3 else s3.put (ofF t p s (g - 1) 3) f.1) = s4 at *
  have h5 := wl_put s4 (ofF t p s q 2) 0
  have h6 := wl_put (s4.put (ofF t p s q 2) 0) (ofF t p s q 3) 0
  omega
 ·omega
theorem wl_drop (t p s q : Int) (st : VS) : (dropF t p s q st).2.writes.length ≤ st.writes.length + 4 := by
 unfold dropF freeAt
 split
 ·dsimp only
  have e1 := wl_get st (ofF t p s q 0)
  generalize (st.get (ofF t p s q 0)) = g at *
  split
  ·rw [e1]; omega
  ·have := wl_pull t p s (withinF 2 (logF (freeV g.1)) 11) q g.2
   rw [e1] at this; exact this
 ·dsimp only; omega
theorem wl_join (t p s q b : Int) (st : VS) : (joinF t p s q b st).2.writes.length ≤ st.writes.length + 6 := by
 unfold joinF
 have h0 := wl_drop t p s q st
 have h1 := wl_put (dropF t p s q st).2 (ofF t p s b 0) 0
 have h2 := wl_put ((dropF t p s q st).2.put (ofF t p s b 0) 0) (ofF t p s (b - 1) 1) 0
 dsimp only
 omega
theorem wl_add (t p s q n : Int) (st : VS) : (addG t p s q n st).writes.length ≤ st.writes.length + 6 := by
 unfold addG
 split
 ·unfold addF
  have h1 := wl_put st (ofF t p s q.toNat 0) (1 + 16 * n.toNat)
  have h2 := wl_put (st.put (ofF t p s q.toNat 0) (1 + 16 * n.toNat)) (ofF t p s ((q.toNat : Int) + n.toNat - 1) 1) ((q.toNat : Int) + 1)
  have h3 := wl_push t p s (withinF 2 (logF n.toNat) 11) q.toNat ((st.put (ofF t p s q.toNat 0) (1 + 16 * n.toNat)).put (ofF t p s ((q.toNat : Int) + n.toNat - 1) 1) ((q.toNat : Int) + 1))
  omega
 ·omega
theorem wl_release (t p s q n : Int) (st : VS) : (releaseF t p s q n st).writes.length ≤ st.writes.length + 20 := by
 have ha : (aheadF t p s q st).2.writes = st.writes := by
  unfold aheadF; split
  ·rfl
  ·exact wl_get _ _
 have hb : (backF t p s q n st).2.writes.length ≤ st.writes.length + 6 := by
  unfold backF
  dsimp only
  split
  ·rw [ha]; omega
  ·have hg : (freeAt t p s (aheadF t p s q st).1 (aheadF t p s q st).2).2.writes = st.writes := by unfold freeAt; rw [wl_get, ha]
   split
   ·rw [hg]; omega
   ·have := wl_join t p s (aheadF t p s q st).1 q (freeAt t p s (aheadF t p s q st).1 (aheadF t p s q st).2).2
    rw [hg] at this; exact this
 have hf : ∀ r l (st : VS), (foreF t p s r l st).2.writes.length ≤ st.writes.length + 6 := by
  intro r l st
  unfold foreF
  dsimp only
  split
  ·have hg : (freeAt t p s r st).2.writes = st.writes := by unfold freeAt; rw [wl_get]
   split
   ·rw [hg]; omega
   ·have := wl_join t p s r r (freeAt t p s r st).2
    rw [hg] at this; exact this
  ·dsimp only; omega
 unfold releaseF countF
 dsimp only
 have h1 := hf (q + n) (backF t p s q n st).1.2 (backF t p s q n st).2
 have h2 := wl_add t p s (backF t p s q n st).1.1 (foreF t p s (q + n) (backF t p s q n st).1.2 (backF t p s q n st).2).1 (foreF t p s (q + n) (backF t p s q n st).1.2 (backF t p s q n st).2).2
 generalize (addG t p s (backF t p s q n st).1.1 (foreF t p s (q + n) (backF t p s q n st).1.2 (backF t p s q n st).2).1 (foreF t p s (q + n) (backF t p s q n st).1.2 (backF t p s q n st).2).2) = a at *
 have h3 := wl_put (a.get 0).2 0 (IntKind.u32.wrap ((a.get 0).1 + n))
 rw [wl_get] at h3
 omega
theorem wl_sweep (t p s q : Int) (st : VS) : (sweepF t p s q st).2.writes.length ≤ st.writes.length + (if (sweepF t p s q st).1 = true then 96 else 0) := by
 unfold sweepF
 dsimp only
 split
 ·split
  ·have e1 : ((st.get (ofF t p s q 0)).2.get (ofF t p s q 4)).2.writes = st.writes := by rw [wl_get, wl_get]
   generalize hl : ((st.get (ofF t p s q 0)).2.get (ofF t p s q 4)) = l at *
   have e2 : (l.2.get (ofF t p s q 5)).2.writes = st.writes := by rw [wl_get, e1]
   generalize (l.2.get (ofF t p s q 5)) = k at *
   split
   ·rw [e2]; omega
   ·simp only [if_true]
    have h1 := wl_put k.2 (ofF t p s q 5) l.1
    rw [e2] at h1
    generalize k.2.put (ofF t p s q 5) l.1 = u at *
    have h2 : ∀ h, (pullF t p s h q u).writes.length ≤ u.writes.length + 4 := fun h => wl_pull t p s h q u
    have h3 : ∀ h, (pushF t p s h q u).writes.length ≤ u.writes.length + 4 := fun h => wl_push t p s h q u
    have h4 := h2 (13 + iC (st.get (ofF t p s q 0)).1)
    have h5 := h3 (13 + iC (st.get (ofF t p s q 0)).1)
    split
    ·split
     ·have := wl_release t p s q 1 u; omega
     ·have := wl_release t p s q 1 (pullF t p s (13 + iC (st.get (ofF t p s q 0)).1) q u); omega
    ·split <;> omega
  ·rw [wl_get]; simp
 ·simp
theorem wl_sweepN (t p s : Int) (st : VS) (k : Nat) : (sweepN t p s k st).2.writes.length ≤ st.writes.length + 96 * (sweepN t p s k st).1 := by
 induction k with
 | zero => simp [sweepN]
 | succ k ih =>
  have h := wl_sweep t p s k (sweepN t p s k st).2
  unfold sweepN
  dsimp only
  split at h <;> rename_i e <;> simp only [e] <;> simp <;> omega
theorem sweepN_le (t p s : Int) (st : VS) (k : Nat) : (sweepN t p s k st).1 ≤ k := by
 induction k with
 | zero => simp [sweepN]
 | succ k ih => unfold sweepN; dsimp only; split <;> omega
end Go.Proofs.YtnagdljgeglceaaGreat
/- bin of the program: free, Drop, Add of any pages. -/
set_option linter.unusedSimpArgs false
set_option linter.unusedVariables false
namespace Go.Proofs.YtnagdljgeglceaaGreat
open Go.RowKit

theorem get_as {b : Nat} {st s1 : VS} {i v : Int} (e : st.get i = (v, s1)) (w : World) (S : Nat → Prop) (h : PV w b S st) :
 Calls Tryz.prog 29 #[.pointer (some ⟨b, 0, none⟩), .int .i64 i] w fun e w' => e = .returned (.int .u32 v) ∧ Now w b S s1 w' := by
 have := get_any b i w S st h
 rwa [e] at this

set_option maxRecDepth 100000 in
theorem bfree_any (b : Nat) (t p s q : Int) (w : World) (S : Nat → Prop) (st : VS) (h : PV w b S st) :
 Calls Tryz.prog 189 #[.pointer (some ⟨b, 0, none⟩), .agg #[.int .i64 t, .int .i64 p, .int .i64 s], .int .i64 q] w fun e w' => e = .returned (.int .i64 (freeAt t p s q st).1) ∧ Now w b S (freeAt t p s q st).2 w' := by
 have hV := (VSt.start keepsPV h).alloc keepsPV (.cells #[.int .i64 t, .int .i64 p, .int .i64 s] 23)
 have c0 := loc_alloc w #[.int .i64 t, .int .i64 p, .int .i64 s] 23
 have hu := VS.get_u32 (keepsPV.inv h) (ofF t p s q 0)
 obtain ⟨v, s1, hg⟩ : ∃ v s1, st.get (ofF t p s q 0) = (v, s1) := ⟨_, _, rfl⟩
 have HI := Lib.hid (fun w => iget_any (st.get (ofF t p s q 0)).1 w hu.1 hu.2)
 have hF : freeAt t p s q st = (if iK v = 1 then iL v else 0, s1) := by unfold freeAt freeV; rw [hg]
 have G := Lib.hid (get_as (b := b) hg)
 rw [hF]
 rw [hg] at HI
 clear h hF hu hg
 generalize iK v = k at *
 generalize iL v = l at *
 by_cases e : k = 1
 ·rw [if_pos e]
  go_enter Tryz.func189, Tryz.ntmps189
  go_wp2_with fail
  refine (calls_bl keepsPV hV (pinfo_any _ _ _ _ _)).mono ?_
  rintro e w1 ⟨rfl, hV1, hV1l⟩
  have c1 := loc_step hV1l (by simp) c0
  clear hV1l
  go_wp2_with fail
  refine (calls_st hV1 (G.out _)).mono ?_
  rintro e w2 ⟨rfl, hV2, hV2l⟩
  have c2 := loc_step hV2l (by simp) c1
  clear hV2l
  go_wp2_with fail
  refine (calls_bl keepsPV hV2 (HI.out _)).mono ?_
  rintro e w3 ⟨rfl, hV3, hV3l⟩
  have c3 := loc_step hV3l (by simp) c2
  clear hV3l
  subst e
  go_wp2
  go_ret
  exact ⟨rfl, (hV3.alloc keepsPV _).done keepsPV⟩
 ·rw [if_neg e]
  go_enter Tryz.func189, Tryz.ntmps189
  go_wp2_with fail
  refine (calls_bl keepsPV hV (pinfo_any _ _ _ _ _)).mono ?_
  rintro e w1 ⟨rfl, hV1, hV1l⟩
  have c1 := loc_step hV1l (by simp) c0
  clear hV1l
  go_wp2_with fail
  refine (calls_st hV1 (G.out _)).mono ?_
  rintro e w2 ⟨rfl, hV2, hV2l⟩
  have c2 := loc_step hV2l (by simp) c1
  clear hV2l
  go_wp2_with fail
  refine (calls_bl keepsPV hV2 (HI.out _)).mono ?_
  rintro e w3 ⟨rfl, hV3, hV3l⟩
  have c3 := loc_step hV3l (by simp) c2
  clear hV3l
  go_wp2
  go_ret
  exact ⟨rfl, (hV3.alloc keepsPV _).done keepsPV⟩

theorem bpage_b (t p s q : Int) (w : World) : Calls Tryz.prog 175 #[.agg #[.int .i64 t, .int .i64 p, .int .i64 s], .int .i64 q] w fun e w' => e = .returned (.bool (pageB p q)) ∧ Below w.heap.size w w' := by
 by_cases h1 : 0 ≤ q
 ·have hF : pageB p q = decide (q < p) := by simp [pageB, h1]
  rw [hF]
  go_enter Tryz.func175, Tryz.ntmps175
  go_wp2
  go_ret
  refine ⟨rfl, ?_⟩
  (repeat (first | exact Below.refl _ _ | assumption | refine Below.setCell ?_ (by first | omega | (simp; done) | (simp; omega)) _ | refine Below.alloc ?_ (by first | omega | (simp; done) | (simp; omega)) _ | refine Below.drew ?_ | refine Below.trans ?_ (Below.mono ‹Below _ _ _› (by first | omega | (simp; done) | (simp; omega)))))
 ·have hF : pageB p q = false := by simp [pageB, h1]
  rw [hF]
  go_enter Tryz.func175, Tryz.ntmps175
  go_wp2
  go_ret
  refine ⟨rfl, ?_⟩
  (repeat (first | exact Below.refl _ _ | assumption | refine Below.setCell ?_ (by first | omega | (simp; done) | (simp; omega)) _ | refine Below.alloc ?_ (by first | omega | (simp; done) | (simp; omega)) _ | refine Below.drew ?_ | refine Below.trans ?_ (Below.mono ‹Below _ _ _› (by first | omega | (simp; done) | (simp; omega)))))

set_option maxHeartbeats 1000000 in
set_option maxRecDepth 100000 in
theorem bdrop_any (b : Nat) (t p s q : Int) (w : World) (S : Nat → Prop) (st : VS) (h : PV w b S st) (hp : p ≤ 1024) :
 Calls Tryz.prog 174 #[.pointer (some ⟨b, 0, none⟩), .agg #[.int .i64 t, .int .i64 p, .int .i64 s], .int .i64 q] w fun e w' => e = .returned (.int .i64 (dropF t p s q st).1) ∧ Now w b S (dropF t p s q st).2 w' := by
 have hV := (VSt.start keepsPV h).alloc keepsPV (.cells #[.int .i64 t, .int .i64 p, .int .i64 s] 23)
 have c0 := loc_alloc w #[.int .i64 t, .int .i64 p, .int .i64 s] 23
 have HP := fun w => bpage_b t p s q w
 cases hq : pageB p q with
 | false =>
  rw [hq] at HP
  have HQ := Lib.hid HP
  have hF : dropF t p s q st = (0, st) := by simp [dropF, hq]
  rw [hF]
  clear h hF HP
  go_enter Tryz.func174, Tryz.ntmps174
  go_wp2_with fail
  refine (calls_bl keepsPV hV (HQ.out _)).mono ?_
  rintro e w1 ⟨rfl, hV1, hV1l⟩
  have c1 := loc_step hV1l (by simp) c0
  clear hV1l
  go_wp2
  go_ret
  exact ⟨rfl, hV1.done keepsPV⟩
 | true =>
  rw [hq] at HP
  have HQ := Lib.hid HP
  have hbd := freeV_bd (st.get (ofF t p s q 0)).1
  obtain ⟨l, s1, hl⟩ : ∃ l s1, freeAt t p s q st = (l, s1) := ⟨_, _, rfl⟩
  have G := fun (w : World) (S1 : Nat → Prop) (h1 : PV w b S1 st) => bfree_any b t p s q w S1 st h1
  have hl1 : freeV (st.get (ofF t p s q 0)).1 = l := by have := congrArg Prod.fst hl; exact this
  have hF : dropF t p s q st = (l, if l = 0 then s1 else pullF t p s (withinF 2 (logF l) 11) q s1) := by simp only [dropF, hq, hl, if_true]
  rw [hF]
  rw [hl1] at hbd
  rw [hl] at G
  have HG := Lib.hid G
  obtain ⟨n, rfl⟩ : ∃ n : Nat, l = n := ⟨l.toNat, by omega⟩
  clear h hF HP hl hl1 hq G
  by_cases hn : n = 0
  ·subst hn
   go_enter Tryz.func174, Tryz.ntmps174
   go_wp2_with fail
   refine (calls_bl keepsPV hV (HQ.out _)).mono ?_
   rintro e w1 ⟨rfl, hV1, hV1l⟩
   have c1 := loc_step hV1l (by simp) c0
   clear hV1l
   go_wp2_with fail
   refine (calls_st hV1 (HG.out _)).mono ?_
   rintro e w2 ⟨rfl, hV2, hV2l⟩
   have c2 := loc_step hV2l (by simp) c1
   clear hV2l
   go_wp2
   go_ret
   exact ⟨rfl, hV2.done keepsPV⟩
  ·have HO := Lib.hid (fun w => bof_any n w (by omega) (by omega))
   have e0 : (if (n : Int) = 0 then s1 else pullF t p s (withinF 2 (logF n) 11) q s1) = pullF t p s (withinF 2 (logF n) 11) q s1 := if_neg (by omega)
   rw [e0]
   clear e0
   generalize logF n = lg at *
   go_enter Tryz.func174, Tryz.ntmps174
   go_wp2_with fail
   refine (calls_bl keepsPV hV (HQ.out _)).mono ?_
   rintro e w1 ⟨rfl, hV1, hV1l⟩
   have c1 := loc_step hV1l (by simp) c0
   clear hV1l
   go_wp2_with fail
   refine (calls_st hV1 (HG.out _)).mono ?_
   rintro e w2 ⟨rfl, hV2, hV2l⟩
   have c2 := loc_step hV2l (by simp) c1
   clear hV2l
   go_wp2_with fail
   have hV2d := hV2.drew keepsPV
   refine wp_region_noPanic ?_
   refine wp_region_held_drew (S := fun w' => (∀ o : Nat, w'.cell? ⟨w.heap.size, o, none⟩ = (#[.int .i64 t, .int .i64 p, .int .i64 s] : Array Value)[o]?)) (by kernel_rfl) ?_ (fun hHeld => ?_)
   ·exact c2
   refine wpAnyH_take (i := 0) (oi := _) (v := ?_) rfl (by kernel_rfl) (by kernel_rfl) (by kernel_rfl) (fun _ _ _ h => h) (Or.inl ⟨by rfl, ?_⟩) (by assumption) ?_
   rotate_left
   ·intro w hSw; (try dsimp only at hSw); go_simp; try with_reducible rfl
   try simp only [Act.put, zA, zB, zD, zE, zF]
   refine wpAnyH_take (i := 1) (oi := _) (v := ?_) rfl (by kernel_rfl) (by kernel_rfl) (by kernel_rfl) (fun _ _ _ h => h) (Or.inl ⟨by rfl, ?_⟩) (by assumption) ?_
   rotate_left
   ·intro w hSw; (try dsimp only at hSw); go_simp; try with_reducible rfl
   try simp only [Act.put, zA, zB, zC, zD, zE, zF]
   refine wpAnyH_take (i := 2) (oi := _) (v := ?_) rfl (by kernel_rfl) (by kernel_rfl) (by kernel_rfl) (fun _ _ _ h => h) (Or.inl ⟨by rfl, ?_⟩) (by assumption) ?_
   rotate_left
   ·intro w hSw; (try dsimp only at hSw); go_simp; try with_reducible rfl
   try simp only [Act.put, zA, zB, zC, zD, zE, zF]
   refine wpAnyH_take (i := 5) (oi := _) (v := ?_) rfl (by kernel_rfl) (by kernel_rfl) (by kernel_rfl) (fun _ _ _ h => h) (Or.inl ⟨by rfl, ?_⟩) (by assumption) ?_
   rotate_left
   ·intro w hSw; (try dsimp only at hSw); go_simp; try with_reducible rfl
   try simp only [Act.put, zA, zB, zC, zD, zE, zF]
   refine wpAnyH_ready (rs := [3]) (by kernel_rfl) (by simp) ?_
   refine AllReadyH.cons (o := _) rfl (fun K hK => ?_) AllReadyH.nil
   go_simp
   refine (calls_bl keepsPV hV2d (HO.out _)).mono ?_
   rintro e w3 ⟨rfl, hV3, hV3l⟩
   have c3 := loc_step hV3l (by simp) hHeld
   clear hV3l
   dsimp only
   refine hK.out _ _ ?_ (fun hHeld => ?_)
   ·exact c3
   clear hK K
   try simp only [Act.put, zA, zB, zC, zD, zE, zF]
   refine wpAnyH_ready (rs := [4]) (by kernel_rfl) (by simp) ?_
   refine AllReadyH.cons (o := _) rfl (fun K hK => ?_) AllReadyH.nil
   go_simp
   refine (calls_bl keepsPV hV3 (pbin_any _ _)).mono ?_
   rintro e w4 ⟨rfl, hV4, hV4l⟩
   have c4 := loc_step hV4l (by simp) c3
   clear hV4l
   dsimp only
   refine hK.out _ _ ?_ (fun hHeld => ?_)
   ·exact c4
   clear hK K
   try simp only [Act.put, zA, zB, zC, zD, zE, zF]
   refine wpAnyH_ready (rs := [6]) (by kernel_rfl) (by simp) ?_
   refine AllReadyH.cons (o := _) rfl (fun K hK => ?_) AllReadyH.nil
   go_simp
   refine (calls_st hV4 (fun S1 h1 => pull_any b t p s _ q _ S1 _ h1 hp)).mono ?_
   rintro e w5 ⟨rfl, hV5, hV5l⟩
   have c5 := loc_step hV5l (by simp) c4
   clear hV5l
   dsimp only
   refine hK.out _ _ ?_ (fun hHeld => ?_)
   ·exact c5
   clear hK K
   try simp only [Act.put, zA, zB, zC, zD, zE, zF]
   refine wpAnyH_done (by kernel_rfl) ?_ _
   refine NoPanic.normal ?_
   go_wp2
   go_ret
   exact ⟨rfl, hV5.done keepsPV⟩

theorem badd_all (b : Nat) (t p s q n : Int) (w : World) (S : Nat → Prop) (st : VS) (h : PV w b S st) (hp : p ≤ 1024) :
 Calls Tryz.prog 149 #[.pointer (some ⟨b, 0, none⟩), .agg #[.int .i64 t, .int .i64 p, .int .i64 s], .int .i64 q, .int .i64 n] w fun e w' => e = .returned (.tuple #[]) ∧ Now w b S (addG t p s q n st) w' := by
 by_cases hc : 0 ≤ q ∧ q < p ∧ 1 ≤ n ∧ n ≤ p - q
 ·have := badd_any b t p s q.toNat n.toNat w S st h hp (by omega) (by omega) (by omega)
  rw [show ((q.toNat : Nat) : Int) = q by omega, show ((n.toNat : Nat) : Int) = n by omega] at this
  unfold addG
  rw [if_pos hc]
  exact this
 ·have hF : addG t p s q n st = st := if_neg hc
  rw [hF]
  have hV := (VSt.start keepsPV h).alloc keepsPV (.cells #[.int .i64 t, .int .i64 p, .int .i64 s] 23)
  have c0 := loc_alloc w #[.int .i64 t, .int .i64 p, .int .i64 s] 23
  have HP := fun w => bpage_b t p s q w
  clear h hF
  cases hq : pageB p q with
  | false =>
   rw [hq] at HP
   have HQ := Lib.hid HP
   clear HP hq hc
   go_enter Tryz.func149, Tryz.ntmps149
   go_wp2_with fail
   refine (calls_bl keepsPV hV (HQ.out _)).mono ?_
   rintro e w1 ⟨rfl, hV1, hV1l⟩
   have c1 := loc_step hV1l (by simp) c0
   clear hV1l
   go_wp2
   refine bodyPost_ret (results_none rfl _ _ _) rfl ?_
   exact ⟨rfl, hV1.done keepsPV⟩
  | true =>
   rw [hq] at HP
   have HQ := Lib.hid HP
   have hq2 : 0 ≤ q ∧ q < p := by simpa [pageB] using hq
   clear HP hq
   by_cases hn : n < 1
   ·clear hc
    go_enter Tryz.func149, Tryz.ntmps149
    go_wp2_with fail
    refine (calls_bl keepsPV hV (HQ.out _)).mono ?_
    rintro e w1 ⟨rfl, hV1, hV1l⟩
    have c1 := loc_step hV1l (by simp) c0
    clear hV1l
    go_wp2
    refine bodyPost_ret (results_none rfl _ _ _) rfl ?_
    exact ⟨rfl, hV1.done keepsPV⟩
   ·have hw1 : IntKind.i64.wrap (p - q) = p - q := wrap_in _ (by omega)
    have hn2 : p - q < n := by omega
    clear hc
    go_enter Tryz.func149, Tryz.ntmps149
    go_wp2_with fail
    refine (calls_bl keepsPV hV (HQ.out _)).mono ?_
    rintro e w1 ⟨rfl, hV1, hV1l⟩
    have c1 := loc_step hV1l (by simp) c0
    clear hV1l
    go_wp2
    refine bodyPost_ret (results_none rfl _ _ _) rfl ?_
    exact ⟨rfl, hV1.done keepsPV⟩
end Go.Proofs.YtnagdljgeglceaaGreat
/- span of the program: the heap's small methods. -/
set_option linter.unusedSimpArgs false
set_option linter.unusedVariables false
namespace Go.Proofs.YtnagdljgeglceaaGreat
open Go.RowKit

/-- a box of the call's own, beside the others, in a call that turns a view. -/
structure VA (w0 : World) (b : Nat) (S : Nat → Prop) (Ls : List Nat) (LA : Nat) (cs : Array Value) (T : TypeId) (st : VS) (w : World) : Prop where
 vs : VSt PV w0 b S (LA :: Ls) st w
 box : w.heap[LA]? = some (.cells cs T)
 ne : ∀ L ∈ Ls, L ≠ LA
section
variable {w0 w w' : World} {b : Nat} {S : Nat → Prop} {Ls : List Nat} {LA : Nat} {cs : Array Value} {T : TypeId} {st st' : VS}
theorem VSt.allocd (h : VSt PV w0 b S Ls st w) (cs : Array Value) (T : TypeId) : VA w0 b S Ls w.heap.size cs T st (w.alloc (.cells cs T)) :=
 ⟨h.alloc keepsPV _, heap_alloc_new w _, fun L hL e => by have := (h.ls L hL).1; omega⟩
theorem VA.step (h : VA w0 b S Ls LA cs T st w) (hV : VSt PV w0 b S (LA :: Ls) st' w') (hl : ∀ L ∈ LA :: Ls, w'.heap[L]? = w.heap[L]?) : VA w0 b S Ls LA cs T st' w' :=
 ⟨hV, (hl _ (by simp)).trans h.box, h.ne⟩
theorem VA.set (h : VA w0 b S Ls LA cs T st w) (o : Nat) (v : Value) : VA w0 b S Ls LA (cs.setIfInBounds o v) T st (w.setCell ⟨LA, o, none⟩ v) :=
 ⟨h.vs.setCell keepsPV (by simp) _ _, heap_setCell_same h.box, h.ne⟩
theorem VA.loc (h : VA w0 b S Ls LA cs T st w) {L : Nat} {ds : Array Value} (hm : L ∈ Ls) (o : Nat) (v : Value) (hc : ∀ i : Nat, w.cell? ⟨L, i, none⟩ = ds[i]?) : ∀ i : Nat, (w.setCell ⟨LA, o, none⟩ v).cell? ⟨L, i, none⟩ = ds[i]? :=
 fun i => (World.cell?_of_block (a := ⟨L, i, none⟩) (heap_setCell_other (h.ne L hm))).trans (hc i)
end

set_option maxHeartbeats 2000000 in
set_option maxRecDepth 100000 in
theorem hfree_any (b : Nat) (t p s q : Int) (w : World) (S : Nat → Prop) (st : VS) (h : PV w b S st) :
 Calls Tryz.prog 147 #[.agg #[.pointer (some ⟨b, 0, none⟩), .int .i64 t, .int .i64 p, .int .i64 s], .int .i64 q] w fun e w' => e = .returned (.int .i64 (freeAt t p s q st).1) ∧ Now w b S (freeAt t p s q st).2 w' := by
 have hV := (VSt.start keepsPV h).alloc keepsPV (.cells #[.pointer (some ⟨b, 0, none⟩), .int .i64 t, .int .i64 p, .int .i64 s] 161)
 have c0 := loc_alloc w #[.pointer (some ⟨b, 0, none⟩), .int .i64 t, .int .i64 p, .int .i64 s] 161
 have hu := VS.get_u32 (keepsPV.inv h) (ofF t p s q 0)
 obtain ⟨v, s1, hg⟩ : ∃ v s1, st.get (ofF t p s q 0) = (v, s1) := ⟨_, _, rfl⟩
 have HI := Lib.hid (fun w => iget_any (st.get (ofF t p s q 0)).1 w hu.1 hu.2)
 have hF : freeAt t p s q st = (if iK v = 1 then iL v else 0, s1) := by unfold freeAt freeV; rw [hg]
 have G := Lib.hid (get_as (b := b) hg)
 obtain ⟨r, hr⟩ : ∃ r, r = if iK v = 1 then iL v else 0 := ⟨_, rfl⟩
 rw [hF, ← hr]
 rw [hg] at HI
 clear h hF hu hg
 generalize iK v = k at *
 generalize iL v = l at *
 generalize iC v = m at *
 have HR := Lib.hid hr
 clear hr
 go_enter Tryz.func147, Tryz.ntmps147
 go_wp2_with fail
 have hX := hV.drew keepsPV
 refine wp_region_noPanic ?_
 refine wp_region_held_drew (S := fun w' => (∀ o : Nat, w'.cell? ⟨w.heap.size, o, none⟩ = (#[.pointer (some ⟨b, 0, none⟩), .int .i64 t, .int .i64 p, .int .i64 s] : Array Value)[o]?)) (by kernel_rfl) ?_ (fun hHeld => ?_)
 ·exact c0
 refine wpAnyH_take (i := 0) (oi := _) (v := ?_) rfl (by kernel_rfl) (by kernel_rfl) (by kernel_rfl) (fun _ _ _ h => h) (Or.inl ⟨by rfl, ?_⟩) (by assumption) ?_
 rotate_left
 ·intro w hSw; (try dsimp only at hSw); go_simp; try with_reducible rfl
 try simp only [Act.put, zA, zB, zD, zE, zF]
 refine wpAnyH_take (i := 1) (oi := _) (v := ?_) rfl (by kernel_rfl) (by kernel_rfl) (by kernel_rfl) (fun _ _ _ h => h) (Or.inl ⟨by rfl, ?_⟩) (by assumption) ?_
 rotate_left
 ·intro w hSw; (try dsimp only at hSw); go_simp; try with_reducible rfl
 try simp only [Act.put, zA, zB, zC, zD, zE, zF]
 refine wpAnyH_take (i := 2) (oi := _) (v := ?_) rfl (by kernel_rfl) (by kernel_rfl) (by kernel_rfl) (fun _ _ _ h => h) (Or.inl ⟨by rfl, ?_⟩) (by assumption) ?_
 rotate_left
 ·intro w hSw; (try dsimp only at hSw); go_simp; try with_reducible rfl
 try simp only [Act.put, zA, zB, zC, zD, zE, zF]
 refine wpAnyH_take (i := 3) (oi := _) (v := ?_) rfl (by kernel_rfl) (by kernel_rfl) (by kernel_rfl) (fun _ _ _ h => h) (Or.inl ⟨by rfl, ?_⟩) (by assumption) ?_
 rotate_left
 ·intro w hSw; (try dsimp only at hSw); go_simp; try with_reducible rfl
 try simp only [Act.put, zA, zB, zC, zD, zE, zF]
 refine wpAnyH_take (i := 4) (oi := _) (v := ?_) rfl (by kernel_rfl) (by kernel_rfl) (by kernel_rfl) (fun _ _ _ h => h) (Or.inl ⟨by rfl, ?_⟩) (by assumption) ?_
 rotate_left
 ·intro w hSw; (try dsimp only at hSw); go_simp; try with_reducible rfl
 try simp only [Act.put, zA, zB, zC, zD, zE, zF]
 refine wpAnyH_ready (rs := [5, 11]) (by kernel_rfl) (by simp) ?_
 refine AllReadyH.cons (o := _) rfl (fun K hK => ?_) (AllReadyH.cons (o := _) rfl (fun K hK => ?_) AllReadyH.nil)
 ·go_simp
  refine (calls_bl keepsPV hX (pinfo_any _ _ _ _ _)).mono ?_
  rintro e w5 ⟨rfl, hY, hXl⟩
  try have hA := hA.step hY hXl
  have hX := hY
  have c := loc_step hXl (by simp) hHeld
  clear hXl hY
  dsimp only
  refine hK.out _ _ ?_ (fun hHeld => ?_)
  ·exact c
  clear hK K
  try simp only [Act.put, zA, zB, zC, zD, zE, zF]
  refine wpAnyH_ready (rs := [6, 11]) (by kernel_rfl) (by simp) ?_
  refine AllReadyH.cons (o := _) rfl (fun K hK => ?_) (AllReadyH.cons (o := _) rfl (fun K hK => ?_) AllReadyH.nil)
  ·go_simp
   refine (calls_st hX (G.out _)).mono ?_
   rintro e w6 ⟨rfl, hY, hXl⟩
   try have hA := hA.step hY hXl
   have hX := hY
   have c := loc_step hXl (by simp) hHeld
   clear hXl hY
   dsimp only
   refine hK.out _ _ ?_ (fun hHeld => ?_)
   ·exact c
   clear hK K
   try simp only [Act.put, zA, zB, zC, zD, zE, zF]
   refine wpAnyH_ready (rs := [7, 11]) (by kernel_rfl) (by simp) ?_
   refine AllReadyH.cons (o := _) rfl (fun K hK => ?_) (AllReadyH.cons (o := _) rfl (fun K hK => ?_) AllReadyH.nil)
   ·go_simp
    refine (calls_bl keepsPV hX (HI.out _)).mono ?_
    rintro e w7 ⟨rfl, hY, hXl⟩
    try have hA := hA.step hY hXl
    have hX := hY
    have c := loc_step hXl (by simp) hHeld
    clear hXl hY
    dsimp only
    refine hK.out _ _ ?_ (fun hHeld => ?_)
    ·exact c
    clear hK K
    try simp only [Act.put, zA, zB, zC, zD, zE, zF]
    refine wpAnyH_take (i := 8) (oi := _) (v := ?_) rfl (by kernel_rfl) (by kernel_rfl) (by kernel_rfl) (fun _ _ _ h => h) (Or.inl ⟨by rfl, ?_⟩) (by assumption) ?_
    rotate_left
    ·intro w hSw; (try dsimp only at hSw); go_simp; try with_reducible rfl
    try simp only [Act.put, zA, zB, zC, zD, zE, zF]
    refine wpAnyH_take (i := 9) (oi := _) (v := ?_) rfl (by kernel_rfl) (by kernel_rfl) (by kernel_rfl) (fun _ _ _ h => h) (Or.inl ⟨by rfl, ?_⟩) (by assumption) ?_
    rotate_left
    ·intro w hSw; (try dsimp only at hSw); go_simp; try with_reducible rfl
    try simp only [Act.put, zA, zB, zC, zD, zE, zF]
    refine wpAnyH_take (i := 10) (oi := _) (v := ?_) rfl (by kernel_rfl) (by kernel_rfl) (by kernel_rfl) (fun _ _ _ h => h) (Or.inl ⟨by rfl, ?_⟩) (by assumption) ?_
    rotate_left
    ·intro w hSw; (try dsimp only at hSw); go_simp; try with_reducible rfl
    try simp only [Act.put, zA, zB, zC, zD, zE, zF]
    refine wpAnyH_ready (rs := [11]) (by kernel_rfl) (by simp) ?_
    refine AllReadyH.cons (o := _) rfl (fun K hK => ?_) AllReadyH.nil
    have hP := hX
    have hPc := hHeld
    have hA := hX.allocd #[.int .i64 0, .int .i64 0, .int .i64 0] 73
    try simp only [World.size_drew] at hA
    try simp only [World.size_alloc] at hA
    have hX := hA.vs
    have c := loc_old (.cells #[.int .i64 0, .int .i64 0, .int .i64 0] 73) (hP.ls _ (by simp)).1 hHeld
    go_simp
    refine hK.out _ _ ?_ (fun hHeld => ?_)
    ·exact c
    clear hK K
    try simp only [Act.put, zA, zB, zC, zD, zE, zF]
    refine wpAnyH_ready (rs := [12]) (by kernel_rfl) (by simp) ?_
    refine AllReadyH.cons (o := _) rfl (fun K hK => ?_) AllReadyH.nil
    obtain ⟨⟨k0, k1, k2⟩, f0, f1, f2⟩ := cells3 hA.box
    have hA2 : VA w b S [w.heap.size] _ #[.int .i64 k, .int .i64 l, .int .i64 m] 73 s1 _ := ((hA.set 0 (.int .i64 k)).set 1 (.int .i64 l)).set 2 (.int .i64 m)
    try have hA3 : VA w b S [w.heap.size] _ #[.int .i64 k, .int .i64 l, .int .i64 m] 73 s1 _ := hP.allocd #[.int .i64 k, .int .i64 l, .int .i64 m] 73
    go_simp
    refine hK.out _ _ ?_ (fun hHeld => ?_)
    ·exact by first | with_reducible exact loc_old _ (hP.ls _ (by simp)).1 hPc | exact ((hA.set 0 _).set 1 _).loc (by simp) 2 _ ((hA.set 0 _).loc (by simp) 1 _ (hA.loc (by simp) 0 _ hHeld))
    clear hK K
    try simp only [Act.put, zA, zB, zC, zD, zE, zF]
    refine wpAnyH_take (i := 13) (oi := _) (v := ?_) rfl (by kernel_rfl) (by kernel_rfl) (by kernel_rfl) (fun _ _ _ h => h) (Or.inl ⟨by rfl, ?_⟩) (by assumption) ?_
    rotate_left
    ·intro w hSw; (try dsimp only at hSw); go_simp; try with_reducible rfl
    try simp only [Act.put, zA, zB, zC, zD, zE, zF]
    refine wpAnyH_done (by kernel_rfl) ?_ _
    refine NoPanic.normal ?_
    refine world_gen ?_
    intro wz hwz
    first | rw [← hwz] at hA2; have hZ := hA2 | rw [← hwz] at hA3; have hZ := hA3
    clear hwz hX hA
    obtain ⟨⟨k0, k1, k2⟩, f0, f1, f2⟩ := cells3 hZ.box
    by_cases e : k = 1
    ·subst e
     go_wp2
     go_ret
     exact ⟨ret_int (by rw [HR.out]; rfl), hZ.vs.done keepsPV⟩
    ·go_wp2
     go_ret
     exact ⟨ret_int (by rw [HR.out, if_neg e]), hZ.vs.done keepsPV⟩
   ·have hP := hX
    have hPc := hHeld
    have hA := hX.allocd #[.int .i64 0, .int .i64 0, .int .i64 0] 73
    try simp only [World.size_drew] at hA
    try simp only [World.size_alloc] at hA
    have hX := hA.vs
    have c := loc_old (.cells #[.int .i64 0, .int .i64 0, .int .i64 0] 73) (hP.ls _ (by simp)).1 hHeld
    go_simp
    refine hK.out _ _ ?_ (fun hHeld => ?_)
    ·exact c
    clear hK K
    try simp only [Act.put, zA, zB, zC, zD, zE, zF]
    refine wpAnyH_ready (rs := [7]) (by kernel_rfl) (by simp) ?_
    refine AllReadyH.cons (o := _) rfl (fun K hK => ?_) AllReadyH.nil
    go_simp
    refine (calls_bl keepsPV hX (HI.out _)).mono ?_
    rintro e w7 ⟨rfl, hY, hXl⟩
    try have hA := hA.step hY hXl
    have hX := hY
    have c := loc_step hXl (by simp) hHeld
    clear hXl hY
    dsimp only
    refine hK.out _ _ ?_ (fun hHeld => ?_)
    ·exact c
    clear hK K
    try simp only [Act.put, zA, zB, zC, zD, zE, zF]
    refine wpAnyH_take (i := 8) (oi := _) (v := ?_) rfl (by kernel_rfl) (by kernel_rfl) (by kernel_rfl) (fun _ _ _ h => h) (Or.inl ⟨by rfl, ?_⟩) (by assumption) ?_
    rotate_left
    ·intro w hSw; (try dsimp only at hSw); go_simp; try with_reducible rfl
    try simp only [Act.put, zA, zB, zC, zD, zE, zF]
    refine wpAnyH_take (i := 9) (oi := _) (v := ?_) rfl (by kernel_rfl) (by kernel_rfl) (by kernel_rfl) (fun _ _ _ h => h) (Or.inl ⟨by rfl, ?_⟩) (by assumption) ?_
    rotate_left
    ·intro w hSw; (try dsimp only at hSw); go_simp; try with_reducible rfl
    try simp only [Act.put, zA, zB, zC, zD, zE, zF]
    refine wpAnyH_take (i := 10) (oi := _) (v := ?_) rfl (by kernel_rfl) (by kernel_rfl) (by kernel_rfl) (fun _ _ _ h => h) (Or.inl ⟨by rfl, ?_⟩) (by assumption) ?_
    rotate_left
    ·intro w hSw; (try dsimp only at hSw); go_simp; try with_reducible rfl
    try simp only [Act.put, zA, zB, zC, zD, zE, zF]
    refine wpAnyH_ready (rs := [12]) (by kernel_rfl) (by simp) ?_
    refine AllReadyH.cons (o := _) rfl (fun K hK => ?_) AllReadyH.nil
    obtain ⟨⟨k0, k1, k2⟩, f0, f1, f2⟩ := cells3 hA.box
    have hA2 : VA w b S [w.heap.size] _ #[.int .i64 k, .int .i64 l, .int .i64 m] 73 s1 _ := ((hA.set 0 (.int .i64 k)).set 1 (.int .i64 l)).set 2 (.int .i64 m)
    try have hA3 : VA w b S [w.heap.size] _ #[.int .i64 k, .int .i64 l, .int .i64 m] 73 s1 _ := hP.allocd #[.int .i64 k, .int .i64 l, .int .i64 m] 73
    go_simp
    refine hK.out _ _ ?_ (fun hHeld => ?_)
    ·exact by first | with_reducible exact loc_old _ (hP.ls _ (by simp)).1 hPc | exact ((hA.set 0 _).set 1 _).loc (by simp) 2 _ ((hA.set 0 _).loc (by simp) 1 _ (hA.loc (by simp) 0 _ hHeld))
    clear hK K
    try simp only [Act.put, zA, zB, zC, zD, zE, zF]
    refine wpAnyH_take (i := 13) (oi := _) (v := ?_) rfl (by kernel_rfl) (by kernel_rfl) (by kernel_rfl) (fun _ _ _ h => h) (Or.inl ⟨by rfl, ?_⟩) (by assumption) ?_
    rotate_left
    ·intro w hSw; (try dsimp only at hSw); go_simp; try with_reducible rfl
    try simp only [Act.put, zA, zB, zC, zD, zE, zF]
    refine wpAnyH_done (by kernel_rfl) ?_ _
    refine NoPanic.normal ?_
    refine world_gen ?_
    intro wz hwz
    first | rw [← hwz] at hA2; have hZ := hA2 | rw [← hwz] at hA3; have hZ := hA3
    clear hwz hX hA
    obtain ⟨⟨k0, k1, k2⟩, f0, f1, f2⟩ := cells3 hZ.box
    by_cases e : k = 1
    ·subst e
     go_wp2
     go_ret
     exact ⟨ret_int (by rw [HR.out]; rfl), hZ.vs.done keepsPV⟩
    ·go_wp2
     go_ret
     exact ⟨ret_int (by rw [HR.out, if_neg e]), hZ.vs.done keepsPV⟩
  ·have hP := hX
   have hPc := hHeld
   have hA := hX.allocd #[.int .i64 0, .int .i64 0, .int .i64 0] 73
   try simp only [World.size_drew] at hA
   try simp only [World.size_alloc] at hA
   have hX := hA.vs
   have c := loc_old (.cells #[.int .i64 0, .int .i64 0, .int .i64 0] 73) (hP.ls _ (by simp)).1 hHeld
   go_simp
   refine hK.out _ _ ?_ (fun hHeld => ?_)
   ·exact c
   clear hK K
   try simp only [Act.put, zA, zB, zC, zD, zE, zF]
   refine wpAnyH_ready (rs := [6]) (by kernel_rfl) (by simp) ?_
   refine AllReadyH.cons (o := _) rfl (fun K hK => ?_) AllReadyH.nil
   go_simp
   refine (calls_st hX (G.out _)).mono ?_
   rintro e w6 ⟨rfl, hY, hXl⟩
   try have hA := hA.step hY hXl
   have hX := hY
   have c := loc_step hXl (by simp) hHeld
   clear hXl hY
   dsimp only
   refine hK.out _ _ ?_ (fun hHeld => ?_)
   ·exact c
   clear hK K
   try simp only [Act.put, zA, zB, zC, zD, zE, zF]
   refine wpAnyH_ready (rs := [7]) (by kernel_rfl) (by simp) ?_
   refine AllReadyH.cons (o := _) rfl (fun K hK => ?_) AllReadyH.nil
   go_simp
   refine (calls_bl keepsPV hX (HI.out _)).mono ?_
   rintro e w7 ⟨rfl, hY, hXl⟩
   try have hA := hA.step hY hXl
   have hX := hY
   have c := loc_step hXl (by simp) hHeld
   clear hXl hY
   dsimp only
   refine hK.out _ _ ?_ (fun hHeld => ?_)
   ·exact c
   clear hK K
   try simp only [Act.put, zA, zB, zC, zD, zE, zF]
   refine wpAnyH_take (i := 8) (oi := _) (v := ?_) rfl (by kernel_rfl) (by kernel_rfl) (by kernel_rfl) (fun _ _ _ h => h) (Or.inl ⟨by rfl, ?_⟩) (by assumption) ?_
   rotate_left
   ·intro w hSw; (try dsimp only at hSw); go_simp; try with_reducible rfl
   try simp only [Act.put, zA, zB, zC, zD, zE, zF]
   refine wpAnyH_take (i := 9) (oi := _) (v := ?_) rfl (by kernel_rfl) (by kernel_rfl) (by kernel_rfl) (fun _ _ _ h => h) (Or.inl ⟨by rfl, ?_⟩) (by assumption) ?_
   rotate_left
   ·intro w hSw; (try dsimp only at hSw); go_simp; try with_reducible rfl
   try simp only [Act.put, zA, zB, zC, zD, zE, zF]
   refine wpAnyH_take (i := 10) (oi := _) (v := ?_) rfl (by kernel_rfl) (by kernel_rfl) (by kernel_rfl) (fun _ _ _ h => h) (Or.inl ⟨by rfl, ?_⟩) (by assumption) ?_
   rotate_left
   ·intro w hSw; (try dsimp only at hSw); go_simp; try with_reducible rfl
   try simp only [Act.put, zA, zB, zC, zD, zE, zF]
   refine wpAnyH_ready (rs := [12]) (by kernel_rfl) (by simp) ?_
   refine AllReadyH.cons (o := _) rfl (fun K hK => ?_) AllReadyH.nil
   obtain ⟨⟨k0, k1, k2⟩, f0, f1, f2⟩ := cells3 hA.box
   have hA2 : VA w b S [w.heap.size] _ #[.int .i64 k, .int .i64 l, .int .i64 m] 73 s1 _ := ((hA.set 0 (.int .i64 k)).set 1 (.int .i64 l)).set 2 (.int .i64 m)
   try have hA3 : VA w b S [w.heap.size] _ #[.int .i64 k, .int .i64 l, .int .i64 m] 73 s1 _ := hP.allocd #[.int .i64 k, .int .i64 l, .int .i64 m] 73
   go_simp
   refine hK.out _ _ ?_ (fun hHeld => ?_)
   ·exact by first | with_reducible exact loc_old _ (hP.ls _ (by simp)).1 hPc | exact ((hA.set 0 _).set 1 _).loc (by simp) 2 _ ((hA.set 0 _).loc (by simp) 1 _ (hA.loc (by simp) 0 _ hHeld))
   clear hK K
   try simp only [Act.put, zA, zB, zC, zD, zE, zF]
   refine wpAnyH_take (i := 13) (oi := _) (v := ?_) rfl (by kernel_rfl) (by kernel_rfl) (by kernel_rfl) (fun _ _ _ h => h) (Or.inl ⟨by rfl, ?_⟩) (by assumption) ?_
   rotate_left
   ·intro w hSw; (try dsimp only at hSw); go_simp; try with_reducible rfl
   try simp only [Act.put, zA, zB, zC, zD, zE, zF]
   refine wpAnyH_done (by kernel_rfl) ?_ _
   refine NoPanic.normal ?_
   refine world_gen ?_
   intro wz hwz
   first | rw [← hwz] at hA2; have hZ := hA2 | rw [← hwz] at hA3; have hZ := hA3
   clear hwz hX hA
   obtain ⟨⟨k0, k1, k2⟩, f0, f1, f2⟩ := cells3 hZ.box
   by_cases e : k = 1
   ·subst e
    go_wp2
    go_ret
    exact ⟨ret_int (by rw [HR.out]; rfl), hZ.vs.done keepsPV⟩
   ·go_wp2
    go_ret
    exact ⟨ret_int (by rw [HR.out, if_neg e]), hZ.vs.done keepsPV⟩
 ·have hP := hX
  have hPc := hHeld
  have hA := hX.allocd #[.int .i64 0, .int .i64 0, .int .i64 0] 73
  try simp only [World.size_drew] at hA
  try simp only [World.size_alloc] at hA
  have hX := hA.vs
  have c := loc_old (.cells #[.int .i64 0, .int .i64 0, .int .i64 0] 73) (hP.ls _ (by simp)).1 hHeld
  go_simp
  refine hK.out _ _ ?_ (fun hHeld => ?_)
  ·exact c
  clear hK K
  try simp only [Act.put, zA, zB, zC, zD, zE, zF]
  refine wpAnyH_ready (rs := [5]) (by kernel_rfl) (by simp) ?_
  refine AllReadyH.cons (o := _) rfl (fun K hK => ?_) AllReadyH.nil
  go_simp
  refine (calls_bl keepsPV hX (pinfo_any _ _ _ _ _)).mono ?_
  rintro e w5 ⟨rfl, hY, hXl⟩
  try have hA := hA.step hY hXl
  have hX := hY
  have c := loc_step hXl (by simp) hHeld
  clear hXl hY
  dsimp only
  refine hK.out _ _ ?_ (fun hHeld => ?_)
  ·exact c
  clear hK K
  try simp only [Act.put, zA, zB, zC, zD, zE, zF]
  refine wpAnyH_ready (rs := [6]) (by kernel_rfl) (by simp) ?_
  refine AllReadyH.cons (o := _) rfl (fun K hK => ?_) AllReadyH.nil
  go_simp
  refine (calls_st hX (G.out _)).mono ?_
  rintro e w6 ⟨rfl, hY, hXl⟩
  try have hA := hA.step hY hXl
  have hX := hY
  have c := loc_step hXl (by simp) hHeld
  clear hXl hY
  dsimp only
  refine hK.out _ _ ?_ (fun hHeld => ?_)
  ·exact c
  clear hK K
  try simp only [Act.put, zA, zB, zC, zD, zE, zF]
  refine wpAnyH_ready (rs := [7]) (by kernel_rfl) (by simp) ?_
  refine AllReadyH.cons (o := _) rfl (fun K hK => ?_) AllReadyH.nil
  go_simp
  refine (calls_bl keepsPV hX (HI.out _)).mono ?_
  rintro e w7 ⟨rfl, hY, hXl⟩
  try have hA := hA.step hY hXl
  have hX := hY
  have c := loc_step hXl (by simp) hHeld
  clear hXl hY
  dsimp only
  refine hK.out _ _ ?_ (fun hHeld => ?_)
  ·exact c
  clear hK K
  try simp only [Act.put, zA, zB, zC, zD, zE, zF]
  refine wpAnyH_take (i := 8) (oi := _) (v := ?_) rfl (by kernel_rfl) (by kernel_rfl) (by kernel_rfl) (fun _ _ _ h => h) (Or.inl ⟨by rfl, ?_⟩) (by assumption) ?_
  rotate_left
  ·intro w hSw; (try dsimp only at hSw); go_simp; try with_reducible rfl
  try simp only [Act.put, zA, zB, zC, zD, zE, zF]
  refine wpAnyH_take (i := 9) (oi := _) (v := ?_) rfl (by kernel_rfl) (by kernel_rfl) (by kernel_rfl) (fun _ _ _ h => h) (Or.inl ⟨by rfl, ?_⟩) (by assumption) ?_
  rotate_left
  ·intro w hSw; (try dsimp only at hSw); go_simp; try with_reducible rfl
  try simp only [Act.put, zA, zB, zC, zD, zE, zF]
  refine wpAnyH_take (i := 10) (oi := _) (v := ?_) rfl (by kernel_rfl) (by kernel_rfl) (by kernel_rfl) (fun _ _ _ h => h) (Or.inl ⟨by rfl, ?_⟩) (by assumption) ?_
  rotate_left
  ·intro w hSw; (try dsimp only at hSw); go_simp; try with_reducible rfl
  try simp only [Act.put, zA, zB, zC, zD, zE, zF]
  refine wpAnyH_ready (rs := [12]) (by kernel_rfl) (by simp) ?_
  refine AllReadyH.cons (o := _) rfl (fun K hK => ?_) AllReadyH.nil
  obtain ⟨⟨k0, k1, k2⟩, f0, f1, f2⟩ := cells3 hA.box
  have hA2 : VA w b S [w.heap.size] _ #[.int .i64 k, .int .i64 l, .int .i64 m] 73 s1 _ := ((hA.set 0 (.int .i64 k)).set 1 (.int .i64 l)).set 2 (.int .i64 m)
  try have hA3 : VA w b S [w.heap.size] _ #[.int .i64 k, .int .i64 l, .int .i64 m] 73 s1 _ := hP.allocd #[.int .i64 k, .int .i64 l, .int .i64 m] 73
  go_simp
  refine hK.out _ _ ?_ (fun hHeld => ?_)
  ·exact by first | with_reducible exact loc_old _ (hP.ls _ (by simp)).1 hPc | exact ((hA.set 0 _).set 1 _).loc (by simp) 2 _ ((hA.set 0 _).loc (by simp) 1 _ (hA.loc (by simp) 0 _ hHeld))
  clear hK K
  try simp only [Act.put, zA, zB, zC, zD, zE, zF]
  refine wpAnyH_take (i := 13) (oi := _) (v := ?_) rfl (by kernel_rfl) (by kernel_rfl) (by kernel_rfl) (fun _ _ _ h => h) (Or.inl ⟨by rfl, ?_⟩) (by assumption) ?_
  rotate_left
  ·intro w hSw; (try dsimp only at hSw); go_simp; try with_reducible rfl
  try simp only [Act.put, zA, zB, zC, zD, zE, zF]
  refine wpAnyH_done (by kernel_rfl) ?_ _
  refine NoPanic.normal ?_
  refine world_gen ?_
  intro wz hwz
  first | rw [← hwz] at hA2; have hZ := hA2 | rw [← hwz] at hA3; have hZ := hA3
  clear hwz hX hA
  obtain ⟨⟨k0, k1, k2⟩, f0, f1, f2⟩ := cells3 hZ.box
  by_cases e : k = 1
  ·subst e
   go_wp2
   go_ret
   exact ⟨ret_int (by rw [HR.out]; rfl), hZ.vs.done keepsPV⟩
  ·go_wp2
   go_ret
   exact ⟨ret_int (by rw [HR.out, if_neg e]), hZ.vs.done keepsPV⟩
end Go.Proofs.YtnagdljgeglceaaGreat
/- span of the program: Release. -/
set_option linter.unusedSimpArgs false
set_option linter.unusedVariables false
namespace Go.Proofs.YtnagdljgeglceaaGreat
open Go.RowKit

set_option maxHeartbeats 1000000 in
set_option maxRecDepth 100000 in
theorem hahead_any (b : Nat) (t p s q : Int) (w : World) (S : Nat → Prop) (st : VS) (h : PV w b S st) (hq0 : 0 ≤ q) (hq1 : q ≤ 1024) :
 Calls Tryz.prog 146 #[.agg #[.pointer (some ⟨b, 0, none⟩), .int .i64 t, .int .i64 p, .int .i64 s], .int .i64 q] w fun e w' => e = .returned (.int .i64 (aheadF t p s q st).1) ∧ Now w b S (aheadF t p s q st).2 w' := by
 have hV := (VSt.start keepsPV h).alloc keepsPV (.cells #[.pointer (some ⟨b, 0, none⟩), .int .i64 t, .int .i64 p, .int .i64 s] 161)
 have c0 := loc_alloc w #[.pointer (some ⟨b, 0, none⟩), .int .i64 t, .int .i64 p, .int .i64 s] 161
 by_cases hq : q = 0
 ·subst hq
  have hF : aheadF t p s 0 st = (-1, st) := rfl
  rw [hF]
  clear h
  go_enter Tryz.func146, Tryz.ntmps146
  go_wp2
  go_ret
  exact ⟨rfl, hV.done keepsPV⟩
 ·have hu := VS.get_u32 (keepsPV.inv h) (ofF t p s (q - 1) 1)
  obtain ⟨v, s1, hg⟩ : ∃ v s1, st.get (ofF t p s (q - 1) 1) = (v, s1) := ⟨_, _, rfl⟩
  have hF : aheadF t p s q st = (v - 1, s1) := by unfold aheadF; rw [if_neg hq, hg]
  have G := Lib.hid (get_as (b := b) hg)
  rw [hF]
  rw [hg] at hu
  obtain ⟨hu1, hu2⟩ := hu
  dsimp only at hu1 hu2
  have hw1 : IntKind.i64.wrap (q - 1) = q - 1 := wrap_in _ (by omega)
  have hw2 : IntKind.i64.wrap v = v := wrap_in _ (by omega)
  have hw3 : IntKind.i64.wrap (v - 1) = v - 1 := wrap_in _ (by omega)
  clear h hF hg
  go_enter Tryz.func146, Tryz.ntmps146
  go_wp2_with fail
  have hVd := hV.drew keepsPV
  refine wp_region_noPanic ?_
  refine wp_region_held_drew (S := fun w' => (∀ o : Nat, w'.cell? ⟨w.heap.size, o, none⟩ = (#[.pointer (some ⟨b, 0, none⟩), .int .i64 t, .int .i64 p, .int .i64 s] : Array Value)[o]?)) (by kernel_rfl) ?_ (fun hHeld => ?_)
  ·exact c0
  refine wpAnyH_take (i := 0) (oi := _) (v := ?_) rfl (by kernel_rfl) (by kernel_rfl) (by kernel_rfl) (fun _ _ _ h => h) (Or.inl ⟨by rfl, ?_⟩) (by assumption) ?_
  rotate_left
  ·intro w hSw; (try dsimp only at hSw); go_simp; try with_reducible rfl
  try simp only [Act.put, zA, zB, zD, zE, zF]
  refine wpAnyH_take (i := 1) (oi := _) (v := ?_) rfl (by kernel_rfl) (by kernel_rfl) (by kernel_rfl) (fun _ _ _ h => h) (Or.inl ⟨by rfl, ?_⟩) (by assumption) ?_
  rotate_left
  ·intro w hSw; (try dsimp only at hSw); go_simp; try with_reducible rfl
  try simp only [Act.put, zA, zB, zC, zD, zE, zF]
  refine wpAnyH_take (i := 2) (oi := _) (v := ?_) rfl (by kernel_rfl) (by kernel_rfl) (by kernel_rfl) (fun _ _ _ h => h) (Or.inl ⟨by rfl, ?_⟩) (by assumption) ?_
  rotate_left
  ·intro w hSw; (try dsimp only at hSw); go_simp; try with_reducible rfl
  try simp only [Act.put, zA, zB, zC, zD, zE, zF]
  refine wpAnyH_take (i := 3) (oi := _) (v := ?_) rfl (by kernel_rfl) (by kernel_rfl) (by kernel_rfl) (fun _ _ _ h => h) (Or.inl ⟨by rfl, ?_⟩) (by assumption) ?_
  rotate_left
  ·intro w hSw; (try dsimp only at hSw); go_simp; try with_reducible rfl
  try simp only [Act.put, zA, zB, zC, zD, zE, zF]
  refine wpAnyH_take (i := 4) (oi := _) (v := ?_) rfl (by kernel_rfl) (by kernel_rfl) (by kernel_rfl) (fun _ _ _ h => h) (Or.inl ⟨by rfl, ?_⟩) (by assumption) ?_
  rotate_left
  ·intro w hSw; (try dsimp only at hSw); go_simp; try with_reducible rfl
  try simp only [Act.put, zA, zB, zC, zD, zE, zF]
  refine wpAnyH_take (i := 5) (oi := _) (v := ?_) rfl (by kernel_rfl) (by kernel_rfl) (by kernel_rfl) (fun _ _ _ h => h) (Or.inl ⟨by rfl, ?_⟩) (by assumption) ?_
  rotate_left
  ·intro w hSw; (try dsimp only at hSw); go_simp; try with_reducible rfl
  try simp only [Act.put, zA, zB, zC, zD, zE, zF]
  refine wpAnyH_ready (rs := [6]) (by kernel_rfl) (by simp) ?_
  refine AllReadyH.cons (o := _) rfl (fun K hK => ?_) AllReadyH.nil
  go_simp
  refine (calls_bl keepsPV hVd (pfoot_any _ _ _ _ _)).mono ?_
  rintro e w1 ⟨rfl, hV1, hV1l⟩
  have c1 := loc_step hV1l (by simp) hHeld
  clear hV1l
  dsimp only
  refine hK.out _ _ ?_ (fun hHeld => ?_)
  ·exact c1
  clear hK K
  try simp only [Act.put, zA, zB, zC, zD, zE, zF]
  refine wpAnyH_ready (rs := [7]) (by kernel_rfl) (by simp) ?_
  refine AllReadyH.cons (o := _) rfl (fun K hK => ?_) AllReadyH.nil
  go_simp
  refine (calls_st hV1 (G.out _)).mono ?_
  rintro e w2 ⟨rfl, hV2, hV2l⟩
  have c2 := loc_step hV2l (by simp) c1
  clear hV2l
  dsimp only
  refine hK.out _ _ ?_ (fun hHeld => ?_)
  ·exact c2
  clear hK K
  try simp only [Act.put, zA, zB, zC, zD, zE, zF]
  refine wpAnyH_take (i := 8) (oi := _) (v := ?_) rfl (by kernel_rfl) (by kernel_rfl) (by kernel_rfl) (fun _ _ _ h => h) (Or.inl ⟨by rfl, ?_⟩) (by assumption) ?_
  rotate_left
  ·intro w hSw; (try dsimp only at hSw); go_simp; try with_reducible rfl
  try simp only [Act.put, zA, zB, zC, zD, zE, zF]
  refine wpAnyH_take (i := 9) (oi := _) (v := ?_) rfl (by kernel_rfl) (by kernel_rfl) (by kernel_rfl) (fun _ _ _ h => h) (Or.inl ⟨by rfl, ?_⟩) (by assumption) ?_
  rotate_left
  ·intro w hSw; (try dsimp only at hSw); go_simp; try with_reducible rfl
  try simp only [Act.put, zA, zB, zC, zD, zE, zF]
  refine wpAnyH_take (i := 10) (oi := _) (v := ?_) rfl (by kernel_rfl) (by kernel_rfl) (by kernel_rfl) (fun _ _ _ h => h) (Or.inl ⟨by rfl, ?_⟩) (by assumption) ?_
  rotate_left
  ·intro w hSw; (try dsimp only at hSw); go_simp; try with_reducible rfl
  try simp only [Act.put, zA, zB, zC, zD, zE, zF]
  refine wpAnyH_done (by kernel_rfl) ?_ _
  refine NoPanic.normal ?_
  go_wp2
  go_ret
  exact ⟨rfl, hV2.done keepsPV⟩

set_option maxHeartbeats 1000000 in
set_option maxRecDepth 100000 in
theorem hjoin_any (b : Nat) (t p s q r : Int) (w : World) (S : Nat → Prop) (st : VS) (h : PV w b S st) (hp : p ≤ 1024) (hr0 : 0 ≤ r) (hr1 : r ≤ 1024) :
 Calls Tryz.prog 148 #[.agg #[.pointer (some ⟨b, 0, none⟩), .int .i64 t, .int .i64 p, .int .i64 s], .int .i64 q, .int .i64 r] w fun e w' => e = .returned (.int .i64 (joinF t p s q r st).1) ∧ Now w b S (joinF t p s q r st).2 w' := by
 have hV := (VSt.start keepsPV h).alloc keepsPV (.cells #[.pointer (some ⟨b, 0, none⟩), .int .i64 t, .int .i64 p, .int .i64 s] 161)
 have c0 := loc_alloc w #[.pointer (some ⟨b, 0, none⟩), .int .i64 t, .int .i64 p, .int .i64 s] 161
 have hw1 : IntKind.i64.wrap (r - 1) = r - 1 := wrap_in _ (by omega)
 have G := fun (w : World) (S1 : Nat → Prop) (h1 : PV w b S1 st) => bdrop_any b t p s q w S1 st h1 hp
 have hF : joinF t p s q r st = ((dropF t p s q st).1, ((dropF t p s q st).2.put (ofF t p s r 0) 0).put (ofF t p s (r - 1) 1) 0) := rfl
 rw [hF]
 obtain ⟨l, s1, hl⟩ : ∃ l s1, dropF t p s q st = (l, s1) := ⟨_, _, rfl⟩
 rw [hl] at G ⊢
 dsimp only at G ⊢
 have HG := Lib.hid G
 clear h hF hl G
 go_enter Tryz.func148, Tryz.ntmps148
 go_wp2_with fail
 refine (calls_st hV (HG.out _)).mono ?_
 rintro e w1 ⟨rfl, hV1, hV1l⟩
 have c1 := loc_step hV1l (by simp) c0
 clear hV1l
 go_wp2_with fail
 have hV1d := hV1.drew keepsPV
 refine wp_region_noPanic ?_
 refine wp_region_held_drew (S := fun w' => (∀ o : Nat, w'.cell? ⟨w.heap.size, o, none⟩ = (#[.pointer (some ⟨b, 0, none⟩), .int .i64 t, .int .i64 p, .int .i64 s] : Array Value)[o]?)) (by kernel_rfl) ?_ (fun hHeld => ?_)
 ·exact c1
 refine wpAnyH_take (i := 0) (oi := _) (v := ?_) rfl (by kernel_rfl) (by kernel_rfl) (by kernel_rfl) (fun _ _ _ h => h) (Or.inl ⟨by rfl, ?_⟩) (by assumption) ?_
 rotate_left
 ·intro w hSw; (try dsimp only at hSw); go_simp; try with_reducible rfl
 try simp only [Act.put, zA, zB, zD, zE, zF]
 refine wpAnyH_take (i := 1) (oi := _) (v := ?_) rfl (by kernel_rfl) (by kernel_rfl) (by kernel_rfl) (fun _ _ _ h => h) (Or.inl ⟨by rfl, ?_⟩) (by assumption) ?_
 rotate_left
 ·intro w hSw; (try dsimp only at hSw); go_simp; try with_reducible rfl
 try simp only [Act.put, zA, zB, zC, zD, zE, zF]
 refine wpAnyH_take (i := 2) (oi := _) (v := ?_) rfl (by kernel_rfl) (by kernel_rfl) (by kernel_rfl) (fun _ _ _ h => h) (Or.inl ⟨by rfl, ?_⟩) (by assumption) ?_
 rotate_left
 ·intro w hSw; (try dsimp only at hSw); go_simp; try with_reducible rfl
 try simp only [Act.put, zA, zB, zC, zD, zE, zF]
 refine wpAnyH_take (i := 3) (oi := _) (v := ?_) rfl (by kernel_rfl) (by kernel_rfl) (by kernel_rfl) (fun _ _ _ h => h) (Or.inl ⟨by rfl, ?_⟩) (by assumption) ?_
 rotate_left
 ·intro w hSw; (try dsimp only at hSw); go_simp; try with_reducible rfl
 try simp only [Act.put, zA, zB, zC, zD, zE, zF]
 refine wpAnyH_take (i := 4) (oi := _) (v := ?_) rfl (by kernel_rfl) (by kernel_rfl) (by kernel_rfl) (fun _ _ _ h => h) (Or.inl ⟨by rfl, ?_⟩) (by assumption) ?_
 rotate_left
 ·intro w hSw; (try dsimp only at hSw); go_simp; try with_reducible rfl
 try simp only [Act.put, zA, zB, zC, zD, zE, zF]
 refine wpAnyH_ready (rs := [5]) (by kernel_rfl) (by simp) ?_
 refine AllReadyH.cons (o := _) rfl (fun K hK => ?_) AllReadyH.nil
 go_simp
 refine (calls_bl keepsPV hV1d (pinfo_any _ _ _ _ _)).mono ?_
 rintro e w2 ⟨rfl, hV2, hV2l⟩
 have c2 := loc_step hV2l (by simp) hHeld
 clear hV2l
 dsimp only
 refine hK.out _ _ ?_ (fun hHeld => ?_)
 ·exact c2
 clear hK K
 try simp only [Act.put, zA, zB, zC, zD, zE, zF]
 refine wpAnyH_ready (rs := [6]) (by kernel_rfl) (by simp) ?_
 refine AllReadyH.cons (o := _) rfl (fun K hK => ?_) AllReadyH.nil
 go_simp
 refine (calls_st hV2 (fun S1 h1 => put_any _ _ _ _ _ _ h1 VS.u32_zero)).mono ?_
 rintro e w3 ⟨rfl, hV3, hV3l⟩
 have c3 := loc_step hV3l (by simp) c2
 clear hV3l
 dsimp only
 refine hK.out _ _ ?_ (fun hHeld => ?_)
 ·exact c3
 clear hK K
 try simp only [Act.put, zA, zB, zC, zD, zE, zF]
 refine wpAnyH_done (by kernel_rfl) ?_ _
 refine NoPanic.normal ?_
 go_wp2_with fail
 have hV3d := hV3.drew keepsPV
 refine wp_region_noPanic ?_
 refine wp_region_held_drew (S := fun w' => (∀ o : Nat, w'.cell? ⟨w.heap.size, o, none⟩ = (#[.pointer (some ⟨b, 0, none⟩), .int .i64 t, .int .i64 p, .int .i64 s] : Array Value)[o]?)) (by kernel_rfl) ?_ (fun hHeld => ?_)
 ·exact c3
 refine wpAnyH_take (i := 0) (oi := _) (v := ?_) rfl (by kernel_rfl) (by kernel_rfl) (by kernel_rfl) (fun _ _ _ h => h) (Or.inl ⟨by rfl, ?_⟩) (by assumption) ?_
 rotate_left
 ·intro w hSw; (try dsimp only at hSw); go_simp; try with_reducible rfl
 try simp only [Act.put, zA, zB, zD, zE, zF]
 refine wpAnyH_take (i := 1) (oi := _) (v := ?_) rfl (by kernel_rfl) (by kernel_rfl) (by kernel_rfl) (fun _ _ _ h => h) (Or.inl ⟨by rfl, ?_⟩) (by assumption) ?_
 rotate_left
 ·intro w hSw; (try dsimp only at hSw); go_simp; try with_reducible rfl
 try simp only [Act.put, zA, zB, zC, zD, zE, zF]
 refine wpAnyH_take (i := 2) (oi := _) (v := ?_) rfl (by kernel_rfl) (by kernel_rfl) (by kernel_rfl) (fun _ _ _ h => h) (Or.inl ⟨by rfl, ?_⟩) (by assumption) ?_
 rotate_left
 ·intro w hSw; (try dsimp only at hSw); go_simp; try with_reducible rfl
 try simp only [Act.put, zA, zB, zC, zD, zE, zF]
 refine wpAnyH_take (i := 3) (oi := _) (v := ?_) rfl (by kernel_rfl) (by kernel_rfl) (by kernel_rfl) (fun _ _ _ h => h) (Or.inl ⟨by rfl, ?_⟩) (by assumption) ?_
 rotate_left
 ·intro w hSw; (try dsimp only at hSw); go_simp; try with_reducible rfl
 try simp only [Act.put, zA, zB, zC, zD, zE, zF]
 refine wpAnyH_take (i := 4) (oi := _) (v := ?_) rfl (by kernel_rfl) (by kernel_rfl) (by kernel_rfl) (fun _ _ _ h => h) (Or.inl ⟨by rfl, ?_⟩) (by assumption) ?_
 rotate_left
 ·intro w hSw; (try dsimp only at hSw); go_simp; try with_reducible rfl
 try simp only [Act.put, zA, zB, zC, zD, zE, zF]
 refine wpAnyH_take (i := 5) (oi := _) (v := ?_) rfl (by kernel_rfl) (by kernel_rfl) (by kernel_rfl) (fun _ _ _ h => h) (Or.inl ⟨by rfl, ?_⟩) (by assumption) ?_
 rotate_left
 ·intro w hSw; (try dsimp only at hSw); go_simp; try with_reducible rfl
 try simp only [Act.put, zA, zB, zC, zD, zE, zF]
 refine wpAnyH_ready (rs := [6]) (by kernel_rfl) (by simp) ?_
 refine AllReadyH.cons (o := _) rfl (fun K hK => ?_) AllReadyH.nil
 go_simp
 refine (calls_bl keepsPV hV3d (pfoot_any _ _ _ _ _)).mono ?_
 rintro e w4 ⟨rfl, hV4, hV4l⟩
 have c4 := loc_step hV4l (by simp) hHeld
 clear hV4l
 dsimp only
 refine hK.out _ _ ?_ (fun hHeld => ?_)
 ·exact c4
 clear hK K
 try simp only [Act.put, zA, zB, zC, zD, zE, zF]
 refine wpAnyH_ready (rs := [7]) (by kernel_rfl) (by simp) ?_
 refine AllReadyH.cons (o := _) rfl (fun K hK => ?_) AllReadyH.nil
 go_simp
 refine (calls_st hV4 (fun S1 h1 => put_any _ _ _ _ _ _ h1 VS.u32_zero)).mono ?_
 rintro e w5 ⟨rfl, hV5, hV5l⟩
 have c5 := loc_step hV5l (by simp) c4
 clear hV5l
 dsimp only
 refine hK.out _ _ ?_ (fun hHeld => ?_)
 ·exact c5
 clear hK K
 try simp only [Act.put, zA, zB, zC, zD, zE, zF]
 refine wpAnyH_done (by kernel_rfl) ?_ _
 refine NoPanic.normal ?_
 go_wp2
 go_ret
 exact ⟨rfl, hV5.done keepsPV⟩

set_option maxRecDepth 100000 in
theorem hcount_any (b : Nat) (t p s n : Int) (w : World) (S : Nat → Prop) (st : VS) (h : PV w b S st) (h0 : 0 ≤ n) (h1 : n ≤ 1024) :
 Calls Tryz.prog 150 #[.agg #[.pointer (some ⟨b, 0, none⟩), .int .i64 t, .int .i64 p, .int .i64 s], .int .i64 n] w fun e w' => e = .returned (.tuple #[]) ∧ Now w b S (countF n st) w' := by
 have hV := (VSt.start keepsPV h).alloc keepsPV (.cells #[.pointer (some ⟨b, 0, none⟩), .int .i64 t, .int .i64 p, .int .i64 s] 161)
 have c0 := loc_alloc w #[.pointer (some ⟨b, 0, none⟩), .int .i64 t, .int .i64 p, .int .i64 s] 161
 have hw1 : IntKind.u32.wrap n = n := IntWalk.u32_in _ (by omega)
 obtain ⟨v, s1, hg⟩ : ∃ v s1, st.get 0 = (v, s1) := ⟨_, _, rfl⟩
 have hF : countF n st = s1.put 0 (IntKind.u32.wrap (v + n)) := by unfold countF; rw [hg]
 have G := Lib.hid (get_as (b := b) hg)
 have hU := Lib.hid (show VS.U32 (IntKind.u32.wrap (v + n)) by unfold VS.U32; rw [IntKind.wrap_u32]; omega)
 rw [hF]
 obtain ⟨x, hx⟩ : ∃ x, x = IntKind.u32.wrap (v + n) := ⟨_, rfl⟩
 rw [← hx] at hU ⊢
 have hx2 := hx.symm
 clear h hF hg hx
 go_enter Tryz.func150, Tryz.ntmps150
 go_wp2_with fail
 have hVd := hV.drew keepsPV
 refine wp_region_noPanic ?_
 refine wp_region_held_drew (S := fun w' => (∀ o : Nat, w'.cell? ⟨w.heap.size, o, none⟩ = (#[.pointer (some ⟨b, 0, none⟩), .int .i64 t, .int .i64 p, .int .i64 s] : Array Value)[o]?)) (by kernel_rfl) ?_ (fun hHeld => ?_)
 ·exact c0
 refine wpAnyH_take (i := 0) (oi := _) (v := ?_) rfl (by kernel_rfl) (by kernel_rfl) (by kernel_rfl) (fun _ _ _ h => h) (Or.inl ⟨by rfl, ?_⟩) (by assumption) ?_
 rotate_left
 ·intro w hSw; (try dsimp only at hSw); go_simp; try with_reducible rfl
 try simp only [Act.put, zA, zB, zD, zE, zF]
 refine wpAnyH_take (i := 1) (oi := _) (v := ?_) rfl (by kernel_rfl) (by kernel_rfl) (by kernel_rfl) (fun _ _ _ h => h) (Or.inl ⟨by rfl, ?_⟩) (by assumption) ?_
 rotate_left
 ·intro w hSw; (try dsimp only at hSw); go_simp; try with_reducible rfl
 try simp only [Act.put, zA, zB, zC, zD, zE, zF]
 refine wpAnyH_take (i := 2) (oi := _) (v := ?_) rfl (by kernel_rfl) (by kernel_rfl) (by kernel_rfl) (fun _ _ _ h => h) (Or.inl ⟨by rfl, ?_⟩) (by assumption) ?_
 rotate_left
 ·intro w hSw; (try dsimp only at hSw); go_simp; try with_reducible rfl
 try simp only [Act.put, zA, zB, zC, zD, zE, zF]
 refine wpAnyH_take (i := 3) (oi := _) (v := ?_) rfl (by kernel_rfl) (by kernel_rfl) (by kernel_rfl) (fun _ _ _ h => h) (Or.inl ⟨by rfl, ?_⟩) (by assumption) ?_
 rotate_left
 ·intro w hSw; (try dsimp only at hSw); go_simp; try with_reducible rfl
 try simp only [Act.put, zA, zB, zC, zD, zE, zF]
 refine wpAnyH_take (i := 5) (oi := _) (v := ?_) rfl (by kernel_rfl) (by kernel_rfl) (by kernel_rfl) (fun _ _ _ h => h) (Or.inl ⟨by rfl, ?_⟩) (by assumption) ?_
 rotate_left
 ·intro w hSw; (try dsimp only at hSw); go_simp; try with_reducible rfl
 try simp only [Act.put, zA, zB, zC, zD, zE, zF]
 refine wpAnyH_take (i := 6) (oi := _) (v := ?_) rfl (by kernel_rfl) (by kernel_rfl) (by kernel_rfl) (fun _ _ _ h => h) (Or.inl ⟨by rfl, ?_⟩) (by assumption) ?_
 rotate_left
 ·intro w hSw; (try dsimp only at hSw); go_simp; try with_reducible rfl
 try simp only [Act.put, zA, zB, zC, zD, zE, zF]
 refine wpAnyH_ready (rs := [4]) (by kernel_rfl) (by simp) ?_
 refine AllReadyH.cons (o := _) rfl (fun K hK => ?_) AllReadyH.nil
 go_simp
 refine (calls_st hVd (G.out _)).mono ?_
 rintro e w1 ⟨rfl, hV1, hV1l⟩
 have c1 := loc_step hV1l (by simp) hHeld
 clear hV1l
 dsimp only
 refine hK.out _ _ ?_ (fun hHeld => ?_)
 ·exact c1
 clear hK K
 try simp only [Act.put, zA, zB, zC, zD, zE, zF]
 refine wpAnyH_take (i := 7) (oi := _) (v := ?_) rfl (by kernel_rfl) (by kernel_rfl) (by kernel_rfl) (fun _ _ _ h => h) (Or.inl ⟨by rfl, ?_⟩) (by assumption) ?_
 rotate_left
 ·intro w hSw; (try dsimp only at hSw); go_simp; try with_reducible rfl
 try simp only [Act.put, zA, zB, zC, zD, zE, zF]
 refine wpAnyH_ready (rs := [8]) (by kernel_rfl) (by simp) ?_
 refine AllReadyH.cons (o := _) rfl (fun K hK => ?_) AllReadyH.nil
 go_simp
 refine (calls_st hV1 (fun S1 h1 => put_any _ _ _ _ _ _ h1 hU.out)).mono ?_
 rintro e w2 ⟨rfl, hV2, hV2l⟩
 have c2 := loc_step hV2l (by simp) c1
 clear hV2l
 dsimp only
 refine hK.out _ _ ?_ (fun hHeld => ?_)
 ·exact c2
 clear hK K
 try simp only [Act.put, zA, zB, zC, zD, zE, zF]
 refine wpAnyH_done (by kernel_rfl) ?_ _
 refine NoPanic.normal ?_
 go_wp2
 go_end0
 exact ⟨rfl, hV2.done keepsPV⟩
end Go.Proofs.YtnagdljgeglceaaGreat
/- span of the program: Release. -/
set_option linter.unusedSimpArgs false
set_option linter.unusedVariables false
namespace Go.Proofs.YtnagdljgeglceaaGreat
open Go.RowKit

theorem cells2 {w : World} {L : Nat} {x y : Value} {T : TypeId} (h : w.heap[L]? = some (.cells #[x, y] T)) : (w.cell? ⟨L, 0, none⟩ = some x ∧ w.cell? ⟨L, 1, none⟩ = some y) ∧ w.frozen? ⟨L, 0, none⟩ = false ∧ w.frozen? ⟨L, 1, none⟩ = false :=
 ⟨⟨cell?_of_heap h, cell?_of_heap h⟩, frozen?_of_heap h, frozen?_of_heap h⟩
theorem dropF_bd (t p s q : Int) (st : VS) : 0 ≤ (dropF t p s q st).1 ∧ (dropF t p s q st).1 ≤ 1024 := by
 have h := freeV_bd (st.get (ofF t p s q 0)).1
 unfold dropF freeAt
 split <;> dsimp only <;> omega

set_option maxHeartbeats 4000000 in
set_option maxRecDepth 100000 in
theorem release_any (b : Nat) (t p s q n : Int) (w : World) (S : Nat → Prop) (st : VS) (h : PV w b S st) (hp : p ≤ 1024) (hq0 : 0 ≤ q) (hq1 : q ≤ 1024) (hn0 : 0 ≤ n) (hn1 : n ≤ 1024) :
 Calls Tryz.prog 119 #[.pointer (some ⟨b, 0, none⟩), .agg #[.int .i64 t, .int .i64 p, .int .i64 s], .int .i64 q, .int .i64 n] w fun e w' => e = .returned (.tuple #[]) ∧ Now w b S (releaseF t p s q n st) w' := by
 have hV := ((VSt.start keepsPV h).alloc keepsPV (.cells #[.int .i64 t, .int .i64 p, .int .i64 s] 23)).alloc keepsPV (.cells #[.pointer (some ⟨b, 0, none⟩), .int .i64 t, .int .i64 p, .int .i64 s] 161)
 have hA := hV.allocd #[.int .i64 q, .int .i64 n] 162
 have c0 := loc_old (.cells #[.int .i64 q, .int .i64 n] 162) (by simp; omega) (loc_old (.cells #[.pointer (some ⟨b, 0, none⟩), .int .i64 t, .int .i64 p, .int .i64 s] 161) (by simp) (loc_alloc w #[.int .i64 t, .int .i64 p, .int .i64 s] 23))
 have d0 := loc_old (.cells #[.int .i64 q, .int .i64 n] 162) (by simp) (loc_alloc (w.alloc (.cells #[.int .i64 t, .int .i64 p, .int .i64 s] 23)) #[.pointer (some ⟨b, 0, none⟩), .int .i64 t, .int .i64 p, .int .i64 s] 161)
 simp only [World.size_alloc] at hA c0 d0
 have HG := fun (w : World) (S1 : Nat → Prop) (h1 : PV w b S1 st) => hahead_any b t p s q w S1 st h1 hq0 hq1
 have hbk : backF t p s q n st = (if (aheadF t p s q st).1 < 0 then ((q, n), (aheadF t p s q st).2) else if (freeAt t p s (aheadF t p s q st).1 (aheadF t p s q st).2).1 = 0 then ((q, n), (freeAt t p s (aheadF t p s q st).1 (aheadF t p s q st).2).2) else (((aheadF t p s q st).1, n + (joinF t p s (aheadF t p s q st).1 q (freeAt t p s (aheadF t p s q st).1 (aheadF t p s q st).2).2).1), (joinF t p s (aheadF t p s q st).1 q (freeAt t p s (aheadF t p s q st).1 (aheadF t p s q st).2).2).2)) := rfl
 obtain ⟨bk, hb⟩ : ∃ x, backF t p s q n st = x := ⟨_, rfl⟩
 rw [hb] at hbk
 have hR : releaseF t p s q n st = countF n (addG t p s bk.1.1 (foreF t p s (q + n) bk.1.2 bk.2).1 (foreF t p s (q + n) bk.1.2 bk.2).2) := by unfold releaseF; rw [hb]
 rw [hR]
 clear hR hb h hV
 obtain ⟨f, s1, hf⟩ : ∃ f s1, aheadF t p s q st = (f, s1) := ⟨_, _, rfl⟩
 simp only [hf] at hbk HG
 have HH := Lib.hid HG
 clear hf HG
 have hwr : IntKind.i64.wrap (q + n) = q + n := wrap_in _ (by omega)
 by_cases hf0 : f < 0
 ·rw [if_pos hf0] at hbk; subst hbk; dsimp only
  by_cases hr : q + n < p
  ·have HF2 := fun (w : World) (S1 : Nat → Prop) (h1 : PV w b S1 s1) => hfree_any b t p s (q + n) w S1 s1 h1
   have hfo : foreF t p s (q + n) (n) s1 = (if (freeAt t p s (q + n) s1).1 = 0 then (n, (freeAt t p s (q + n) s1).2) else (n + (joinF t p s (q + n) (q + n) (freeAt t p s (q + n) s1).2).1, (joinF t p s (q + n) (q + n) (freeAt t p s (q + n) s1).2).2)) := by unfold foreF; rw [if_pos hr]
   have hl2 : 0 ≤ (freeAt t p s (q + n) s1).1 ∧ (freeAt t p s (q + n) s1).1 ≤ 1024 := ⟨(freeV_bd _).1, (freeV_bd _).2.1⟩
   rw [hfo]; clear hfo
   obtain ⟨l2, s4, hl⟩ : ∃ l s4, freeAt t p s (q + n) s1 = (l, s4) := ⟨_, _, rfl⟩
   rw [hl] at HF2 hl2 ⊢; dsimp only at HF2 hl2 ⊢; clear hl
   have HG2 := Lib.hid HF2; clear HF2
   by_cases h20 : l2 = 0
   ·subst h20; clear hl2
    rw [if_pos rfl]; dsimp only
    have HAd := Lib.hid (fun (w : World) (S1 : Nat → Prop) (h1 : PV w b S1 s4) => badd_all b t p s q (n) w S1 s4 h1 hp)
    have HC := Lib.hid (fun (w : World) (S1 : Nat → Prop) (h1 : PV w b S1 (addG t p s q (n) s4)) => hcount_any b t p s n w S1 _ h1 hn0 hn1)
    generalize addG t p s q (n) s4 = s8 at *
    generalize countF n s8 = s9 at *
    go_enter Tryz.func119, Tryz.ntmps119
    obtain ⟨⟨k0, k1⟩, f0, f1⟩ := cells2 hA.box
    go_wp2_with fail
    refine (calls_st hA.vs (HH.out _)).mono ?_
    rintro e w1 ⟨rfl, hY, hYl⟩
    replace hA := hA.step hY hYl
    replace c0 := loc_step hYl (by simp) c0
    replace d0 := loc_step hYl (by simp) d0
    clear hY hYl
    obtain ⟨⟨k0, k1⟩, f0, f1⟩ := cells2 hA.box
    go_wp2_with fail
    refine (calls_st hA.vs (HG2.out _)).mono ?_
    rintro e w20 ⟨rfl, hY, hYl⟩
    replace hA := hA.step hY hYl
    replace c0 := loc_step hYl (by simp) c0
    replace d0 := loc_step hYl (by simp) d0
    clear hY hYl
    obtain ⟨⟨k0, k1⟩, f0, f1⟩ := cells2 hA.box
    go_wp2_with fail
    refine (calls_st hA.vs (HAd.out _)).mono ?_
    rintro e w21 ⟨rfl, hY, hYl⟩
    replace hA := hA.step hY hYl
    replace c0 := loc_step hYl (by simp) c0
    replace d0 := loc_step hYl (by simp) d0
    clear hY hYl
    obtain ⟨⟨k0, k1⟩, f0, f1⟩ := cells2 hA.box
    go_wp2_with fail
    refine (calls_st hA.vs (HC.out _)).mono ?_
    rintro e w22 ⟨rfl, hY, hYl⟩
    replace hA := hA.step hY hYl
    replace c0 := loc_step hYl (by simp) c0
    replace d0 := loc_step hYl (by simp) d0
    clear hY hYl
    obtain ⟨⟨k0, k1⟩, f0, f1⟩ := cells2 hA.box
    go_wp2
    go_end0
    exact ⟨rfl, hA.vs.done keepsPV⟩
   ·rw [if_neg h20]
    have hl3 : 0 < l2 := by omega
    have hj2 := dropF_bd t p s (q + n) s4
    have HJ := fun (w : World) (S1 : Nat → Prop) (h1 : PV w b S1 s4) => hjoin_any b t p s (q + n) (q + n) w S1 s4 h1 hp (by omega) (by omega)
    rw [show (dropF t p s (q + n) s4).1 = (joinF t p s (q + n) (q + n) s4).1 from rfl] at hj2
    obtain ⟨j2, s5, hj⟩ : ∃ j s5, joinF t p s (q + n) (q + n) s4 = (j, s5) := ⟨_, _, rfl⟩
    rw [hj] at HJ hj2 ⊢; dsimp only at HJ hj2 ⊢; clear hj
    have HJ2 := Lib.hid HJ; clear HJ h20 hl2
    have hw5 : IntKind.i64.wrap (n + j2) = n + j2 := wrap_in _ (by omega)
    have HAd := Lib.hid (fun (w : World) (S1 : Nat → Prop) (h1 : PV w b S1 s5) => badd_all b t p s q (n + j2) w S1 s5 h1 hp)
    have HC := Lib.hid (fun (w : World) (S1 : Nat → Prop) (h1 : PV w b S1 (addG t p s q (n + j2) s5)) => hcount_any b t p s n w S1 _ h1 hn0 hn1)
    generalize addG t p s q (n + j2) s5 = s8 at *
    generalize countF n s8 = s9 at *
    go_enter Tryz.func119, Tryz.ntmps119
    obtain ⟨⟨k0, k1⟩, f0, f1⟩ := cells2 hA.box
    go_wp2_with fail
    refine (calls_st hA.vs (HH.out _)).mono ?_
    rintro e w1 ⟨rfl, hY, hYl⟩
    replace hA := hA.step hY hYl
    replace c0 := loc_step hYl (by simp) c0
    replace d0 := loc_step hYl (by simp) d0
    clear hY hYl
    obtain ⟨⟨k0, k1⟩, f0, f1⟩ := cells2 hA.box
    go_wp2_with fail
    refine (calls_st hA.vs (HG2.out _)).mono ?_
    rintro e w20 ⟨rfl, hY, hYl⟩
    replace hA := hA.step hY hYl
    replace c0 := loc_step hYl (by simp) c0
    replace d0 := loc_step hYl (by simp) d0
    clear hY hYl
    obtain ⟨⟨k0, k1⟩, f0, f1⟩ := cells2 hA.box
    clear k0 k1 f0 f1
    go_wp2_with fail
    have hX := hA.vs.drew keepsPV
    replace hA : VA w b S [w.heap.size + 1, w.heap.size] _ _ _ _ _ := hA.step hX (fun _ _ => rfl)
    refine wp_region_noPanic ?_
    refine wp_region_held_drew (S := fun w' => ((∀ o : Nat, w'.cell? ⟨w.heap.size + 1, o, none⟩ = (#[.pointer (some ⟨b, 0, none⟩), .int .i64 t, .int .i64 p, .int .i64 s] : Array Value)[o]?) ∧ (∀ o : Nat, w'.cell? ⟨w.heap.size, o, none⟩ = (#[.int .i64 t, .int .i64 p, .int .i64 s] : Array Value)[o]?))) (by kernel_rfl) ?_ (fun hHeld => ?_)
    ·exact ⟨d0, c0⟩
    refine wpAnyH_take (i := 0) (oi := _) (v := ?_) rfl (by kernel_rfl) (by kernel_rfl) (by kernel_rfl) (fun _ _ _ h => h) (Or.inl ⟨by rfl, ?_⟩) (by assumption) ?_
    rotate_left
    ·intro w hSw; (try dsimp only at hSw); go_simp; try with_reducible rfl
    try simp only [Act.put, zA, zB, zD, zE, zF]
    refine wpAnyH_take (i := 2) (oi := _) (v := ?_) rfl (by kernel_rfl) (by kernel_rfl) (by kernel_rfl) (fun _ _ _ h => h) (Or.inl ⟨by rfl, ?_⟩) (by assumption) ?_
    rotate_left
    ·intro w hSw; (try dsimp only at hSw); go_simp; try with_reducible rfl
    try simp only [Act.put, zA, zB, zC, zD, zE, zF]
    refine wpAnyH_take (i := 3) (oi := _) (v := ?_) rfl (by kernel_rfl) (by kernel_rfl) (by kernel_rfl) (fun _ _ _ h => h) (Or.inl ⟨by rfl, ?_⟩) (by assumption) ?_
    rotate_left
    ·intro w hSw; (try dsimp only at hSw); go_simp; try with_reducible rfl
    try simp only [Act.put, zA, zB, zC, zD, zE, zF]
    refine wpAnyH_take (i := 4) (oi := _) (v := ?_) rfl (by kernel_rfl) (by kernel_rfl) (by kernel_rfl) (fun _ _ _ h => h) (Or.inl ⟨by rfl, ?_⟩) (by assumption) ?_
    rotate_left
    ·intro w hSw; (try dsimp only at hSw); go_simp; try with_reducible rfl
    try simp only [Act.put, zA, zB, zC, zD, zE, zF]
    refine wpAnyH_ready (rs := [1, 5]) (by kernel_rfl) (by simp) ?_
    refine AllReadyH.cons (o := _) rfl (fun K hK => ?_) (AllReadyH.cons (o := _) rfl (fun K hK => ?_) AllReadyH.nil)
    ·have k1 := (cells2 hA.box).1.2
     go_simp
     clear k1
     refine hK.out _ _ ?_ (fun hHeld => ?_)
     ·exact hHeld
     clear hK K
     try simp only [Act.put, zA, zB, zC, zD, zE, zF]
     refine wpAnyH_ready (rs := [5]) (by kernel_rfl) (by simp) ?_
     refine AllReadyH.cons (o := _) rfl (fun K hK => ?_) AllReadyH.nil
     go_simp
     refine (calls_st hA.vs (HJ2.out _)).mono ?_
     rintro e w23 ⟨rfl, hY, hYl⟩
     replace hA := hA.step hY hYl
     have d1 := loc_step hYl (by simp) hHeld.1
     have c1 := loc_step hYl (by simp) hHeld.2
     clear hYl hY
     dsimp only
     refine hK.out _ _ ?_ (fun hHeld => ?_)
     ·exact ⟨d1, c1⟩
     clear hK K
     try simp only [Act.put, zA, zB, zC, zD, zE, zF]
     refine wpAnyH_take (i := 6) (oi := _) (v := ?_) rfl (by kernel_rfl) (by kernel_rfl) (by kernel_rfl) (fun _ _ _ h => h) (Or.inl ⟨by rfl, ?_⟩) (by assumption) ?_
     rotate_left
     ·intro w hSw; (try dsimp only at hSw); go_simp; try with_reducible rfl
     try simp only [Act.put, zA, zB, zC, zD, zE, zF]
     refine wpAnyH_take (i := 7) (oi := _) (v := ?_) rfl (by kernel_rfl) (by kernel_rfl) (by kernel_rfl) (fun _ _ _ h => h) (Or.inl ⟨by rfl, ?_⟩) (by assumption) ?_
     rotate_left
     ·intro w hSw; (try dsimp only at hSw); go_simp; try with_reducible rfl
     try simp only [Act.put, zA, zB, zC, zD, zE, zF]
     refine wpAnyH_ready (rs := [8]) (by kernel_rfl) (by simp) ?_
     refine AllReadyH.cons (o := _) rfl (fun K hK => ?_) AllReadyH.nil
     obtain ⟨⟨k0, k1⟩, f0, f1⟩ := cells2 hA.box
     have hA2 : VA w b S [w.heap.size + 1, w.heap.size] _ #[.int .i64 q, .int .i64 (n + j2)] 162 s5 _ := hA.set 1 (.int .i64 (n + j2))
     go_simp
     clear k0 k1 f0 f1
     refine hK.out _ _ ?_ (fun hHeld => ?_)
     ·exact ⟨hA.loc (by simp) 1 _ hHeld.1, hA.loc (by simp) 1 _ hHeld.2⟩
     clear hK K
     try simp only [Act.put, zA, zB, zC, zD, zE, zF]
     refine wpAnyH_done (by kernel_rfl) ?_ _
     refine NoPanic.normal ?_
     refine world_gen ?_
     intro wz hwz
     rw [← hwz] at hA2 hHeld
     clear hwz hA
     replace hA := hA2
     clear hA2
     have d0 := hHeld.1
     have c0 := hHeld.2
     obtain ⟨⟨k0, k1⟩, f0, f1⟩ := cells2 hA.box
     go_wp2_with fail
     refine (calls_st hA.vs (HAd.out _)).mono ?_
     rintro e w21 ⟨rfl, hY, hYl⟩
     replace hA := hA.step hY hYl
     replace c0 := loc_step hYl (by simp) c0
     replace d0 := loc_step hYl (by simp) d0
     clear hY hYl
     obtain ⟨⟨k0, k1⟩, f0, f1⟩ := cells2 hA.box
     go_wp2_with fail
     refine (calls_st hA.vs (HC.out _)).mono ?_
     rintro e w22 ⟨rfl, hY, hYl⟩
     replace hA := hA.step hY hYl
     replace c0 := loc_step hYl (by simp) c0
     replace d0 := loc_step hYl (by simp) d0
     clear hY hYl
     obtain ⟨⟨k0, k1⟩, f0, f1⟩ := cells2 hA.box
     go_wp2
     go_end0
     exact ⟨rfl, hA.vs.done keepsPV⟩
    ·go_simp
     refine (calls_st hA.vs (HJ2.out _)).mono ?_
     rintro e w23 ⟨rfl, hY, hYl⟩
     replace hA := hA.step hY hYl
     have d1 := loc_step hYl (by simp) hHeld.1
     have c1 := loc_step hYl (by simp) hHeld.2
     clear hYl hY
     dsimp only
     refine hK.out _ _ ?_ (fun hHeld => ?_)
     ·exact ⟨d1, c1⟩
     clear hK K
     try simp only [Act.put, zA, zB, zC, zD, zE, zF]
     refine wpAnyH_ready (rs := [1]) (by kernel_rfl) (by simp) ?_
     refine AllReadyH.cons (o := _) rfl (fun K hK => ?_) AllReadyH.nil
     have k1 := (cells2 hA.box).1.2
     go_simp
     clear k1
     refine hK.out _ _ ?_ (fun hHeld => ?_)
     ·exact hHeld
     clear hK K
     try simp only [Act.put, zA, zB, zC, zD, zE, zF]
     refine wpAnyH_take (i := 6) (oi := _) (v := ?_) rfl (by kernel_rfl) (by kernel_rfl) (by kernel_rfl) (fun _ _ _ h => h) (Or.inl ⟨by rfl, ?_⟩) (by assumption) ?_
     rotate_left
     ·intro w hSw; (try dsimp only at hSw); go_simp; try with_reducible rfl
     try simp only [Act.put, zA, zB, zC, zD, zE, zF]
     refine wpAnyH_take (i := 7) (oi := _) (v := ?_) rfl (by kernel_rfl) (by kernel_rfl) (by kernel_rfl) (fun _ _ _ h => h) (Or.inl ⟨by rfl, ?_⟩) (by assumption) ?_
     rotate_left
     ·intro w hSw; (try dsimp only at hSw); go_simp; try with_reducible rfl
     try simp only [Act.put, zA, zB, zC, zD, zE, zF]
     refine wpAnyH_ready (rs := [8]) (by kernel_rfl) (by simp) ?_
     refine AllReadyH.cons (o := _) rfl (fun K hK => ?_) AllReadyH.nil
     obtain ⟨⟨k0, k1⟩, f0, f1⟩ := cells2 hA.box
     have hA2 : VA w b S [w.heap.size + 1, w.heap.size] _ #[.int .i64 q, .int .i64 (n + j2)] 162 s5 _ := hA.set 1 (.int .i64 (n + j2))
     go_simp
     clear k0 k1 f0 f1
     refine hK.out _ _ ?_ (fun hHeld => ?_)
     ·exact ⟨hA.loc (by simp) 1 _ hHeld.1, hA.loc (by simp) 1 _ hHeld.2⟩
     clear hK K
     try simp only [Act.put, zA, zB, zC, zD, zE, zF]
     refine wpAnyH_done (by kernel_rfl) ?_ _
     refine NoPanic.normal ?_
     refine world_gen ?_
     intro wz hwz
     rw [← hwz] at hA2 hHeld
     clear hwz hA
     replace hA := hA2
     clear hA2
     have d0 := hHeld.1
     have c0 := hHeld.2
     obtain ⟨⟨k0, k1⟩, f0, f1⟩ := cells2 hA.box
     go_wp2_with fail
     refine (calls_st hA.vs (HAd.out _)).mono ?_
     rintro e w21 ⟨rfl, hY, hYl⟩
     replace hA := hA.step hY hYl
     replace c0 := loc_step hYl (by simp) c0
     replace d0 := loc_step hYl (by simp) d0
     clear hY hYl
     obtain ⟨⟨k0, k1⟩, f0, f1⟩ := cells2 hA.box
     go_wp2_with fail
     refine (calls_st hA.vs (HC.out _)).mono ?_
     rintro e w22 ⟨rfl, hY, hYl⟩
     replace hA := hA.step hY hYl
     replace c0 := loc_step hYl (by simp) c0
     replace d0 := loc_step hYl (by simp) d0
     clear hY hYl
     obtain ⟨⟨k0, k1⟩, f0, f1⟩ := cells2 hA.box
     go_wp2
     go_end0
     exact ⟨rfl, hA.vs.done keepsPV⟩
  ·have hfo : foreF t p s (q + n) (n) s1 = (n, s1) := by unfold foreF; rw [if_neg hr]
   rw [hfo]; clear hfo; dsimp only
   have HAd := Lib.hid (fun (w : World) (S1 : Nat → Prop) (h1 : PV w b S1 s1) => badd_all b t p s q (n) w S1 s1 h1 hp)
   have HC := Lib.hid (fun (w : World) (S1 : Nat → Prop) (h1 : PV w b S1 (addG t p s q (n) s1)) => hcount_any b t p s n w S1 _ h1 hn0 hn1)
   generalize addG t p s q (n) s1 = s8 at *
   generalize countF n s8 = s9 at *
   go_enter Tryz.func119, Tryz.ntmps119
   obtain ⟨⟨k0, k1⟩, f0, f1⟩ := cells2 hA.box
   go_wp2_with fail
   refine (calls_st hA.vs (HH.out _)).mono ?_
   rintro e w1 ⟨rfl, hY, hYl⟩
   replace hA := hA.step hY hYl
   replace c0 := loc_step hYl (by simp) c0
   replace d0 := loc_step hYl (by simp) d0
   clear hY hYl
   obtain ⟨⟨k0, k1⟩, f0, f1⟩ := cells2 hA.box
   go_wp2_with fail
   refine (calls_st hA.vs (HAd.out _)).mono ?_
   rintro e w21 ⟨rfl, hY, hYl⟩
   replace hA := hA.step hY hYl
   replace c0 := loc_step hYl (by simp) c0
   replace d0 := loc_step hYl (by simp) d0
   clear hY hYl
   obtain ⟨⟨k0, k1⟩, f0, f1⟩ := cells2 hA.box
   go_wp2_with fail
   refine (calls_st hA.vs (HC.out _)).mono ?_
   rintro e w22 ⟨rfl, hY, hYl⟩
   replace hA := hA.step hY hYl
   replace c0 := loc_step hYl (by simp) c0
   replace d0 := loc_step hYl (by simp) d0
   clear hY hYl
   obtain ⟨⟨k0, k1⟩, f0, f1⟩ := cells2 hA.box
   go_wp2
   go_end0
   exact ⟨rfl, hA.vs.done keepsPV⟩
 ·rw [if_neg hf0] at hbk
  have HF1 := fun (w : World) (S1 : Nat → Prop) (h1 : PV w b S1 s1) => hfree_any b t p s f w S1 s1 h1
  have hl1 : 0 ≤ (freeAt t p s f s1).1 ∧ (freeAt t p s f s1).1 ≤ 1024 := ⟨(freeV_bd _).1, (freeV_bd _).2.1⟩
  obtain ⟨l1, s2, hl⟩ : ∃ l s4, freeAt t p s f s1 = (l, s4) := ⟨_, _, rfl⟩
  rw [hl] at HF1 hl1 hbk; dsimp only at HF1 hl1 hbk; clear hl
  have HG1 := Lib.hid HF1; clear HF1
  by_cases h10 : l1 = 0
  ·rw [if_pos h10] at hbk; subst hbk h10; dsimp only; clear hl1
   by_cases hr : q + n < p
   ·have HF2 := fun (w : World) (S1 : Nat → Prop) (h1 : PV w b S1 s2) => hfree_any b t p s (q + n) w S1 s2 h1
    have hfo : foreF t p s (q + n) (n) s2 = (if (freeAt t p s (q + n) s2).1 = 0 then (n, (freeAt t p s (q + n) s2).2) else (n + (joinF t p s (q + n) (q + n) (freeAt t p s (q + n) s2).2).1, (joinF t p s (q + n) (q + n) (freeAt t p s (q + n) s2).2).2)) := by unfold foreF; rw [if_pos hr]
    have hl2 : 0 ≤ (freeAt t p s (q + n) s2).1 ∧ (freeAt t p s (q + n) s2).1 ≤ 1024 := ⟨(freeV_bd _).1, (freeV_bd _).2.1⟩
    rw [hfo]; clear hfo
    obtain ⟨l2, s4, hl⟩ : ∃ l s4, freeAt t p s (q + n) s2 = (l, s4) := ⟨_, _, rfl⟩
    rw [hl] at HF2 hl2 ⊢; dsimp only at HF2 hl2 ⊢; clear hl
    have HG2 := Lib.hid HF2; clear HF2
    by_cases h20 : l2 = 0
    ·subst h20; clear hl2
     rw [if_pos rfl]; dsimp only
     have HAd := Lib.hid (fun (w : World) (S1 : Nat → Prop) (h1 : PV w b S1 s4) => badd_all b t p s q (n) w S1 s4 h1 hp)
     have HC := Lib.hid (fun (w : World) (S1 : Nat → Prop) (h1 : PV w b S1 (addG t p s q (n) s4)) => hcount_any b t p s n w S1 _ h1 hn0 hn1)
     generalize addG t p s q (n) s4 = s8 at *
     generalize countF n s8 = s9 at *
     go_enter Tryz.func119, Tryz.ntmps119
     obtain ⟨⟨k0, k1⟩, f0, f1⟩ := cells2 hA.box
     go_wp2_with fail
     refine (calls_st hA.vs (HH.out _)).mono ?_
     rintro e w1 ⟨rfl, hY, hYl⟩
     replace hA := hA.step hY hYl
     replace c0 := loc_step hYl (by simp) c0
     replace d0 := loc_step hYl (by simp) d0
     clear hY hYl
     obtain ⟨⟨k0, k1⟩, f0, f1⟩ := cells2 hA.box
     go_wp2_with fail
     refine (calls_st hA.vs (HG1.out _)).mono ?_
     rintro e w2 ⟨rfl, hY, hYl⟩
     replace hA := hA.step hY hYl
     replace c0 := loc_step hYl (by simp) c0
     replace d0 := loc_step hYl (by simp) d0
     clear hY hYl
     obtain ⟨⟨k0, k1⟩, f0, f1⟩ := cells2 hA.box
     go_wp2_with fail
     refine (calls_st hA.vs (HG2.out _)).mono ?_
     rintro e w20 ⟨rfl, hY, hYl⟩
     replace hA := hA.step hY hYl
     replace c0 := loc_step hYl (by simp) c0
     replace d0 := loc_step hYl (by simp) d0
     clear hY hYl
     obtain ⟨⟨k0, k1⟩, f0, f1⟩ := cells2 hA.box
     go_wp2_with fail
     refine (calls_st hA.vs (HAd.out _)).mono ?_
     rintro e w21 ⟨rfl, hY, hYl⟩
     replace hA := hA.step hY hYl
     replace c0 := loc_step hYl (by simp) c0
     replace d0 := loc_step hYl (by simp) d0
     clear hY hYl
     obtain ⟨⟨k0, k1⟩, f0, f1⟩ := cells2 hA.box
     go_wp2_with fail
     refine (calls_st hA.vs (HC.out _)).mono ?_
     rintro e w22 ⟨rfl, hY, hYl⟩
     replace hA := hA.step hY hYl
     replace c0 := loc_step hYl (by simp) c0
     replace d0 := loc_step hYl (by simp) d0
     clear hY hYl
     obtain ⟨⟨k0, k1⟩, f0, f1⟩ := cells2 hA.box
     go_wp2
     go_end0
     exact ⟨rfl, hA.vs.done keepsPV⟩
    ·rw [if_neg h20]
     have hl3 : 0 < l2 := by omega
     have hj2 := dropF_bd t p s (q + n) s4
     have HJ := fun (w : World) (S1 : Nat → Prop) (h1 : PV w b S1 s4) => hjoin_any b t p s (q + n) (q + n) w S1 s4 h1 hp (by omega) (by omega)
     rw [show (dropF t p s (q + n) s4).1 = (joinF t p s (q + n) (q + n) s4).1 from rfl] at hj2
     obtain ⟨j2, s5, hj⟩ : ∃ j s5, joinF t p s (q + n) (q + n) s4 = (j, s5) := ⟨_, _, rfl⟩
     rw [hj] at HJ hj2 ⊢; dsimp only at HJ hj2 ⊢; clear hj
     have HJ2 := Lib.hid HJ; clear HJ h20 hl2
     have hw5 : IntKind.i64.wrap (n + j2) = n + j2 := wrap_in _ (by omega)
     have HAd := Lib.hid (fun (w : World) (S1 : Nat → Prop) (h1 : PV w b S1 s5) => badd_all b t p s q (n + j2) w S1 s5 h1 hp)
     have HC := Lib.hid (fun (w : World) (S1 : Nat → Prop) (h1 : PV w b S1 (addG t p s q (n + j2) s5)) => hcount_any b t p s n w S1 _ h1 hn0 hn1)
     generalize addG t p s q (n + j2) s5 = s8 at *
     generalize countF n s8 = s9 at *
     go_enter Tryz.func119, Tryz.ntmps119
     obtain ⟨⟨k0, k1⟩, f0, f1⟩ := cells2 hA.box
     go_wp2_with fail
     refine (calls_st hA.vs (HH.out _)).mono ?_
     rintro e w1 ⟨rfl, hY, hYl⟩
     replace hA := hA.step hY hYl
     replace c0 := loc_step hYl (by simp) c0
     replace d0 := loc_step hYl (by simp) d0
     clear hY hYl
     obtain ⟨⟨k0, k1⟩, f0, f1⟩ := cells2 hA.box
     go_wp2_with fail
     refine (calls_st hA.vs (HG1.out _)).mono ?_
     rintro e w2 ⟨rfl, hY, hYl⟩
     replace hA := hA.step hY hYl
     replace c0 := loc_step hYl (by simp) c0
     replace d0 := loc_step hYl (by simp) d0
     clear hY hYl
     obtain ⟨⟨k0, k1⟩, f0, f1⟩ := cells2 hA.box
     go_wp2_with fail
     refine (calls_st hA.vs (HG2.out _)).mono ?_
     rintro e w20 ⟨rfl, hY, hYl⟩
     replace hA := hA.step hY hYl
     replace c0 := loc_step hYl (by simp) c0
     replace d0 := loc_step hYl (by simp) d0
     clear hY hYl
     obtain ⟨⟨k0, k1⟩, f0, f1⟩ := cells2 hA.box
     clear k0 k1 f0 f1
     go_wp2_with fail
     have hX := hA.vs.drew keepsPV
     replace hA : VA w b S [w.heap.size + 1, w.heap.size] _ _ _ _ _ := hA.step hX (fun _ _ => rfl)
     refine wp_region_noPanic ?_
     refine wp_region_held_drew (S := fun w' => ((∀ o : Nat, w'.cell? ⟨w.heap.size + 1, o, none⟩ = (#[.pointer (some ⟨b, 0, none⟩), .int .i64 t, .int .i64 p, .int .i64 s] : Array Value)[o]?) ∧ (∀ o : Nat, w'.cell? ⟨w.heap.size, o, none⟩ = (#[.int .i64 t, .int .i64 p, .int .i64 s] : Array Value)[o]?))) (by kernel_rfl) ?_ (fun hHeld => ?_)
     ·exact ⟨d0, c0⟩
     refine wpAnyH_take (i := 0) (oi := _) (v := ?_) rfl (by kernel_rfl) (by kernel_rfl) (by kernel_rfl) (fun _ _ _ h => h) (Or.inl ⟨by rfl, ?_⟩) (by assumption) ?_
     rotate_left
     ·intro w hSw; (try dsimp only at hSw); go_simp; try with_reducible rfl
     try simp only [Act.put, zA, zB, zD, zE, zF]
     refine wpAnyH_take (i := 2) (oi := _) (v := ?_) rfl (by kernel_rfl) (by kernel_rfl) (by kernel_rfl) (fun _ _ _ h => h) (Or.inl ⟨by rfl, ?_⟩) (by assumption) ?_
     rotate_left
     ·intro w hSw; (try dsimp only at hSw); go_simp; try with_reducible rfl
     try simp only [Act.put, zA, zB, zC, zD, zE, zF]
     refine wpAnyH_take (i := 3) (oi := _) (v := ?_) rfl (by kernel_rfl) (by kernel_rfl) (by kernel_rfl) (fun _ _ _ h => h) (Or.inl ⟨by rfl, ?_⟩) (by assumption) ?_
     rotate_left
     ·intro w hSw; (try dsimp only at hSw); go_simp; try with_reducible rfl
     try simp only [Act.put, zA, zB, zC, zD, zE, zF]
     refine wpAnyH_take (i := 4) (oi := _) (v := ?_) rfl (by kernel_rfl) (by kernel_rfl) (by kernel_rfl) (fun _ _ _ h => h) (Or.inl ⟨by rfl, ?_⟩) (by assumption) ?_
     rotate_left
     ·intro w hSw; (try dsimp only at hSw); go_simp; try with_reducible rfl
     try simp only [Act.put, zA, zB, zC, zD, zE, zF]
     refine wpAnyH_ready (rs := [1, 5]) (by kernel_rfl) (by simp) ?_
     refine AllReadyH.cons (o := _) rfl (fun K hK => ?_) (AllReadyH.cons (o := _) rfl (fun K hK => ?_) AllReadyH.nil)
     ·have k1 := (cells2 hA.box).1.2
      go_simp
      clear k1
      refine hK.out _ _ ?_ (fun hHeld => ?_)
      ·exact hHeld
      clear hK K
      try simp only [Act.put, zA, zB, zC, zD, zE, zF]
      refine wpAnyH_ready (rs := [5]) (by kernel_rfl) (by simp) ?_
      refine AllReadyH.cons (o := _) rfl (fun K hK => ?_) AllReadyH.nil
      go_simp
      refine (calls_st hA.vs (HJ2.out _)).mono ?_
      rintro e w23 ⟨rfl, hY, hYl⟩
      replace hA := hA.step hY hYl
      have d1 := loc_step hYl (by simp) hHeld.1
      have c1 := loc_step hYl (by simp) hHeld.2
      clear hYl hY
      dsimp only
      refine hK.out _ _ ?_ (fun hHeld => ?_)
      ·exact ⟨d1, c1⟩
      clear hK K
      try simp only [Act.put, zA, zB, zC, zD, zE, zF]
      refine wpAnyH_take (i := 6) (oi := _) (v := ?_) rfl (by kernel_rfl) (by kernel_rfl) (by kernel_rfl) (fun _ _ _ h => h) (Or.inl ⟨by rfl, ?_⟩) (by assumption) ?_
      rotate_left
      ·intro w hSw; (try dsimp only at hSw); go_simp; try with_reducible rfl
      try simp only [Act.put, zA, zB, zC, zD, zE, zF]
      refine wpAnyH_take (i := 7) (oi := _) (v := ?_) rfl (by kernel_rfl) (by kernel_rfl) (by kernel_rfl) (fun _ _ _ h => h) (Or.inl ⟨by rfl, ?_⟩) (by assumption) ?_
      rotate_left
      ·intro w hSw; (try dsimp only at hSw); go_simp; try with_reducible rfl
      try simp only [Act.put, zA, zB, zC, zD, zE, zF]
      refine wpAnyH_ready (rs := [8]) (by kernel_rfl) (by simp) ?_
      refine AllReadyH.cons (o := _) rfl (fun K hK => ?_) AllReadyH.nil
      obtain ⟨⟨k0, k1⟩, f0, f1⟩ := cells2 hA.box
      have hA2 : VA w b S [w.heap.size + 1, w.heap.size] _ #[.int .i64 q, .int .i64 (n + j2)] 162 s5 _ := hA.set 1 (.int .i64 (n + j2))
      go_simp
      clear k0 k1 f0 f1
      refine hK.out _ _ ?_ (fun hHeld => ?_)
      ·exact ⟨hA.loc (by simp) 1 _ hHeld.1, hA.loc (by simp) 1 _ hHeld.2⟩
      clear hK K
      try simp only [Act.put, zA, zB, zC, zD, zE, zF]
      refine wpAnyH_done (by kernel_rfl) ?_ _
      refine NoPanic.normal ?_
      refine world_gen ?_
      intro wz hwz
      rw [← hwz] at hA2 hHeld
      clear hwz hA
      replace hA := hA2
      clear hA2
      have d0 := hHeld.1
      have c0 := hHeld.2
      obtain ⟨⟨k0, k1⟩, f0, f1⟩ := cells2 hA.box
      go_wp2_with fail
      refine (calls_st hA.vs (HAd.out _)).mono ?_
      rintro e w21 ⟨rfl, hY, hYl⟩
      replace hA := hA.step hY hYl
      replace c0 := loc_step hYl (by simp) c0
      replace d0 := loc_step hYl (by simp) d0
      clear hY hYl
      obtain ⟨⟨k0, k1⟩, f0, f1⟩ := cells2 hA.box
      go_wp2_with fail
      refine (calls_st hA.vs (HC.out _)).mono ?_
      rintro e w22 ⟨rfl, hY, hYl⟩
      replace hA := hA.step hY hYl
      replace c0 := loc_step hYl (by simp) c0
      replace d0 := loc_step hYl (by simp) d0
      clear hY hYl
      obtain ⟨⟨k0, k1⟩, f0, f1⟩ := cells2 hA.box
      go_wp2
      go_end0
      exact ⟨rfl, hA.vs.done keepsPV⟩
     ·go_simp
      refine (calls_st hA.vs (HJ2.out _)).mono ?_
      rintro e w23 ⟨rfl, hY, hYl⟩
      replace hA := hA.step hY hYl
      have d1 := loc_step hYl (by simp) hHeld.1
      have c1 := loc_step hYl (by simp) hHeld.2
      clear hYl hY
      dsimp only
      refine hK.out _ _ ?_ (fun hHeld => ?_)
      ·exact ⟨d1, c1⟩
      clear hK K
      try simp only [Act.put, zA, zB, zC, zD, zE, zF]
      refine wpAnyH_ready (rs := [1]) (by kernel_rfl) (by simp) ?_
      refine AllReadyH.cons (o := _) rfl (fun K hK => ?_) AllReadyH.nil
      have k1 := (cells2 hA.box).1.2
      go_simp
      clear k1
      refine hK.out _ _ ?_ (fun hHeld => ?_)
      ·exact hHeld
      clear hK K
      try simp only [Act.put, zA, zB, zC, zD, zE, zF]
      refine wpAnyH_take (i := 6) (oi := _) (v := ?_) rfl (by kernel_rfl) (by kernel_rfl) (by kernel_rfl) (fun _ _ _ h => h) (Or.inl ⟨by rfl, ?_⟩) (by assumption) ?_
      rotate_left
      ·intro w hSw; (try dsimp only at hSw); go_simp; try with_reducible rfl
      try simp only [Act.put, zA, zB, zC, zD, zE, zF]
      refine wpAnyH_take (i := 7) (oi := _) (v := ?_) rfl (by kernel_rfl) (by kernel_rfl) (by kernel_rfl) (fun _ _ _ h => h) (Or.inl ⟨by rfl, ?_⟩) (by assumption) ?_
      rotate_left
      ·intro w hSw; (try dsimp only at hSw); go_simp; try with_reducible rfl
      try simp only [Act.put, zA, zB, zC, zD, zE, zF]
      refine wpAnyH_ready (rs := [8]) (by kernel_rfl) (by simp) ?_
      refine AllReadyH.cons (o := _) rfl (fun K hK => ?_) AllReadyH.nil
      obtain ⟨⟨k0, k1⟩, f0, f1⟩ := cells2 hA.box
      have hA2 : VA w b S [w.heap.size + 1, w.heap.size] _ #[.int .i64 q, .int .i64 (n + j2)] 162 s5 _ := hA.set 1 (.int .i64 (n + j2))
      go_simp
      clear k0 k1 f0 f1
      refine hK.out _ _ ?_ (fun hHeld => ?_)
      ·exact ⟨hA.loc (by simp) 1 _ hHeld.1, hA.loc (by simp) 1 _ hHeld.2⟩
      clear hK K
      try simp only [Act.put, zA, zB, zC, zD, zE, zF]
      refine wpAnyH_done (by kernel_rfl) ?_ _
      refine NoPanic.normal ?_
      refine world_gen ?_
      intro wz hwz
      rw [← hwz] at hA2 hHeld
      clear hwz hA
      replace hA := hA2
      clear hA2
      have d0 := hHeld.1
      have c0 := hHeld.2
      obtain ⟨⟨k0, k1⟩, f0, f1⟩ := cells2 hA.box
      go_wp2_with fail
      refine (calls_st hA.vs (HAd.out _)).mono ?_
      rintro e w21 ⟨rfl, hY, hYl⟩
      replace hA := hA.step hY hYl
      replace c0 := loc_step hYl (by simp) c0
      replace d0 := loc_step hYl (by simp) d0
      clear hY hYl
      obtain ⟨⟨k0, k1⟩, f0, f1⟩ := cells2 hA.box
      go_wp2_with fail
      refine (calls_st hA.vs (HC.out _)).mono ?_
      rintro e w22 ⟨rfl, hY, hYl⟩
      replace hA := hA.step hY hYl
      replace c0 := loc_step hYl (by simp) c0
      replace d0 := loc_step hYl (by simp) d0
      clear hY hYl
      obtain ⟨⟨k0, k1⟩, f0, f1⟩ := cells2 hA.box
      go_wp2
      go_end0
      exact ⟨rfl, hA.vs.done keepsPV⟩
   ·have hfo : foreF t p s (q + n) (n) s2 = (n, s2) := by unfold foreF; rw [if_neg hr]
    rw [hfo]; clear hfo; dsimp only
    have HAd := Lib.hid (fun (w : World) (S1 : Nat → Prop) (h1 : PV w b S1 s2) => badd_all b t p s q (n) w S1 s2 h1 hp)
    have HC := Lib.hid (fun (w : World) (S1 : Nat → Prop) (h1 : PV w b S1 (addG t p s q (n) s2)) => hcount_any b t p s n w S1 _ h1 hn0 hn1)
    generalize addG t p s q (n) s2 = s8 at *
    generalize countF n s8 = s9 at *
    go_enter Tryz.func119, Tryz.ntmps119
    obtain ⟨⟨k0, k1⟩, f0, f1⟩ := cells2 hA.box
    go_wp2_with fail
    refine (calls_st hA.vs (HH.out _)).mono ?_
    rintro e w1 ⟨rfl, hY, hYl⟩
    replace hA := hA.step hY hYl
    replace c0 := loc_step hYl (by simp) c0
    replace d0 := loc_step hYl (by simp) d0
    clear hY hYl
    obtain ⟨⟨k0, k1⟩, f0, f1⟩ := cells2 hA.box
    go_wp2_with fail
    refine (calls_st hA.vs (HG1.out _)).mono ?_
    rintro e w2 ⟨rfl, hY, hYl⟩
    replace hA := hA.step hY hYl
    replace c0 := loc_step hYl (by simp) c0
    replace d0 := loc_step hYl (by simp) d0
    clear hY hYl
    obtain ⟨⟨k0, k1⟩, f0, f1⟩ := cells2 hA.box
    go_wp2_with fail
    refine (calls_st hA.vs (HAd.out _)).mono ?_
    rintro e w21 ⟨rfl, hY, hYl⟩
    replace hA := hA.step hY hYl
    replace c0 := loc_step hYl (by simp) c0
    replace d0 := loc_step hYl (by simp) d0
    clear hY hYl
    obtain ⟨⟨k0, k1⟩, f0, f1⟩ := cells2 hA.box
    go_wp2_with fail
    refine (calls_st hA.vs (HC.out _)).mono ?_
    rintro e w22 ⟨rfl, hY, hYl⟩
    replace hA := hA.step hY hYl
    replace c0 := loc_step hYl (by simp) c0
    replace d0 := loc_step hYl (by simp) d0
    clear hY hYl
    obtain ⟨⟨k0, k1⟩, f0, f1⟩ := cells2 hA.box
    go_wp2
    go_end0
    exact ⟨rfl, hA.vs.done keepsPV⟩
  ·rw [if_neg h10] at hbk
   have hl4 : 0 < l1 := by omega
   have hj1 := dropF_bd t p s f s2
   have HJ := fun (w : World) (S1 : Nat → Prop) (h1 : PV w b S1 s2) => hjoin_any b t p s f q w S1 s2 h1 hp hq0 hq1
   rw [show (dropF t p s f s2).1 = (joinF t p s f q s2).1 from rfl] at hj1
   obtain ⟨j1, s3, hj⟩ : ∃ j s5, joinF t p s f q s2 = (j, s5) := ⟨_, _, rfl⟩
   rw [hj] at HJ hj1 hbk; dsimp only at HJ hj1 hbk; clear hj
   have HJ1 := Lib.hid HJ; clear HJ h10 hl1; subst hbk; dsimp only
   have hw4 : IntKind.i64.wrap (n + j1) = n + j1 := wrap_in _ (by omega)
   by_cases hr : q + n < p
   ·have HF2 := fun (w : World) (S1 : Nat → Prop) (h1 : PV w b S1 s3) => hfree_any b t p s (q + n) w S1 s3 h1
    have hfo : foreF t p s (q + n) (n + j1) s3 = (if (freeAt t p s (q + n) s3).1 = 0 then (n + j1, (freeAt t p s (q + n) s3).2) else (n + j1 + (joinF t p s (q + n) (q + n) (freeAt t p s (q + n) s3).2).1, (joinF t p s (q + n) (q + n) (freeAt t p s (q + n) s3).2).2)) := by unfold foreF; rw [if_pos hr]
    have hl2 : 0 ≤ (freeAt t p s (q + n) s3).1 ∧ (freeAt t p s (q + n) s3).1 ≤ 1024 := ⟨(freeV_bd _).1, (freeV_bd _).2.1⟩
    rw [hfo]; clear hfo
    obtain ⟨l2, s4, hl⟩ : ∃ l s4, freeAt t p s (q + n) s3 = (l, s4) := ⟨_, _, rfl⟩
    rw [hl] at HF2 hl2 ⊢; dsimp only at HF2 hl2 ⊢; clear hl
    have HG2 := Lib.hid HF2; clear HF2
    by_cases h20 : l2 = 0
    ·subst h20; clear hl2
     rw [if_pos rfl]; dsimp only
     have HAd := Lib.hid (fun (w : World) (S1 : Nat → Prop) (h1 : PV w b S1 s4) => badd_all b t p s f (n + j1) w S1 s4 h1 hp)
     have HC := Lib.hid (fun (w : World) (S1 : Nat → Prop) (h1 : PV w b S1 (addG t p s f (n + j1) s4)) => hcount_any b t p s n w S1 _ h1 hn0 hn1)
     generalize addG t p s f (n + j1) s4 = s8 at *
     generalize countF n s8 = s9 at *
     go_enter Tryz.func119, Tryz.ntmps119
     obtain ⟨⟨k0, k1⟩, f0, f1⟩ := cells2 hA.box
     go_wp2_with fail
     refine (calls_st hA.vs (HH.out _)).mono ?_
     rintro e w1 ⟨rfl, hY, hYl⟩
     replace hA := hA.step hY hYl
     replace c0 := loc_step hYl (by simp) c0
     replace d0 := loc_step hYl (by simp) d0
     clear hY hYl
     obtain ⟨⟨k0, k1⟩, f0, f1⟩ := cells2 hA.box
     go_wp2_with fail
     refine (calls_st hA.vs (HG1.out _)).mono ?_
     rintro e w2 ⟨rfl, hY, hYl⟩
     replace hA := hA.step hY hYl
     replace c0 := loc_step hYl (by simp) c0
     replace d0 := loc_step hYl (by simp) d0
     clear hY hYl
     obtain ⟨⟨k0, k1⟩, f0, f1⟩ := cells2 hA.box
     go_wp2_with fail
     refine (calls_st hA.vs (HJ1.out _)).mono ?_
     rintro e w3 ⟨rfl, hY, hYl⟩
     replace hA := hA.step hY hYl
     replace c0 := loc_step hYl (by simp) c0
     replace d0 := loc_step hYl (by simp) d0
     clear hY hYl
     obtain ⟨⟨k0, k1⟩, f0, f1⟩ := cells2 hA.box
     clear k0 k1
     obtain ⟨⟨k0, k1⟩, f0, f1⟩ := cells2 hA.box
     go_wp2_with fail
     replace d0 := (hA.set 0 (.int .i64 f)).loc (by simp) 1 (.int .i64 (n + j1)) (hA.loc (by simp) 0 (.int .i64 f) d0)
     replace c0 := (hA.set 0 (.int .i64 f)).loc (by simp) 1 (.int .i64 (n + j1)) (hA.loc (by simp) 0 (.int .i64 f) c0)
     have hA2 : VA w b S [w.heap.size + 1, w.heap.size] _ #[.int .i64 f, .int .i64 (n + j1)] 162 s3 _ := (hA.set 0 (.int .i64 f)).set 1 (.int .i64 (n + j1))
     clear k0 k1 f0 f1 hA
     have hA := hA2
     clear hA2
     obtain ⟨⟨k0, k1⟩, f0, f1⟩ := cells2 hA.box
     refine (calls_st hA.vs (HG2.out _)).mono ?_
     rintro e w20 ⟨rfl, hY, hYl⟩
     replace hA := hA.step hY hYl
     replace c0 := loc_step hYl (by simp) c0
     replace d0 := loc_step hYl (by simp) d0
     clear hY hYl
     obtain ⟨⟨k0, k1⟩, f0, f1⟩ := cells2 hA.box
     go_wp2_with fail
     refine (calls_st hA.vs (HAd.out _)).mono ?_
     rintro e w21 ⟨rfl, hY, hYl⟩
     replace hA := hA.step hY hYl
     replace c0 := loc_step hYl (by simp) c0
     replace d0 := loc_step hYl (by simp) d0
     clear hY hYl
     obtain ⟨⟨k0, k1⟩, f0, f1⟩ := cells2 hA.box
     go_wp2_with fail
     refine (calls_st hA.vs (HC.out _)).mono ?_
     rintro e w22 ⟨rfl, hY, hYl⟩
     replace hA := hA.step hY hYl
     replace c0 := loc_step hYl (by simp) c0
     replace d0 := loc_step hYl (by simp) d0
     clear hY hYl
     obtain ⟨⟨k0, k1⟩, f0, f1⟩ := cells2 hA.box
     go_wp2
     go_end0
     exact ⟨rfl, hA.vs.done keepsPV⟩
    ·rw [if_neg h20]
     have hl3 : 0 < l2 := by omega
     have hj2 := dropF_bd t p s (q + n) s4
     have HJ := fun (w : World) (S1 : Nat → Prop) (h1 : PV w b S1 s4) => hjoin_any b t p s (q + n) (q + n) w S1 s4 h1 hp (by omega) (by omega)
     rw [show (dropF t p s (q + n) s4).1 = (joinF t p s (q + n) (q + n) s4).1 from rfl] at hj2
     obtain ⟨j2, s5, hj⟩ : ∃ j s5, joinF t p s (q + n) (q + n) s4 = (j, s5) := ⟨_, _, rfl⟩
     rw [hj] at HJ hj2 ⊢; dsimp only at HJ hj2 ⊢; clear hj
     have HJ2 := Lib.hid HJ; clear HJ h20 hl2
     have hw5 : IntKind.i64.wrap (n + j1 + j2) = n + j1 + j2 := wrap_in _ (by omega)
     have HAd := Lib.hid (fun (w : World) (S1 : Nat → Prop) (h1 : PV w b S1 s5) => badd_all b t p s f (n + j1 + j2) w S1 s5 h1 hp)
     have HC := Lib.hid (fun (w : World) (S1 : Nat → Prop) (h1 : PV w b S1 (addG t p s f (n + j1 + j2) s5)) => hcount_any b t p s n w S1 _ h1 hn0 hn1)
     generalize addG t p s f (n + j1 + j2) s5 = s8 at *
     generalize countF n s8 = s9 at *
     go_enter Tryz.func119, Tryz.ntmps119
     obtain ⟨⟨k0, k1⟩, f0, f1⟩ := cells2 hA.box
     go_wp2_with fail
     refine (calls_st hA.vs (HH.out _)).mono ?_
     rintro e w1 ⟨rfl, hY, hYl⟩
     replace hA := hA.step hY hYl
     replace c0 := loc_step hYl (by simp) c0
     replace d0 := loc_step hYl (by simp) d0
     clear hY hYl
     obtain ⟨⟨k0, k1⟩, f0, f1⟩ := cells2 hA.box
     go_wp2_with fail
     refine (calls_st hA.vs (HG1.out _)).mono ?_
     rintro e w2 ⟨rfl, hY, hYl⟩
     replace hA := hA.step hY hYl
     replace c0 := loc_step hYl (by simp) c0
     replace d0 := loc_step hYl (by simp) d0
     clear hY hYl
     obtain ⟨⟨k0, k1⟩, f0, f1⟩ := cells2 hA.box
     go_wp2_with fail
     refine (calls_st hA.vs (HJ1.out _)).mono ?_
     rintro e w3 ⟨rfl, hY, hYl⟩
     replace hA := hA.step hY hYl
     replace c0 := loc_step hYl (by simp) c0
     replace d0 := loc_step hYl (by simp) d0
     clear hY hYl
     obtain ⟨⟨k0, k1⟩, f0, f1⟩ := cells2 hA.box
     clear k0 k1
     obtain ⟨⟨k0, k1⟩, f0, f1⟩ := cells2 hA.box
     go_wp2_with fail
     replace d0 := (hA.set 0 (.int .i64 f)).loc (by simp) 1 (.int .i64 (n + j1)) (hA.loc (by simp) 0 (.int .i64 f) d0)
     replace c0 := (hA.set 0 (.int .i64 f)).loc (by simp) 1 (.int .i64 (n + j1)) (hA.loc (by simp) 0 (.int .i64 f) c0)
     have hA2 : VA w b S [w.heap.size + 1, w.heap.size] _ #[.int .i64 f, .int .i64 (n + j1)] 162 s3 _ := (hA.set 0 (.int .i64 f)).set 1 (.int .i64 (n + j1))
     clear k0 k1 f0 f1 hA
     have hA := hA2
     clear hA2
     obtain ⟨⟨k0, k1⟩, f0, f1⟩ := cells2 hA.box
     refine (calls_st hA.vs (HG2.out _)).mono ?_
     rintro e w20 ⟨rfl, hY, hYl⟩
     replace hA := hA.step hY hYl
     replace c0 := loc_step hYl (by simp) c0
     replace d0 := loc_step hYl (by simp) d0
     clear hY hYl
     obtain ⟨⟨k0, k1⟩, f0, f1⟩ := cells2 hA.box
     clear k0 k1 f0 f1
     go_wp2_with fail
     have hX := hA.vs.drew keepsPV
     replace hA : VA w b S [w.heap.size + 1, w.heap.size] _ _ _ _ _ := hA.step hX (fun _ _ => rfl)
     refine wp_region_noPanic ?_
     refine wp_region_held_drew (S := fun w' => ((∀ o : Nat, w'.cell? ⟨w.heap.size + 1, o, none⟩ = (#[.pointer (some ⟨b, 0, none⟩), .int .i64 t, .int .i64 p, .int .i64 s] : Array Value)[o]?) ∧ (∀ o : Nat, w'.cell? ⟨w.heap.size, o, none⟩ = (#[.int .i64 t, .int .i64 p, .int .i64 s] : Array Value)[o]?))) (by kernel_rfl) ?_ (fun hHeld => ?_)
     ·exact ⟨d0, c0⟩
     refine wpAnyH_take (i := 0) (oi := _) (v := ?_) rfl (by kernel_rfl) (by kernel_rfl) (by kernel_rfl) (fun _ _ _ h => h) (Or.inl ⟨by rfl, ?_⟩) (by assumption) ?_
     rotate_left
     ·intro w hSw; (try dsimp only at hSw); go_simp; try with_reducible rfl
     try simp only [Act.put, zA, zB, zD, zE, zF]
     refine wpAnyH_take (i := 2) (oi := _) (v := ?_) rfl (by kernel_rfl) (by kernel_rfl) (by kernel_rfl) (fun _ _ _ h => h) (Or.inl ⟨by rfl, ?_⟩) (by assumption) ?_
     rotate_left
     ·intro w hSw; (try dsimp only at hSw); go_simp; try with_reducible rfl
     try simp only [Act.put, zA, zB, zC, zD, zE, zF]
     refine wpAnyH_take (i := 3) (oi := _) (v := ?_) rfl (by kernel_rfl) (by kernel_rfl) (by kernel_rfl) (fun _ _ _ h => h) (Or.inl ⟨by rfl, ?_⟩) (by assumption) ?_
     rotate_left
     ·intro w hSw; (try dsimp only at hSw); go_simp; try with_reducible rfl
     try simp only [Act.put, zA, zB, zC, zD, zE, zF]
     refine wpAnyH_take (i := 4) (oi := _) (v := ?_) rfl (by kernel_rfl) (by kernel_rfl) (by kernel_rfl) (fun _ _ _ h => h) (Or.inl ⟨by rfl, ?_⟩) (by assumption) ?_
     rotate_left
     ·intro w hSw; (try dsimp only at hSw); go_simp; try with_reducible rfl
     try simp only [Act.put, zA, zB, zC, zD, zE, zF]
     refine wpAnyH_ready (rs := [1, 5]) (by kernel_rfl) (by simp) ?_
     refine AllReadyH.cons (o := _) rfl (fun K hK => ?_) (AllReadyH.cons (o := _) rfl (fun K hK => ?_) AllReadyH.nil)
     ·have k1 := (cells2 hA.box).1.2
      go_simp
      clear k1
      refine hK.out _ _ ?_ (fun hHeld => ?_)
      ·exact hHeld
      clear hK K
      try simp only [Act.put, zA, zB, zC, zD, zE, zF]
      refine wpAnyH_ready (rs := [5]) (by kernel_rfl) (by simp) ?_
      refine AllReadyH.cons (o := _) rfl (fun K hK => ?_) AllReadyH.nil
      go_simp
      refine (calls_st hA.vs (HJ2.out _)).mono ?_
      rintro e w23 ⟨rfl, hY, hYl⟩
      replace hA := hA.step hY hYl
      have d1 := loc_step hYl (by simp) hHeld.1
      have c1 := loc_step hYl (by simp) hHeld.2
      clear hYl hY
      dsimp only
      refine hK.out _ _ ?_ (fun hHeld => ?_)
      ·exact ⟨d1, c1⟩
      clear hK K
      try simp only [Act.put, zA, zB, zC, zD, zE, zF]
      refine wpAnyH_take (i := 6) (oi := _) (v := ?_) rfl (by kernel_rfl) (by kernel_rfl) (by kernel_rfl) (fun _ _ _ h => h) (Or.inl ⟨by rfl, ?_⟩) (by assumption) ?_
      rotate_left
      ·intro w hSw; (try dsimp only at hSw); go_simp; try with_reducible rfl
      try simp only [Act.put, zA, zB, zC, zD, zE, zF]
      refine wpAnyH_take (i := 7) (oi := _) (v := ?_) rfl (by kernel_rfl) (by kernel_rfl) (by kernel_rfl) (fun _ _ _ h => h) (Or.inl ⟨by rfl, ?_⟩) (by assumption) ?_
      rotate_left
      ·intro w hSw; (try dsimp only at hSw); go_simp; try with_reducible rfl
      try simp only [Act.put, zA, zB, zC, zD, zE, zF]
      refine wpAnyH_ready (rs := [8]) (by kernel_rfl) (by simp) ?_
      refine AllReadyH.cons (o := _) rfl (fun K hK => ?_) AllReadyH.nil
      obtain ⟨⟨k0, k1⟩, f0, f1⟩ := cells2 hA.box
      have hA2 : VA w b S [w.heap.size + 1, w.heap.size] _ #[.int .i64 f, .int .i64 (n + j1 + j2)] 162 s5 _ := hA.set 1 (.int .i64 (n + j1 + j2))
      go_simp
      clear k0 k1 f0 f1
      refine hK.out _ _ ?_ (fun hHeld => ?_)
      ·exact ⟨hA.loc (by simp) 1 _ hHeld.1, hA.loc (by simp) 1 _ hHeld.2⟩
      clear hK K
      try simp only [Act.put, zA, zB, zC, zD, zE, zF]
      refine wpAnyH_done (by kernel_rfl) ?_ _
      refine NoPanic.normal ?_
      refine world_gen ?_
      intro wz hwz
      rw [← hwz] at hA2 hHeld
      clear hwz hA
      replace hA := hA2
      clear hA2
      have d0 := hHeld.1
      have c0 := hHeld.2
      obtain ⟨⟨k0, k1⟩, f0, f1⟩ := cells2 hA.box
      go_wp2_with fail
      refine (calls_st hA.vs (HAd.out _)).mono ?_
      rintro e w21 ⟨rfl, hY, hYl⟩
      replace hA := hA.step hY hYl
      replace c0 := loc_step hYl (by simp) c0
      replace d0 := loc_step hYl (by simp) d0
      clear hY hYl
      obtain ⟨⟨k0, k1⟩, f0, f1⟩ := cells2 hA.box
      go_wp2_with fail
      refine (calls_st hA.vs (HC.out _)).mono ?_
      rintro e w22 ⟨rfl, hY, hYl⟩
      replace hA := hA.step hY hYl
      replace c0 := loc_step hYl (by simp) c0
      replace d0 := loc_step hYl (by simp) d0
      clear hY hYl
      obtain ⟨⟨k0, k1⟩, f0, f1⟩ := cells2 hA.box
      go_wp2
      go_end0
      exact ⟨rfl, hA.vs.done keepsPV⟩
     ·go_simp
      refine (calls_st hA.vs (HJ2.out _)).mono ?_
      rintro e w23 ⟨rfl, hY, hYl⟩
      replace hA := hA.step hY hYl
      have d1 := loc_step hYl (by simp) hHeld.1
      have c1 := loc_step hYl (by simp) hHeld.2
      clear hYl hY
      dsimp only
      refine hK.out _ _ ?_ (fun hHeld => ?_)
      ·exact ⟨d1, c1⟩
      clear hK K
      try simp only [Act.put, zA, zB, zC, zD, zE, zF]
      refine wpAnyH_ready (rs := [1]) (by kernel_rfl) (by simp) ?_
      refine AllReadyH.cons (o := _) rfl (fun K hK => ?_) AllReadyH.nil
      have k1 := (cells2 hA.box).1.2
      go_simp
      clear k1
      refine hK.out _ _ ?_ (fun hHeld => ?_)
      ·exact hHeld
      clear hK K
      try simp only [Act.put, zA, zB, zC, zD, zE, zF]
      refine wpAnyH_take (i := 6) (oi := _) (v := ?_) rfl (by kernel_rfl) (by kernel_rfl) (by kernel_rfl) (fun _ _ _ h => h) (Or.inl ⟨by rfl, ?_⟩) (by assumption) ?_
      rotate_left
      ·intro w hSw; (try dsimp only at hSw); go_simp; try with_reducible rfl
      try simp only [Act.put, zA, zB, zC, zD, zE, zF]
      refine wpAnyH_take (i := 7) (oi := _) (v := ?_) rfl (by kernel_rfl) (by kernel_rfl) (by kernel_rfl) (fun _ _ _ h => h) (Or.inl ⟨by rfl, ?_⟩) (by assumption) ?_
      rotate_left
      ·intro w hSw; (try dsimp only at hSw); go_simp; try with_reducible rfl
      try simp only [Act.put, zA, zB, zC, zD, zE, zF]
      refine wpAnyH_ready (rs := [8]) (by kernel_rfl) (by simp) ?_
      refine AllReadyH.cons (o := _) rfl (fun K hK => ?_) AllReadyH.nil
      obtain ⟨⟨k0, k1⟩, f0, f1⟩ := cells2 hA.box
      have hA2 : VA w b S [w.heap.size + 1, w.heap.size] _ #[.int .i64 f, .int .i64 (n + j1 + j2)] 162 s5 _ := hA.set 1 (.int .i64 (n + j1 + j2))
      go_simp
      clear k0 k1 f0 f1
      refine hK.out _ _ ?_ (fun hHeld => ?_)
      ·exact ⟨hA.loc (by simp) 1 _ hHeld.1, hA.loc (by simp) 1 _ hHeld.2⟩
      clear hK K
      try simp only [Act.put, zA, zB, zC, zD, zE, zF]
      refine wpAnyH_done (by kernel_rfl) ?_ _
      refine NoPanic.normal ?_
      refine world_gen ?_
      intro wz hwz
      rw [← hwz] at hA2 hHeld
      clear hwz hA
      replace hA := hA2
      clear hA2
      have d0 := hHeld.1
      have c0 := hHeld.2
      obtain ⟨⟨k0, k1⟩, f0, f1⟩ := cells2 hA.box
      go_wp2_with fail
      refine (calls_st hA.vs (HAd.out _)).mono ?_
      rintro e w21 ⟨rfl, hY, hYl⟩
      replace hA := hA.step hY hYl
      replace c0 := loc_step hYl (by simp) c0
      replace d0 := loc_step hYl (by simp) d0
      clear hY hYl
      obtain ⟨⟨k0, k1⟩, f0, f1⟩ := cells2 hA.box
      go_wp2_with fail
      refine (calls_st hA.vs (HC.out _)).mono ?_
      rintro e w22 ⟨rfl, hY, hYl⟩
      replace hA := hA.step hY hYl
      replace c0 := loc_step hYl (by simp) c0
      replace d0 := loc_step hYl (by simp) d0
      clear hY hYl
      obtain ⟨⟨k0, k1⟩, f0, f1⟩ := cells2 hA.box
      go_wp2
      go_end0
      exact ⟨rfl, hA.vs.done keepsPV⟩
   ·have hfo : foreF t p s (q + n) (n + j1) s3 = (n + j1, s3) := by unfold foreF; rw [if_neg hr]
    rw [hfo]; clear hfo; dsimp only
    have HAd := Lib.hid (fun (w : World) (S1 : Nat → Prop) (h1 : PV w b S1 s3) => badd_all b t p s f (n + j1) w S1 s3 h1 hp)
    have HC := Lib.hid (fun (w : World) (S1 : Nat → Prop) (h1 : PV w b S1 (addG t p s f (n + j1) s3)) => hcount_any b t p s n w S1 _ h1 hn0 hn1)
    generalize addG t p s f (n + j1) s3 = s8 at *
    generalize countF n s8 = s9 at *
    go_enter Tryz.func119, Tryz.ntmps119
    obtain ⟨⟨k0, k1⟩, f0, f1⟩ := cells2 hA.box
    go_wp2_with fail
    refine (calls_st hA.vs (HH.out _)).mono ?_
    rintro e w1 ⟨rfl, hY, hYl⟩
    replace hA := hA.step hY hYl
    replace c0 := loc_step hYl (by simp) c0
    replace d0 := loc_step hYl (by simp) d0
    clear hY hYl
    obtain ⟨⟨k0, k1⟩, f0, f1⟩ := cells2 hA.box
    go_wp2_with fail
    refine (calls_st hA.vs (HG1.out _)).mono ?_
    rintro e w2 ⟨rfl, hY, hYl⟩
    replace hA := hA.step hY hYl
    replace c0 := loc_step hYl (by simp) c0
    replace d0 := loc_step hYl (by simp) d0
    clear hY hYl
    obtain ⟨⟨k0, k1⟩, f0, f1⟩ := cells2 hA.box
    go_wp2_with fail
    refine (calls_st hA.vs (HJ1.out _)).mono ?_
    rintro e w3 ⟨rfl, hY, hYl⟩
    replace hA := hA.step hY hYl
    replace c0 := loc_step hYl (by simp) c0
    replace d0 := loc_step hYl (by simp) d0
    clear hY hYl
    obtain ⟨⟨k0, k1⟩, f0, f1⟩ := cells2 hA.box
    clear k0 k1
    obtain ⟨⟨k0, k1⟩, f0, f1⟩ := cells2 hA.box
    go_wp2_with fail
    replace d0 := (hA.set 0 (.int .i64 f)).loc (by simp) 1 (.int .i64 (n + j1)) (hA.loc (by simp) 0 (.int .i64 f) d0)
    replace c0 := (hA.set 0 (.int .i64 f)).loc (by simp) 1 (.int .i64 (n + j1)) (hA.loc (by simp) 0 (.int .i64 f) c0)
    have hA2 : VA w b S [w.heap.size + 1, w.heap.size] _ #[.int .i64 f, .int .i64 (n + j1)] 162 s3 _ := (hA.set 0 (.int .i64 f)).set 1 (.int .i64 (n + j1))
    clear k0 k1 f0 f1 hA
    have hA := hA2
    clear hA2
    obtain ⟨⟨k0, k1⟩, f0, f1⟩ := cells2 hA.box
    refine (calls_st hA.vs (HAd.out _)).mono ?_
    rintro e w21 ⟨rfl, hY, hYl⟩
    replace hA := hA.step hY hYl
    replace c0 := loc_step hYl (by simp) c0
    replace d0 := loc_step hYl (by simp) d0
    clear hY hYl
    obtain ⟨⟨k0, k1⟩, f0, f1⟩ := cells2 hA.box
    go_wp2_with fail
    refine (calls_st hA.vs (HC.out _)).mono ?_
    rintro e w22 ⟨rfl, hY, hYl⟩
    replace hA := hA.step hY hYl
    replace c0 := loc_step hYl (by simp) c0
    replace d0 := loc_step hYl (by simp) d0
    clear hY hYl
    obtain ⟨⟨k0, k1⟩, f0, f1⟩ := cells2 hA.box
    go_wp2
    go_end0
    exact ⟨rfl, hA.vs.done keepsPV⟩
end Go.Proofs.YtnagdljgeglceaaGreat
