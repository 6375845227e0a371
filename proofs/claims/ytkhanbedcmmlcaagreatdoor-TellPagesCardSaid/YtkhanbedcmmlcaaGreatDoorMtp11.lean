/- parts of the proof, merged by a program. -/
import Derived.Test.YtkhanbedcmmlcaaGreatDoorMtp2
import Derived.Test.YtkhanbedcmmlcaaGreatDoorMtp7
import Derived.Test.YtkhanbedcmmlcaaGreatDoorMtp8
set_option linter.unusedSimpArgs false
set_option linter.unusedVariables false
/- the text of a heap's parts, as plain data. -/
set_option linter.unusedSimpArgs false
set_option linter.unusedVariables false
namespace Go.Proofs.YtkhanbedcmmlcaaGreatDoor
open Go.RowKit
def kwordB (k : Int) : List UInt8 := if k = 1 then [102, 114, 101, 101] else if k = 2 then [108, 105, 118, 101] else if k = 3 then [115, 108, 111, 116] else if k = 4 then [112, 111, 99, 107, 101, 116] else if k = 5 then [115, 108, 97, 99, 107] else []
def partB (x : Int × Int × Int) : List UInt8 := Lib.itoa x.2.1 ++ nm x.2.2 ++ 32 :: kwordB x.1
def partsB (l : List (Int × Int × Int)) : List UInt8 := l.flatMap fun x => partB x ++ [10]
/-- a part as a heap has it. -/
structure PtOk (x : Int × Int × Int) : Prop where
  kind : 1 ≤ x.1 ∧ x.1 ≤ 5
  addr : inI x.2.1
  size : inI x.2.2
theorem kword_len (k : Int) : (kwordB k).length ≤ 6 := by unfold kwordB; repeat (first | split | decide)
theorem partB_len {x : Int × Int × Int} (h : PtOk x) : (partB x).length ≤ 60 := by
  have h1 := itoa_len h.addr
  have h2 := nm_len h.size
  have h3 := kword_len x.1
  simp [partB]; omega
theorem partsB_len : ∀ {l : List (Int × Int × Int)}, (∀ x ∈ l, PtOk x) → (partsB l).length ≤ 61 * l.length
  | [], _ => by simp [partsB]
  | x :: l, h => by
    have h1 := partB_len (h x (by simp))
    have h2 := partsB_len (l := l) (fun y hy => h y (by simp [hy]))
    simp [partsB] at h2 ⊢; omega
theorem partsB_take {l : List (Int × Int × Int)} {k : Nat} {x : Int × Int × Int} (h : l[k]? = some x) : partsB (l.take (k + 1)) = partsB (l.take k) ++ (partB x ++ [10]) := by
  rw [List.take_add_one, h]; simp [partsB]
theorem partQ_ok (vs : List Int) (t s : Int) (q : Nat) (hs : 10 ≤ s ∧ s ≤ 20) (hq : q ≤ 1024) : ∀ x ∈ partQ vs t s q, PtOk x := by
  intro x hx
  have hp := pageF_bd hs
  have hb := inf_bd (gv vs t q 0)
  have ha : ∀ off : Int, 0 ≤ off → off ≤ 1048576 → inI (addrF s q off) := by
    intro off h1 h2
    have h3 : ((q : Int) + 1) * pageF s ≤ 1025 * 1048576 := by
      have := Int.mul_le_mul (show (q : Int) + 1 ≤ 1025 by omega) hp.2 (by omega) (by omega)
      exact this
    have h4 : 0 ≤ ((q : Int) + 1) * pageF s := Int.mul_nonneg (by omega) (by omega)
    unfold addrF inI
    omega
  unfold partQ at hx
  split at hx
  · simp only [List.mem_singleton] at hx
    subst hx
    have h3 : iL (gv vs t q 0) * pageF s ≤ 1024 * 1048576 := Int.mul_le_mul (by omega) hp.2 (by omega) (by omega)
    have h4 : 0 ≤ iL (gv vs t q 0) * pageF s := Int.mul_nonneg (by omega) (by omega)
    exact ⟨by simp only []; omega, ha 0 (by omega) (by omega), by show inI (iL (gv vs t q 0) * pageF s); unfold inI; omega⟩
  · split at hx
    · obtain ⟨z1, z2, z3, z4, z5⟩ := size_bd (s := s) (k := iC (gv vs t q 0)) hs
      have hsl := slots_bd (iC (gv vs t q 0))
      generalize iC (gv vs t q 0) = k at *
      unfold slabF at hx
      rcases List.mem_append.1 hx with hx | hx
      · have key : ∀ b : Nat, (b : Int) ≤ slotsF k → ∀ x ∈ slabL vs t s q k b, PtOk x := by
          intro b
          induction b with
          | zero => intro _ x hx; cases hx
          | succ b ih =>
            intro hb2 x hx
            unfold slabL at hx
            rcases List.mem_append.1 hx with hx | hx
            · exact ih (by omega) x hx
            · simp only [List.mem_singleton] at hx
              subst hx
              have h6 := z5 b (by omega) (by omega)
              refine ⟨?_, ha _ h6.1 (by omega), by show inI (sizeF s k); unfold inI; omega⟩
              show 1 ≤ kindF _ _ ∧ kindF _ _ ≤ 5
              unfold kindF; split <;> (try split) <;> omega
        exact key _ (by omega) x hx
      · split at hx
        · simp only [List.mem_singleton] at hx
          subst hx
          have hz0 : 0 ≤ sizeF s k * slotsF k := Int.mul_nonneg z1 hsl.1
          have hr : restF s k ≤ pageF s := by unfold restF; omega
          exact ⟨by simp, ha _ (by omega) (by omega), by show inI (restF s k); unfold inI; omega⟩
        · cases hx
    · cases hx
theorem parts_ok (vs : List Int) (t s : Int) (P : Nat) (hs : 10 ≤ s ∧ s ≤ 20) (hP : P ≤ 1024) : ∀ x ∈ partsF vs t P s, PtOk x := by
  have key : ∀ q : Nat, q ≤ 1024 → ∀ x ∈ partsL vs t s q, PtOk x := by
    intro q
    induction q with
    | zero => intro _ x hx; cases hx
    | succ q ih =>
      intro hq x hx
      rcases List.mem_append.1 hx with hx | hx
      · exact ih (by omega) x hx
      · exact partQ_ok vs t s q hs (by omega) x hx
  intro x hx
  exact key _ (by omega) x hx
end Go.Proofs.YtkhanbedcmmlcaaGreatDoor
/- the program's text of a heap's parts. -/
set_option linter.unusedSimpArgs false
set_option linter.unusedVariables false
namespace Go.Proofs.YtkhanbedcmmlcaaGreatDoor
open Go.RowKit
set_option maxHeartbeats 1000000 in
theorem pkind_any (k : Int) (w : World) (h : 1 ≤ k ∧ k ≤ 5) :
    Calls Tryz.prog 24 #[.int .i64 k] w fun e w' => e = .returned (.string (bs (kwordB k))) ∧ Below w.heap.size w w' := by
  rcases (by omega : k = 1 ∨ k = 2 ∨ k = 3 ∨ k = 4 ∨ k = 5) with rfl | rfl | rfl | rfl | rfl
  all_goals
    go_enter Tryz.func24, Tryz.ntmps24
    go_wp2
    go_ret
    exact ⟨rfl, Below.refl _ _⟩

theorem xb_keep {W W' : World} {L : Nat} {cs : Array Value} {T : TypeId} (h : W.heap[L]? = some (.cells cs T) ∧ ∀ o : Nat, W.cell? ⟨L, o, none⟩ = cs[o]?) (hk : L < W.heap.size → W'.heap[L]? = W.heap[L]?) : W'.heap[L]? = some (.cells cs T) ∧ ∀ o : Nat, W'.cell? ⟨L, o, none⟩ = cs[o]? := by
  have h2 := (hk (Array.getElem?_eq_some_iff.1 h.1).1).trans h.1
  exact ⟨h2, fun o => cell?_of_heap h2⟩
theorem xb_alloc {W : World} {L : Nat} {cs : Array Value} {T : TypeId} (h : W.heap[L]? = some (.cells cs T) ∧ ∀ o : Nat, W.cell? ⟨L, o, none⟩ = cs[o]?) (o : Obj) : (W.alloc o).heap[L]? = some (.cells cs T) ∧ ∀ i : Nat, (W.alloc o).cell? ⟨L, i, none⟩ = cs[i]? := xb_keep h fun hl => heap_alloc_old _ _ hl
theorem oth_row {b : Nat} {w w' : World} {e sz n : Nat} {v : Value} {xs : List Value} (h : Oth b w w') (hr : w.ownsRow 0 e sz v n xs) (he : e ≠ 5) (hb : ∀ k, v.ownBlock = some k → k ≠ b) : w'.ownsRow 0 e sz v n xs := by
  refine ownsRow_block hr fun k hk => ?_
  have hb2 := hb k hk
  rcases hr.2 with ⟨rfl, -⟩ | ⟨g, cap, cur, rfl, -, hg, -⟩
  · simp [Value.ownBlock] at hk
  · simp [Value.ownBlock] at hk
    subst hk
    rw [hg, h.box hb2 he hg]
structure PpRel (w0 w2 : World) (b : Nat) (L : List (Int × Int × Int)) (vi : Value) (wr : World) (k : Nat) : Prop where
  hi : vi = .int .i64 k
  le : k ≤ L.length
  bld : Bld w0 b (partsB (L.take k)) wr
  oth : Oth b w2 wr
  sz : w2.heap.size ≤ wr.heap.size
def PpRelE (w0 w2 : World) (b : Nat) (L : List (Int × Int × Int)) (vi : Value) (wr : World) : Prop := ∃ k, PpRel w0 w2 b L vi wr k

set_option maxHeartbeats 2000000 in
set_option maxRecDepth 100000 in
theorem pparts_text (t p s : Int) (sa : Option Addr) (m c : Nat) (w : World) (L : List (Int × Int × Int)) (hT : TabOk w) (hL : L.length ≤ 33792) (hok : ∀ x ∈ L, PtOk x)
    (HP : ∀ W, Below w.heap.size w W → Calls Tryz.prog 22 #[.agg #[.int .i64 t, .int .i64 p, .int .i64 s], .slice sa m c] W fun e W' => ∃ v, e = .returned v ∧ RowQ W L v W') :
    Calls Tryz.prog 9 #[.agg #[.int .i64 t, .int .i64 p, .int .i64 s], .slice sa m c] w fun e w' => e = .returned (.string (bs (partsB L))) ∧ Below w.heap.size w w' := by
  have HC := Lib.hid HP
  have HT := Lib.hid hT
  have HOK := Lib.hid hok
  clear HP hT hok
  go_enter Tryz.func9, Tryz.ntmps9
  go_wp2_with fail
  have hB0 := Bld.fresh (w0 := w) ((Below.refl w.heap.size w).alloc (Nat.le_refl _) (.cells #[.int .i64 t, .int .i64 p, .int .i64 s] 23))
  simp only [World.size_alloc] at hB0
  refine (HC.out _ hB0.bel).mono ?_
  rintro e w2 ⟨v, rfl, hrow, hown, hb2⟩
  have hB2 := hB0.below hb2
  have zb : w.heap.size + 1 < w2.heap.size := by have := hb2.size; simp at this; omega
  obtain ⟨pa, pc, rfl⟩ := row_shape hrow
  have HR := Lib.hid hrow
  have hgn : ∀ k, (Value.slice pa L.length pc).ownBlock = some k → k ≠ w.heap.size + 1 := fun k hk e => by have := hown k hk; simp at this; omega
  have HGN := Lib.hid hgn
  clear hB0 hb2 hown hrow hgn HC
  go_wp2
  go_loopw [7, 12] (fun _ vi wr => PpRelE w w2 (w.heap.size + 1) L vi wr) (fun _ vi _ => L.length - (intOf vi).toNat)
  case atStart => exact ⟨0, rfl, by omega, by simpa [partsB] using hB2, Oth.refl _ _, Nat.le_refl _⟩
  case round =>
    obtain ⟨k, rfl, hle, hB, hO, hsz⟩ := hrel
    have hzr : w.heap.size + 1 < wr.heap.size := by omega
    have hrow := oth_row hO HR.out (by decide) HGN.out
    have HO := Lib.hid hO
    have HB := Lib.hid hB
    clear hO hB2
    by_cases hlt : k < L.length
    · have hlti : (k : Int) < L.length := by omega
      obtain ⟨x, hx⟩ : ∃ x, L[k]? = some x := ⟨_, List.getElem?_eq_getElem hlt⟩
      have hpo := HOK.out x (List.mem_of_getElem? hx)
      have htk := partsB_take hx
      have hln := partsB_len (l := L.take k) (fun y hy => HOK.out y (List.mem_of_mem_take hy))
      have hln2 := partB_len hpo
      simp only [List.length_take] at hln
      obtain ⟨y1, y2, y3⟩ := x
      obtain ⟨g, cap, hg⟩ := Joins.ownsRow_form hrow (by omega)
      simp only [Value.slice.injEq, true_and] at hg
      obtain ⟨rfl, rfl⟩ := hg
      obtain ⟨p0, p1, p2⟩ := part_cell hx
      have q0 := (hrow.cellAt (k * 3) (by omega)).trans p0
      have q1 := (hrow.cellAt (k * 3 + 1) (by omega)).trans p1
      have q2 := (hrow.cellAt (k * 3 + 2) (by omega)).trans p2
      simp only at q0 q1 q2
      obtain ⟨hk, ha, hz⟩ := hpo
      simp only at hk ha hz
      have HA := Lib.hid ha
      have HZ := Lib.hid hz
      have HTK := Lib.hid htk
      have HPB : Hid (partB (y1, y2, y3) = Lib.itoa y2 ++ nm y3 ++ 32 :: kwordB y1) := Lib.hid rfl
      have hlb : (partsB (L.take k)).length ≤ 3000000 := by omega
      clear htk hln p0 p1 p2 hrow hx ha hz
      generalize partsB (L.take k) = acc at *
      generalize partB (y1, y2, y3) = pb at *
      have hcat : ∀ w : World, (Op.stringOp .add (bs pb) ⟨#[10]⟩).run Tryz.prog w = .ok (.string (bs (pb ++ [10]))) w := cat_run pb [10] _ rfl (by omega) (by simp)
      have hBa := (hB.alloc (.cells #[.int .i64 y1, .int .i64 y2, .int .i64 y3] 64)).drew
      have hOa := HO.out.trans (Oth.of (((Below.refl wr.heap.size wr).alloc (Nat.le_refl _) (.cells #[.int .i64 y1, .int .i64 y2, .int .i64 y3] 64)).drew))
      have hza : wr.heap.size + 1 ≤ (wr.alloc (.cells #[.int .i64 y1, .int .i64 y2, .int .i64 y3] 64)).drew.heap.size := by simp [World.drew]
      have hX : (wr.alloc (.cells #[.int .i64 y1, .int .i64 y2, .int .i64 y3] 64)).drew.heap[wr.heap.size]? = some (.cells #[.int .i64 y1, .int .i64 y2, .int .i64 y3] 64) ∧ ∀ o : Nat, (wr.alloc (.cells #[.int .i64 y1, .int .i64 y2, .int .i64 y3] 64)).drew.cell? ⟨wr.heap.size, o, none⟩ = (#[.int .i64 y1, .int .i64 y2, .int .i64 y3] : Array Value)[o]? :=
        ⟨heap_alloc_new wr _, loc_alloc wr _ _⟩
      have HBX := Lib.hid (And.intro hBa (And.intro hOa hza))
      clear hB hBa hOa hza
      go_wp2_with fail
      obtain ⟨hBa, hOa, hza⟩ := HBX.out
      refine wp_region_noPanic ?_
      refine wp_region_held_drew (S := fun w' => w'.heap[wr.heap.size]? = some (.cells #[.int .i64 y1, .int .i64 y2, .int .i64 y3] 64) ∧ ∀ o : Nat, w'.cell? ⟨wr.heap.size, o, none⟩ = (#[.int .i64 y1, .int .i64 y2, .int .i64 y3] : Array Value)[o]?) (by kernel_rfl) ?_ (fun hHeld => ?_)
      · exact hX
      refine wT 0 ?_
      refine wT 1 ?_
      refine wT 2 ?_
      refine wT 3 ?_
      refine wT 4 ?_
      refine wT 5 ?_
      refine wT 6 ?_
      refine wT 7 ?_
      refine wR 8 fun K hK => ?_
      go_simp
      refine (pkind_any _ _ hk).mono ?_
      rintro e wk ⟨rfl, bk⟩
      have hB1 := hBa.below bk
      have hO1 := hOa.trans (Oth.of bk)
      have hz1 := Nat.le_trans hza bk.size
      have hK1 := xb_keep hHeld (fun hl => bk.block _ hl)
      dsimp only
      refine hK.out _ _ ?_ (fun hHeld => ?_)
      · exact hK1
      clear hK K
      try simp only [Act.put, zA, zB, zC, zD, zE, zF]
      refine wT 9 ?_
      refine wR 10 fun K hK => ?_
      go_simp
      refine hK.out _ _ ?_ (fun hHeld => ?_)
      · exact xb_alloc hHeld _
      clear hK K
      try simp only [Act.put, zA, zB, zC, zD, zE, zF]
      refine wR 11 fun K hK => ?_
      go_simp
      refine (said_new [(.iface 2 (.int .i64 y2), bs (Lib.itoa y2)), (.iface 2 (.int .i64 y3), bs (Lib.itoa y3)), (.iface 9 (.string (bs (kwordB y1))), bs (kwordB y1))] pb _ _ _ _ _ rfl rfl rfl ((HT.out.step hB1.bel).alloc _) (by simp) (by simp) ⟨pc_l HA.out, pc_l HZ.out, pc_s _, trivial⟩ (by rw [HPB.out]; simp [saidF, Lib.join, List.intercalate, nm]) (by omega)).mono ?_
      rintro e ws ⟨rfl, bsd⟩
      have hB2 := (hB1.alloc _).below bsd
      have hO2 := (hO1.trans (Oth.of ((Below.refl wk.heap.size wk).alloc (Nat.le_refl _) _))).trans (Oth.of bsd)
      have hz2 : wr.heap.size + 1 ≤ ws.heap.size := Nat.le_trans hz1 (Nat.le_trans (by simp) bsd.size)
      have hK2 := xb_keep hHeld (fun hl => bsd.block _ hl)
      dsimp only
      refine hK.out _ _ ?_ (fun hHeld => ?_)
      · exact hK2
      clear hK K
      try simp only [Act.put, zA, zB, zC, zD, zE, zF]
      refine wT 12 ?_
      refine wR 13 fun K hK => ?_
      go_simp
      refine (bld_writeK hB2 (pb ++ [10]) (by simp; omega)).mono ?_
      rintro e wn ⟨⟨vn, rfl⟩, hB3, hO3⟩
      have hK3 := xb_keep hHeld (fun hl => (hO3.box (by omega) (by decide) hHeld.1).trans hHeld.1.symm)
      dsimp only
      refine hK.out _ _ ?_ (fun hHeld => ?_)
      · exact hK3
      clear hK K
      try simp only [Act.put, zA, zB, zC, zD, zE, zF]
      refine wpAnyH_done (by kernel_rfl) (NoPanic.normal ?_) _
      have hz3 := (Array.getElem?_eq_some_iff.1 hHeld.1).1
      have HF := Lib.hid (And.intro hB3 (hO2.trans hO3))
      go_wp2
      go_roundw
      case rel => exact ⟨k + 1, by go_num, by omega, by rw [HTK.out]; exact HF.out.1, HF.out.2, by omega⟩
      case measure => simp [intOf]; omega
    · obtain rfl : k = L.length := by omega
      rw [List.take_length] at hB
      clear HB
      go_wp2_with fail
      refine (bld_string hB).mono ?_
      rintro e wf ⟨rfl, bf⟩
      go_wp2
      go_ret
      exact ⟨rfl, bf⟩
end Go.Proofs.YtkhanbedcmmlcaaGreatDoor
