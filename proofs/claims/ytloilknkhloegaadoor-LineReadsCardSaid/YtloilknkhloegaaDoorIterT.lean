/- lines: the library's iterator over the pieces of a text. -/
import Derived.Test.YtloilknkhloegaaDoorIterS
import Derived.Test.YtloilknkhloegaaDoorShelfI
import Derived.Test.YtloilknkhloegaaDoorLinP
import Derived.Test.YtloilknkhloegaaDoorLinS
import Derived.RangeFuncBox
set_option linter.unusedSimpArgs false
set_option linter.unusedVariables false
namespace Go.Proofs.YtloilknkhloegaaDoor
open Go.RowKit
attribute [local go_sem] Oper.semAt_some

theorem cut_index (c : UInt8) (l : List UInt8) : (Lib.index l [c] = -1 ∧ cutAt c l = [l]) ∨ ∃ j : Nat, Lib.index l [c] = j ∧ j < l.length ∧ cutAt c l = l.take j :: cutAt c (l.drop (j + 1)) := by
  induction l with
  | nil => exact Or.inl ⟨by simp [Lib.index], rfl⟩
  | cons b l ih =>
    by_cases h : b = c
    · subst h
      refine Or.inr ⟨0, ?_, by simp, ?_⟩
      · rw [Lib.index]; simp [List.isPrefixOf]
      · simp [cutAt]
    · have hp : ([c] : List UInt8).isPrefixOf (b :: l) = false := by simp [List.isPrefixOf, Ne.symm h]
      have hix : Lib.index (b :: l) [c] = if Lib.index l [c] == -1 then -1 else Lib.index l [c] + 1 := by rw [Lib.index, hp]; simp
      rcases ih with ⟨h1, h2⟩ | ⟨j, h1, h2, h3⟩
      · refine Or.inl ⟨by rw [hix, h1]; rfl, ?_⟩
        rw [cutAt, if_neg h, h2]
      · refine Or.inr ⟨j + 1, ?_, by simp; omega, ?_⟩
        · rw [hix, h1, if_neg (by simp <;> omega)]
          omega
        · rw [cutAt, if_neg h, h3]
          simp
theorem splitseq_any (s : List UInt8) (w : World) :
    Calls Tryd.prog 36 #[.string (bs s), .string (bs [10])] w fun e w' => e = .returned (.func (.func 60) #[] #[.pointer (some ⟨w.heap.size + 1, 0, none⟩), .pointer (some ⟨w.heap.size, 0, none⟩), .pointer (some ⟨w.heap.size + 2, 0, none⟩)]) ∧
      w' = ((w.alloc (.cells #[.string (bs s)] 9)).alloc (.cells #[.string (bs [10])] 9)).alloc (.cells #[.int .i64 0] 3) := by
  go_enter Tryd.func36, Tryd.ntmps36
  go_wp2
  go_ret
  exact ⟨rfl, rfl⟩
def restM (b : Nat) (wr : World) : Nat := match wr.cell? ⟨b, 0, none⟩ with
  | some (.string s) => s.size
  | _ => 0
/-- the iterator's three boxes: what is left of the text. -/
structure Bx3 (b : Nat) (s : List UInt8) (wr : World) : Prop where
  h0 : wr.heap[b]? = some (.cells #[.string (bs s)] 9)
  h1 : wr.heap[b + 1]? = some (.cells #[.string (bs [10])] 9)
  h2 : wr.heap[b + 2]? = some (.cells #[.int .i64 0] 3)
theorem Bx3.kept {b : Nat} {s : List UInt8} {A B : World} (h : Bx3 b s A) (k : Kept [b, b + 1, b + 2] A B) : Bx3 b s B :=
  ⟨(k b (by simp)).trans h.h0, (k _ (by simp)).trans h.h1, (k _ (by simp)).trans h.h2⟩
theorem Bx3.rest {b : Nat} {s : List UInt8} {A : World} (h : Bx3 b s A) : restM b A = s.length := by
  unfold restM
  rw [cell?_of_heap h.h0]
  simp [ByteArray.size]
theorem heap_set_away {W : World} {b k : Nat} (o : Nat) (v : Value) (h : k ≠ b) : (W.setCell ⟨b, o, none⟩ v).heap[k]? = W.heap[k]? :=
  heap_setCell_other h
theorem Bx3.set {b : Nat} {s : List UInt8} {A : World} (h : Bx3 b s A) (u : List UInt8) : Bx3 b u (A.setCell ⟨b, 0, none⟩ (.string (bs u))) :=
  ⟨by rw [heap_setCell_same h.h0]; rfl, (heap_set_away _ _ (by omega)).trans h.h1, (heap_set_away _ _ (by omega)).trans h.h2⟩
set_option maxHeartbeats 2000000 in
set_option maxRecDepth 100000 in
theorem split1_in (n : Nat) (hn : 1 ≤ n) (l b : Nat) (s : List UInt8) (hs : s.length ≤ 100000) (m : Int) (J Jx : List (List UInt8) → World → Prop)
    (hY : ∀ pre x W, J pre W → (∃ rest, (pre ++ [x]) ++ rest = cutAt 10 s) → YieldAt Fence.wide (n - 1) Tryd.prog l #[.string (bs x)] W fun e W' =>
      (e = .returned (.bool true) ∧ J (pre ++ [x]) W' ∧ Kept [3, b, b + 1, b + 2] W W') ∨ (e = .returned (.bool false) ∧ Jx (pre ++ [x]) W'))
    (W : World) (hJ : Bears [b] J) (hb : Bx3 b s W) (hm : W.cell? ⟨3, 0, none⟩ = some (.int .i64 m)) (hne : b ≠ 3) (h0 : J [] W) :
    CallsIn Fence.wide n Tryd.prog 60 #[.func (.yield l) #[] #[], .pointer (some ⟨b + 1, 0, none⟩), .pointer (some ⟨b, 0, none⟩), .pointer (some ⟨b + 2, 0, none⟩)] W fun e W' => (∃ v, e = .returned v) ∧
      ((∃ ys, ys = cutAt 10 s ∧ J ys W') ∨ (∃ pre, (∃ rest, pre ++ rest = cutAt 10 s) ∧ Jx pre W')) := by
  refine callsIn_of_wp Tryd.func60 rfl trivial ?_ rfl
  simp only [Tryd.ntmps60, List.size_toArray, List.length_cons, List.length_nil, Nat.reduceAdd, Nat.reduceSub, Array.replicate_succ, Array.replicate_zero, List.push_toArray, List.append_toArray, List.nil_append, List.cons_append]
  have p0 := cell?_of_heap (o := 0) hb.h1
  simp at p0
  gi_wp2
  clear p0
  gi_loopw [7, 8] (fun _ _ wr => ∃ (t : List UInt8) (pre : List (List UInt8)), t.length ≤ 100000 ∧ pre ++ cutAt 10 t = cutAt 10 s ∧ Bx3 b t wr ∧ wr.cell? ⟨3, 0, none⟩ = some (.int .i64 m) ∧ J pre wr)
    (fun _ _ wr => restM b wr)
  case atStart => exact ⟨s, [], hs, rfl, hb, hm, h0⟩
  case round =>
    obtain ⟨t, pre, ht, hpre, hbx, hmx, hJs⟩ := hrel
    have hrest := hbx.rest
    have HBx := Lib.hid hbx
    have HM := Lib.hid hmx
    have c0 := cell?_of_heap (o := 0) hbx.h0
    have c1 := cell?_of_heap (o := 0) hbx.h1
    have c2 := cell?_of_heap (o := 0) hbx.h2
    have f0 := frozen?_of_heap (o := 0) hbx.h0
    have cm := hmx
    simp at c0 c1 c2
    rcases cut_index 10 t with ⟨hx, hc⟩ | ⟨j, hx, hj, hc⟩
    · have HI : Hid (Calls Tryd.prog 62 #[.string (bs t), .string (bs [10])] wr fun e w' => e = .returned (.int .i64 (-1)) ∧ w' = wr) := Lib.hid ((Tryd.strings_Index (bs t) (bs [10]) m wr (by simp [ByteArray.size]; omega) cm).mono fun e w' h => ⟨h.1.trans (by rw [show Lib.index (bs t).data.toList (bs [10]).data.toList = -1 from hx]), h.2⟩)
      have hall : pre ++ [t] = cutAt 10 s := by rw [← hpre, hc]
      obtain ⟨fn, tmps, assign, body, hy, hR⟩ := hY pre t wr hJs ⟨[], by rw [List.append_nil]; exact hall⟩
      clear hx hc
      gi_wp2_with (refine ⟨trivial, ?_⟩; gi_at_call 62; refine (callsIn_wide.2 HI.out).mono ?_; rintro e w' ⟨rfl, rfl⟩)
      refine hR.mono ?_
      rintro e W3 (⟨rfl, hJ3, -⟩ | ⟨rfl, hJx3⟩)
      · gi_wp2
        go_end0
        exact ⟨⟨_, rfl⟩, .inl ⟨_, hall, hJ3⟩⟩
      · gi_wp2
        go_end0
        exact ⟨⟨_, rfl⟩, .inr ⟨_, ⟨[], by rw [List.append_nil]; exact hall⟩, hJx3⟩⟩
    · have HI : Hid (Calls Tryd.prog 62 #[.string (bs t), .string (bs [10])] wr fun e w' => e = .returned (.int .i64 j) ∧ w' = wr) := Lib.hid ((Tryd.strings_Index (bs t) (bs [10]) m wr (by simp [ByteArray.size]; omega) cm).mono fun e w' h => ⟨h.1.trans (by rw [show Lib.index (bs t).data.toList (bs [10]).data.toList = (j : Int) from hx]), h.2⟩)
      have hjl : (j : Int) ≤ t.length := by omega
      have hjl1 : (j : Int) + 1 ≤ t.length := by omega
      have htl : (t.length : Int) ≤ 100000 := by omega
      have hex : (bs t).extract 0 j = bs (t.take j) := by have := bs_cut t 0 j; simpa using this
      have hex2 : (bs t).extract (j + 1) t.length = bs (t.drop (j + 1)) := by have := bs_cut t (j + 1) t.length; rw [List.take_of_length_le (by simp)] at this; exact this
      have hall : (pre ++ [t.take j]) ++ cutAt 10 (t.drop (j + 1)) = cutAt 10 s := by rw [← hpre, hc]; simp
      have HAll := Lib.hid hall
      obtain ⟨fn, tmps, assign, body, hy, hR⟩ := hY pre (t.take j) wr hJs ⟨_, hall⟩
      clear hx hc hall
      gi_wp2_with (refine ⟨trivial, ?_⟩; gi_at_call 62; refine (callsIn_wide.2 HI.out).mono ?_; rintro e w' ⟨rfl, rfl⟩)
      refine hR.mono ?_
      rintro e W3 (⟨rfl, hJ3, hk3⟩ | ⟨rfl, hJx3⟩)
      · have HM3 := Lib.hid ((World.cell?_of_block (a := ⟨3, 0, none⟩) (hk3 3 (by simp))).trans HM.out)
        have hb3 : Bx3 b t W3 := HBx.out.kept fun x hx => hk3 x (List.mem_cons_of_mem _ hx)
        have HB3 := Lib.hid hb3
        have e0 := cell?_of_heap (o := 0) hb3.h0
        have e1 := cell?_of_heap (o := 0) hb3.h1
        have g0 := frozen?_of_heap (o := 0) hb3.h0
        simp at e0 e1
        have HJ3 := Lib.hid hJ3
        clear c0 c1 c2 f0 cm hy hR hk3 hb3 hJ3
        gi_wp2
        have hset := HB3.out.set (t.drop (j + 1))
        refine ⟨⟨t.drop (j + 1), _, by simp; omega, HAll.out, hset, ?_, hJ _ _ _ (some b) HJ3.out (grownBy_setCell' _ _ _) (fun r e => by cases e; simp)⟩, ?_⟩
        · exact (World.cell?_of_block (a := ⟨3, 0, none⟩) (heap_set_away _ _ (Ne.symm hne))).trans HM3.out
        · rw [hset.rest, hrest]
          simp
          omega
      · gi_wp2
        refine bodyPost_ret (results_none rfl _ _ _) rfl ?_
        exact ⟨⟨_, rfl⟩, .inr ⟨_, ⟨_, HAll.out⟩, hJx3⟩⟩
theorem split_cells (n : Nat) (hn : 1 ≤ n) (b : Nat) (s : List UInt8) (hs : s.length ≤ 100000) (m : Int) (w : World) (hb : Bx3 b s w) (hm : w.cell? ⟨3, 0, none⟩ = some (.int .i64 m)) (hne : b ≠ 3) :
    SeqCells Fence.wide n Tryd.prog 60 #[.pointer (some ⟨b + 1, 0, none⟩), .pointer (some ⟨b, 0, none⟩), .pointer (some ⟨b + 2, 0, none⟩)] (fun x : List UInt8 => #[.string (bs x)]) [b] [3, b, b + 1, b + 2] (fun ys => ys = cutAt 10 s) (fun pre => ∃ rest, pre ++ rest = cutAt 10 s) w := fun l J Jx W hW hJ _ hY h0 => by
  have lt0 := (Array.getElem?_eq_some_iff.1 hb.h0).1
  have lt1 := (Array.getElem?_eq_some_iff.1 hb.h1).1
  have lt2 := (Array.getElem?_eq_some_iff.1 hb.h2).1
  have lt3 := World.block_lt_of_cell? w _ hm
  refine (split1_in n hn l b s hs m J Jx hY W hJ ⟨(hW.block _ lt0).trans hb.h0, (hW.block _ lt1).trans hb.h1, (hW.block _ lt2).trans hb.h2⟩ ((hW.cell (p := ⟨3, 0, none⟩) lt3).trans hm) hne h0).mono ?_
  rintro e W' ⟨hv, ⟨ys, hys, hj⟩ | ⟨pre, hp, hj⟩⟩
  · exact ⟨hv, Or.inl ⟨ys, hys, hj⟩⟩
  · exact ⟨hv, Or.inr ⟨pre, hp, hj⟩⟩
end Go.Proofs.YtloilknkhloegaaDoor
