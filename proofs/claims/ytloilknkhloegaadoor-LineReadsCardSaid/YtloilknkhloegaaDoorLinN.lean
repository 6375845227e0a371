/- lines: pieces, and how a number is put into an entry. -/
import Derived.Test.YtloilknkhloegaaDoorLinI
set_option linter.unusedSimpArgs false
set_option linter.unusedVariables false
namespace Go.Proofs.YtloilknkhloegaaDoor
open Go.RowKit

/-! ### a form found -/
theorem idx_none (p : Fm → Bool) (L : List Fm) (k : Nat) (h : L.find? p = none) : idxF p L k = -1 := by
  induction L generalizing k with
  | nil => rfl
  | cons f r ih =>
    rw [List.find?_cons] at h
    split at h
    · cases h
    · rename_i hp
      unfold idxF
      rw [hp]
      exact ih (k + 1) h
theorem idx_some (p : Fm → Bool) (L : List Fm) (k : Nat) (f : Fm) (h : L.find? p = some f) : ∃ j, L[j]? = some f ∧ idxF p L k = ((k + j : Nat) : Int) := by
  induction L generalizing k with
  | nil => cases h
  | cons g r ih =>
    rw [List.find?_cons] at h
    split at h
    · rename_i hp
      cases h
      exact ⟨0, rfl, by unfold idxF; rw [hp]; simp⟩
    · rename_i hp
      obtain ⟨j, a, b⟩ := ih (k + 1) h
      refine ⟨j + 1, by simpa using a, ?_⟩
      unfold idxF
      rw [hp]
      simp only [Bool.false_eq_true, if_false]
      rw [b]
      congr 1
      omega

/-! ### pieces -/
def piecesC (L : List (List UInt8)) : Array Value := (L.map fun x => Value.string (bs x)).toArray
theorem bs_data (b : ByteArray) : bs b.data.toList = b := by cases b; simp [bs]
theorem split_pieces (s : List UInt8) : Lib.splitB (bs [32]) 0 (Lib.countB (bs s) (bs [32])) (bs s) = (cutAt 32 s).map bs := by
  have h := Lib.splitB_data (bs [32]) 0 (Lib.countB (bs s) (bs [32])) (bs s)
  have h2 : Lib.splitK [32] 0 (Lib.count s [32]) s = cutAt 32 s := cutAt_split 32 s
  have e : Lib.countB (bs s) (bs [32]) = Lib.count s [32] := rfl
  rw [e] at h ⊢
  have h3 : (Lib.splitB (bs [32]) 0 (Lib.count s [32]) (bs s)).map (·.data.toList) = cutAt 32 s := h.trans h2
  rw [← h3, List.map_map]
  conv => lhs; rw [← List.map_id (Lib.splitB (bs [32]) 0 (Lib.count s [32]) (bs s))]
  exact List.map_congr_left fun b _ => (bs_data b).symm
theorem split_len (s : List UInt8) : Lib.countB (bs s) (bs [32]) + 1 = (cutAt 32 s).length := by
  have := Lib.splitB_all (bs [32]) (by decide) 0 _ (bs s) rfl
  rw [← this, split_pieces, List.length_map]
theorem cut_len (s : List UInt8) : (cutAt 32 s).length ≤ s.length + 1 := by
  induction s with
  | nil => simp [cutAt]
  | cons x r ih =>
    unfold cutAt
    split
    · simp; omega
    · have hn := cutAt_ne 32 r
      cases hq : cutAt 32 r with
      | nil => exact absurd hq hn
      | cons a t => rw [hq] at ih; simp at ih ⊢; omega
theorem piece_len (s : List UInt8) : ∀ x ∈ cutAt 32 s, x.length ≤ s.length := by
  induction s with
  | nil => simp [cutAt]
  | cons y r ih =>
    intro x hx
    unfold cutAt at hx
    split at hx
    · rcases List.mem_cons.1 hx with rfl | hx
      · simp
      · have := ih x hx; simp; omega
    · have hn := cutAt_ne 32 r
      cases hq : cutAt 32 r with
      | nil => exact absurd hq hn
      | cons a t =>
        rw [hq] at hx ih
        rcases List.mem_cons.1 hx with rfl | hx
        · have := ih a (by simp); simp; omega
        · have := ih x (List.mem_cons_of_mem _ hx); simp; omega
theorem split_any (s : List UInt8) (w : World) (hl : s.length ≤ 100000) (hO : LnOk w) :
    Calls Tryd.prog 37 #[.string (bs s), .string (bs [32])] w fun e w' => e = .returned (.slice (some ⟨w.heap.size, 0, none⟩) (cutAt 32 s).length (cutAt 32 s).length) ∧ w' = w.alloc (.cells (piecesC (cutAt 32 s)) 9) := by
  obtain ⟨m, hm⟩ := hO.now.len
  have hs : (bs s).size = s.length := by simp [ByteArray.size]
  refine (Tryd.strings_Split (bs s) (bs [32]) m w (by rw [hs]; omega) hm (by decide)).mono fun e w' ⟨he, hw⟩ => ?_
  rw [split_len, split_pieces] at *
  refine ⟨he, ?_⟩
  rw [hw, List.map_map]
  rfl

/-! ### put -/
def enC (e : PEn) : List Value := [.int .i64 e.k, .int .i64 e.t, .int .i64 e.u, .int .i64 e.op.k, .int .i64 e.op.a, .int .i64 e.op.b, .int .i64 e.n, .int .i64 e.m]
/-- an entry in a box. -/
def BoxE (w : World) (b : Nat) (e : PEn) : Prop := w.heap[b]? = some (.cells #[.int .i64 e.k, .int .i64 e.t, .int .i64 e.u, .int .i64 e.op.k, .int .i64 e.op.a, .int .i64 e.op.b, .int .i64 e.n, .int .i64 e.m] 54)
/-- what put leaves. -/
def PutP (w : World) (b : Nat) (e : PEn) (c : UInt8) (v : Int) (en : Ending) (w' : World) : Prop := en = .returned (.tuple #[]) ∧ BoxE w' b (putF e c v) ∧ w'.heap.size = w.heap.size ∧ (∀ g, g ≠ b → w'.heap[g]? = w.heap[g]?) ∧ ∀ B, B ≤ b → Below B w w'
theorem box_set {w : World} {b : Nat} {e : PEn} (h : BoxE w b e) (i : Nat) (v : Value) (e2 : PEn) (h2 : (#[.int .i64 e.k, .int .i64 e.t, .int .i64 e.u, .int .i64 e.op.k, .int .i64 e.op.a, .int .i64 e.op.b, .int .i64 e.n, .int .i64 e.m] : Array Value).setIfInBounds i v = #[.int .i64 e2.k, .int .i64 e2.t, .int .i64 e2.u, .int .i64 e2.op.k, .int .i64 e2.op.a, .int .i64 e2.op.b, .int .i64 e2.n, .int .i64 e2.m]) :
    BoxE (w.setCell ⟨b, i, none⟩ v) b e2 ∧ (w.setCell ⟨b, i, none⟩ v).heap.size = w.heap.size ∧ (∀ g, g ≠ b → (w.setCell ⟨b, i, none⟩ v).heap[g]? = w.heap[g]?) ∧ ∀ B, B ≤ b → Below B w (w.setCell ⟨b, i, none⟩ v) := by
  refine ⟨?_, by simp, fun g hg => Below.heap_setCell _ _ _ _ hg, fun B hB => (Below.refl _ _).setCell hB _⟩
  unfold BoxE
  rw [← h2]
  exact heap_setCell_same h
set_option maxHeartbeats 1000000 in
set_option maxRecDepth 100000 in
theorem put_116 (b : Nat) (e : PEn) (v : Int) (w : World) (h : BoxE w b e) :
    Calls Tryd.prog 41 #[.pointer (some ⟨b, 0, none⟩), .int .i32 116, .int .i64 v] w (PutP w b e 116 v) := by
  have q1 := cell?_of_heap (o := 1) h
  have f1 := frozen?_of_heap (o := 1) h
  simp at q1
  have H := Lib.hid (box_set h 1 (.int .i64 v) (putF e 116 v) rfl)
  clear h
  go_enter Tryd.func41, Tryd.ntmps41
  go_wp2
  go_end0
  exact ⟨rfl, H.out⟩
set_option maxHeartbeats 1000000 in
set_option maxRecDepth 100000 in
theorem put_117 (b : Nat) (e : PEn) (v : Int) (w : World) (h : BoxE w b e) :
    Calls Tryd.prog 41 #[.pointer (some ⟨b, 0, none⟩), .int .i32 117, .int .i64 v] w (PutP w b e 117 v) := by
  have q2 := cell?_of_heap (o := 2) h
  have f2 := frozen?_of_heap (o := 2) h
  simp at q2
  have H := Lib.hid (box_set h 2 (.int .i64 v) (putF e 117 v) rfl)
  clear h
  go_enter Tryd.func41, Tryd.ntmps41
  go_wp2
  go_end0
  exact ⟨rfl, H.out⟩
set_option maxHeartbeats 1000000 in
set_option maxRecDepth 100000 in
theorem put_97 (b : Nat) (e : PEn) (v : Int) (w : World) (h : BoxE w b e) :
    Calls Tryd.prog 41 #[.pointer (some ⟨b, 0, none⟩), .int .i32 97, .int .i64 v] w (PutP w b e 97 v) := by
  have q4 := cell?_of_heap (o := 4) h
  have f4 := frozen?_of_heap (o := 4) h
  simp at q4
  have H := Lib.hid (box_set h 4 (.int .i64 v) (putF e 97 v) rfl)
  clear h
  go_enter Tryd.func41, Tryd.ntmps41
  go_wp2
  go_end0
  exact ⟨rfl, H.out⟩
set_option maxHeartbeats 1000000 in
set_option maxRecDepth 100000 in
theorem put_98 (b : Nat) (e : PEn) (v : Int) (w : World) (h : BoxE w b e) :
    Calls Tryd.prog 41 #[.pointer (some ⟨b, 0, none⟩), .int .i32 98, .int .i64 v] w (PutP w b e 98 v) := by
  have q5 := cell?_of_heap (o := 5) h
  have f5 := frozen?_of_heap (o := 5) h
  simp at q5
  have H := Lib.hid (box_set h 5 (.int .i64 v) (putF e 98 v) rfl)
  clear h
  go_enter Tryd.func41, Tryd.ntmps41
  go_wp2
  go_end0
  exact ⟨rfl, H.out⟩
set_option maxHeartbeats 1000000 in
set_option maxRecDepth 100000 in
theorem put_110 (b : Nat) (e : PEn) (v : Int) (w : World) (h : BoxE w b e) :
    Calls Tryd.prog 41 #[.pointer (some ⟨b, 0, none⟩), .int .i32 110, .int .i64 v] w (PutP w b e 110 v) := by
  have q6 := cell?_of_heap (o := 6) h
  have f6 := frozen?_of_heap (o := 6) h
  simp at q6
  have H := Lib.hid (box_set h 6 (.int .i64 v) (putF e 110 v) rfl)
  clear h
  go_enter Tryd.func41, Tryd.ntmps41
  go_wp2
  go_end0
  exact ⟨rfl, H.out⟩
set_option maxHeartbeats 1000000 in
set_option maxRecDepth 100000 in
theorem put_109 (b : Nat) (e : PEn) (v : Int) (w : World) (h : BoxE w b e) :
    Calls Tryd.prog 41 #[.pointer (some ⟨b, 0, none⟩), .int .i32 109, .int .i64 v] w (PutP w b e 109 v) := by
  have q7 := cell?_of_heap (o := 7) h
  have f7 := frozen?_of_heap (o := 7) h
  simp at q7
  have H := Lib.hid (box_set h 7 (.int .i64 v) (putF e 109 v) rfl)
  clear h
  go_enter Tryd.func41, Tryd.ntmps41
  go_wp2
  go_end0
  exact ⟨rfl, H.out⟩
theorem eput_any (b : Nat) (e : PEn) (c : UInt8) (hc : c = 116 ∨ c = 117 ∨ c = 97 ∨ c = 98 ∨ c = 110 ∨ c = 109) (v : Int) (w : World) (h : BoxE w b e) :
    Calls Tryd.prog 41 #[.pointer (some ⟨b, 0, none⟩), .int .i32 (c.toNat : Int), .int .i64 v] w (PutP w b e c v) := by
  rcases hc with rfl | rfl | rfl | rfl | rfl | rfl
  · exact put_116 b e v w h
  · exact put_117 b e v w h
  · exact put_97 b e v w h
  · exact put_98 b e v w h
  · exact put_110 b e v w h
  · exact put_109 b e v w h
end Go.Proofs.YtloilknkhloegaaDoor
