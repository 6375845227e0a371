/- lines: what Read has come to behind the lines pre. -/
import Derived.Test.YtloilknkhloegaaDoorLinRF
set_option linter.unusedSimpArgs false
set_option linter.unusedVariables false
namespace Go.Proofs.YtloilknkhloegaaDoor
open Go.RowKit

structure RdPre (pre : List (List UInt8)) (l : List PEn) : Prop where
  go : ∀ rest, readL (pre ++ rest) 0 [] = readL rest pre.length l
  few : l.length ≤ 400
theorem rdi_start : RdPre [] [] := ⟨fun _ => rfl, by simp⟩
theorem rdi_skip {pre : List (List UInt8)} {l : List PEn} {t : List UInt8} (h : RdPre pre l) (hs : skipB t = true) : RdPre (pre ++ [t]) l :=
  ⟨fun rest => by rw [List.append_assoc, List.length_append]; exact (h.go ([t] ++ rest)).trans (read_skip rest _ l hs), h.few⟩
theorem rdi_more {pre : List (List UInt8)} {l : List PEn} {t : List UInt8} {e : PEn} (h : RdPre pre l) (hs : skipB t = false) (hp : parseF t = some e) (h4 : l.length ≠ 400) : RdPre (pre ++ [t]) (l ++ [e]) :=
  ⟨fun rest => by rw [List.append_assoc, List.length_append]; exact (h.go ([t] ++ rest)).trans (read_more rest _ l hs hp h4), by have := h.few; simp; omega⟩
theorem rdi_none {pre : List (List UInt8)} {l : List PEn} {t : List UInt8} (h : RdPre pre l) (hs : skipB t = false) (hp : parseF t = none) : ∀ rest, readL ((pre ++ [t]) ++ rest) 0 [] = ([], (pre ++ [t]).length, 10) := fun rest => by
  rw [List.append_assoc, List.length_append]
  exact (h.go ([t] ++ rest)).trans (read_none rest _ l hs hp)
theorem rdi_many {pre : List (List UInt8)} {l : List PEn} {t : List UInt8} {e : PEn} (h : RdPre pre l) (hs : skipB t = false) (hp : parseF t = some e) (h4 : l.length = 400) : ∀ rest, readL ((pre ++ [t]) ++ rest) 0 [] = ([], (pre ++ [t]).length, 11) := fun rest => by
  rw [List.append_assoc, List.length_append]
  exact (h.go ([t] ++ rest)).trans (read_many rest _ l hs hp h4)
theorem rdi_done {pre : List (List UInt8)} {l : List PEn} (h : RdPre pre l) : readL pre 0 [] = (l, pre.length, 0) := by
  have := h.go []
  rw [List.append_nil] at this
  exact this
theorem line_cut_len (s : List UInt8) : (cutAt 10 s).length ≤ s.length + 1 := by
  induction s with
  | nil => simp [cutAt]
  | cons x r ih =>
    unfold cutAt
    split
    · simp; omega
    · have hn := cutAt_ne 10 r
      cases hq : cutAt 10 r with
      | nil => exact absurd hq hn
      | cons a t => rw [hq] at ih; simp at ih ⊢; omega
theorem line_piece_len (s : List UInt8) : ∀ x ∈ cutAt 10 s, x.length ≤ s.length := by
  induction s with
  | nil => simp [cutAt]
  | cons y r ih =>
    intro x hx
    unfold cutAt at hx
    split at hx
    · rcases List.mem_cons.1 hx with rfl | hx
      · simp
      · have := ih x hx; simp; omega
    · have hn := cutAt_ne 10 r
      cases hq : cutAt 10 r with
      | nil => exact absurd hq hn
      | cons a t =>
        rw [hq] at hx ih
        rcases List.mem_cons.1 hx with rfl | hx
        · have := ih a (by simp); simp; omega
        · have := ih x (List.mem_cons_of_mem _ hx); simp; omega
end Go.Proofs.YtloilknkhloegaaDoor
