/- Bytes line by line, in plain words; no program. -/
import Derived.Test.YteabjninmaceaaaGreatDoorProg
import Derived.Test.YteabjninmaceaaaGreatDoorNotesTexts
namespace Go.Proofs.YteabjninmaceaaaGreatDoor
open Go.RowKit
set_option linter.unusedVariables false
set_option linter.unusedSimpArgs false

/-- The line of the instruction at a place. -/
def lineX (xs : List Int) (at' p : Nat) : List UInt8 := hexL true ((at' + p) % 65536) 4 ++ 32 :: insX (xs.drop p) ((at' + p) % 65536)
/-- The line of a byte that is left. -/
def leftX (xs : List Int) (at' p : Nat) : List UInt8 := hexL true ((at' + p) % 65536) 4 ++ [32, 63, 32] ++ hexL true (xs[p]?.getD 0).toNat 2
/-- The lines and the place behind t instructions. -/
def stX (xs : List Int) (at' : Nat) : Nat → List (List UInt8) × Nat
  | 0 => ([], 0)
  | t + 1 => ((stX xs at' t).1 ++ [lineX xs at' (stX xs at' t).2], (stX xs at' t).2 + sizeN (codeX (xs.drop (stX xs at' t).2)))
/-- The lines of i bytes that are left. -/
def leftsX (xs : List Int) (at' p : Nat) : Nat → List (List UInt8)
  | 0 => []
  | i + 1 => leftsX xs at' p i ++ [leftX xs at' (p + i)]
/-- There the instructions end. -/
def StopX (xs : List Int) (at' t : Nat) : Prop := fewX (xs.drop (stX xs at' t).2) = true ∧ ∀ s, s < t → fewX (xs.drop (stX xs at' s).2) = false
theorem StopX.same {xs : List Int} {at' t t' : Nat} (h : StopX xs at' t) (h' : StopX xs at' t') : t = t' := by
  rcases Nat.lt_trichotomy t t' with h1 | h1 | h1
  · have := h'.2 t h1; rw [h.1] at this; cases this
  · exact h1
  · have := h.2 t' h1; rw [h'.1] at this; cases this
/-- All lines. -/
def AllX (xs : List Int) (at' : Nat) (L : List (List UInt8)) : Prop := ∃ t, StopX xs at' t ∧ L = (stX xs at' t).1 ++ leftsX xs at' (stX xs at' t).2 (xs.length - (stX xs at' t).2)
theorem AllX.same {xs : List Int} {at' : Nat} {L L' : List (List UInt8)} (h : AllX xs at' L) (h' : AllX xs at' L') : L = L' := by
  obtain ⟨t, h1, rfl⟩ := h
  obtain ⟨t', h2, rfl⟩ := h'
  rw [h1.same h2]
theorem leftsX_length (xs : List Int) (at' p i : Nat) : (leftsX xs at' p i).length = i := by
  induction i with
  | zero => rfl
  | succ i ih => simp [leftsX, ih]
/-- An instruction lies within the bytes. -/
theorem few_false {xs : List Int} (h : fewX xs = false) : sizeN (codeX xs) ≤ xs.length ∧ 1 ≤ sizeN (codeX xs) := by
  have h1 : ¬ (xs.length = 0 ∨ xs.length < sizeN (codeX xs)) := by simpa [fewX] using h
  exact ⟨by omega, by unfold sizeN; omega⟩
theorem stX_length (xs : List Int) (at' t : Nat) : (stX xs at' t).1.length = t := by
  induction t with
  | zero => rfl
  | succ t ih => simp [stX, ih]
/-- So many lines at most; the place stays within. -/
theorem stX_le (xs : List Int) (at' t : Nat) (h : ∀ s, s < t → fewX (xs.drop (stX xs at' s).2) = false) : (stX xs at' t).2 ≤ xs.length ∧ t ≤ (stX xs at' t).2 := by
  induction t with
  | zero => exact ⟨Nat.zero_le _, Nat.zero_le _⟩
  | succ t ih =>
    obtain ⟨h1, h2⟩ := ih (fun s hs => h s (by omega))
    obtain ⟨h3, h4⟩ := few_false (h t (by omega))
    rw [List.length_drop] at h3
    simp only [stX]; omega
end Go.Proofs.YteabjninmaceaaaGreatDoor
