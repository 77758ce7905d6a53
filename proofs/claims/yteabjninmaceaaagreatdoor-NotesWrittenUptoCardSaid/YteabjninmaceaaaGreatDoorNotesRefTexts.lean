/- The text of an instruction, whatever the bytes: the document's Text answers as told. -/
import Derived.Test.YteabjninmaceaaaGreatDoorProg
import Derived.Test.YteabjninmaceaaaGreatDoorNotesTexts
import Derived.Test.YteabjninmaceaaaGreatDoorNotesRefText
namespace Go.Proofs.YteabjninmaceaaaGreatDoor
open Go.RowKit
set_option linter.unusedVariables false
set_option linter.unusedSimpArgs false

theorem refText_walk (v : Value) (at' : Nat) (xs : List Int) (w : World) (hr : Row .u8 w v xs) (hf : Fits .u8 xs) :
    Calls Tryz.prog 5 #[v, .int .u16 at'] w fun e w' => e = .returned (ansX xs at') ∧ Below w.heap.size w w' := by
  obtain ⟨ad, l, c, rfl⟩ : ∃ ad l c, v = .slice ad l c := by
    rcases hr with ⟨a, c, rfl, _⟩ | ⟨b, o, c, rfl, _⟩
    · exact ⟨_, _, _, rfl⟩
    · exact ⟨_, _, _, rfl⟩
  have hl := row_len hr
  have hk := codeX_lt hf
  have hs := sizeN_le hk
  rcases Nat.eq_zero_or_pos xs.length with h0 | h0
  · rw [h0] at hl
    subst hl
    have e : ansX xs at' = .tuple #[.string ⟨#[]⟩, .int .i64 0, .int .i64 5] := by unfold ansX fewX; rw [if_pos (by simp [h0])]
    rw [e]
    exact (refText_empty ad c at' w).mono fun e w' ⟨he, hw⟩ => ⟨he, hw ▸ Below.refl _ _⟩
  · have hkx : xs[0]?.getD 0 = ((codeX xs : Nat) : Int) := by
      have := bounds_u8 (hf _ (getD_mem h0))
      unfold codeX; omega
    rcases Nat.lt_or_ge xs.length (sizeN (codeX xs)) with h1 | h1
    · have e : ansX xs at' = .tuple #[.string ⟨#[]⟩, .int .i64 0, .int .i64 5] := by unfold ansX fewX; rw [if_pos (by simp [h1])]
      rw [e]
      obtain ⟨bk, o, rfl, -, hc⟩ := row_first hr h0
      rw [hkx] at hc
      exact refText_short bk o l c (codeX xs) (sizeN (codeX xs)) at' hk rfl (by omega) (by omega) w hc
    · have e : ansX xs at' = .tuple #[.string (bytesB (insX xs at')), .int .i64 (sizeN (codeX xs) : Nat), .int .i64 0] := by
        unfold ansX fewX; rw [if_neg (by simp only [decide_eq_true_eq]; omega)]
      rw [e]
      exact refText_full ad l c (codeX xs) (sizeN (codeX xs)) (nextX xs at') at' xs hk rfl (by omega) hs.2 w hr hf hkx (next_wrap _ _) (Nat.mod_lt _ (by decide))
end Go.Proofs.YteabjninmaceaaaGreatDoor
