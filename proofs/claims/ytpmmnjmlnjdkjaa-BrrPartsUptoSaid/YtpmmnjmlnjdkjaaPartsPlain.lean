/- Blocks one by one, in plain words: no program in sight. -/
import Derived.Test.YtpmmnjmlnjdkjaaAllPlain
namespace Go.Proofs.Ytpmmnjmlnjdkjaa
open Go.RowKit

theorem behind_append (l s : List Int) (h : s.length = 16) : behindN (l ++ s) = (s[15]?.getD 0, s[14]?.getD 0) := by
  unfold behindN
  have hl : (l ++ s).length = l.length + 16 := by rw [List.length_append, h]
  rw [if_neg (by omega), hl, List.getElem?_append_right (by omega), List.getElem?_append_right (by omega)]
  rw [show l.length + 16 - 1 - l.length = 15 from by omega, show l.length + 16 - 2 - l.length = 14 from by omega]
theorem doneB_prefix (b : List Int) (k m : Nat) : ∃ r, doneB b (k + m) = doneB b k ++ r := by
  induction m with
  | zero => exact ⟨[], by simp⟩
  | succ m ih =>
    obtain ⟨r, h⟩ := ih
    exact ⟨r ++ samplesN (blkB b (k + m)) (behindN (doneB b (k + m))).1 (behindN (doneB b (k + m))).2 16, by rw [← Nat.add_assoc, doneB_succ, ← List.append_assoc, ← h]⟩
/-- The k-th block's part of all samples. -/
theorem doneB_part (b : List Int) (k n : Nat) (h : k < n) : ((doneB b n).drop (16 * k)).take 16 = samplesN (blkB b k) (behindN (doneB b k)).1 (behindN (doneB b k)).2 16 := by
  obtain ⟨r, hr⟩ := doneB_prefix b (k + 1) (n - (k + 1))
  rw [show k + 1 + (n - (k + 1)) = n from by omega, doneB_succ, List.append_assoc] at hr
  rw [hr]
  have h1 : (doneB b k ++ (samplesN (blkB b k) (behindN (doneB b k)).1 (behindN (doneB b k)).2 16 ++ r)).drop (16 * k) = samplesN (blkB b k) (behindN (doneB b k)).1 (behindN (doneB b k)).2 16 ++ r :=
    List.drop_left' (doneB_length b k)
  rw [h1]
  exact List.take_left' (samplesN_length _ _ _ _)
theorem AllIs.facts {b : List Int} {n : Nat} (h : AllIs b n) : 1 ≤ n ∧ 9 * n ≤ b.length ∧ ∀ k, k < n → (headB b k % 2 = 1 ↔ k + 1 = n) := by
  obtain ⟨m, rfl, h1, h2, h3⟩ := h
  refine ⟨by omega, by omega, fun k hk => ⟨fun h => ?_, fun h => ?_⟩⟩
  · rcases Nat.lt_or_ge k m with h4 | h4
    · exact absurd h (h3 k h4)
    · omega
  · obtain rfl : k = m := by omega
    exact h2
end Go.Proofs.Ytpmmnjmlnjdkjaa
