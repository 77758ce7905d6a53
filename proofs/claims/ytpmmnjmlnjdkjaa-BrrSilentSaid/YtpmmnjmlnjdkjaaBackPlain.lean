/- What is packed and read again, in plain words: no program in sight. -/
import Derived.Test.YtpmmnjmlnjdkjaaPackLem
namespace Go.Proofs.Ytpmmnjmlnjdkjaa
open Go.RowKit
set_option linter.unusedVariables false

theorem packN_blk (s : List Int) (n k j : Nat) (h : j < k) : ((packN s n k).drop (9 * j)).take 9 = endN (codeN s j) (decide (j + 1 = n)) := by
  induction k with
  | zero => omega
  | succ k ih =>
    have hl := packN_length s n k
    have he : (endN (codeN s k) (decide (k + 1 = n))).length = 9 := by rw [endN_length, codeN_length]
    simp only [packN]
    rcases Nat.lt_succ_iff_lt_or_eq.1 h with h1 | rfl
    · rw [List.drop_append_of_le_length (by omega), List.take_append_of_le_length (by rw [List.length_drop]; omega)]
      exact ih h1
    · rw [List.drop_left' hl, List.take_of_length_le (by omega)]
theorem packN_fits (s : List Int) (n k : Nat) : Fits .u8 (packN s n k) := by
  induction k with
  | zero => intro x hx; cases hx
  | succ k ih =>
    intro x hx
    rcases List.mem_append.1 hx with h | h
    · exact ih x h
    · exact endN_fits _ _ _ _ x h
theorem pack_head (s : List Int) (n j : Nat) (h : j < n) : headB (packN s n n) j = (endN (codeN s j) (decide (j + 1 = n)))[0]?.getD 0 := by
  rw [← headB_blk]; unfold blkB; rw [packN_blk s n n j h]
theorem pack_heads (s : List Int) (n j : Nat) (h : j < n) : (headB (packN s n n) j % 2 = 1 ↔ j + 1 = n) ∧ headB (packN s n n) j / 2 % 2 = 0 := by
  have hh := head_facts (blkN s j) (stP s j).1 (stP s j).2
  have hc : codeN s j = encodeN (blkN s j) (stP s j).1 (stP s j).2 := rfl
  rw [← hc] at hh
  rw [pack_head s n j h]
  by_cases he : j + 1 = n
  · have e : (endN (codeN s j) (decide (j + 1 = n)))[0]?.getD 0 = (codeN s j)[0]?.getD 0 + 1 := by
      rw [decide_eq_true he]
      unfold endN
      rw [if_pos rfl, List.getElem?_set_self (by rw [codeN_length]; omega)]; rfl
    rw [e]
    refine ⟨⟨fun _ => he, fun _ => by omega⟩, by omega⟩
  · have e : (endN (codeN s j) (decide (j + 1 = n)))[0]?.getD 0 = (codeN s j)[0]?.getD 0 := by
      rw [decide_eq_false he]; rfl
    rw [e]
    refine ⟨⟨fun h2 => by omega, fun h2 => absurd h2 he⟩, by omega⟩
theorem pack_all (s : List Int) (n : Nat) (h1 : 1 ≤ n) : AllIs (packN s n n) n := by
  refine ⟨n - 1, by omega, by rw [packN_length]; omega, ((pack_heads s n (n - 1) (by omega)).1).2 (by omega), fun j hj e => ?_⟩
  have := ((pack_heads s n j (by omega)).1).1 e
  omega
theorem pack_done (s : List Int) (n k : Nat) (h : k ≤ n) : doneB (packN s n n) k = doneN s k := by
  induction k with
  | zero => rfl
  | succ k ih =>
    rw [doneB_succ, ih (by omega), behind_doneN]
    have hb : blkB (packN s n n) k = endN (codeN s k) (decide (k + 1 = n)) := packN_blk s n n k (by omega)
    rw [hb]
    show doneN s k ++ samplesN (endN (encodeN (blkN s k) (stP s k).1 (stP s k).2) (decide (k + 1 = n))) (stP s k).1 (stP s k).2 16 = doneN s k ++ samN s k
    rw [end_samples]
    rfl

/-! ### Silence -/
theorem silent_samples : samplesN (encodeN (List.replicate 16 0) 0 0) 0 0 16 = List.replicate 16 0 := by
  have h0 : samplesN [0, 0, 0, 0, 0, 0, 0, 0, 0] 0 0 16 = List.replicate 16 0 := by decide +kernel
  have key : ∀ S, samplesN [0, 0, 0, 0, 0, 0, 0, 0, 0] 0 0 16 = S → eqB (samplesN (encodeN S 0 0) 0 0 16) S = true := fun S hS => by
    subst hS
    exact near_again [0, 0, 0, 0, 0, 0, 0, 0, 0] 0 0 0 rfl (by decide) (by decide) (by intro x hx; simp at hx; subst hx; decide)
  have h := key _ h0
  unfold eqB at h
  exact of_decide_eq_true h
theorem silent_blk (m k : Nat) (hk : k < nBlk m) : blkN (List.replicate m 0) k = List.replicate 16 0 := by
  have h : allN (List.replicate m 0) = List.replicate (16 * nBlk m) 0 := by
    unfold allN
    rw [List.length_replicate, List.replicate_append_replicate]
    congr 1
    have := nBlk_ge m; omega
  unfold blkN
  rw [h, List.drop_replicate, List.take_replicate]
  congr 1
  omega
theorem silent_st (m k : Nat) (hk : k ≤ nBlk m) : stP (List.replicate m 0) k = (0, 0) := by
  induction k with
  | zero => rfl
  | succ k ih =>
    rw [stP_succ]
    unfold samN codeN
    rw [ih (by omega), silent_blk m k (by omega)]
    show ((samplesN (encodeN (List.replicate 16 0) 0 0) 0 0 16)[15]?.getD 0, (samplesN (encodeN (List.replicate 16 0) 0 0) 0 0 16)[14]?.getD 0) = (0, 0)
    rw [silent_samples]
    rfl
theorem silent_done (m k : Nat) (hk : k ≤ nBlk m) : doneN (List.replicate m 0) k = List.replicate (16 * k) 0 := by
  induction k with
  | zero => rfl
  | succ k ih =>
    show doneN (List.replicate m 0) k ++ samN (List.replicate m 0) k = _
    rw [ih (by omega)]
    unfold samN codeN
    rw [silent_st m k (by omega), silent_blk m k (by omega)]
    show List.replicate (16 * k) 0 ++ samplesN (encodeN (List.replicate 16 0) 0 0) 0 0 16 = _
    rw [silent_samples, List.replicate_append_replicate]
    rfl
end Go.Proofs.Ytpmmnjmlnjdkjaa
