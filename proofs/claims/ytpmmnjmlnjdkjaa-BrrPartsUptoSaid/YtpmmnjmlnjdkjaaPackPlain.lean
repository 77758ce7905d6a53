/- Samples as blocks, in plain words: no program in sight. -/
import Derived.Test.YtpmmnjmlnjdkjaaNear
namespace Go.Proofs.Ytpmmnjmlnjdkjaa
open Go.RowKit

/-- How many blocks so many samples take. -/
def nBlk (n : Nat) : Nat := max 1 ((n + 15) / 16)
/-- The samples with noughts behind them, whole blocks. -/
def allN (s : List Int) : List Int := s ++ List.replicate (16 * nBlk s.length - s.length) 0
theorem nBlk_ge (n : Nat) : n ≤ 16 * nBlk n := by unfold nBlk; omega
theorem nBlk_pos (n : Nat) : 1 ≤ nBlk n := by unfold nBlk; omega
theorem allN_length (s : List Int) : (allN s).length = 16 * nBlk s.length := by
  have := nBlk_ge s.length
  unfold allN; rw [List.length_append, List.length_replicate]; omega
/-- The k-th block's samples. -/
def blkN (s : List Int) (k : Nat) : List Int := ((allN s).drop (16 * k)).take 16
theorem blkN_length (s : List Int) (k : Nat) (hk : k < nBlk s.length) : (blkN s k).length = 16 := by
  have := allN_length s
  unfold blkN; rw [List.length_take, List.length_drop]; omega
theorem blkN_at (s : List Int) (k i : Nat) (hi : i < 16) : (blkN s k)[i]?.getD 0 = (allN s)[16 * k + i]?.getD 0 := by
  unfold blkN
  rw [List.getElem?_take_of_lt hi, List.getElem?_drop]
theorem allN_fits (s : List Int) (hf : Fits .i16 s) : Fits .i16 (allN s) := by
  intro x hx
  unfold allN at hx
  rcases List.mem_append.1 hx with h | h
  · exact hf x h
  · rw [(List.mem_replicate.1 h).2]; decide
theorem blkN_fits (s : List Int) (hf : Fits .i16 s) (k : Nat) : Fits .i16 (blkN s k) := fun x hx => allN_fits s hf x (List.mem_of_mem_drop (List.mem_of_mem_take hx))

/-- The last two samples ahead of the k-th block. -/
def stP (s : List Int) : Nat → Int × Int
  | 0 => (0, 0)
  | k + 1 => ((samplesN (encodeN (blkN s k) (stP s k).1 (stP s k).2) (stP s k).1 (stP s k).2 16)[15]?.getD 0,
    (samplesN (encodeN (blkN s k) (stP s k).1 (stP s k).2) (stP s k).1 (stP s k).2 16)[14]?.getD 0)
/-- The k-th block, without its end, and its samples. -/
def codeN (s : List Int) (k : Nat) : List Int := encodeN (blkN s k) (stP s k).1 (stP s k).2
def samN (s : List Int) (k : Nat) : List Int := samplesN (codeN s k) (stP s k).1 (stP s k).2 16
theorem stP_succ (s : List Int) (k : Nat) : stP s (k + 1) = ((samN s k)[15]?.getD 0, (samN s k)[14]?.getD 0) := rfl
theorem stP_bounds (s : List Int) (k : Nat) : -32768 ≤ (stP s k).1 ∧ (stP s k).1 ≤ 32767 ∧ -32768 ≤ (stP s k).2 ∧ (stP s k).2 ≤ 32767 := by
  induction k with
  | zero => simp [stP]
  | succ k ih =>
    have hf := samples_fits (codeN s k) (stP s k).1 (stP s k).2 ih.1 ih.2.1 ih.2.2.1 ih.2.2.2 16
    have h1 := fits_at hf 15
    have h2 := fits_at hf 14
    rw [stP_succ]
    exact ⟨h1.1, h1.2, h2.1, h2.2⟩
theorem samN_length (s : List Int) (k : Nat) : (samN s k).length = 16 := samplesN_length _ _ _ _
theorem samN_fits (s : List Int) (k : Nat) : Fits .i16 (samN s k) := by
  have ih := stP_bounds s k
  exact samples_fits (codeN s k) (stP s k).1 (stP s k).2 ih.1 ih.2.1 ih.2.2.1 ih.2.2.2 16
theorem codeN_length (s : List Int) (k : Nat) : (codeN s k).length = 9 := encodeN_length _ _ _

/-- A block as an end, or as it is. -/
def endN (xs : List Int) (e : Bool) : List Int := if e then xs.set 0 (xs[0]?.getD 0 + 1) else xs
theorem endN_length (xs : List Int) (e : Bool) : (endN xs e).length = xs.length := by unfold endN; split <;> simp
theorem code_head (s : List Int) (p q : Int) : ∃ sh f : Int, 0 ≤ sh ∧ sh ≤ 12 ∧ 0 ≤ f ∧ f ≤ 3 ∧ encodeN s p q = blockE (sh * 16 + f * 4) (nibE sh f s p q) 16 := by
  have := bestC_le s p q 51
  exact ⟨((bestC s p q 51 % 13 : Nat) : Int), ((bestC s p q 51 / 13 : Nat) : Int), by omega, by omega, by omega, by omega, rfl⟩
theorem head_facts (s : List Int) (p q : Int) : (0 : Int) ≤ (encodeN s p q)[0]?.getD (0 : Int) ∧ (encodeN s p q)[0]?.getD (0 : Int) ≤ (204 : Int) ∧ (encodeN s p q)[0]?.getD (0 : Int) % 4 = 0 := by
  obtain ⟨sh, f, s0, s1, f0, f1, h⟩ := code_head s p q
  rw [h, blockE_zero]; omega
theorem end_samples (s : List Int) (p q : Int) (e : Bool) : samplesN (endN (encodeN s p q) e) p q 16 = samplesN (encodeN s p q) p q 16 := by
  cases e
  · rfl
  · obtain ⟨sh, f, s0, s1, f0, f1, h⟩ := code_head s p q
    have h0 := samples_block sh f s p q f0 f1 0 (by omega) (by omega)
    have h1 := samples_block sh f s p q f0 f1 1 (by omega) (by omega)
    rw [Int.add_zero] at h0
    rw [h, h0, ← h1]; rfl
/-- The first k of n blocks, the last of which is an end. -/
def packN (s : List Int) (n : Nat) : Nat → List Int
  | 0 => []
  | k + 1 => packN s n k ++ endN (codeN s k) (decide (k + 1 = n))
theorem packN_length (s : List Int) (n k : Nat) : (packN s n k).length = 9 * k := by
  induction k with
  | zero => rfl
  | succ k ih => simp only [packN, List.length_append, ih, endN_length, codeN_length]; omega
/-- All samples of the first k blocks. -/
def doneN (s : List Int) : Nat → List Int
  | 0 => []
  | k + 1 => doneN s k ++ samN s k
theorem doneN_length (s : List Int) (k : Nat) : (doneN s k).length = 16 * k := by
  induction k with
  | zero => rfl
  | succ k ih => simp only [doneN, List.length_append, ih, samN_length]; omega
theorem endN_fits (s : List Int) (p q : Int) (e : Bool) : Fits .u8 (endN (encodeN s p q) e) := by
  have hb : Fits .u8 (encodeN s p q) := fun x hx => by
    have h := candB_mem s p q (bestC s p q 51) (by have := bestC_le s p q 51; omega) x hx
    exact WalkArith.wf_u8 h
  cases e
  · exact hb
  · intro x hx
    have hh := head_facts s p q
    rcases List.mem_or_eq_of_mem_set hx with h | h
    · exact hb x h
    · rw [h]; exact WalkArith.wf_u8 (by omega)
end Go.Proofs.Ytpmmnjmlnjdkjaa
