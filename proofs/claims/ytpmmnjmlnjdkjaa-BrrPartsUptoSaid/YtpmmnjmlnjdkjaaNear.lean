/- Nearest, in plain words: what is encoded is at most as far as any block with the filter 0; what such a block stands for is encoded without a loss. No program in sight. -/
import Derived.Test.YtpmmnjmlnjdkjaaCand2
import Derived.Test.YtpmmnjmlnjdkjaaKit
namespace Go.Proofs.Ytpmmnjmlnjdkjaa
open Go.RowKit

theorem sample_zero (sh nib p q p' q' : Int) : sampleN sh 0 nib p q = sampleN sh 0 nib p' q' := by
  unfold sampleN filterN; simp
theorem samples_at (xs : List Int) (p q : Int) (n k : Nat) (hk : k < n) : (samplesN xs p q n)[k]?.getD 0 = (dP xs p q (k + 1)).1 := by
  simp [samplesN, hk]
theorem sumD_nonneg (a b : List Int) (k : Nat) : 0 ≤ sumD a b k := by
  induction k with
  | zero => simp [sumD]
  | succ k ih => have := sq_nonneg (a[k]?.getD 0 - b[k]?.getD 0); simp only [sumD]; omega
theorem sumD_self (a : List Int) (k : Nat) : sumD a a k = 0 := by
  induction k with
  | zero => simp [sumD]
  | succ k ih => simp only [sumD, ih, Int.sub_self]; rfl
theorem sumD_null (a b : List Int) (k : Nat) (h : sumD a b k ≤ 0) : ∀ j, j < k → a[j]?.getD 0 = b[j]?.getD 0 := by
  induction k with
  | zero => intro j hj; omega
  | succ k ih =>
    simp only [sumD] at h
    have h1 := sumD_nonneg a b k
    have h2 := sq_nonneg (a[k]?.getD 0 - b[k]?.getD 0)
    refine all_snoc (ih (by omega)) ?_
    have h3 : (a[k]?.getD 0 - b[k]?.getD 0) * (a[k]?.getD 0 - b[k]?.getD 0) = 0 := by omega
    rcases Int.mul_eq_zero.1 h3 with h | h <;> omega
theorem sumD_bound (a b : List Int) (ha : ∀ k : Nat, -32768 ≤ a[k]?.getD 0 ∧ a[k]?.getD 0 ≤ 32767) (hb : ∀ k : Nat, -32768 ≤ b[k]?.getD 0 ∧ b[k]?.getD 0 ≤ 32767) (k : Nat) : sumD a b k ≤ 4294967296 * k := by
  induction k with
  | zero => simp [sumD]
  | succ k ih =>
    have h1 := ha k
    have h2 := hb k
    have := sq_le (a[k]?.getD 0 - b[k]?.getD 0) 65536 (by omega) (by omega)
    simp only [sumD]; omega
theorem fits_at {xs : List Int} (hf : Fits .i16 xs) (k : Nat) : -32768 ≤ xs[k]?.getD 0 ∧ xs[k]?.getD 0 ≤ 32767 := by
  by_cases h : k < xs.length
  · exact hf.i16 h
  · rw [List.getElem?_eq_none (by omega)]; simp
theorem fits_at8 {xs : List Int} (hf : Fits .u8 xs) (k : Nat) : 0 ≤ xs[k]?.getD 0 ∧ xs[k]?.getD 0 ≤ 255 := by
  by_cases h : k < xs.length
  · exact hf.u8 h
  · rw [List.getElem?_eq_none (by omega)]; simp
theorem samples_fits (xs : List Int) (p q : Int) (p0 : -32768 ≤ p) (p1 : p ≤ 32767) (q0 : -32768 ≤ q) (q1 : q ≤ 32767) (n : Nat) : Fits .i16 (samplesN xs p q n) := by
  intro x hx
  simp only [samplesN, List.mem_map, List.mem_range] at hx
  obtain ⟨j, -, rfl⟩ := hx
  have := dP_bounds xs p q p0 p1 q0 q1 (j + 1)
  simp only [Lit.wf, Bool.and_eq_true, decide_eq_true_eq]
  exact ⟨by show (-32768 : Int) ≤ _; omega, by show _ ≤ (32767 : Int); omega⟩
theorem apart_zero (xs s : List Int) (p q sh : Int) (h0 : xs[0]?.getD 0 = sh * 16) (hf : Fits .u8 xs) (k : Nat) (hk : k ≤ 16) :
    apartE sh 0 s p q k ≤ sumD (samplesN xs p q 16) s k := by
  induction k with
  | zero => simp [apartE, sumD]
  | succ k ih =>
    have ih := ih (by omega)
    simp only [apartE, sumD]
    rw [samples_at xs p q 16 k (by omega)]
    have hn : -8 ≤ nibAt xs k ∧ nibAt xs k ≤ 7 := by
      have := fits_at8 hf (1 + k / 2)
      exact nibN_bounds _ _ this.1 this.2
    have h1 := nearN_least sh 0 (eP sh 0 s p q k).1 (eP sh 0 s p q k).2 (s[k]?.getD 0) (nibAt xs k) hn.1 hn.2
    have h2 : (dP xs p q (k + 1)).1 = sampleN sh 0 (nibAt xs k) (eP sh 0 s p q k).1 (eP sh 0 s p q k).2 := by
      show sampleN (xs[0]?.getD 0 / 16) (xs[0]?.getD 0 / 4 % 4) (nibAt xs k) (dP xs p q k).1 (dP xs p q k).2 = _
      rw [h0, show sh * 16 / 16 = sh from by omega, show sh * 16 / 4 % 4 = 0 from by omega]
      exact sample_zero _ _ _ _ _ _
    rw [h2]
    unfold nibE
    unfold farN at h1 ⊢
    omega
theorem near_le (xs s : List Int) (p q sh : Int) (h0 : xs[0]?.getD 0 = sh * 16) (s0 : 0 ≤ sh) (s1 : sh ≤ 12) (hf : Fits .u8 xs) :
    sumD (samplesN (encodeN s p q) p q 16) s 16 ≤ sumD (samplesN xs p q 16) s 16 := by
  have h1 := bestC_le s p q 51
  unfold encodeN
  rw [candT_samples s p q (bestC s p q 51) (by omega), candT_far]
  have h2 := bestC_least s p q 51 sh.toNat (by omega)
  have h3 := apart_zero xs s p q sh h0 hf 16 (by omega)
  have h4 : candA s p q sh.toNat = apartE sh 0 s p q 16 := by
    unfold candA
    rw [Nat.mod_eq_of_lt (by omega), Nat.div_eq_of_lt (by omega), show ((sh.toNat : Nat) : Int) = sh from by omega]; rfl
  omega
theorem near_again (xs : List Int) (p q sh : Int) (h0 : xs[0]?.getD 0 = sh * 16) (s0 : 0 ≤ sh) (s1 : sh ≤ 12) (hf : Fits .u8 xs) :
    eqB (samplesN (encodeN (samplesN xs p q 16) p q) p q 16) (samplesN xs p q 16) = true := by
  have h := near_le xs (samplesN xs p q 16) p q sh h0 s0 s1 hf
  rw [sumD_self (samplesN xs p q 16)] at h
  have hn := sumD_null _ _ 16 h
  exact eqB_of_all (by rw [samplesN_length, samplesN_length]) (fun j hj => hn j (by rw [samplesN_length] at hj; exact hj))
end Go.Proofs.Ytpmmnjmlnjdkjaa
