/- What a block that was made stands for: the samples that were taken. No Go in sight. -/
import Derived.Test.YtpmmnjmlnjdkjaaCand
namespace Go.Proofs.Ytpmmnjmlnjdkjaa

/-- How far lists are, once k places are gone through. -/
def sumD (a b : List Int) : Nat → Int
  | 0 => 0
  | k + 1 => sumD a b k + (a[k]?.getD 0 - b[k]?.getD 0) * (a[k]?.getD 0 - b[k]?.getD 0)

theorem nibN_even (x n : Int) (k : Nat) (hk : k % 2 = 0) (h0 : -8 ≤ n) (h1 : n ≤ 7) (hx : x / 16 = n % 16) : nibN x k = n := by
  unfold nibN
  simp only [show ((k : Int)) % 2 = 0 from by omega, if_true, hx]
  split <;> omega
theorem nibN_odd (x n : Int) (k : Nat) (hk : k % 2 = 1) (h0 : -8 ≤ n) (h1 : n ≤ 7) (hx : x % 16 = n % 16) : nibN x k = n := by
  unfold nibN
  simp only [show ¬ ((k : Int)) % 2 = 0 from by omega, if_false, hx]
  split <;> omega
theorem nibAt_block (head : Int) (nib : Nat → Int) (hn : ∀ k, -8 ≤ nib k ∧ nib k ≤ 7) (k : Nat) (hk : k < 16) : nibAt (blockE head nib 16) k = nib k := by
  unfold nibAt
  rw [blockE_at _ _ _ _ (by omega)]
  unfold byteE
  rw [if_pos (by omega), if_pos (by omega)]
  have h1 := hn (2 * (k / 2))
  have h2 := hn (2 * (k / 2) + 1)
  by_cases hp : k % 2 = 0
  · refine nibN_even _ _ k hp (hn k).1 (hn k).2 ?_
    rw [show 2 * (k / 2) = k from by omega] at *
    omega
  · refine nibN_odd _ _ k (by omega) (hn k).1 (hn k).2 ?_
    rw [show 2 * (k / 2) + 1 = k from by omega] at *
    omega
theorem dP_block (sh f : Int) (s : List Int) (p q : Int) (f0 : 0 ≤ f) (f3 : f ≤ 3) (e : Int) (e0 : 0 ≤ e) (e3 : e ≤ 3) (k : Nat) (hk : k ≤ 16) :
    dP (blockE (sh * 16 + f * 4 + e) (nibE sh f s p q) 16) p q k = eP sh f s p q k := by
  induction k with
  | zero => rfl
  | succ k ih =>
    simp only [dP, eP]
    rw [ih (by omega), nibAt_block _ _ (fun k => nibE_bounds sh f s p q k) k (by omega), blockE_zero]
    rw [show (sh * 16 + f * 4 + e) / 16 = sh from by omega, show (sh * 16 + f * 4 + e) / 4 % 4 = f from by omega]
    rfl
/-- The samples that are taken. -/
def takenE (sh f : Int) (s : List Int) (p q : Int) : List Int := (List.range 16).map fun j => (eP sh f s p q (j + 1)).1
theorem samples_block (sh f : Int) (s : List Int) (p q : Int) (f0 : 0 ≤ f) (f3 : f ≤ 3) (e : Int) (e0 : 0 ≤ e) (e3 : e ≤ 3) :
    samplesN (blockE (sh * 16 + f * 4 + e) (nibE sh f s p q) 16) p q 16 = takenE sh f s p q := by
  unfold samplesN takenE
  refine List.map_congr_left fun j hj => ?_
  rw [dP_block sh f s p q f0 f3 e e0 e3 (j + 1) (by have := List.mem_range.1 hj; omega)]
theorem takenE_at (sh f : Int) (s : List Int) (p q : Int) (k : Nat) (hk : k < 16) : (takenE sh f s p q)[k]?.getD 0 = (eP sh f s p q (k + 1)).1 := by
  simp [takenE, hk]
theorem sumD_taken (sh f : Int) (s : List Int) (p q : Int) (k : Nat) (hk : k ≤ 16) : sumD (takenE sh f s p q) s k = apartE sh f s p q k := by
  induction k with
  | zero => rfl
  | succ k ih => simp only [sumD, apartE]; rw [ih (by omega), takenE_at _ _ _ _ _ _ (by omega)]; rfl
/-- The samples of the c-th block. -/
def candT (s : List Int) (p q : Int) (c : Nat) : List Int := takenE ((c % 13 : Nat) : Int) ((c / 13 : Nat) : Int) s p q
theorem candT_samples (s : List Int) (p q : Int) (c : Nat) (hc : c < 52) : samplesN (candB s p q c) p q 16 = candT s p q c := by
  unfold candB candT
  have := samples_block ((c % 13 : Nat) : Int) ((c / 13 : Nat) : Int) s p q (by omega) (by omega) 0 (by omega) (by omega)
  rwa [Int.add_zero] at this
theorem candT_far (s : List Int) (p q : Int) (c : Nat) : sumD (candT s p q c) s 16 = candA s p q c := sumD_taken _ _ _ _ _ 16 (Nat.le_refl _)
theorem candT_length (s : List Int) (p q : Int) (c : Nat) : (candT s p q c).length = 16 := by simp [candT, takenE]
theorem candT_mem (s : List Int) (p q : Int) (c : Nat) (x : Int) (hx : x ∈ candT s p q c) : -32768 ≤ x ∧ x ≤ 32767 := by
  unfold candT takenE at hx
  obtain ⟨j, -, rfl⟩ := List.mem_map.1 hx
  exact sampleN_bounds _ _ _ _ _
theorem candB_mem (s : List Int) (p q : Int) (c : Nat) (hc : c < 52) (x : Int) (hx : x ∈ candB s p q c) : 0 ≤ x ∧ x ≤ 255 := by
  unfold candB blockE at hx
  rcases List.mem_cons.1 hx with rfl | hx
  · omega
  · obtain ⟨i, -, rfl⟩ := List.mem_map.1 hx
    exact byteE_bounds _ _ _
end Go.Proofs.Ytpmmnjmlnjdkjaa
