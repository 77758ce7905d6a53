/- Plain numbers for blocks of samples: what a nibble stands for. No Go in sight. -/
namespace Go.Proofs.Ytpmmnjmlnjdkjaa

/-- A sample's range. -/
def clampN (n : Int) : Int := if n < -32768 then -32768 else if 32767 < n then 32767 else n
theorem clampN_bounds (n : Int) : -32768 ≤ clampN n ∧ clampN n ≤ 32767 := by unfold clampN; split <;> (try split) <;> omega
theorem clampN_in {n : Int} (h0 : -32768 ≤ n) (h1 : n ≤ 32767) : clampN n = n := by unfold clampN; rw [if_neg (by omega), if_neg (by omega)]

/-- What is foreseen of the two samples ahead. -/
def filterN (f p q : Int) : Int :=
  if f = 1 then p * 15 / 16 else if f = 2 then p * 61 / 32 - q * 15 / 16 else if f = 3 then p * 115 / 64 - q * 13 / 16 else 0
theorem filterN_bounds (f p q : Int) (p0 : -32768 ≤ p) (p1 : p ≤ 32767) (q0 : -32768 ≤ q) (q1 : q ≤ 32767) : -131072 ≤ filterN f p q ∧ filterN f p q ≤ 131072 := by
  unfold filterN
  split
  · omega
  · split
    · omega
    · split <;> omega

/-- A nibble, shifted. -/
def baseN (sh nib : Int) : Int := if sh ≤ 12 then nib * 2 ^ sh.toNat / 2 else if nib < 0 then -2048 else 0
theorem pow_bounds (sh : Int) (h1 : sh ≤ 15) : (1 : Int) ≤ 2 ^ sh.toNat ∧ (2 : Int) ^ sh.toNat ≤ 32768 := by
  have h : sh.toNat ≤ 15 := by omega
  generalize sh.toNat = k at h
  have : ∀ k : Nat, k ≤ 15 → (1 : Int) ≤ 2 ^ k ∧ (2 : Int) ^ k ≤ 32768 := by decide
  exact this k h
theorem mul_bounds (a b m n : Int) (a0 : -m ≤ a) (a1 : a ≤ m) (b0 : 0 ≤ b) (b1 : b ≤ n) (h : 0 ≤ m) : -(m * n) ≤ a * b ∧ a * b ≤ m * n := by
  have e1 : m * b ≤ m * n := Int.mul_le_mul_of_nonneg_left b1 h
  have e2 : a * b ≤ m * b := Int.mul_le_mul_of_nonneg_right a1 b0
  have e3 : -m * b ≤ a * b := Int.mul_le_mul_of_nonneg_right a0 b0
  have e4 : -m * b = -(m * b) := Int.neg_mul m b
  omega
theorem shl_bounds (sh nib : Int) (h1 : sh ≤ 15) (n0 : -8 ≤ nib) (n1 : nib ≤ 7) : -262144 ≤ nib * 2 ^ sh.toNat ∧ nib * 2 ^ sh.toNat ≤ 262144 := by
  have hp := pow_bounds sh h1
  have := mul_bounds nib (2 ^ sh.toNat) 8 32768 (by omega) (by omega) (by omega) (by omega) (by omega)
  omega
theorem baseN_bounds (sh nib : Int) (n0 : -8 ≤ nib) (n1 : nib ≤ 7) : -131072 ≤ baseN sh nib ∧ baseN sh nib ≤ 131072 := by
  unfold baseN
  split
  · have := shl_bounds sh nib (by omega) n0 n1; omega
  · split <;> omega

/-- The sample that a nibble stands for behind two others. -/
def sampleN (sh f nib p q : Int) : Int := clampN (baseN sh nib + filterN f p q)
theorem sampleN_bounds (sh f nib p q : Int) : -32768 ≤ sampleN sh f nib p q ∧ sampleN sh f nib p q ≤ 32767 := clampN_bounds _


/-- A nibble of a byte, from -8 to 7. -/
def nibN (x : Int) (k : Int) : Int := let n := if k % 2 = 0 then x / 16 else x % 16; if 7 < n then n - 16 else n
theorem nibN_bounds (x k : Int) (h0 : 0 ≤ x) (h1 : x ≤ 255) : -8 ≤ nibN x k ∧ nibN x k ≤ 7 := by unfold nibN; simp only; split <;> split <;> omega

/-! ### A block's samples -/
/-- The k-th nibble of a block. -/
def nibAt (xs : List Int) (k : Nat) : Int := nibN (xs[1 + k / 2]?.getD 0) k
/-- The last sample and the one ahead of it, behind k samples of a block. -/
def dP (xs : List Int) (p q : Int) : Nat → Int × Int
  | 0 => (p, q)
  | k + 1 => (sampleN (xs[0]?.getD 0 / 16) (xs[0]?.getD 0 / 4 % 4) (nibAt xs k) (dP xs p q k).1 (dP xs p q k).2, (dP xs p q k).1)
theorem dP_bounds (xs : List Int) (p q : Int) (p0 : -32768 ≤ p) (p1 : p ≤ 32767) (q0 : -32768 ≤ q) (q1 : q ≤ 32767) (k : Nat) :
    -32768 ≤ (dP xs p q k).1 ∧ (dP xs p q k).1 ≤ 32767 ∧ -32768 ≤ (dP xs p q k).2 ∧ (dP xs p q k).2 ≤ 32767 := by
  induction k with
  | zero => exact ⟨p0, p1, q0, q1⟩
  | succ k ih =>
    have := sampleN_bounds (xs[0]?.getD 0 / 16) (xs[0]?.getD 0 / 4 % 4) (nibAt xs k) (dP xs p q k).1 (dP xs p q k).2
    exact ⟨this.1, this.2, ih.1, ih.2.1⟩
/-- The first k samples of a block. -/
def samplesN (xs : List Int) (p q : Int) (k : Nat) : List Int := (List.range k).map fun j => (dP xs p q (j + 1)).1
theorem samplesN_succ (xs : List Int) (p q : Int) (k : Nat) : samplesN xs p q (k + 1) = samplesN xs p q k ++ [(dP xs p q (k + 1)).1] := by simp [samplesN, List.range_succ]
theorem samplesN_length (xs : List Int) (p q : Int) (k : Nat) : (samplesN xs p q k).length = k := by simp [samplesN]
end Go.Proofs.Ytpmmnjmlnjdkjaa
