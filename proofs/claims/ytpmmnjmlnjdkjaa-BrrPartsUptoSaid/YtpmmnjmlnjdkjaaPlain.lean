/- Plain numbers for blocks of samples: what a nibble stands for. No Go in sight. -/
namespace Go.Proofs.Ytpmmnjmlnjdkjaa

/-- A sample's range. -/
def clampN (n : Int) : Int := if n < -32768 then -32768 else if 32767 < n then 32767 else n
theorem clampN_bounds (n : Int) : -32768 ≤ clampN n ∧ clampN n ≤ 32767 := by unfold clampN; split <;> (try split) <;> omega
theorem clampN_in {n : Int} (h0 : -32768 ≤ n) (h1 : n ≤ 32767) : clampN n = n := by unfold clampN; rw [if_neg (by omega), if_neg (by omega)]

/-- What is foreseen of the two samples ahead. -/
def filterN (f p q : Int) : Int :=
  if f = 1 then p * 15 / 16 else if f = 2 then p * 61 / 32 - q * 15 / 16 else if f = 3 then p * 115 / 64 - q * 13 / 16 else 0
theorem filterN_bounds (f p q : Int) (p0 : -32768 ≤ p) (p1 : p ≤ 32767) (q0 : -32768 ≤ q) (q1 : q ≤ 32767) : -131072 ≤ filterN f p q ∧ filterN f p q ≤ 131072 := by
  unfold filterN
  split
  · omega
  · split
    · omega
    · split <;> omega

/-- A nibble, shifted. -/
def baseN (sh nib : Int) : Int := if sh ≤ 12 then nib * 2 ^ sh.toNat / 2 else if nib < 0 then -2048 else 0
theorem pow_bounds (sh : Int) (h1 : sh ≤ 15) : (1 : Int) ≤ 2 ^ sh.toNat ∧ (2 : Int) ^ sh.toNat ≤ 32768 := by
  have h : sh.toNat ≤ 15 := by omega
  generalize sh.toNat = k at h
  have : ∀ k : Nat, k ≤ 15 → (1 : Int) ≤ 2 ^ k ∧ (2 : Int) ^ k ≤ 32768 := by decide
  exact this k h
theorem mul_bounds (a b m n : Int) (a0 : -m ≤ a) (a1 : a ≤ m) (b0 : 0 ≤ b) (b1 : b ≤ n) (h : 0 ≤ m) : -(m * n) ≤ a * b ∧ a * b ≤ m * n := by
  have e1 : m * b ≤ m * n := Int.mul_le_mul_of_nonneg_left b1 h
  have e2 : a * b ≤ m * b := Int.mul_le_mul_of_nonneg_right a1 b0
  have e3 : -m * b ≤ a * b := Int.mul_le_mul_of_nonneg_right a0 b0
  have e4 : -m * b = -(m * b) := Int.neg_mul m b
  omega
theorem shl_bounds (sh nib : Int) (h1 : sh ≤ 15) (n0 : -8 ≤ nib) (n1 : nib ≤ 7) : -262144 ≤ nib * 2 ^ sh.toNat ∧ nib * 2 ^ sh.toNat ≤ 262144 := by
  have hp := pow_bounds sh h1
  have := mul_bounds nib (2 ^ sh.toNat) 8 32768 (by omega) (by omega) (by omega) (by omega) (by omega)
  omega
theorem baseN_bounds (sh nib : Int) (n0 : -8 ≤ nib) (n1 : nib ≤ 7) : -131072 ≤ baseN sh nib ∧ baseN sh nib ≤ 131072 := by
  unfold baseN
  split
  · have := shl_bounds sh nib (by omega) n0 n1; omega
  · split <;> omega

/-- The sample that a nibble stands for behind two others. -/
def sampleN (sh f nib p q : Int) : Int := clampN (baseN sh nib + filterN f p q)
theorem sampleN_bounds (sh f nib p q : Int) : -32768 ≤ sampleN sh f nib p q ∧ sampleN sh f nib p q ≤ 32767 := clampN_bounds _


/-- A nibble of a byte, from -8 to 7. -/
def nibN (x : Int) (k : Int) : Int := let n := if k % 2 = 0 then x / 16 else x % 16; if 7 < n then n - 16 else n
theorem nibN_bounds (x k : Int) (h0 : 0 ≤ x) (h1 : x ≤ 255) : -8 ≤ nibN x k ∧ nibN x k ≤ 7 := by unfold nibN; simp only; split <;> split <;> omega

/-! ### A block's samples -/
/-- The k-th nibble of a block. -/
def nibAt (xs : List Int) (k : Nat) : Int := nibN (xs[1 + k / 2]?.getD 0) k
/-- The last sample and the one ahead of it, behind k samples of a block. -/
def dP (xs : List Int) (p q : Int) : Nat → Int × Int
  | 0 => (p, q)
  | k + 1 => (sampleN (xs[0]?.getD 0 / 16) (xs[0]?.getD 0 / 4 % 4) (nibAt xs k) (dP xs p q k).1 (dP xs p q k).2, (dP xs p q k).1)
theorem dP_bounds (xs : List Int) (p q : Int) (p0 : -32768 ≤ p) (p1 : p ≤ 32767) (q0 : -32768 ≤ q) (q1 : q ≤ 32767) (k : Nat) :
    -32768 ≤ (dP xs p q k).1 ∧ (dP xs p q k).1 ≤ 32767 ∧ -32768 ≤ (dP xs p q k).2 ∧ (dP xs p q k).2 ≤ 32767 := by
  induction k with
  | zero => exact ⟨p0, p1, q0, q1⟩
  | succ k ih =>
    have := sampleN_bounds (xs[0]?.getD 0 / 16) (xs[0]?.getD 0 / 4 % 4) (nibAt xs k) (dP xs p q k).1 (dP xs p q k).2
    exact ⟨this.1, this.2, ih.1, ih.2.1⟩
/-- The first k samples of a block. -/
def samplesN (xs : List Int) (p q : Int) (k : Nat) : List Int := (List.range k).map fun j => (dP xs p q (j + 1)).1
theorem samplesN_succ (xs : List Int) (p q : Int) (k : Nat) : samplesN xs p q (k + 1) = samplesN xs p q k ++ [(dP xs p q (k + 1)).1] := by simp [samplesN, List.range_succ]
theorem samplesN_length (xs : List Int) (p q : Int) (k : Nat) : (samplesN xs p q k).length = k := by simp [samplesN]

/-! ### The nearest nibble -/
/-- How far a nibble's sample is, squared. -/
def farN (sh f p q want n : Int) : Int := (sampleN sh f n p q - want) * (sampleN sh f n p q - want)
theorem sq_nonneg (a : Int) : 0 ≤ a * a := by
  rcases Int.le_total 0 a with h | h
  · exact Int.mul_nonneg h h
  · exact Int.mul_nonneg_of_nonpos_of_nonpos h h
theorem sq_le (a m : Int) (h0 : -m ≤ a) (h1 : a ≤ m) : a * a ≤ m * m := by
  have e1 : 0 ≤ m - a := by omega
  have e2 : 0 ≤ m + a := by omega
  have := Int.mul_nonneg e1 e2
  have e3 : (m - a) * (m + a) = m * m - a * a := by rw [Int.sub_mul, Int.mul_add, Int.mul_add, Int.mul_comm a m]; omega
  omega
theorem farN_bounds (sh f p q want n : Int) (w0 : -32768 ≤ want) (w1 : want ≤ 32767) : 0 ≤ farN sh f p q want n ∧ farN sh f p q want n ≤ 4294967296 := by
  have := sampleN_bounds sh f n p q
  exact ⟨sq_nonneg _, sq_le _ 65536 (by omega) (by omega)⟩
/-- The nearest of the nibbles from -8 to -8 + k. -/
def bestN (sh f p q want : Int) : Nat → Int
  | 0 => -8
  | k + 1 => if farN sh f p q want (-8 + (k + 1 : Nat)) < farN sh f p q want (bestN sh f p q want k) then -8 + (k + 1 : Nat) else bestN sh f p q want k
theorem bestN_bounds (sh f p q want : Int) (k : Nat) : -8 ≤ bestN sh f p q want k ∧ bestN sh f p q want k ≤ -8 + k := by
  induction k with
  | zero => simp [bestN]
  | succ k ih => simp only [bestN]; split <;> omega
theorem bestN_least (sh f p q want : Int) (k : Nat) : ∀ j : Nat, j ≤ k → farN sh f p q want (bestN sh f p q want k) ≤ farN sh f p q want (-8 + j) := by
  induction k with
  | zero => intro j hj; obtain rfl : j = 0 := by omega
            exact Int.le_refl _
  | succ k ih =>
    intro j hj
    simp only [bestN]
    by_cases e : j = k + 1
    · subst e; split <;> omega
    · have := ih j (by omega)
      split <;> omega
def nearN (sh f p q want : Int) : Int := bestN sh f p q want 15
theorem nearN_bounds (sh f p q want : Int) : -8 ≤ nearN sh f p q want ∧ nearN sh f p q want ≤ 7 := by
  have := bestN_bounds sh f p q want 15
  unfold nearN; omega
theorem nearN_least (sh f p q want n : Int) (h0 : -8 ≤ n) (h1 : n ≤ 7) : farN sh f p q want (nearN sh f p q want) ≤ farN sh f p q want n := by
  have := bestN_least sh f p q want 15 (n + 8).toNat (by omega)
  rw [show (-8 : Int) + ((n + 8).toNat : Nat) = n from by omega] at this
  exact this
/-- What the program's search holds behind k rounds: noughts at first. -/
def nibK (sh f p q want : Int) : Nat → Int
  | 0 => 0
  | k + 1 => bestN sh f p q want k
def farK (sh f p q want : Int) : Nat → Int
  | 0 => 0
  | k + 1 => farN sh f p q want (bestN sh f p q want k)

/-! ### A block, by a shift and a filter -/
/-- The last sample and the one ahead of it, behind k samples. -/
def eP (sh f : Int) (s : List Int) (p q : Int) : Nat → Int × Int
  | 0 => (p, q)
  | k + 1 => (sampleN sh f (nearN sh f (eP sh f s p q k).1 (eP sh f s p q k).2 (s[k]?.getD 0)) (eP sh f s p q k).1 (eP sh f s p q k).2, (eP sh f s p q k).1)
theorem eP_bounds (sh f : Int) (s : List Int) (p q : Int) (p0 : -32768 ≤ p) (p1 : p ≤ 32767) (q0 : -32768 ≤ q) (q1 : q ≤ 32767) (k : Nat) :
    -32768 ≤ (eP sh f s p q k).1 ∧ (eP sh f s p q k).1 ≤ 32767 ∧ -32768 ≤ (eP sh f s p q k).2 ∧ (eP sh f s p q k).2 ≤ 32767 := by
  induction k with
  | zero => exact ⟨p0, p1, q0, q1⟩
  | succ k ih =>
    have := sampleN_bounds sh f (nearN sh f (eP sh f s p q k).1 (eP sh f s p q k).2 (s[k]?.getD 0)) (eP sh f s p q k).1 (eP sh f s p q k).2
    exact ⟨this.1, this.2, ih.1, ih.2.1⟩
/-- The k-th nibble. -/
def nibE (sh f : Int) (s : List Int) (p q : Int) (k : Nat) : Int := nearN sh f (eP sh f s p q k).1 (eP sh f s p q k).2 (s[k]?.getD 0)
theorem nibE_bounds (sh f : Int) (s : List Int) (p q : Int) (k : Nat) : -8 ≤ nibE sh f s p q k ∧ nibE sh f s p q k ≤ 7 := nearN_bounds _ _ _ _ _
/-- How far the first k samples are. -/
def apartE (sh f : Int) (s : List Int) (p q : Int) : Nat → Int
  | 0 => 0
  | k + 1 => apartE sh f s p q k + farN sh f (eP sh f s p q k).1 (eP sh f s p q k).2 (s[k]?.getD 0) (nibE sh f s p q k)
theorem apartE_bounds (sh f : Int) (s : List Int) (p q : Int) (hs : ∀ k : Nat, -32768 ≤ s[k]?.getD 0 ∧ s[k]?.getD 0 ≤ 32767) (k : Nat) : 0 ≤ apartE sh f s p q k ∧ apartE sh f s p q k ≤ 4294967296 * k := by
  induction k with
  | zero => simp [apartE]
  | succ k ih =>
    have := farN_bounds sh f (eP sh f s p q k).1 (eP sh f s p q k).2 (s[k]?.getD 0) (nibE sh f s p q k) (hs k).1 (hs k).2
    simp only [apartE]; omega
/-- Byte i behind the head, once k nibbles are laid. -/
def byteE (nib : Nat → Int) (k i : Nat) : Int := (if 2 * i < k then nib (2 * i) % 16 * 16 else 0) + (if 2 * i + 1 < k then nib (2 * i + 1) % 16 else 0)
theorem byteE_bounds (nib : Nat → Int) (k i : Nat) : 0 ≤ byteE nib k i ∧ byteE nib k i ≤ 255 := by unfold byteE; split <;> split <;> omega
/-- A block's bytes, once k nibbles are laid. -/
def blockE (head : Int) (nib : Nat → Int) (k : Nat) : List Int := head :: (List.range 8).map (byteE nib k)
theorem blockE_length (head : Int) (nib : Nat → Int) (k : Nat) : (blockE head nib k).length = 9 := by simp [blockE]
theorem blockE_zero (head : Int) (nib : Nat → Int) (k : Nat) : (blockE head nib k)[0]?.getD 0 = head := rfl
theorem blockE_at (head : Int) (nib : Nat → Int) (k i : Nat) (hi : i < 8) : (blockE head nib k)[1 + i]?.getD 0 = byteE nib k i := by
  rw [Nat.add_comm]
  show (((List.range 8).map (byteE nib k))[i]?).getD 0 = _
  simp [hi]
theorem byteE_same (nib : Nat → Int) (k i : Nat) (h : i ≠ k / 2) : byteE nib (k + 1) i = byteE nib k i := by
  unfold byteE
  have e1 : (2 * i < k + 1) ↔ (2 * i < k) := by omega
  have e2 : (2 * i + 1 < k + 1) ↔ (2 * i + 1 < k) := by omega
  simp only [e1, e2]
theorem byteE_even (nib : Nat → Int) (k : Nat) (h : k % 2 = 0) : byteE nib k (k / 2) = 0 ∧ byteE nib (k + 1) (k / 2) = nib k % 16 * 16 := by
  unfold byteE
  rw [if_neg (by omega), if_neg (by omega), if_pos (by omega), if_neg (by omega), show 2 * (k / 2) = k from by omega]; omega
theorem byteE_odd (nib : Nat → Int) (k : Nat) (h : k % 2 = 1) : byteE nib k (k / 2) % 16 = 0 ∧ byteE nib (k + 1) (k / 2) = byteE nib k (k / 2) + nib k % 16 := by
  unfold byteE
  rw [if_pos (by omega), if_neg (by omega), if_pos (by omega), if_pos (by omega), show 2 * (k / 2) + 1 = k from by omega]; omega
theorem blockE_set (head : Int) (nib : Nat → Int) (k : Nat) (hk : k < 16) : (blockE head nib k).set (1 + k / 2) (byteE nib (k + 1) (k / 2)) = blockE head nib (k + 1) := by
  rw [Nat.add_comm]
  show head :: ((List.range 8).map (byteE nib k)).set (k / 2) _ = _
  unfold blockE
  congr 1
  apply List.ext_getElem?
  intro i
  rw [List.getElem?_set]
  by_cases e : k / 2 = i
  · subst e
    rw [if_pos rfl, if_pos (by simp; omega)]
    rw [List.getElem?_map, List.getElem?_range (by omega)]; rfl
  · rw [if_neg e]
    by_cases hi : i < 8
    · rw [List.getElem?_map, List.getElem?_map, List.getElem?_range hi]
      simp only [Option.map_some]
      rw [byteE_same nib k i (fun h => e h.symm)]
    · rw [List.getElem?_eq_none (by simp; omega), List.getElem?_eq_none (by simp; omega)]
end Go.Proofs.Ytpmmnjmlnjdkjaa
