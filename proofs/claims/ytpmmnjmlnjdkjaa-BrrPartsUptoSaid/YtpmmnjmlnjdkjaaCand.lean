/- The fifty-two blocks that are tried for sixteen samples, and the best of them. No Go in sight. -/
import Derived.Test.YtpmmnjmlnjdkjaaPlain
namespace Go.Proofs.Ytpmmnjmlnjdkjaa

theorem farN_nonneg (sh f p q want n : Int) : 0 ≤ farN sh f p q want n := sq_nonneg _
theorem apartE_nonneg (sh f : Int) (s : List Int) (p q : Int) (k : Nat) : 0 ≤ apartE sh f s p q k := by
  induction k with
  | zero => simp [apartE]
  | succ k ih => have := farN_nonneg sh f (eP sh f s p q k).1 (eP sh f s p q k).2 (s[k]?.getD 0) (nibE sh f s p q k); simp only [apartE]; omega

/-- How far the c-th block is. -/
def candA (s : List Int) (p q : Int) (c : Nat) : Int := apartE ((c % 13 : Nat) : Int) ((c / 13 : Nat) : Int) s p q 16
/-- The c-th block. -/
def candB (s : List Int) (p q : Int) (c : Nat) : List Int := blockE (((c % 13 : Nat) : Int) * 16 + ((c / 13 : Nat) : Int) * 4) (nibE ((c % 13 : Nat) : Int) ((c / 13 : Nat) : Int) s p q) 16
theorem candB_length (s : List Int) (p q : Int) (c : Nat) : (candB s p q c).length = 9 := blockE_length _ _ _
theorem candA_at (s : List Int) (p q : Int) (j k : Nat) (hj : j < 13) : candA s p q (13 * k + j) = apartE (j : Int) (k : Int) s p q 16 := by
  unfold candA; rw [show (13 * k + j) % 13 = j from by omega, show (13 * k + j) / 13 = k from by omega]
theorem candB_at (s : List Int) (p q : Int) (j k : Nat) (hj : j < 13) : candB s p q (13 * k + j) = blockE ((j : Int) * 16 + (k : Int) * 4) (nibE (j : Int) (k : Int) s p q) 16 := by
  unfold candB; rw [show (13 * k + j) % 13 = j from by omega, show (13 * k + j) / 13 = k from by omega]
theorem candA_nonneg (s : List Int) (p q : Int) (c : Nat) : 0 ≤ candA s p q c := apartE_nonneg _ _ _ _ _ _
/-- The number of the first nearest of the blocks 0 to c. -/
def bestC (s : List Int) (p q : Int) : Nat → Nat
  | 0 => 0
  | c + 1 => if candA s p q (c + 1) < candA s p q (bestC s p q c) then c + 1 else bestC s p q c
theorem bestC_le (s : List Int) (p q : Int) (c : Nat) : bestC s p q c ≤ c := by
  induction c with
  | zero => exact Nat.le_refl _
  | succ c ih => simp only [bestC]; split <;> omega
theorem bestC_least (s : List Int) (p q : Int) (c : Nat) : ∀ d, d ≤ c → candA s p q (bestC s p q c) ≤ candA s p q d := by
  induction c with
  | zero => intro d hd; obtain rfl : d = 0 := by omega
            exact Int.le_refl _
  | succ c ih =>
    intro d hd
    simp only [bestC]
    by_cases e : d = c + 1
    · subst e; split <;> omega
    · have := ih d (by omega)
      split <;> omega
theorem bestC_stop (s : List Int) (p q : Int) (c d : Nat) (h : candA s p q (bestC s p q c) = 0) (hd : c ≤ d) : bestC s p q d = bestC s p q c := by
  induction d with
  | zero => obtain rfl : c = 0 := by omega
            rfl
  | succ d ih =>
    by_cases e : c = d + 1
    · subst e; rfl
    · have hi := ih (by omega)
      have hn := candA_nonneg s p q (d + 1)
      simp only [bestC]
      rw [hi, if_neg (by omega)]
/-- What the search holds behind c blocks: noughts and -1 at first. -/
def bsC (s : List Int) (p q : Int) : Nat → List Int
  | 0 => [0, 0, 0, 0, 0, 0, 0, 0, 0]
  | c + 1 => candB s p q (bestC s p q c)
def aC (s : List Int) (p q : Int) : Nat → Int
  | 0 => -1
  | c + 1 => candA s p q (bestC s p q c)
theorem aC_one (s : List Int) (p q : Int) : bsC s p q 1 = candB s p q 0 ∧ aC s p q 1 = candA s p q 0 := ⟨rfl, rfl⟩
theorem aC_nonneg (s : List Int) (p q : Int) (c : Nat) (h : 1 ≤ c) : 0 ≤ aC s p q c := by
  obtain ⟨d, rfl⟩ : ∃ d, c = d + 1 := ⟨c - 1, by omega⟩
  exact candA_nonneg _ _ _ _
theorem aC_less (s : List Int) (p q : Int) (c : Nat) (h1 : 1 ≤ c) (h : candA s p q c < aC s p q c) : bsC s p q (c + 1) = candB s p q c ∧ aC s p q (c + 1) = candA s p q c := by
  obtain ⟨d, rfl⟩ : ∃ d, c = d + 1 := ⟨c - 1, by omega⟩
  have e : bestC s p q (d + 1) = d + 1 := by simp only [bestC]; exact if_pos h
  exact ⟨by show candB _ _ _ (bestC s p q (d + 1)) = _; rw [e], by show candA _ _ _ (bestC s p q (d + 1)) = _; rw [e]⟩
theorem aC_more (s : List Int) (p q : Int) (c : Nat) (h1 : 1 ≤ c) (h : aC s p q c ≤ candA s p q c) : bsC s p q (c + 1) = bsC s p q c ∧ aC s p q (c + 1) = aC s p q c := by
  obtain ⟨d, rfl⟩ : ∃ d, c = d + 1 := ⟨c - 1, by omega⟩
  have h' : candA s p q (bestC s p q d) ≤ candA s p q (d + 1) := h
  have e : bestC s p q (d + 1) = bestC s p q d := by simp only [bestC]; exact if_neg (by omega)
  exact ⟨by show candB _ _ _ (bestC s p q (d + 1)) = _; rw [e]; rfl, by show candA _ _ _ (bestC s p q (d + 1)) = _; rw [e]; rfl⟩
/-- The nearest block. -/
def encodeN (s : List Int) (p q : Int) : List Int := candB s p q (bestC s p q 51)
theorem encodeN_length (s : List Int) (p q : Int) : (encodeN s p q).length = 9 := candB_length _ _ _ _
theorem bsC_all (s : List Int) (p q : Int) : bsC s p q 52 = encodeN s p q := rfl
theorem bsC_stop (s : List Int) (p q : Int) (c : Nat) (h1 : 1 ≤ c) (h2 : c ≤ 52) (h : aC s p q c = 0) : bsC s p q c = encodeN s p q := by
  obtain ⟨d, rfl⟩ : ∃ d, c = d + 1 := ⟨c - 1, by omega⟩
  show candB _ _ _ (bestC s p q d) = candB _ _ _ (bestC s p q 51)
  rw [bestC_stop s p q d 51 h (by omega)]
theorem list9 {bs : List Int} (h : bs.length = 9) (B : Nat → Int) (hB : ∀ i, bs[i]?.getD 0 = B i) : [B 0, B 1, B 2, B 3, B 4, B 5, B 6, B 7, B 8] = bs := by
  match bs, h with
  | [a, b, c, d, e, f, g, i, j], _ =>
    have h0 := hB 0; have h1 := hB 1; have h2 := hB 2; have h3 := hB 3; have h4 := hB 4; have h5 := hB 5; have h6 := hB 6; have h7 := hB 7; have h8 := hB 8
    simp at h0 h1 h2 h3 h4 h5 h6 h7 h8
    rw [← h0, ← h1, ← h2, ← h3, ← h4, ← h5, ← h6, ← h7, ← h8]
end Go.Proofs.Ytpmmnjmlnjdkjaa
