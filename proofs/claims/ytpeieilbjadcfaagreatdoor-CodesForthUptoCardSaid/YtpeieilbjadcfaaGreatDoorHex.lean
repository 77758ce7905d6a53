/- Numbers to the base 16 as rows of bytes, in plain words; no program. -/
import Derived.Test.YtpeieilbjadcfaaGreatDoorProg
namespace Go.Proofs.YtpeieilbjadcfaaGreatDoor
set_option linter.unusedVariables false

/-- A digit's byte; up: with capital letters. -/
def hexD (up : Bool) (d : Nat) : UInt8 := if d < 10 then UInt8.ofNat (48 + d) else if up then UInt8.ofNat (55 + d) else UInt8.ofNat (87 + d)
/-- The last n digits of x. -/
def hexL (up : Bool) : Nat → Nat → List UInt8
  | _, 0 => []
  | x, n + 1 => hexL up (x / 16) n ++ [hexD up (x % 16)]
theorem hexL_length (up : Bool) (n : Nat) : ∀ x, (hexL up x n).length = n := by
  induction n with
  | zero => intro x; rfl
  | succ n ih => intro x; rw [hexL, List.length_append, ih]; rfl
theorem hexL_cons (up : Bool) (n : Nat) : ∀ x, hexL up x (n + 1) = hexD up (x / 16 ^ n % 16) :: hexL up x n := by
  induction n with
  | zero => intro x; simp [hexL]
  | succ n ih =>
    intro x
    rw [hexL, ih, hexL, List.cons_append, Nat.div_div_eq_div_mul, show 16 * 16 ^ n = 16 ^ (n + 1) from by rw [Nat.pow_succ, Nat.mul_comm]]
theorem hexL_mod (up : Bool) (n : Nat) : ∀ x, hexL up (x % 16 ^ n) n = hexL up x n := by
  induction n with
  | zero => intro x; rfl
  | succ n ih =>
    intro x
    rw [hexL, hexL, show x % 16 ^ (n + 1) / 16 = x / 16 % 16 ^ n from by rw [Nat.pow_succ, Nat.mul_comm, Nat.mod_mul_right_div_self], ih, show x % 16 ^ (n + 1) % 16 = x % 16 from by rw [Nat.pow_succ, Nat.mul_comm]; exact Nat.mod_mul_right_mod x 16 (16 ^ n)]
/-- How many digits a number has. -/
def hexN : Nat → Nat
  | x => if h : x < 16 then 1 else hexN (x / 16) + 1
termination_by x => x
decreasing_by omega
theorem hexN_small {x : Nat} (h : x < 16) : hexN x = 1 := by rw [hexN, dif_pos h]
theorem hexN_great {x : Nat} (h : ¬ x < 16) : hexN x = hexN (x / 16) + 1 := by rw [hexN, dif_neg h]
theorem hexN_pos (x : Nat) : 1 ≤ hexN x := by
  by_cases h : x < 16
  · rw [hexN_small h]; exact Nat.le_refl _
  · rw [hexN_great h]; omega
theorem hexN_lt (n : Nat) : ∀ x, x < 16 ^ (n + 1) → hexN x ≤ n + 1 := by
  induction n with
  | zero => intro x h; rw [hexN_small (by simpa using h)]; exact Nat.le_refl _
  | succ n ih =>
    intro x h
    by_cases h2 : x < 16
    · rw [hexN_small h2]; omega
    · rw [hexN_great h2]
      have := ih (x / 16) (by rw [Nat.pow_succ] at h; exact (Nat.div_lt_iff_lt_mul (by decide)).2 h)
      omega
theorem lt_hexN (x : Nat) : x < 16 ^ hexN x := by
  induction x using Nat.strongRecOn with
  | ind x ih =>
    by_cases h : x < 16
    · rw [hexN_small h]; omega
    · rw [hexN_great h, Nat.pow_succ]
      have := ih (x / 16) (by omega)
      omega
/-- A number without noughts ahead. -/
def hexM (up : Bool) (x : Nat) : List UInt8 := hexL up x (hexN x)
theorem hexL_zero (up : Bool) (n : Nat) : hexL up 0 n = List.replicate n 48 := by
  induction n with
  | zero => rfl
  | succ n ih => rw [hexL, Nat.zero_div, ih, show hexD up (0 % 16) = 48 from by cases up <;> rfl, List.replicate_succ']
/-- Noughts ahead fill it up. -/
theorem hexL_pad (up : Bool) (x n : Nat) : ∀ k, hexN x = k → k ≤ n → List.replicate (n - k) 48 ++ hexM up x = hexL up x n := by
  induction x using Nat.strongRecOn generalizing n with
  | ind x ih =>
    intro k hk hn
    obtain ⟨m, rfl⟩ : ∃ m, n = m + 1 := ⟨n - 1, by have := hexN_pos x; omega⟩
    by_cases h : x < 16
    · rw [hexN_small h] at hk
      subst hk
      rw [hexL, show x / 16 = 0 by omega, hexL_zero, hexM, hexN_small h, hexL, hexL, List.nil_append, Nat.add_sub_cancel]
    · have h2 := hexN_great h
      rw [hexL, hexM, h2, hexL, ← List.append_assoc]
      have := ih (x / 16) (by omega) m (k - 1) (by omega) (by omega)
      rw [hexM, show m - (k - 1) = m + 1 - k by omega] at this
      rw [this]
theorem hexL_lower (x : Nat) (n : Nat) : ∀ c ∈ hexL false x n, (48 ≤ c ∧ c ≤ 57) ∨ (97 ≤ c ∧ c ≤ 102) := by
  induction n generalizing x with
  | zero => intro c hc; cases hc
  | succ n ih =>
    intro c hc
    rw [hexL] at hc
    rcases List.mem_append.1 hc with h | h
    · exact ih _ c h
    · rw [List.mem_singleton] at h
      subst h
      have : ∀ d : Fin 16, (48 ≤ hexD false d ∧ hexD false d ≤ 57) ∨ (97 ≤ hexD false d ∧ hexD false d ≤ 102) := by decide
      exact this ⟨x % 16, by omega⟩
end Go.Proofs.YtpeieilbjadcfaaGreatDoor
