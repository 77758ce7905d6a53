/- The bytes that are tried at a told text are the operand; no program. -/
import Derived.Test.YtpeieilbjadcfaaGreatDoorCodesInv
namespace Go.Proofs.YtpeieilbjadcfaaGreatDoor
open Go.RowKit
set_option linter.unusedVariables false

/-- The low bytes of a number. -/
def leB : Nat → Nat → List Int
  | _, 0 => []
  | x, n + 1 => ((x % 256 : Nat) : Int) :: leB (x / 256) n
theorem leB_length (n : Nat) : ∀ x, (leB x n).length = n := by
  induction n with
  | zero => intro x; rfl
  | succ n ih => intro x; rw [leB, List.length_cons, ih]
theorem leB_fits (n : Nat) : ∀ x, Fits .u8 (leB x n) := by
  induction n with
  | zero => intro x y hy; cases hy
  | succ n ih =>
    intro x y hy
    rw [leB] at hy
    rcases List.mem_cons.1 hy with rfl | hy
    · have : x % 256 < 256 := Nat.mod_lt _ (by decide)
      exact WalkArith.wf_u8 (by omega)
    · exact ih _ y hy
theorem leB_leN (ys : List Int) (hf : Fits .u8 ys) : leB (leN ys).toNat ys.length = ys := by
  induction ys with
  | nil => rfl
  | cons y r ih =>
    have hy := bounds_u8 (hf y List.mem_cons_self)
    have hr := (leN_bounds r fun b hb => bounds_u8 (hf b (List.mem_cons_of_mem _ hb))).1
    rw [List.length_cons, leB, leN, show (y + 256 * leN r).toNat % 256 = y.toNat by omega, show (y + 256 * leN r).toNat / 256 = (leN r).toNat by omega, ih fun b hb => hf b (List.mem_cons_of_mem _ hb), Int.toNat_of_nonneg hy.1]

/-- What the program takes a text's number for. -/
def adjN (m n x pc : Nat) : Nat := if m = 3 ∨ m = 4 then (x % 65536 + 131072 - pc - n - 1) % 65536 else if m = 23 then x / 256 % 256 + x % 256 * 256 else x
/-- The low bytes of an integer, as the document cuts them. -/
def reB : Int → Nat → List Int
  | _, 0 => []
  | x, n + 1 => IntKind.u8.wrap (x.tmod 256) :: reB (x.tdiv 256) n
theorem reB_length (n : Nat) : ∀ x, (reB x n).length = n := by
  induction n with
  | zero => intro x; rfl
  | succ n ih => intro x; rw [reB, List.length_cons, ih]
theorem reB_fits (n : Nat) : ∀ x, Fits .u8 (reB x n) := by
  induction n with
  | zero => intro x y hy; cases hy
  | succ n ih =>
    intro x y hy
    rw [reB] at hy
    rcases List.mem_cons.1 hy with rfl | hy
    · rw [IntKind.wrap_u8]
      exact WalkArith.wf_u8 (by omega)
    · exact ih _ y hy
theorem reB_leB (n : Nat) : ∀ x : Nat, reB (x : Int) n = leB x n := by
  induction n with
  | zero => intro x; rfl
  | succ n ih =>
    intro x
    have e1 : (x : Int).tmod 256 = ((x % 256 : Nat) : Int) := by rw [Int.tmod_eq_emod_of_nonneg (by omega)]; omega
    have e2 : (x : Int).tdiv 256 = ((x / 256 : Nat) : Int) := by rw [Int.tdiv_eq_ediv_of_nonneg (by omega)]; omega
    have : x % 256 < 256 := Nat.mod_lt _ (by decide)
    rw [reB, leB, e1, e2, ih, IntKind.wrap_u8]
    congr 1
    omega
/-- What the document takes a text's number for. -/
def adjR (m n : Nat) (z : Int) (pc : Nat) : Int := if m = 3 ∨ m = 4 then z - pc - 1 - n + 131072 else if m = 23 then (z.tdiv 256).tmod 256 + z.tmod 256 * 256 else z

theorem opN_of (m w p : Nat) (hm : m ≤ 25) : (m = 0 ∨ m = 1 → opN m w p = 0) ∧ (m = 3 → opN m w p = 1) ∧ (m = 4 ∨ m = 23 → opN m w p = 2) := by
  refine ⟨?_, ?_, ?_⟩
  · rintro (rfl | rfl) <;> simp [opN]
  · rintro rfl; simp [opN]
  · rintro (rfl | rfl) <;> simp [opN]
theorem leN_lim (o : List Int) (hf : Fits .u8 o) (n : Nat) (hn : o.length = n) : (leN o).toNat < 256 ^ n := by
  have h := leN_bounds o fun b hb => bounds_u8 (hf b hb)
  rw [hn] at h
  have h2 : ((256 : Int) ^ n) = ((256 ^ n : Nat) : Int) := by rw [Int.natCast_pow]; rfl
  rw [h2] at h
  omega
theorem pow_16 (n : Nat) : (16 : Nat) ^ (2 * n) = 256 ^ n := by rw [Nat.pow_mul]
/-- The numbers that are read of a told operand. -/
theorem told_nums (m n x pc : Nat) (h2 : 2 ≤ m) (hm : m ≤ 25) (hn : n ≤ 3) (h23 : m = 23 → n = 2) (hx : x < 256 ^ n) :
    numsN (toldL m n x pc) = (if m = 3 ∨ m = 4 then tgtN n x pc else if m = 23 then x % 256 * 256 + x / 256 else x) ∧ numR 0 false (toldL m n x pc) = (if m = 3 ∨ m = 4 then tgtN n x pc else if m = 23 then x % 256 * 256 + x / 256 else x) := by
  have h16 : x < 16777216 := Nat.lt_of_lt_of_le hx (by rw [show (16777216 : Nat) = 256 ^ 3 from rfl]; exact Nat.pow_le_pow_right (by decide) hn)
  by_cases e23 : m = 23
  · subst e23
    have hn2 := h23 rfl
    subst hn2
    rw [told_two, if_neg (by omega), if_pos rfl]
    have a1 : hexNum 0 (hexL false (x % 256) 2) = x % 256 := by rw [hexNum_hexL]; omega
    have hx2 : x < 65536 := hx
    have a2 : hexNum 0 (hexL false (x / 256) 2) = x / 256 := by rw [hexNum_hexL]; omega
    refine ⟨?_, ?_⟩
    · rw [numsN_two _ _ _ (hexL_hex _ _) (hexL_hex _ _) (by decide) (by rw [a1]; omega) (by rw [a2]; omega), a1, a2]
    · rw [numR_two _ _ _ (hexL_hex _ _) (hexL_hex _ _) (by decide), a1, hexNum_hexL]
      omega
  · obtain ⟨A, S, hA, hS, e⟩ := told_one m n x pc h2 hm e23
    rw [e]
    have hv : hexNum 0 (hexL false (if m = 3 ∨ m = 4 then tgtN n x pc else x) (if m = 3 ∨ m = 4 then 4 else 2 * n)) = if m = 3 ∨ m = 4 then tgtN n x pc else x := by
      rw [hexNum_hexL, Nat.zero_mul, Nat.zero_add]
      by_cases h34 : m = 3 ∨ m = 4
      · rw [if_pos h34, if_pos h34]
        unfold tgtN
        omega
      · rw [if_neg h34, if_neg h34, pow_16, Nat.mod_eq_of_lt hx]
    have hl : (if m = 3 ∨ m = 4 then tgtN n x pc else x) ≤ 4294967295 := by
      split
      · unfold tgtN; omega
      · omega
    rw [numsN_one A _ S (fun c hc => (hA c hc).1) (hexL_hex _ _) hS (by rw [hv]; exact hl), numR_one A _ S hA (hexL_hex _ _) hS, hv, if_neg e23]
    exact ⟨rfl, rfl⟩
theorem two_bytes (u v : Nat) (hu : u < 256) (hv : v < 256) : (u * 256 + v) / 256 % 256 = u ∧ (u * 256 + v) % 256 = v := by omega
theorem two_bytesI (u v : Nat) (hu : u < 256) (hv : v < 256) : ((u * 256 + v : Nat) : Int) / 256 % 256 = u ∧ ((u * 256 + v : Nat) : Int) % 256 = v := by omega
/-- What is tried is the operand. -/
theorem adj_told (m n x pc : Nat) (hpc : pc < 65536) (hm : m ≤ 25) (h2 : 2 ≤ m) (h3 : m = 3 → n = 1) (h4 : m = 4 ∨ m = 23 → n = 2) (hn : n ≤ 3) (hx : x < 256 ^ n) :
    leB (adjN m n (numsN (toldL m n x pc)) pc) n = leB x n ∧ reB (adjR m n (numR 0 false (toldL m n x pc) : Nat) pc) n = leB x n := by
  obtain ⟨e1, e2⟩ := told_nums m n x pc h2 hm hn (fun h => h4 (.inr h)) hx
  rw [e1, e2]
  by_cases e3 : m = 3
  · subst e3
    obtain rfl := h3 rfl
    have hx2 : x < 256 := hx
    simp only [true_or, if_true, adjN, adjR]
    have ht : tgtN 1 x pc < 65536 := by unfold tgtN; omega
    refine ⟨?_, ?_⟩
    · have : (tgtN 1 x pc % 65536 + 131072 - pc - 1 - 1) % 65536 % 256 = x % 256 := by unfold tgtN; split <;> omega
      simp only [leB, this]
    · have e : ((tgtN 1 x pc : Nat) : Int) - pc - 1 - ((1 : Nat) : Int) + 131072 = ((tgtN 1 x pc + 131072 - pc - 1 - 1 : Nat) : Int) := by omega
      rw [e, reB_leB]
      have : (tgtN 1 x pc + 131072 - pc - 1 - 1) % 256 = x % 256 := by unfold tgtN; split <;> omega
      simp only [leB, this]
  · by_cases e4 : m = 4
    · subst e4
      obtain rfl := h4 (.inl rfl)
      have hx2 : x < 65536 := hx
      simp only [or_true, if_true, adjN, adjR]
      have ht : tgtN 2 x pc = (pc + 3 + x) % 65536 := by unfold tgtN; rw [if_neg (by omega)]
      refine ⟨?_, ?_⟩
      · have : (tgtN 2 x pc % 65536 + 131072 - pc - 2 - 1) % 65536 = x := by rw [ht]; omega
        rw [this]
      · have e : ((tgtN 2 x pc : Nat) : Int) - pc - 1 - ((2 : Nat) : Int) + 131072 = ((tgtN 2 x pc + 131072 - pc - 1 - 2 : Nat) : Int) := by omega
        rw [e, reB_leB]
        have a1 : (tgtN 2 x pc + 131072 - pc - 1 - 2) % 256 = x % 256 := by rw [ht]; omega
        have a2 : (tgtN 2 x pc + 131072 - pc - 1 - 2) / 256 % 256 = x / 256 % 256 := by rw [ht]; omega
        simp only [leB, a1, a2]
    · have e34 : ¬ (m = 3 ∨ m = 4) := by omega
      simp only [e34, if_false, adjN, adjR]
      by_cases e23 : m = 23
      · subst e23
        obtain rfl := h4 (.inr rfl)
        have hx2 : x < 65536 := hx
        simp only [if_true]
        clear e1 e2 h4 h3 e34 hx
        obtain ⟨u, hu⟩ : ∃ u, x % 256 = u := ⟨_, rfl⟩
        obtain ⟨v, hv⟩ : ∃ v, x / 256 = v := ⟨_, rfl⟩
        have hu2 : u < 256 := by omega
        have hv2 : v < 256 := by omega
        have hxe : x = v * 256 + u := by omega
        rw [hu, hv]
        obtain ⟨q1, q2⟩ := two_bytes u v hu2 hv2
        refine ⟨?_, ?_⟩
        · rw [q1, q2, Nat.add_comm, ← hxe]
        · rw [Int.tdiv_eq_ediv_of_nonneg (by omega), Int.tmod_eq_emod_of_nonneg (by omega), Int.tmod_eq_emod_of_nonneg (by omega)]
          obtain ⟨q3, q4⟩ := two_bytesI u v hu2 hv2
          rw [q3, q4, show (u : Int) + (v : Int) * 256 = (x : Int) by rw [hxe]; omega, reB_leB]
      · simp only [e23, if_false]
        exact ⟨trivial, reB_leB _ _⟩
end Go.Proofs.YtpeieilbjadcfaaGreatDoor
