/- What is read of a told operand is the operand again: numbers to the base 16 within a text, in plain words; no program. -/
import Derived.Test.YtpeieilbjadcfaaGreatDoorProg
import Derived.Test.YtpeieilbjadcfaaGreatDoorKit
import Derived.Test.YtpeieilbjadcfaaGreatDoorCodesStr
import Derived.Lib.Split
import Derived.Lib.IndexBytes
namespace Go.Proofs.YtpeieilbjadcfaaGreatDoor
open Go.RowKit
set_option linter.unusedVariables false

/-- Is it a small digit of the base 16? Its value. -/
def isHex (c : UInt8) : Bool := (decide (48 ≤ c) && decide (c ≤ 57)) || (decide (97 ≤ c) && decide (c ≤ 102))
def hexVal (c : UInt8) : Nat := if c ≤ 57 then c.toNat - 48 else c.toNat - 87
theorem hexD_is : ∀ d : Fin 16, isHex (hexD false d) = true ∧ hexVal (hexD false d) = d := by decide
theorem hexVal_lt (c : UInt8) (h : isHex c = true) : hexVal c < 16 := by
  have h2 : ∀ k : Fin 256, isHex (UInt8.ofNat k) = true → hexVal (UInt8.ofNat k) < 16 := by decide +kernel
  have := h2 ⟨c.toNat, c.toNat_lt⟩
  simp only [UInt8.ofNat_toNat] at this
  exact this h
/-- The number that digits are, behind a number. -/
def hexNum (x : Nat) (l : List UInt8) : Nat := l.foldl (fun x c => 16 * x + hexVal c) x
theorem hexNum_nil (x : Nat) : hexNum x [] = x := rfl
theorem hexNum_cons (x : Nat) (c : UInt8) (r : List UInt8) : hexNum x (c :: r) = hexNum (16 * x + hexVal c) r := rfl
theorem hexNum_append (x : Nat) (a b : List UInt8) : hexNum x (a ++ b) = hexNum (hexNum x a) b := List.foldl_append
theorem hexNum_hexL (n : Nat) : ∀ v x, hexNum x (hexL false v n) = x * 16 ^ n + v % 16 ^ n := by
  induction n with
  | zero => intro v x; simp [hexL, hexNum]; omega
  | succ n ih =>
    intro v x
    have h1 := (hexD_is ⟨v % 16, by omega⟩).2
    dsimp only at h1
    rw [hexL, hexNum_append, ih, hexNum_cons, hexNum_nil, h1, show (16 : Nat) ^ (n + 1) = 16 * 16 ^ n by rw [Nat.pow_succ, Nat.mul_comm], Nat.mod_mul, Nat.mul_add, ← Nat.mul_assoc, ← Nat.mul_assoc, Nat.mul_comm 16 x]
    omega
theorem hexL_hex (n : Nat) : ∀ v, ∀ c ∈ hexL false v n, isHex c = true := by
  induction n with
  | zero => intro v c hc; cases hc
  | succ n ih =>
    intro v c hc
    rw [hexL] at hc
    rcases List.mem_append.1 hc with h | h
    · exact ih _ c h
    · rw [List.mem_singleton] at h
      subst h
      exact (hexD_is ⟨v % 16, by omega⟩).1
theorem hexNum_ge (x : Nat) (l : List UInt8) : x ≤ hexNum x l := by
  induction l generalizing x with
  | nil => exact Nat.le_refl _
  | cons c r ih => rw [hexNum_cons]; exact Nat.le_trans (by omega) (ih _)
theorem hex_ne (c : UInt8) (h : isHex c = true) : c ≠ 36 := by rintro rfl; revert h; decide

/-- A part's number in the program: its digits ahead, at most the greatest. -/
def hexPre (l : List UInt8) : List UInt8 := l.takeWhile isHex
def partN (l : List UInt8) : Nat := if hexNum 0 (hexPre l) ≤ 4294967295 then hexNum 0 (hexPre l) else 4294967295
def joinN (x : Nat) (l : List UInt8) : Nat := (x * 256 % 4294967296) ||| partN l
/-- The program's numbers of a text. -/
def numsN (l : List UInt8) : Nat := ((Lib.split l [36]).drop 1).foldl joinN 0
theorem hexPre_eq (H S : List UInt8) (hH : ∀ c ∈ H, isHex c = true) (hS : ∀ c ∈ S, isHex c = false) : hexPre (H ++ S) = H := by
  unfold hexPre
  induction H with
  | nil =>
    cases S with
    | nil => rfl
    | cons s r => rw [List.nil_append, List.takeWhile_cons, hS s List.mem_cons_self]; rfl
  | cons c r ih =>
    rw [List.cons_append, List.takeWhile_cons, hH c List.mem_cons_self, if_pos rfl, ih (fun x hx => hH x (List.mem_cons_of_mem _ hx))]
theorem index_none (d : UInt8) (a : List UInt8) (h : ∀ c ∈ a, c ≠ d) : Lib.index a [d] = -1 := by
  rw [Lib.index_one]
  induction a with
  | nil => rfl
  | cons c r ih =>
    unfold Lib.indexByte
    rw [if_neg (by rw [beq_iff_eq]; exact h c List.mem_cons_self), ih (fun x hx => h x (List.mem_cons_of_mem _ hx))]; rfl
theorem index_hit (d : UInt8) (a b : List UInt8) (h : ∀ c ∈ a, c ≠ d) : Lib.index (a ++ d :: b) [d] = (a.length : Int) := by
  rw [Lib.index_one]
  induction a with
  | nil => rw [List.nil_append]; unfold Lib.indexByte; rw [if_pos (by rw [beq_iff_eq])]; rfl
  | cons c r ih =>
    rw [List.cons_append]
    unfold Lib.indexByte
    rw [if_neg (by rw [beq_iff_eq]; exact h c List.mem_cons_self), ih (fun x hx => h x (List.mem_cons_of_mem _ hx)), if_neg (by rw [beq_iff_eq]; omega), List.length_cons]
    rfl
theorem cut_none (d : UInt8) (a : List UInt8) (h : ∀ c ∈ a, c ≠ d) : Lib.cut a [d] = (a, [], false) := by
  unfold Lib.cut
  rw [index_none d a h, if_neg (by omega)]
theorem cut_hit (d : UInt8) (a b : List UInt8) (h : ∀ c ∈ a, c ≠ d) : Lib.cut (a ++ d :: b) [d] = (a, b, true) := by
  unfold Lib.cut
  rw [index_hit d a b h, if_pos (by omega)]
  simp
theorem first_cut (d : UInt8) (l : List UInt8) : (∀ c ∈ l, c ≠ d) ∨ ∃ a b, l = a ++ d :: b ∧ ∀ c ∈ a, c ≠ d := by
  induction l with
  | nil => exact .inl (by intro c hc; cases hc)
  | cons c r ih =>
    by_cases hc : c = d
    · subst hc; exact .inr ⟨[], r, rfl, by intro x hx; cases hx⟩
    · rcases ih with h | ⟨a, b, rfl, h⟩
      · exact .inl fun x hx => by rcases List.mem_cons.1 hx with rfl | hx; exact hc; exact h x hx
      · exact .inr ⟨c :: a, b, rfl, fun x hx => by rcases List.mem_cons.1 hx with rfl | hx; exact hc; exact h x hx⟩
theorem split_none (a : List UInt8) (h : ∀ c ∈ a, c ≠ 36) : Lib.split a [36] = [a] := by
  unfold Lib.split
  rw [Lib.count_miss (index_none 36 a h)]; rfl
theorem split_hit (a b : List UInt8) (h : ∀ c ∈ a, c ≠ 36) : Lib.split (a ++ 36 :: b) [36] = a :: Lib.split b [36] := by
  unfold Lib.split
  have hi := index_hit 36 a b h
  have hd : (a ++ 36 :: b).drop (a.length + [(36 : UInt8)].length) = b := by
    rw [List.length_singleton, show a ++ 36 :: b = (a ++ [36]) ++ b by simp]
    exact List.drop_left' (by simp)
  rw [Lib.count_hit (by simp) hi, hd, Nat.add_comm 1, Lib.splitK, hi, if_neg (by rw [beq_iff_eq]; omega), Int.toNat_natCast, hd, Nat.add_zero]
  congr 1
  exact List.take_left' rfl
theorem numsN_none (a : List UInt8) (h : ∀ c ∈ a, c ≠ 36) : numsN a = 0 := by unfold numsN; rw [split_none a h]; rfl
theorem numsN_one (A H S : List UInt8) (hA : ∀ c ∈ A, c ≠ 36) (hH : ∀ c ∈ H, isHex c = true) (hS : ∀ c ∈ S, c ≠ 36 ∧ isHex c = false) (hl : hexNum 0 H ≤ 4294967295) : numsN (A ++ 36 :: (H ++ S)) = hexNum 0 H := by
  unfold numsN
  rw [split_hit A _ hA, split_none _ (fun c hc => by rcases List.mem_append.1 hc with h | h; exact hex_ne c (hH c h); exact (hS c h).1)]
  show joinN 0 (H ++ S) = _
  unfold joinN partN
  rw [hexPre_eq H S hH (fun c hc => (hS c hc).2), if_pos hl]
  simp
theorem or_byteN (x y : Nat) (hx : x < 16777216) (hy : y < 256) : (x * 256 % 4294967296) ||| y = x * 256 + y := by
  rw [Nat.mod_eq_of_lt (by omega), show x * 256 = 2 ^ 8 * x by omega, Nat.two_pow_add_eq_or_of_lt (by omega)]
theorem numsN_two (H S K : List UInt8) (hH : ∀ c ∈ H, isHex c = true) (hK : ∀ c ∈ K, isHex c = true) (hS : ∀ c ∈ S, c ≠ 36 ∧ isHex c = false) (h1 : hexNum 0 H < 256) (h2 : hexNum 0 K < 256) : numsN (36 :: (H ++ S) ++ 36 :: K) = hexNum 0 H * 256 + hexNum 0 K := by
  unfold numsN
  rw [show 36 :: (H ++ S) ++ 36 :: K = [] ++ 36 :: ((H ++ S) ++ 36 :: K) by simp, split_hit [] _ (by intro c hc; cases hc), split_hit (H ++ S) K (fun c hc => by rcases List.mem_append.1 hc with h | h; exact hex_ne c (hH c h); exact (hS c h).1), split_none K (fun c hc => hex_ne c (hK c hc))]
  show joinN (joinN 0 (H ++ S)) K = _
  have e1 : joinN 0 (H ++ S) = hexNum 0 H := by
    unfold joinN partN
    rw [hexPre_eq H S hH (fun c hc => (hS c hc).2), if_pos (by omega)]
    simp
  have e2 : partN K = hexNum 0 K := by
    have := hexPre_eq K [] hK (by intro c hc; cases hc)
    rw [List.append_nil] at this
    unfold partN
    rw [this, if_pos (by omega)]
  rw [e1]
  unfold joinN
  rw [e2, or_byteN _ _ (by omega) h2]

/-- The document's number of a text: the digits behind a $. -/
def numR : Nat → Bool → List UInt8 → Nat
  | x, _, [] => x
  | x, b, c :: r => numR (if isHex c = true ∧ b = true then 16 * x + hexVal c else x) (decide (c = 36) || isHex c) r
theorem numR_skip (x : Nat) (A r : List UInt8) (hA : ∀ c ∈ A, c ≠ 36 ∧ isHex c = false) : numR x false (A ++ r) = numR x false r := by
  induction A with
  | nil => rfl
  | cons c t ih =>
    have h := hA c List.mem_cons_self
    rw [List.cons_append, numR, if_neg (by rw [h.2]; simp), h.2, show (decide (c = 36) || false) = false by simp [h.1], ih (fun x hx => hA x (List.mem_cons_of_mem _ hx))]
theorem numR_end (x : Nat) (b : Bool) (S : List UInt8) (hS : ∀ c ∈ S, c ≠ 36 ∧ isHex c = false) : numR x b S = x := by
  induction S generalizing b with
  | nil => rfl
  | cons c t ih =>
    have h := hS c List.mem_cons_self
    rw [numR, if_neg (by rw [h.2]; simp), ih _ (fun x hx => hS x (List.mem_cons_of_mem _ hx))]
theorem numR_dollar (x : Nat) (b : Bool) (r : List UInt8) : numR x b (36 :: r) = numR x true r := by
  rw [numR, if_neg (by rintro ⟨h, _⟩; revert h; decide)]; rfl
theorem numR_hex (x : Nat) (H r : List UInt8) (hH : ∀ c ∈ H, isHex c = true) : numR x true (H ++ r) = numR (hexNum x H) true r := by
  induction H generalizing x with
  | nil => rfl
  | cons c t ih =>
    have h := hH c List.mem_cons_self
    rw [List.cons_append, numR, if_pos ⟨h, rfl⟩, h, Bool.or_true, ih _ (fun x hx => hH x (List.mem_cons_of_mem _ hx)), hexNum_cons]
theorem numR_one (A H S : List UInt8) (hA : ∀ c ∈ A, c ≠ 36 ∧ isHex c = false) (hH : ∀ c ∈ H, isHex c = true) (hS : ∀ c ∈ S, c ≠ 36 ∧ isHex c = false) : numR 0 false (A ++ 36 :: (H ++ S)) = hexNum 0 H := by
  rw [numR_skip _ _ _ hA, numR_dollar, numR_hex _ _ _ hH, numR_end _ _ _ hS]
theorem numR_two (H S K : List UInt8) (hH : ∀ c ∈ H, isHex c = true) (hK : ∀ c ∈ K, isHex c = true) (hS : ∀ c ∈ S, c ≠ 36 ∧ isHex c = false) : numR 0 false (36 :: (H ++ S) ++ 36 :: K) = hexNum (hexNum 0 H) K := by
  have aux : ∀ (x : Nat) (b : Bool), numR x b (S ++ 36 :: K) = numR x true K := by
    intro x b
    cases S with
    | nil => exact numR_dollar _ _ _
    | cons c t =>
      have h := hS c List.mem_cons_self
      rw [List.cons_append, numR, if_neg (by rw [h.2]; simp), h.2, show (decide (c = 36) || false) = false by simp [h.1], numR_skip _ _ _ (fun x hx => hS x (List.mem_cons_of_mem _ hx)), numR_dollar]
  rw [List.cons_append, numR_dollar, List.append_assoc, numR_hex _ _ _ hH, aux]
  have := numR_hex (hexNum 0 H) K [] hK
  rw [List.append_nil] at this
  rw [this]; rfl

/-- How an operand's text lies round its number. -/
theorem told_one (m n x pc : Nat) (h2 : 2 ≤ m) (hm : m ≤ 25) (h23 : m ≠ 23) : ∃ A S, (∀ c ∈ A, c ≠ 36 ∧ isHex c = false) ∧ (∀ c ∈ S, c ≠ 36 ∧ isHex c = false) ∧
    toldL m n x pc = A ++ 36 :: (hexL false (if m = 3 ∨ m = 4 then tgtN n x pc else x) (if m = 3 ∨ m = 4 then 4 else 2 * n) ++ S) := by
  have hs : signB m = signT m := sign_ok ⟨m, by omega⟩
  unfold toldL
  rw [hs]
  unfold numL
  rcases (show m = 2 ∨ m = 3 ∨ m = 4 ∨ m = 5 ∨ m = 6 ∨ m = 7 ∨ m = 8 ∨ m = 9 ∨ m = 10 ∨ m = 11 ∨ m = 12 ∨ m = 13 ∨ m = 14 ∨ m = 15 ∨ m = 16 ∨ m = 17 ∨ m = 18 ∨ m = 19 ∨ m = 20 ∨ m = 21 ∨ m = 22 ∨ m = 24 ∨ m = 25 by omega) with rfl | rfl | rfl | rfl | rfl | rfl | rfl | rfl | rfl | rfl | rfl | rfl | rfl | rfl | rfl | rfl | rfl | rfl | rfl | rfl | rfl | rfl | rfl
  · exact ⟨[35], [], by simp [isHex], by simp, by simp [signT, signG]⟩
  · exact ⟨[], [], by simp, by simp, by simp⟩
  · exact ⟨[], [], by simp, by simp, by simp⟩
  · exact ⟨[], [], by simp, by simp, by simp [signT, signG]⟩
  · exact ⟨[], [44, 120], by simp, by decide, by simp [signT, signG]⟩
  · exact ⟨[], [44, 121], by simp, by decide, by simp [signT, signG]⟩
  · exact ⟨[40], [41], by decide, by decide, by simp [signT, signG]⟩
  · exact ⟨[91], [93], by decide, by decide, by simp [signT, signG]⟩
  · exact ⟨[40], [44, 120, 41], by decide, by decide, by simp [signT, signG]⟩
  · exact ⟨[40], [41, 44, 121], by decide, by decide, by simp [signT, signG]⟩
  · exact ⟨[91], [93, 44, 121], by decide, by decide, by simp [signT, signG]⟩
  · exact ⟨[], [], by simp, by simp, by simp [signT, signG]⟩
  · exact ⟨[], [44, 120], by simp, by decide, by simp [signT, signG]⟩
  · exact ⟨[], [44, 121], by simp, by decide, by simp [signT, signG]⟩
  · exact ⟨[], [], by simp, by simp, by simp [signT, signG]⟩
  · exact ⟨[], [44, 120], by simp, by decide, by simp [signT, signG]⟩
  · exact ⟨[40], [41], by decide, by decide, by simp [signT, signG]⟩
  · exact ⟨[91], [93], by decide, by decide, by simp [signT, signG]⟩
  · exact ⟨[40], [44, 120, 41], by decide, by decide, by simp [signT, signG]⟩
  · exact ⟨[], [44, 115], by simp, by decide, by simp [signT, signG]⟩
  · exact ⟨[40], [44, 115, 41, 44, 121], by decide, by decide, by simp [signT, signG]⟩
  · exact ⟨[], [], by simp, by simp, by simp⟩
  · exact ⟨[], [], by simp, by simp, by simp⟩
theorem told_two (n x pc : Nat) : toldL 23 n x pc = 36 :: (hexL false (x % 256) 2 ++ [44]) ++ 36 :: hexL false (x / 256) 2 := by
  simp [toldL]
end Go.Proofs.YtpeieilbjadcfaaGreatDoor
