/- The text of an instruction, in plain words; no program. -/
import Derived.Test.YteabjninmaceaaaGreatDoorProg
import Derived.Test.YteabjninmaceaaaGreatDoorNotesVal0
import Derived.Lib.Join
namespace Go.Proofs.YteabjninmaceaaaGreatDoor
open Go.RowKit
set_option linter.unusedVariables false
set_option linter.unusedSimpArgs false

/-- The first byte: the code. -/
def codeX (xs : List Int) : Nat := (xs[0]?.getD 0).toNat
/-- The bytes behind the code that the instruction has. -/
def restX (xs : List Int) : List Int := (xs.drop 1).take (sizeN (codeX xs) - 1)
/-- The address behind the instruction. -/
def nextX (xs : List Int) (at' : Nat) : Nat := (at' + sizeN (codeX xs)) % 65536
/-- An operand's text. -/
def sayX (k next : Nat) (ys : List Int) (i : Nat) : List UInt8 := opL (ltr (formT k) i).toNat k next (valI (formT k) ys i)
/-- The operands' texts, the first i. -/
def saysX (k next : Nat) (ys : List Int) : Nat → List (List UInt8)
  | 0 => []
  | i + 1 => saysX k next ys i ++ [sayX k next ys i]
/-- The same, with what stands ahead of each. -/
def opsX (k next : Nat) (ys : List Int) : Nat → List UInt8
  | 0 => []
  | i + 1 => opsX k next ys i ++ (if i = 0 then 32 else 44) :: sayX k next ys i
/-- The instruction's text. -/
def insX (xs : List Int) (at' : Nat) : List UInt8 := (nameT (codeX xs)).data.toList ++ opsX (codeX xs) (nextX xs at') (restX xs) (formT (codeX xs)).size
/-- Are there too few bytes? -/
def fewX (xs : List Int) : Bool := decide (xs.length = 0 ∨ xs.length < sizeN (codeX xs))
theorem saysX_length (k next : Nat) (ys : List Int) (n : Nat) : (saysX k next ys n).length = n := by
  induction n with
  | zero => rfl
  | succ n ih => simp [saysX, ih]
theorem ops_join (k next : Nat) (ys : List Int) (n : Nat) (h1 : 1 ≤ n) (h2 : n ≤ 2) : 32 :: Lib.join (saysX k next ys n) [44] = opsX k next ys n := by
  obtain rfl | rfl : n = 1 ∨ n = 2 := by omega
  · simp [saysX, opsX, Lib.join]
  · simp [saysX, opsX, Lib.join]
theorem sayX_length (k next : Nat) (ys : List Int) (i : Nat) : (sayX k next ys i).length ≤ 9 := opL_length _ _ _ _
theorem opsX_length (k next : Nat) (ys : List Int) (n : Nat) : (opsX k next ys n).length ≤ 10 * n := by
  induction n with
  | zero => exact Nat.le_refl _
  | succ n ih =>
    have := sayX_length k next ys n
    simp only [opsX, List.length_append, List.length_cons]; omega
end Go.Proofs.YteabjninmaceaaaGreatDoor
