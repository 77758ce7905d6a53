/- The text of an instruction and its size, in plain words; no program. -/
import Derived.Test.YtpeieilbjadcfaaGreatDoorProg
import Derived.Test.YtpeieilbjadcfaaGreatDoorHex
import Derived.Test.YtpeieilbjadcfaaGreatDoorCodesTab
namespace Go.Proofs.YtpeieilbjadcfaaGreatDoor
set_option linter.unusedVariables false

def wideB (w p : Nat) : Bool := (decide (w = 1) && decide (p / 32 % 2 = 0)) || (decide (w = 2) && decide (p / 16 % 2 = 0))
def opN (m w p : Nat) : Nat :=
  if m = 0 ∨ m = 1 then 0 else if m = 16 ∨ m = 17 then 3 else if m = 4 ∨ m = 13 ∨ m = 14 ∨ m = 15 ∨ m = 18 ∨ m = 19 ∨ m = 20 ∨ m = 23 ∨ m = 25 then 2 else if m = 2 ∧ wideB w p = true then 2 else 1
theorem opN_le (m w p : Nat) : opN m w p ≤ 3 := by unfold opN; split <;> (try split) <;> (try split) <;> (try split) <;> omega
def opK (k p : Nat) : Nat := opN (modeN k) (widthN k) p
/-- The number whose bytes these are, the lowest first. -/
def leN : List Int → Int
  | [] => 0
  | b :: r => b + 256 * leN r
theorem leN_bounds : ∀ (l : List Int), (∀ b ∈ l, 0 ≤ b ∧ b ≤ 255) → 0 ≤ leN l ∧ leN l < 256 ^ l.length
  | [], _ => by simp [leN]
  | b :: r, h => by
    have h1 := leN_bounds r fun x hx => h x (List.mem_cons_of_mem _ hx)
    have h2 := h b List.mem_cons_self
    rw [leN, List.length_cons, Int.pow_succ]
    omega
def numL (x n : Nat) : List UInt8 := 36 :: hexL false x (2 * n)
/-- A mode's sign with a number in the places of its letters. -/
def signG (num : List UInt8) : List UInt8 → List UInt8
  | [] => []
  | c :: r => (if c = 100 ∨ c = 97 ∨ c = 108 then num else if c = 35 then 35 :: num else [c]) ++ signG num r
/-- A branch's target. -/
def tgtN (n x pc : Nat) : Nat := (pc + 1 + n + (if n = 1 ∧ 128 ≤ x then x + 65280 else x)) % 65536
def toldL (m n x pc : Nat) : List UInt8 :=
  if m = 1 then [65] else if m = 3 ∨ m = 4 then 36 :: hexL false (tgtN n x pc) 4
  else if m = 23 then (36 :: hexL false (x % 256) 2) ++ (44 :: 36 :: hexL false (x / 256) 2)
  else if 24 ≤ m then numL x n else signG (numL x n) (signB m).data.toList
def bytesB (l : List UInt8) : ByteArray := ⟨l.toArray⟩
def textB (k x n pc : Nat) : ByteArray := if modeN k = 0 then nameB k else bytesB ((nameB k).data.toList ++ 32 :: toldL (modeN k) n x pc)
/-- What Text answers of bytes. -/
def textV (xs : List Int) (pc p : Nat) : Value :=
  if xs.length = 0 ∨ xs.length < 1 + opK (xs[0]?.getD 0).toNat p then .tuple #[.string ⟨#[]⟩, .int .i64 0, .bool false]
  else .tuple #[.string (textB (xs[0]?.getD 0).toNat (leN ((xs.drop 1).take (opK (xs[0]?.getD 0).toNat p))).toNat (opK (xs[0]?.getD 0).toNat p) pc), .int .i64 ((1 + opK (xs[0]?.getD 0).toNat p : Nat) : Int), .bool true]
end Go.Proofs.YtpeieilbjadcfaaGreatDoor
