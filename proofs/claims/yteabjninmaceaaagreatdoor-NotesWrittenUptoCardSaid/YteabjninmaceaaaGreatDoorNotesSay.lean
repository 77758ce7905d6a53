/- How an operand is written, in plain words; no program. -/
import Derived.Test.YteabjninmaceaaaGreatDoorProg
import Derived.Test.YteabjninmaceaaaGreatDoorNotesRefHex
namespace Go.Proofs.YteabjninmaceaaaGreatDoor
set_option linter.unusedVariables false
set_option linter.unusedSimpArgs false

/-- A bit of an address. -/
def bitL (v : Nat) : List UInt8 := hexL true (v % 8192) 4 ++ 46 :: decL (v / 8192)
/-- A place near what comes next. -/
def relL (next v : Nat) : List UInt8 := hexL true ((next + (if 127 < v then v + 65280 else v)) % 65536) 4
/-- An operand's text: its letter, the code, what comes behind, what its bytes say. -/
def opL (c code next v : Nat) : List UInt8 :=
  if c = 65 then [65] else if c = 88 then [88] else if c = 89 then [89] else if c = 67 then [67]
  else if c = 83 then [83, 80] else if c = 80 then [80, 83, 87] else if c = 87 then [89, 65]
  else if c = 105 then [40, 88, 41] else if c = 106 then [40, 89, 41] else if c = 43 then [40, 88, 41, 43]
  else if c = 35 then 35 :: hexL true v 2 else if c = 100 then hexL true v 2 else if c = 68 then hexL true v 2
  else if c = 120 then hexL true v 2 ++ [43, 88] else if c = 121 then hexL true v 2 ++ [43, 89]
  else if c = 97 then 33 :: hexL true v 4 else if c = 112 then 33 :: (hexL true v 4 ++ [43, 88]) else if c = 113 then 33 :: (hexL true v 4 ++ [43, 89])
  else if c = 108 then 91 :: (hexL true v 2 ++ [43, 88, 93]) else if c = 109 then 91 :: (hexL true v 2 ++ [93, 43, 89])
  else if c = 42 then [91, 33] ++ (hexL true v 4 ++ [43, 88, 93])
  else if c = 98 then hexL true v 2 ++ 46 :: decL (code / 32)
  else if c = 110 then bitL v else if c = 47 then 47 :: bitL v
  else if c = 117 then [70, 70] ++ hexL true v 2
  else if c = 116 then decL (code / 16)
  else relL next v
/-- The letters of all forms. -/
def ltrs : List Nat := [65, 88, 89, 83, 80, 87, 67, 105, 106, 43, 35, 100, 68, 120, 121, 108, 109, 117, 98, 97, 112, 113, 42, 110, 47, 114, 116]
theorem forms_letters : ∀ k : Fin 256, (formT k.1).data.toList.all (fun b => decide (b.toNat ∈ ltrs)) = true := by decide +kernel
theorem form_letter (k : Nat) (hk : k < 256) (b : UInt8) (h : b ∈ (formT k).data.toList) : b.toNat ∈ ltrs := by
  have := List.all_eq_true.1 (forms_letters ⟨k, hk⟩) b h
  simpa using this
theorem hexL_size (up : Bool) (x n : Nat) : (bytesB (hexL up x n)).size = n := by rw [bytesB_size, hexL_length]
theorem ite_len {p : Prop} [Decidable p] {a b : List UInt8} {n : Nat} (ha : a.length ≤ n) (hb : b.length ≤ n) : (if p then a else b).length ≤ n := by split <;> assumption
theorem opL_length (c code next v : Nat) : (opL c code next v).length ≤ 9 := by
  have hd : ∀ x, (decL x).length ≤ 2 := fun x => by unfold decL; split <;> simp [hexL_length]
  have h1 := hd (code / 32)
  have h2 := hd (code / 16)
  have h3 := hd (v / 8192)
  unfold opL bitL relL
  repeat' refine ite_len ?_ ?_
  all_goals (simp only [List.length_cons, List.length_nil, List.length_append, hexL_length] <;> omega)
end Go.Proofs.YteabjninmaceaaaGreatDoor
