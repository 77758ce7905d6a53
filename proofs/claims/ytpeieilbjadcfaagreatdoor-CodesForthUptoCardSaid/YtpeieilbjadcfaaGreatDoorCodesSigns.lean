/- Small words for the texts of operands: the modes' signs split, the variables that are read, the operand's number. -/
import Derived.Test.YtpeieilbjadcfaaGreatDoorProg
import Derived.Test.YtpeieilbjadcfaaGreatDoorCodesDig
import Derived.Test.YtpeieilbjadcfaaGreatDoorCodesRefOf
import Derived.Test.YtpeieilbjadcfaaGreatDoorCodesBuild
namespace Go.Proofs.YtpeieilbjadcfaaGreatDoor
open Go.RowKit
set_option linter.unusedVariables false
set_option linter.unusedSimpArgs false

theorem signs_split : Lib.splitB ⟨#[124]⟩ 0 (Lib.countB signsT ⟨#[124]⟩) signsT = (List.range 26).map signT := by decide +kernel
theorem signs_count : Lib.countB signsT ⟨#[124]⟩ = 25 := by decide +kernel
/-- What the calls here read of the package's variables. -/
def Laid (w : World) : Prop := (∃ m, w.cell? ⟨0, 0, none⟩ = some (.int .i64 m)) ∧ w.cell? ⟨7, 15, none⟩ = some (.int .u8 4)
theorem Laid.below {w w' : World} (h : Laid w) (hb : Below w.heap.size w w') : Laid w' := by
  obtain ⟨⟨m, h1⟩, h2⟩ := h
  exact ⟨⟨m, (hb.cell (World.block_lt_of_cell? w _ h1)).trans h1⟩, (hb.cell (World.block_lt_of_cell? w _ h2)).trans h2⟩
theorem leN_drop (xs : List Int) (j : Nat) (h : j < xs.length) : leN (xs.drop j) = xs[j]?.getD 0 + 256 * leN (xs.drop (j + 1)) := by
  rw [List.drop_eq_getElem_cons h, leN, List.getElem?_eq_getElem h]; rfl
theorem or_byte (x y : Int) (h0 : 0 ≤ x) (h1 : x < 65536) (h2 : 0 ≤ y) (h3 : y ≤ 255) : bits .or .u32 (256 * x) y = y + 256 * x := by
  have := bits_join .u32 32 (by decide) (fun n h₀ h₁ => by rw [IntKind.wrap_u32]; omega) 8 (256 * x) y (by omega) (by omega) (by omega) h2 (by omega) (by omega)
  rw [this]; omega
theorem leN_drop_bounds (xs : List Int) (hf : Fits .u8 xs) (hn : xs.length ≤ 3) (j : Nat) (hj : 1 ≤ j) : 0 ≤ leN (xs.drop j) ∧ leN (xs.drop j) < 65536 := by
  have h1 := leN_bounds (xs.drop j) (fun b hb => bounds_u8 (hf b (List.mem_of_mem_drop hb)))
  rcases (show (xs.drop j).length = 0 ∨ (xs.drop j).length = 1 ∨ (xs.drop j).length = 2 by rw [List.length_drop]; omega) with h | h | h
  all_goals
    rw [h] at h1
    omega
end Go.Proofs.YtpeieilbjadcfaaGreatDoor
