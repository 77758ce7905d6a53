/- awake: an instruction is told. -/
import Derived.Test.YtpeieilbjadcfaaGreatDoorProg
import Derived.Test.YtpeieilbjadcfaaGreatDoorCodesText
namespace Go.Proofs.YtpeieilbjadcfaaGreatDoor
open Go.RowKit
set_option linter.unusedVariables false
set_option linter.unusedSimpArgs false

theorem awake_text : textV [169, 52, 18] 0 0 = .tuple #[.string ⟨#[76, 68, 65, 32, 35, 36, 49, 50, 51, 52]⟩, .int .i64 3, .bool true] := by
  have h1 : opK 169 0 = 2 := by decide +kernel
  have h2 : modeN 169 = 2 := by decide +kernel
  have h3 : textB 169 4660 2 0 = ⟨#[76, 68, 65, 32, 35, 36, 49, 50, 51, 52]⟩ := by decide +kernel
  rw [textV_some _ _ _ (by show ¬ ((3 : Nat) = 0 ∨ 3 < 1 + opK 169 0); rw [h1]; decide)]
  show Value.tuple #[.string (textB 169 (leN (([52, 18] : List Int).take (opK 169 0))).toNat (opK 169 0) 0), .int .i64 ((1 + opK 169 0 : Nat) : Int), .bool true] = _
  rw [h1]
  show Value.tuple #[.string (textB 169 4660 2 0), .int .i64 3, .bool true] = _
  rw [h3]
set_option maxRecDepth 100000 in
set_option maxHeartbeats 2000000 in
theorem awake_walk (w : World) (hL : Laid w) :
    Calls Tryz.prog 9 #[] w fun e w' => e = .returned (.bool true) ∧ Below w.heap.size w w' := by
  have HT := Lib.hid (fun W hr hl => text_walk (.slice (some ⟨w.heap.size, 0, none⟩) 3 3) [169, 52, 18] 0 0 (by decide) (by decide) W hr (by intro x hx; simp at hx; rcases hx with rfl | rfl | rfl <;> decide) hl)
  rw [awake_text] at HT
  have hmk : ∀ W, (Instr.makeSlice 23 (.int .i64 3) (.int .i64 3)).run Tryz.prog W = .ok (.slice (some ⟨W.heap.size, 0, none⟩) 3 3) (W.alloc (.cells #[.int .u8 0, .int .u8 0, .int .u8 0] 5)) := fun W => by kernel_rfl
  go_enter Tryz.func9, Tryz.ntmps9
  go_upto_region 5 with fail
  obtain ⟨X, hX⟩ : ∃ X, w.alloc (.cells #[.int .u8 169, .int .u8 52, .int .u8 18] 5) = X := ⟨_, rfl⟩
  have HB := Lib.hid (show Below w.heap.size w X by rw [← hX]; exact (Below.refl _ w).alloc (Nat.le_refl _) _)
  have HR := Lib.hid (show Row .u8 X (.slice (some ⟨w.heap.size, 0, none⟩) 3 3) [169, 52, 18] by
    refine .inr ⟨w.heap.size, 0, 3, rfl, by decide, Nat.le_refl _, by decide, fun i hi => ?_⟩
    rw [← hX, World.cell?_alloc_new]
    rcases (show i = 0 ∨ i = 1 ∨ i = 2 by have : i < 3 := hi; omega) with rfl | rfl | rfl <;> rfl)
  have HL := Lib.hid (hL.below HB.out)
  rw [hX]
  clear hX hmk
  go_wp2_with (go_at_call 10; refine (HT.out _ HR.out HL.out).mono ?_; rintro e w1 ⟨rfl, hb⟩)
  go_ret
  exact ⟨rfl, HB.out.trans (hb.mono HB.out.size)⟩
end Go.Proofs.YtpeieilbjadcfaaGreatDoor
