/- A row of the program's table, without the blanks at its end. (Numbers of chapter 10's seat D.) -/
import Derived.Test.YteabjninmaceaaaGreatDoorProg
import Derived.Test.YteabjninmaceaaaGreatDoorNotesTab
namespace Go.Proofs.YteabjninmaceaaaGreatDoor
open Go.RowKit
set_option linter.unusedVariables false
set_option linter.unusedSimpArgs false

set_option maxRecDepth 100000 in
set_option maxHeartbeats 1000000 in
theorem row_walk (k : Nat) (hk : k < 256) (w : World) :
    Calls Tryz.prog 23 #[.int .u8 k] w fun e w' => e = .returned (.string (trimB (tableP.extract (12 * k) (12 * k + 12)))) ∧ w' = w := by
  have H := Lib.hid (fun t h0 => trimRight_walk t w h0)
  have hz := (note_ok k hk).1
  have zT : tableP.size = 3072 := by kernel_rfl
  have i1 : IntKind.i64.wrap (k : Int) = (k : Int) := IntWalk.i64_in _ (by omega)
  have i2 : IntKind.i64.wrap (12 * (k : Int)) = ((12 * k : Nat) : Int) := by rw [IntWalk.i64_in _ (by omega)]; omega
  have i3 : IntKind.i64.wrap (((12 * k : Nat) : Int) + 12) = ((12 * k + 12 : Nat) : Int) := by rw [IntWalk.i64_in _ (by omega)]; omega
  have i4 : ((12 * k : Nat) : Int) ≤ ((12 * k + 12 : Nat) : Int) := by omega
  have i5 : ((12 * k + 12 : Nat) : Int) ≤ 3072 := by omega
  obtain ⟨n1, h1⟩ : ∃ n1, 12 * k = n1 := ⟨_, rfl⟩
  obtain ⟨n2, h2⟩ : ∃ n2, n1 + 12 = n2 := ⟨_, rfl⟩
  rw [h1] at i2 i3 i4 i5 hz ⊢
  rw [h2] at i3 i4 i5 hz ⊢
  clear h1 h2
  go_enter Tryz.func23, Tryz.ntmps23
  go_upto_region 1 with fail
  conv in (ByteArray.mk (List.toArray (List.append _ _))) => change tableP
  obtain ⟨T, hT⟩ : ∃ T, tableP = T := ⟨_, rfl⟩
  rw [hT] at zT hz ⊢
  have HTT := Lib.hid hT
  clear hT
  have HT := Lib.hid (H.out (T.extract n1 n2) (by omega) (by omega))
  go_wp2_with (go_at_call 48; refine HT.out.mono ?_; rintro e w1 ⟨rfl, rfl⟩)
  go_returns
  exact ⟨by rw [HTT.out]; rfl, rfl⟩
end Go.Proofs.YteabjninmaceaaaGreatDoor
