/- Numbers to the base 16 and to the base 10: the document's Hex and tens. -/
import Derived.Test.YteabjninmaceaaaGreatDoorProg
import Derived.Test.YteabjninmaceaaaGreatDoorNotesBits
namespace Go.Proofs.YteabjninmaceaaaGreatDoor
open Go.RowKit
set_option linter.unusedVariables false
set_option linter.unusedSimpArgs false

theorem dig_cut (k : Nat) (h : k < 16) : (⟨#[48, 49, 50, 51, 52, 53, 54, 55, 56, 57, 65, 66, 67, 68, 69, 70]⟩ : ByteArray).extract k (k + 1) = bytesB [hexD true k] := by
  have h2 : ∀ k : Fin 16, (⟨#[48, 49, 50, 51, 52, 53, 54, 55, 56, 57, 65, 66, 67, 68, 69, 70]⟩ : ByteArray).extract (k : Nat) ((k : Nat) + 1) = bytesB [hexD true k] := by decide +kernel
  exact h2 ⟨k, h⟩
set_option maxRecDepth 100000 in
set_option maxHeartbeats 400000 in
theorem refHex_walk (x n : Nat) (hx : x < 4294967296) (hn : n < 1000) (w : World) :
    Calls Tryz.prog 21 #[.int .i64 x, .int .i64 n] w fun e w' => e = .returned (.string (bytesB (hexL true x n))) ∧ w' = w := by
  go_enter Tryz.func21, Tryz.ntmps21
  go_upto_region 3 with fail
  go_loopw [0, 5, 6] (fun s0 s5 s6 wr => ∃ (u j : Nat) (B : ByteArray), j ≤ n ∧ s0 = .int .i64 u ∧ s5 = .string B ∧ s6 = .int .i64 j ∧ wr = w ∧ Hid (u = x / 16 ^ j) ∧ Hid (B = bytesB (hexL true x j)) ∧ B.size = j) (fun _ _ s6 _ => n - (intOf s6).toNat)
  case atStart => exact ⟨x, 0, _, Nat.zero_le _, rfl, rfl, rfl, rfl, Lib.hid (by simp), Lib.hid rfl, rfl⟩
  case round =>
    obtain ⟨u, j, B, hj, rfl, rfl, rfl, rfl, HU, HB, hz⟩ := hrel
    by_cases hlt : j < n
    · have b1 : (j : Int) < (n : Int) := by omega
      have hu : u ≤ x := by rw [HU.out]; exact Nat.div_le_self _ _
      have HE := Lib.hid (show bytesB [hexD true (u % 16)] ++ B = bytesB (hexL true x (j + 1)) by rw [HB.out, bytesB_append, hexL_cons, HU.out]; rfl)
      have HU2 := Lib.hid (show u / 16 = x / 16 ^ (j + 1) by rw [HU.out, Nat.div_div_eq_div_mul, Nat.pow_succ])
      have i1 : (u : Int).tmod 16 = ((u % 16 : Nat) : Int) := by rw [Int.tmod_eq_emod_of_nonneg (by omega)]; omega
      have i2 : (u : Int).tdiv 16 = ((u / 16 : Nat) : Int) := by rw [Int.tdiv_eq_ediv_of_nonneg (by omega)]; omega
      go_wp2_with fail
      go_roundw
      case rel =>
        refine ⟨u / 16, j + 1, _, by omega, by simp, rfl, by simp, trivial, HU2, Lib.hid ?_, ?_⟩
        · rw [dig_cut _ (by omega)]; exact HE.out
        · rw [dig_cut _ (by omega), HE.out, bytesB_size, hexL_length]
      case measure => simp [intOf]; omega
    · have b1 : ¬ (j : Int) < (n : Int) := by omega
      have HE := Lib.hid (show B = bytesB (hexL true x n) by rw [HB.out, show j = n by omega])
      go_wp2_with fail
      go_ret
      exact ⟨by rw [← HE.out]; rfl, rfl⟩
/-- A number below 16, to the base 10. -/
def decL (x : Nat) : List UInt8 := if 9 < x then 49 :: hexL true (x - 10) 1 else hexL true x 1
set_option maxRecDepth 100000 in
set_option maxHeartbeats 400000 in
theorem tens_walk (x : Nat) (hx : x < 16) (w : World) :
    Calls Tryz.prog 31 #[.int .i64 x] w fun e w' => e = .returned (.string (bytesB (decL x))) ∧ w' = w := by
  have H := Lib.hid (fun y hy => refHex_walk y 1 hy (by omega) w)
  by_cases h9 : 9 < x
  · have b1 : (9 : Int) < (x : Int) := by omega
    have i1 : IntKind.i64.wrap ((x : Int) - 10) = ((x - 10 : Nat) : Int) := by rw [IntWalk.i64_in _ (by omega)]; omega
    have HE := Lib.hid (show (⟨#[49]⟩ : ByteArray) ++ bytesB (hexL true (x - 10) 1) = bytesB (decL x) by
      rw [decL, if_pos h9, show (⟨#[49]⟩ : ByteArray) = bytesB [49] from rfl, bytesB_append]; rfl)
    have hz : (bytesB (hexL true (x - 10) 1)).size = 1 := by rw [bytesB_size, hexL_length]
    have H2 := Lib.hid (H.out (x - 10) (by omega))
    obtain ⟨B, hB⟩ : ∃ B, bytesB (hexL true (x - 10) 1) = B := ⟨_, rfl⟩
    rw [hB] at HE hz H2
    clear hB H
    go_enter Tryz.func31, Tryz.ntmps31
    go_wp2_with (go_at_call 21; refine H2.out.mono ?_; rintro e w1 ⟨rfl, rfl⟩)
    go_ret
    exact ⟨by rw [← HE.out]; rfl, rfl⟩
  · have b1 : ¬ (9 : Int) < (x : Int) := by omega
    have HE := Lib.hid (show hexL true x 1 = decL x by rw [decL, if_neg h9])
    have H2 := Lib.hid (H.out x (by omega))
    rw [HE.out] at H2
    clear H
    go_enter Tryz.func31, Tryz.ntmps31
    go_wp2_with (go_at_call 21; refine H2.out.mono ?_; rintro e w1 ⟨rfl, rfl⟩)
    go_ret
    exact ⟨rfl, rfl⟩
end Go.Proofs.YteabjninmaceaaaGreatDoor
