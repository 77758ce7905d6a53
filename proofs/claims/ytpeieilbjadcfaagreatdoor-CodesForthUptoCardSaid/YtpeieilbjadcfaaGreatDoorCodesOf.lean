/- A code's data: codes.Of; how wide an operand is, how many bytes it has: the program's and the document's. -/
import Derived.Test.YtpeieilbjadcfaaGreatDoorProg
import Derived.Test.YtpeieilbjadcfaaGreatDoorKit
import Derived.Test.YtpeieilbjadcfaaGreatDoorCodesTab
import Derived.Test.YtpeieilbjadcfaaGreatDoorCodesPlain
import Derived.StillTailTactics
namespace Go.Proofs.YtpeieilbjadcfaaGreatDoor
open Go.RowKit
set_option linter.unusedVariables false
set_option linter.unusedSimpArgs false

theorem byteN_of (t : ByteArray) (i : Nat) (h : i < t.size) : t[i] = byteN t i := by
  unfold byteN
  rw [List.getElem?_eq_getElem (by simpa using h)]
  rfl
theorem tab_lims (k : Nat) (hk : k < 256) : (nameB k).size = 3 ∧ 97 ≤ (byteN modesT k).toNat ∧ modeN k ≤ 25 ∧ 48 ≤ (byteN widthsT k).toNat ∧ widthN k ≤ 3 ∧ 48 ≤ (byteN usesT k).toNat ∧ useN k ≤ 3 := tab_lim ⟨k, hk⟩
theorem wrap8 (x : Int) (h0 : 0 ≤ x) (h1 : x ≤ 255) : IntKind.u8.wrap x = x := by
  have : x % 256 = x := by omega
  simpa [IntKind.wrap, IntKind.signed, IntKind.bits] using this
set_option maxRecDepth 100000 in
set_option maxHeartbeats 4000000 in
theorem of_walk (k : Nat) (hk : k < 256) (w : World) :
    Calls Tryz.prog 22 #[.int .u8 k] w fun e w' => e = .returned (codeV k) ∧ Below w.heap.size w w' := by
  have i0 : IntKind.i64.wrap (3 * (k : Int)) = 3 * (k : Int) := IntWalk.i64_in _ (by omega)
  have i1 : IntKind.i64.wrap (3 * (k : Int) + 3) = 3 * (k : Int) + 3 := IntWalk.i64_in _ (by omega)
  have i2 : (k : Int) < 256 := by omega
  have i3 : (0 : Int) ≤ (k : Int) := by omega
  have i4 : (3 * (k : Int)) ≤ 3 * (k : Int) + 3 := by omega
  have i5 : (3 * (k : Int) + 3) ≤ 768 := by omega
  have i8 : 0 ≤ 3 * (k : Int) := by omega
  have i9 : 0 ≤ 3 * (k : Int) + 3 := by omega
  have i6 : (3 * (k : Int)).toNat = 3 * k := by omega
  have i7 : (3 * (k : Int) + 3).toNat = 3 * k + 3 := by omega
  go_enter Tryz.func22, Tryz.ntmps22
  go_upto_region 2 with fail
  conv in (ByteArray.mk (List.toArray (List.append _ _))) => change namesT
  conv in (ByteArray.mk (List.toArray (List.append _ _))) => change modesT
  conv in (ByteArray.mk (List.toArray (List.append _ _))) => change widthsT
  conv in (ByteArray.mk (List.toArray (List.append _ _))) => change usesT
  have L := tab_lims k hk
  have zN : namesT.size = 768 := by kernel_rfl
  have zM : modesT.size = 256 := by kernel_rfl
  have zW : widthsT.size = 256 := by kernel_rfl
  have zU : usesT.size = 256 := by kernel_rfl
  have HM := Lib.hid (fun h => byteN_of modesT k h)
  have HW := Lib.hid (fun h => byteN_of widthsT k h)
  have HU := Lib.hid (fun h => byteN_of usesT k h)
  have HV := Lib.hid (show codeV k = .agg #[.int .u8 k, .string (namesT.extract (3 * k) (3 * k + 3)), .int .u8 (((byteN modesT k).toNat - 97 : Nat) : Int), .int .u8 (((byteN usesT k).toNat - 48 : Nat) : Int), .int .u8 (((byteN widthsT k).toNat - 48 : Nat) : Int)] from rfl)
  obtain ⟨N, hN⟩ : ∃ N, namesT = N := ⟨_, rfl⟩
  obtain ⟨M, hM⟩ : ∃ N, modesT = N := ⟨_, rfl⟩
  obtain ⟨Wd, hW⟩ : ∃ N, widthsT = N := ⟨_, rfl⟩
  obtain ⟨U, hU⟩ : ∃ N, usesT = N := ⟨_, rfl⟩
  rw [hN] at zN HV ⊢
  rw [hM] at zM HM HV L ⊢
  rw [hW] at zW HW HV L ⊢
  rw [hU] at zU HU HV L ⊢
  have sM : k < M.size := by omega
  have sW : k < Wd.size := by omega
  have sU : k < U.size := by omega
  have HM2 := HM.out sM
  have HW2 := HW.out sW
  have HU2 := HU.out sU
  obtain ⟨L0, L1, L2, L3, L4, L5, L6⟩ := L
  have E1 : IntKind.u8.wrap ((M[k].toNat : Int) - 97) = ((byteN M k).toNat - 97 : Nat) := by
    rw [HM2, wrap8 _ (by have := (byteN M k).toNat_lt; omega) (by have := (byteN M k).toNat_lt; omega)]; omega
  have E2 : IntKind.u8.wrap ((Wd[k].toNat : Int) - 48) = ((byteN Wd k).toNat - 48 : Nat) := by
    rw [HW2, wrap8 _ (by have := (byteN Wd k).toNat_lt; omega) (by have := (byteN Wd k).toNat_lt; omega)]; omega
  have E3 : IntKind.u8.wrap ((U[k].toNat : Int) - 48) = ((byteN U k).toNat - 48 : Nat) := by
    rw [HU2, wrap8 _ (by have := (byteN U k).toNat_lt; omega) (by have := (byteN U k).toNat_lt; omega)]; omega
  obtain ⟨m1, hm1⟩ : ∃ m1, (byteN M k).toNat - 97 = m1 := ⟨_, rfl⟩
  obtain ⟨m2, hm2⟩ : ∃ m2, (byteN Wd k).toNat - 48 = m2 := ⟨_, rfl⟩
  obtain ⟨m3, hm3⟩ : ∃ m3, (byteN U k).toNat - 48 = m3 := ⟨_, rfl⟩
  rw [hm1] at E1 HV
  rw [hm2] at E2 HV
  rw [hm3] at E3 HV
  clear HM2 HW2 HU2 HM HW HU L0 L1 L2 L3 L4 L5 L6 hm1 hm2 hm3 hN hM hW hU
  obtain ⟨X, hX⟩ : ∃ X, w.alloc (.cells #[.int .u8 0, .string ⟨#[]⟩, .int .u8 0, .int .u8 0, .int .u8 0] 38) = X := ⟨_, rfl⟩
  have HB := Lib.hid (show Below w.heap.size w X by rw [← hX]; exact (Below.refl _ w).alloc (Nat.le_refl _) _)
  have g0 : X.cell? ⟨w.heap.size, 0, none⟩ = some (.int .u8 0) := by rw [← hX]; simp [go_sem]
  have g1 : X.cell? ⟨w.heap.size, 1, none⟩ = some (.string ⟨#[]⟩) := by rw [← hX]; simp [go_sem]
  have g2 : X.cell? ⟨w.heap.size, 2, none⟩ = some (.int .u8 0) := by rw [← hX]; simp [go_sem]
  have g3 : X.cell? ⟨w.heap.size, 3, none⟩ = some (.int .u8 0) := by rw [← hX]; simp [go_sem]
  have g4 : X.cell? ⟨w.heap.size, 4, none⟩ = some (.int .u8 0) := by rw [← hX]; simp [go_sem]
  have f0 : X.frozen? ⟨w.heap.size, 0, none⟩ = false := by rw [← hX]; simp [go_sem]
  have f1 : X.frozen? ⟨w.heap.size, 1, none⟩ = false := by rw [← hX]; simp [go_sem]
  have f2 : X.frozen? ⟨w.heap.size, 2, none⟩ = false := by rw [← hX]; simp [go_sem]
  have f3 : X.frozen? ⟨w.heap.size, 3, none⟩ = false := by rw [← hX]; simp [go_sem]
  have f4 : X.frozen? ⟨w.heap.size, 4, none⟩ = false := by rw [← hX]; simp [go_sem]
  have HR := Lib.hid (show w.heap.size ≤ w.heap.size from Nat.le_refl _)
  rw [hX]
  clear hX
  go_still_tail 17, (by kernel_rfl)
  change wpList _ _ _ _ _ X.drew
  have HB2 := Lib.hid (HB.out.drew)
  obtain ⟨Y, hY⟩ : ∃ Y, X.drew = Y := ⟨_, rfl⟩
  have r0 : Y.cell? ⟨w.heap.size, 0, none⟩ = some (.int .u8 0) := by rw [← hY]; exact g0
  have r1 : Y.cell? ⟨w.heap.size, 1, none⟩ = some (.string ⟨#[]⟩) := by rw [← hY]; exact g1
  have r2 : Y.cell? ⟨w.heap.size, 2, none⟩ = some (.int .u8 0) := by rw [← hY]; exact g2
  have r3 : Y.cell? ⟨w.heap.size, 3, none⟩ = some (.int .u8 0) := by rw [← hY]; exact g3
  have r4 : Y.cell? ⟨w.heap.size, 4, none⟩ = some (.int .u8 0) := by rw [← hY]; exact g4
  have t0 : Y.frozen? ⟨w.heap.size, 0, none⟩ = false := by rw [← hY]; exact f0
  have t1 : Y.frozen? ⟨w.heap.size, 1, none⟩ = false := by rw [← hY]; exact f1
  have t2 : Y.frozen? ⟨w.heap.size, 2, none⟩ = false := by rw [← hY]; exact f2
  have t3 : Y.frozen? ⟨w.heap.size, 3, none⟩ = false := by rw [← hY]; exact f3
  have t4 : Y.frozen? ⟨w.heap.size, 4, none⟩ = false := by rw [← hY]; exact f4
  rw [hY] at HB2 ⊢
  clear hY g0 g1 g2 g3 g4 f0 f1 f2 f3 f4
  go_wp2_with fail
  refine bodyPost_ret (v := .agg #[.int .u8 k, .string (N.extract (3 * k) (3 * k + 3)), .int .u8 m1, .int .u8 m3, .int .u8 m2]) (by simp [results, Tryz.results22, go_sem, r0, r1, r2, r3, r4]; try rfl) rfl ?_
  exact ⟨by rw [HV.out], by repeat (first | exact HB2.out | refine Below.setCell ?_ HR.out _)⟩
end Go.Proofs.YtpeieilbjadcfaaGreatDoor
