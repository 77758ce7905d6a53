/- How wide an operand is, how many bytes an instruction has: the program's and the document's (but for the document's own table). -/
import Derived.Test.YtpeieilbjadcfaaGreatDoorProg
import Derived.Test.YtpeieilbjadcfaaGreatDoorCodesOf
namespace Go.Proofs.YtpeieilbjadcfaaGreatDoor
open Go.RowKit
set_option linter.unusedVariables false
set_option linter.unusedSimpArgs false

theorem and32 (p : Nat) (h : p < 256) : bits .and .u8 (p : Int) 32 = 32 * ((p / 32 % 2 : Nat) : Int) := by
  have h2 : ∀ m : Fin 256, bits .and .u8 ((m : Nat) : Int) 32 = 32 * ((m / 32 % 2 : Nat) : Int) := by decide +kernel
  exact h2 ⟨p, h⟩
theorem and16 (p : Nat) (h : p < 256) : bits .and .u8 (p : Int) 16 = 16 * ((p / 16 % 2 : Nat) : Int) := by
  have h2 : ∀ m : Fin 256, bits .and .u8 ((m : Nat) : Int) 16 = 16 * ((m / 16 % 2 : Nat) : Int) := by decide +kernel
  exact h2 ⟨p, h⟩
set_option maxRecDepth 100000 in
set_option maxHeartbeats 4000000 in
theorem wide_walk (wd p : Nat) (hp : p < 256) (w : World) :
    Calls Tryz.prog 41 #[.int .u8 wd, .int .u8 p] w fun e w' => e = .returned (.bool (wideB wd p)) ∧ w' = w := by
  have a5 := and32 p hp
  have a4 := and16 p hp
  by_cases h1 : wd = 1
  · subst h1
    by_cases h2 : p / 32 % 2 = 0
    · have HE := Lib.hid (show wideB 1 p = true by simp [wideB, h2])
      have b : (bits .and .u8 (p : Int) 32 == 0) = true := by rw [a5, h2]; rfl
      clear a5 a4 h2
      go_enter Tryz.func41, Tryz.ntmps41
      go_wp2_with fail
      go_returns
      exact ⟨ret_bool HE.out.symm, rfl⟩
    · have HE := Lib.hid (show wideB 1 p = false by simp [wideB, h2])
      have b : (bits .and .u8 (p : Int) 32 == 0) = false := by rw [a5, beq_eq_false_iff_ne]; omega
      clear a5 a4 h2
      go_enter Tryz.func41, Tryz.ntmps41
      go_wp2_with fail
      go_returns
      exact ⟨ret_bool HE.out.symm, rfl⟩
  · have e1 : ((wd : Int) == 1) = false := by rw [beq_eq_false_iff_ne]; omega
    by_cases h3 : wd = 2
    · subst h3
      by_cases h2 : p / 16 % 2 = 0
      · have HE := Lib.hid (show wideB 2 p = true by simp [wideB, h2])
        have b : (bits .and .u8 (p : Int) 16 == 0) = true := by rw [a4, h2]; rfl
        clear a5 a4 h2 e1
        go_enter Tryz.func41, Tryz.ntmps41
        go_wp2_with fail
        go_returns
        exact ⟨ret_bool HE.out.symm, rfl⟩
      · have HE := Lib.hid (show wideB 2 p = false by simp [wideB, h2])
        have b : (bits .and .u8 (p : Int) 16 == 0) = false := by rw [a4, beq_eq_false_iff_ne]; omega
        clear a5 a4 h2 e1
        go_enter Tryz.func41, Tryz.ntmps41
        go_wp2_with fail
        go_returns
        exact ⟨ret_bool HE.out.symm, rfl⟩
    · have e2 : ((wd : Int) == 2) = false := by rw [beq_eq_false_iff_ne]; omega
      have HE := Lib.hid (show wideB wd p = false by simp [wideB, h1, h3])
      clear a5 a4 h1 h3
      go_enter Tryz.func41, Tryz.ntmps41
      go_wp2_with fail
      go_returns
      exact ⟨ret_bool HE.out.symm, rfl⟩
set_option maxRecDepth 100000 in
set_option maxHeartbeats 4000000 in
theorem refWide_walk (wd p : Nat) (hp : p < 256) (w : World) :
    Calls Tryz.prog 33 #[.int .u8 wd, .int .u8 p] w fun e w' => e = .returned (.bool (wideB wd p)) ∧ w' = w := by
  have a5 : (p : Int).tdiv 32 = ((p / 32 : Nat) : Int) := by rw [Int.tdiv_eq_ediv_of_nonneg (by omega)]; omega
  have a4 : (p : Int).tdiv 16 = ((p / 16 : Nat) : Int) := by rw [Int.tdiv_eq_ediv_of_nonneg (by omega)]; omega
  have q5 : (((p / 32 : Nat) : Int)).tmod 2 = ((p / 32 % 2 : Nat) : Int) := by rw [Int.tmod_eq_emod_of_nonneg (by omega)]; omega
  have q4 : (((p / 16 : Nat) : Int)).tmod 2 = ((p / 16 % 2 : Nat) : Int) := by rw [Int.tmod_eq_emod_of_nonneg (by omega)]; omega
  by_cases h1 : wd = 1
  · subst h1
    by_cases h2 : p / 32 % 2 = 0
    · have HE := Lib.hid (show wideB 1 p = true by simp [wideB, h2])
      have b : ((p : Int) / 32 % 2 == 0) = true := by rw [beq_iff_eq]; omega
      clear h2 a4 q4
      go_enter Tryz.func33, Tryz.ntmps33
      go_wp2_with fail
      go_returns
      exact ⟨ret_bool HE.out.symm, rfl⟩
    · have HE := Lib.hid (show wideB 1 p = false by simp [wideB, h2])
      have b : ((p : Int) / 32 % 2 == 0) = false := by rw [beq_eq_false_iff_ne]; omega
      clear h2 a4 q4
      go_enter Tryz.func33, Tryz.ntmps33
      go_wp2_with fail
      go_returns
      exact ⟨ret_bool HE.out.symm, rfl⟩
  · have e1 : ((wd : Int) == 1) = false := by rw [beq_eq_false_iff_ne]; omega
    by_cases h3 : wd = 2
    · subst h3
      by_cases h2 : p / 16 % 2 = 0
      · have HE := Lib.hid (show wideB 2 p = true by simp [wideB, h2])
        have b : ((p : Int) / 16 % 2 == 0) = true := by rw [beq_iff_eq]; omega
        clear h2 e1
        go_enter Tryz.func33, Tryz.ntmps33
        go_wp2_with fail
        go_returns
        exact ⟨ret_bool HE.out.symm, rfl⟩
      · have HE := Lib.hid (show wideB 2 p = false by simp [wideB, h2])
        have b : ((p : Int) / 16 % 2 == 0) = false := by rw [beq_eq_false_iff_ne]; omega
        clear h2 e1
        go_enter Tryz.func33, Tryz.ntmps33
        go_wp2_with fail
        go_returns
        exact ⟨ret_bool HE.out.symm, rfl⟩
    · have e2 : ((wd : Int) == 2) = false := by rw [beq_eq_false_iff_ne]; omega
      have HE := Lib.hid (show wideB wd p = false by simp [wideB, h1, h3])
      clear h1 h3
      go_enter Tryz.func33, Tryz.ntmps33
      go_wp2_with fail
      go_returns
      exact ⟨ret_bool HE.out.symm, rfl⟩

set_option maxRecDepth 100000 in
set_option maxHeartbeats 8000000 in
theorem operand_walk (c : Int) (s : ByteArray) (m u wd p : Nat) (hm : m ≤ 25) (hp : p < 256) (w : World) :
    Calls Tryz.prog 26 #[.agg #[.int .u8 c, .string s, .int .u8 m, .int .u8 u, .int .u8 wd], .int .u8 p] w fun e w' => e = .returned (.int .i64 (opN m wd p)) ∧ Below w.heap.size w w' := by
  have HB := Lib.hid ((Below.refl w.heap.size w).alloc (Nat.le_refl _) (.cells #[.int .u8 c, .string s, .int .u8 m, .int .u8 u, .int .u8 wd] 38))
  by_cases h2 : m = 2
  · subst h2
    cases hw : wideB wd p
    · have HE := Lib.hid (show opN 2 wd p = 1 by simp [opN, hw])
      have HW := Lib.hid hw
      clear hw
      go_enter Tryz.func26, Tryz.ntmps26
      go_wp2_with (go_at_call 41; refine (wide_walk _ _ hp _).mono ?_; rintro e w1 ⟨rfl, rfl⟩; rw [HW.out])
      go_returns
      exact ⟨by rw [HE.out]; rfl, HB.out⟩
    · have HE := Lib.hid (show opN 2 wd p = 2 by simp [opN, hw])
      have HW := Lib.hid hw
      clear hw
      go_enter Tryz.func26, Tryz.ntmps26
      go_wp2_with (go_at_call 41; refine (wide_walk _ _ hp _).mono ?_; rintro e w1 ⟨rfl, rfl⟩; rw [HW.out])
      go_returns
      exact ⟨by rw [HE.out]; rfl, HB.out⟩
  · rcases (show m = 0 ∨ m = 1 ∨ m = 3 ∨ m = 4 ∨ m = 5 ∨ m = 6 ∨ m = 7 ∨ m = 8 ∨ m = 9 ∨ m = 10 ∨ m = 11 ∨ m = 12 ∨ m = 13 ∨ m = 14 ∨ m = 15 ∨ m = 16 ∨ m = 17 ∨ m = 18 ∨ m = 19 ∨ m = 20 ∨ m = 21 ∨ m = 22 ∨ m = 23 ∨ m = 24 ∨ m = 25 by omega) with rfl | rfl | rfl | rfl | rfl | rfl | rfl | rfl | rfl | rfl | rfl | rfl | rfl | rfl | rfl | rfl | rfl | rfl | rfl | rfl | rfl | rfl | rfl | rfl | rfl
    all_goals
      clear hm h2
      go_enter Tryz.func26, Tryz.ntmps26
      go_wp2_with fail
      go_returns
      exact ⟨rfl, HB.out⟩
set_option maxRecDepth 100000 in
set_option maxHeartbeats 8000000 in
theorem refOperand_walk (c : Int) (s : ByteArray) (m u wd p : Nat) (hm : m ≤ 25) (hp : p < 256) (w : World) :
    Calls Tryz.prog 17 #[.agg #[.int .u8 c, .string s, .int .u8 m, .int .u8 u, .int .u8 wd], .int .u8 p] w fun e w' => e = .returned (.int .i64 (opN m wd p)) ∧ Below w.heap.size w w' := by
  have HB := Lib.hid ((Below.refl w.heap.size w).alloc (Nat.le_refl _) (.cells #[.int .u8 c, .string s, .int .u8 m, .int .u8 u, .int .u8 wd] 38))
  by_cases h2 : m = 2
  · subst h2
    cases hw : wideB wd p
    · have HE := Lib.hid (show opN 2 wd p = 1 by simp [opN, hw])
      have HW := Lib.hid hw
      clear hw
      go_enter Tryz.func17, Tryz.ntmps17
      go_wp2_with (go_at_call 33; refine (refWide_walk _ _ hp _).mono ?_; rintro e w1 ⟨rfl, rfl⟩; rw [HW.out])
      go_returns
      exact ⟨by rw [HE.out]; rfl, HB.out⟩
    · have HE := Lib.hid (show opN 2 wd p = 2 by simp [opN, hw])
      have HW := Lib.hid hw
      clear hw
      go_enter Tryz.func17, Tryz.ntmps17
      go_wp2_with (go_at_call 33; refine (refWide_walk _ _ hp _).mono ?_; rintro e w1 ⟨rfl, rfl⟩; rw [HW.out])
      go_returns
      exact ⟨by rw [HE.out]; rfl, HB.out⟩
  · rcases (show m = 0 ∨ m = 1 ∨ m = 3 ∨ m = 4 ∨ m = 5 ∨ m = 6 ∨ m = 7 ∨ m = 8 ∨ m = 9 ∨ m = 10 ∨ m = 11 ∨ m = 12 ∨ m = 13 ∨ m = 14 ∨ m = 15 ∨ m = 16 ∨ m = 17 ∨ m = 18 ∨ m = 19 ∨ m = 20 ∨ m = 21 ∨ m = 22 ∨ m = 23 ∨ m = 24 ∨ m = 25 by omega) with rfl | rfl | rfl | rfl | rfl | rfl | rfl | rfl | rfl | rfl | rfl | rfl | rfl | rfl | rfl | rfl | rfl | rfl | rfl | rfl | rfl | rfl | rfl | rfl | rfl
    all_goals
      clear hm h2
      go_enter Tryz.func17, Tryz.ntmps17
      go_wp2_with fail
      go_returns
      exact ⟨rfl, HB.out⟩
set_option maxRecDepth 100000 in
set_option maxHeartbeats 4000000 in
theorem size_walk (k p : Nat) (hk : k < 256) (hp : p < 256) (w : World) :
    Calls Tryz.prog 12 #[.int .u8 k, .int .u8 p] w fun e w' => e = .returned (.int .i64 (1 + opK k p : Nat)) ∧ Below w.heap.size w w' := by
  have HV := Lib.hid (show codeV k = .agg #[.int .u8 k, .string (nameB k), .int .u8 (modeN k), .int .u8 (useN k), .int .u8 (widthN k)] from rfl)
  have HM := Lib.hid (tab_lims k hk).2.2.1
  have HO := Lib.hid (show opK k p = opN (modeN k) (widthN k) p from rfl)
  have hb := opN_le (modeN k) (widthN k) p
  obtain ⟨cv, hcv⟩ : ∃ cv, codeV k = cv := ⟨_, rfl⟩
  have HC := Lib.hid hcv
  obtain ⟨o, ho⟩ : ∃ o, opN (modeN k) (widthN k) p = o := ⟨_, rfl⟩
  have HO2 := Lib.hid ho
  rw [ho] at hb HO
  rw [HO.out]
  clear hcv ho
  go_enter Tryz.func12, Tryz.ntmps12
  go_wp2_with (first | (go_at_call 22; refine (of_walk k hk _).mono ?_; rintro e w1 ⟨rfl, hb1⟩; rw [HC.out]) | (go_at_call 26; rw [← HC.out, HV.out]; refine (operand_walk _ _ _ _ _ _ HM.out hp _).mono ?_; rintro e w2 ⟨rfl, hb2⟩; rw [HO2.out]))
  go_ret
  exact ⟨ret_int (by omega), below_step hb1 hb1.size hb2⟩
end Go.Proofs.YtpeieilbjadcfaaGreatDoor
