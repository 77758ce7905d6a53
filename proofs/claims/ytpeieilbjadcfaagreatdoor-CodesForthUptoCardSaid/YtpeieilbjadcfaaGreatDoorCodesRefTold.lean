/- The text of an operand: the document's operand (printed by gen_reftold.py). -/
import Derived.Test.YtpeieilbjadcfaaGreatDoorProg
import Derived.Test.YtpeieilbjadcfaaGreatDoorCodesText
namespace Go.Proofs.YtpeieilbjadcfaaGreatDoor
open Go.RowKit
set_option linter.unusedVariables false
set_option linter.unusedSimpArgs false

def farN (x n : Nat) : Int := if n = 1 ∧ 128 ≤ x then (x : Int) - 256 else x
set_option maxRecDepth 100000 in
set_option maxHeartbeats 2000000 in
theorem far_walk (x n : Nat) (hx : x < 16777216) (w : World) :
    Calls Tryz.prog 50 #[.int .i64 x, .int .i64 n] w fun e w' => e = .returned (.int .i64 (farN x n)) ∧ w' = w := by
  by_cases h1 : n = 1
  · have e1 : ((n : Int) == 1) = true := by rw [h1]; rfl
    by_cases h2 : 128 ≤ x
    · have b : (128 : Int) ≤ (x : Int) := by omega
      have i1 : IntKind.i64.wrap ((x : Int) - 256) = (x : Int) - 256 := IntWalk.i64_in _ (by omega)
      have HE := Lib.hid (show farN x n = (x : Int) - 256 by unfold farN; rw [if_pos ⟨h1, h2⟩])
      clear h1
      go_enter Tryz.func50, Tryz.ntmps50
      go_wp2_with fail
      go_ret
      exact ⟨by rw [HE.out]; rfl, rfl⟩
    · have b : ¬ (128 : Int) ≤ (x : Int) := by omega
      have HE := Lib.hid (show farN x n = (x : Int) by unfold farN; rw [if_neg (by omega)])
      clear h1
      go_enter Tryz.func50, Tryz.ntmps50
      go_wp2_with fail
      go_ret
      exact ⟨by rw [HE.out]; rfl, rfl⟩
  · have e1 : ((n : Int) == 1) = false := by rw [beq_eq_false_iff_ne]; omega
    have HE := Lib.hid (show farN x n = (x : Int) by unfold farN; rw [if_neg (by omega)])
    clear h1
    go_enter Tryz.func50, Tryz.ntmps50
    go_wp2_with fail
    go_ret
    exact ⟨by rw [HE.out]; rfl, rfl⟩
theorem refDigits_at (x n : Nat) (y k : Int) (hy : y = (x : Int)) (hk : k = (n : Int)) (hx : x < 9223372036854775808) (hn : n < 1000) (w : World) :
    Calls Tryz.prog 49 #[.int .i64 y, .int .i64 k] w fun e w' => e = .returned (.string (bytesB (hexL false x n))) ∧ w' = w := by
  subst hy hk
  exact refDigits_walk x n hx hn w
theorem dollar (l : List UInt8) : (⟨#[36]⟩ : ByteArray) ++ bytesB l = bytesB (36 :: l) := bytesB_append [36] l
theorem sharp (l : List UInt8) : (⟨#[35]⟩ : ByteArray) ++ bytesB l = bytesB (35 :: l) := bytesB_append [35] l
theorem toldL_imm (n x pc : Nat) : toldL 2 n x pc = 35 :: numL x n := by
  rw [toldL_rest 2 n x pc (by decide) (by decide) (by decide) (by decide), show signB 2 = signT 2 from sign_ok ⟨2, by decide⟩]
  simp [signT, signG]
theorem sign_noSharp : ∀ m : Fin 26, (m : Nat) ≠ 2 → ∀ b ∈ (signT m).data.toList, b ≠ 35 := by decide +kernel

set_option maxRecDepth 100000 in
set_option maxHeartbeats 2000000 in
theorem refTold_rel (c : Int) (s : ByteArray) (u wd pc n x : Nat) (hpc : pc < 65536) (hn3 : n ≤ 3) (hx : x < 16777216) (w : World) :
    Calls Tryz.prog 35 #[.agg #[.int .u8 c, .string s, .int .u8 3, .int .u8 u, .int .u8 wd], .int .i64 x, .int .i64 n, .int .i64 pc] w fun e w' => e = .returned (.string (bytesB (toldL 3 n x pc))) ∧ Below w.heap.size w w' := by
  have HF := Lib.hid (fun W => far_walk x n hx W)
  have hfb : -256 ≤ farN x n ∧ farN x n < 16777216 := by unfold farN; split <;> omega
  have HE := Lib.hid (show (⟨#[36]⟩ : ByteArray) ++ bytesB (hexL false (tgtN n x pc) 4) = bytesB (toldL 3 n x pc) by rw [dollar, toldL_rel])
  have htt : (pc : Int) + 1 + (n : Int) + farN x n + 65536 = ((pc : Int) + 1 + (n : Int) + farN x n + 65536) := rfl
  have HTG := Lib.hid (show ((pc : Int) + 1 + (n : Int) + farN x n + 65536) % 65536 = (tgtN n x pc : Int) by
    unfold tgtN farN
    by_cases h : n = 1 ∧ 128 ≤ x
    · rw [if_pos h, if_pos h]; omega
    · rw [if_neg h, if_neg h]; omega)
  have ht : tgtN n x pc < 65536 := by unfold tgtN; omega
  obtain ⟨t, htn⟩ : ∃ t, tgtN n x pc = t := ⟨_, rfl⟩
  obtain ⟨fa, hfa⟩ : ∃ fa, farN x n = fa := ⟨_, rfl⟩
  rw [htn] at HE HTG ht
  rw [hfa] at hfb HF HTG
  have i1 : IntKind.i64.wrap ((pc : Int) + 1) = (pc : Int) + 1 := IntWalk.i64_in _ (by omega)
  have i2 : IntKind.i64.wrap ((pc : Int) + 1 + (n : Int)) = (pc : Int) + 1 + (n : Int) := IntWalk.i64_in _ (by omega)
  have i3 : IntKind.i64.wrap ((pc : Int) + 1 + (n : Int) + fa) = (pc : Int) + 1 + (n : Int) + fa := IntWalk.i64_in _ (by omega)
  obtain ⟨sm, hsm⟩ : ∃ sm, (pc : Int) + 1 + (n : Int) + fa + 65536 = sm := ⟨_, rfl⟩
  have hs0 : 0 ≤ sm := by omega
  have i4 : IntKind.i64.wrap ((pc : Int) + 1 + (n : Int) + fa + 65536) = sm := by rw [hsm]; exact IntWalk.i64_in _ (by omega)
  rw [hsm] at HTG
  have HTG2 := HTG.out
  have HDG := Lib.hid (fun W => refDigits_at t 4 (sm % 65536) 4 HTG.out rfl (by omega) (by omega) W)
  have hz : (bytesB (hexL false t 4)).size = 4 := by rw [bytesB_size, hexL_length]
  clear htn hfa hsm htt HTG2
  go_enter Tryz.func35, Tryz.ntmps35
  go_upto_region 1 with fail
  obtain ⟨X, hX⟩ : ∃ X, w.alloc (.cells #[.int .u8 c, .string s, .int .u8 3, .int .u8 u, .int .u8 wd] 38) = X := ⟨_, rfl⟩
  have HB := Lib.hid (show Below w.heap.size w X by rw [← hX]; exact (Below.refl _ w).alloc (Nat.le_refl _) _)
  have g2 : X.cell? ⟨w.heap.size, 2, none⟩ = some (.int .u8 3) := by rw [← hX]; simp [go_sem]
  rw [hX]
  clear hX
  go_wp2_with (first | (go_at_call 50; refine (HF.out _).mono ?_; rintro e w1 ⟨rfl, rfl⟩) | (go_at_call 49; refine (HDG.out _).mono ?_; rintro e w1 ⟨rfl, rfl⟩))
  go_ret
  exact ⟨by rw [← HE.out]; rfl, HB.out⟩

set_option maxRecDepth 100000 in
set_option maxHeartbeats 2000000 in
theorem refTold_long (c : Int) (s : ByteArray) (u wd pc n x : Nat) (hpc : pc < 65536) (hn3 : n ≤ 3) (hx : x < 16777216) (w : World) :
    Calls Tryz.prog 35 #[.agg #[.int .u8 c, .string s, .int .u8 4, .int .u8 u, .int .u8 wd], .int .i64 x, .int .i64 n, .int .i64 pc] w fun e w' => e = .returned (.string (bytesB (toldL 4 n x pc))) ∧ Below w.heap.size w w' := by
  have HF := Lib.hid (fun W => far_walk x n hx W)
  have hfb : -256 ≤ farN x n ∧ farN x n < 16777216 := by unfold farN; split <;> omega
  have HE := Lib.hid (show (⟨#[36]⟩ : ByteArray) ++ bytesB (hexL false (tgtN n x pc) 4) = bytesB (toldL 4 n x pc) by rw [dollar, toldL_long])
  have htt : (pc : Int) + 1 + (n : Int) + farN x n + 65536 = ((pc : Int) + 1 + (n : Int) + farN x n + 65536) := rfl
  have HTG := Lib.hid (show ((pc : Int) + 1 + (n : Int) + farN x n + 65536) % 65536 = (tgtN n x pc : Int) by
    unfold tgtN farN
    by_cases h : n = 1 ∧ 128 ≤ x
    · rw [if_pos h, if_pos h]; omega
    · rw [if_neg h, if_neg h]; omega)
  have ht : tgtN n x pc < 65536 := by unfold tgtN; omega
  obtain ⟨t, htn⟩ : ∃ t, tgtN n x pc = t := ⟨_, rfl⟩
  obtain ⟨fa, hfa⟩ : ∃ fa, farN x n = fa := ⟨_, rfl⟩
  rw [htn] at HE HTG ht
  rw [hfa] at hfb HF HTG
  have i1 : IntKind.i64.wrap ((pc : Int) + 1) = (pc : Int) + 1 := IntWalk.i64_in _ (by omega)
  have i2 : IntKind.i64.wrap ((pc : Int) + 1 + (n : Int)) = (pc : Int) + 1 + (n : Int) := IntWalk.i64_in _ (by omega)
  have i3 : IntKind.i64.wrap ((pc : Int) + 1 + (n : Int) + fa) = (pc : Int) + 1 + (n : Int) + fa := IntWalk.i64_in _ (by omega)
  obtain ⟨sm, hsm⟩ : ∃ sm, (pc : Int) + 1 + (n : Int) + fa + 65536 = sm := ⟨_, rfl⟩
  have hs0 : 0 ≤ sm := by omega
  have i4 : IntKind.i64.wrap ((pc : Int) + 1 + (n : Int) + fa + 65536) = sm := by rw [hsm]; exact IntWalk.i64_in _ (by omega)
  rw [hsm] at HTG
  have HTG2 := HTG.out
  have HDG := Lib.hid (fun W => refDigits_at t 4 (sm % 65536) 4 HTG.out rfl (by omega) (by omega) W)
  have hz : (bytesB (hexL false t 4)).size = 4 := by rw [bytesB_size, hexL_length]
  clear htn hfa hsm htt HTG2
  go_enter Tryz.func35, Tryz.ntmps35
  go_upto_region 1 with fail
  obtain ⟨X, hX⟩ : ∃ X, w.alloc (.cells #[.int .u8 c, .string s, .int .u8 4, .int .u8 u, .int .u8 wd] 38) = X := ⟨_, rfl⟩
  have HB := Lib.hid (show Below w.heap.size w X by rw [← hX]; exact (Below.refl _ w).alloc (Nat.le_refl _) _)
  have g2 : X.cell? ⟨w.heap.size, 2, none⟩ = some (.int .u8 4) := by rw [← hX]; simp [go_sem]
  rw [hX]
  clear hX
  go_wp2_with (first | (go_at_call 50; refine (HF.out _).mono ?_; rintro e w1 ⟨rfl, rfl⟩) | (go_at_call 49; refine (HDG.out _).mono ?_; rintro e w1 ⟨rfl, rfl⟩))
  go_ret
  exact ⟨by rw [← HE.out]; rfl, HB.out⟩

set_option maxRecDepth 100000 in
set_option maxHeartbeats 2000000 in
theorem refTold_A (c : Int) (s : ByteArray) (u wd pc n x : Nat) (hpc : pc < 65536) (hn3 : n ≤ 3) (hx : x < 16777216) (w : World) :
    Calls Tryz.prog 35 #[.agg #[.int .u8 c, .string s, .int .u8 1, .int .u8 u, .int .u8 wd], .int .i64 x, .int .i64 n, .int .i64 pc] w fun e w' => e = .returned (.string (bytesB (toldL 1 n x pc))) ∧ Below w.heap.size w w' := by
  go_enter Tryz.func35, Tryz.ntmps35
  go_upto_region 1 with fail
  obtain ⟨X, hX⟩ : ∃ X, w.alloc (.cells #[.int .u8 c, .string s, .int .u8 1, .int .u8 u, .int .u8 wd] 38) = X := ⟨_, rfl⟩
  have HB := Lib.hid (show Below w.heap.size w X by rw [← hX]; exact (Below.refl _ w).alloc (Nat.le_refl _) _)
  have g2 : X.cell? ⟨w.heap.size, 2, none⟩ = some (.int .u8 1) := by rw [← hX]; simp [go_sem]
  rw [hX]
  clear hX
  have HE2 := Lib.hid (toldL_A n x pc)
  go_wp2_with fail
  go_ret
  exact ⟨by rw [HE2.out]; rfl, HB.out⟩

set_option maxRecDepth 100000 in
set_option maxHeartbeats 2000000 in
theorem refTold_imm (c : Int) (s : ByteArray) (u wd pc n x : Nat) (hpc : pc < 65536) (hn3 : n ≤ 3) (hx : x < 16777216) (w : World) :
    Calls Tryz.prog 35 #[.agg #[.int .u8 c, .string s, .int .u8 2, .int .u8 u, .int .u8 wd], .int .i64 x, .int .i64 n, .int .i64 pc] w fun e w' => e = .returned (.string (bytesB (toldL 2 n x pc))) ∧ Below w.heap.size w w' := by
  have HE := Lib.hid (show bytesB (numL x n) = bytesB (numL x n) from rfl)
  have a7 : IntKind.i64.wrap (2 * (n : Int)) = ((2 * n : Nat) : Int) := by rw [IntWalk.i64_in _ (by omega)]; omega
  have HDG := Lib.hid (fun W => refDigits_walk x (2 * n) (by omega) (by omega) W)
  have hz : (bytesB (hexL false x (2 * n))).size = 2 * n := by rw [bytesB_size, hexL_length]
  have q0 : ¬ 9223372036854775807 < 1 + 2 * n := by omega
  have q1 : ¬ 9223372036854775807 < 1 + (1 + 2 * n) := by omega
  go_enter Tryz.func35, Tryz.ntmps35
  go_upto_region 1 with fail
  obtain ⟨X, hX⟩ : ∃ X, w.alloc (.cells #[.int .u8 c, .string s, .int .u8 2, .int .u8 u, .int .u8 wd] 38) = X := ⟨_, rfl⟩
  have HB := Lib.hid (show Below w.heap.size w X by rw [← hX]; exact (Below.refl _ w).alloc (Nat.le_refl _) _)
  have g2 : X.cell? ⟨w.heap.size, 2, none⟩ = some (.int .u8 2) := by rw [← hX]; simp [go_sem]
  rw [hX]
  clear hX
  have HE2 := Lib.hid (show (⟨#[35]⟩ : ByteArray) ++ (⟨#[36]⟩ ++ bytesB (hexL false x (2 * n))) = bytesB (toldL 2 n x pc) by rw [dollar, sharp, toldL_imm]; rfl)
  go_wp2_with (go_at_call 49; refine (HDG.out _).mono ?_; rintro e w1 ⟨rfl, rfl⟩)
  go_ret
  exact ⟨by rw [← HE2.out]; rfl, HB.out⟩

set_option maxRecDepth 100000 in
set_option maxHeartbeats 2000000 in
theorem refTold_sig (c : Int) (s : ByteArray) (u wd pc n x : Nat) (hpc : pc < 65536) (hn3 : n ≤ 3) (hx : x < 16777216) (w : World) :
    Calls Tryz.prog 35 #[.agg #[.int .u8 c, .string s, .int .u8 24, .int .u8 u, .int .u8 wd], .int .i64 x, .int .i64 n, .int .i64 pc] w fun e w' => e = .returned (.string (bytesB (toldL 24 n x pc))) ∧ Below w.heap.size w w' := by
  have HE := Lib.hid (show bytesB (numL x n) = bytesB (numL x n) from rfl)
  have a7 : IntKind.i64.wrap (2 * (n : Int)) = ((2 * n : Nat) : Int) := by rw [IntWalk.i64_in _ (by omega)]; omega
  have HDG := Lib.hid (fun W => refDigits_walk x (2 * n) (by omega) (by omega) W)
  have hz : (bytesB (hexL false x (2 * n))).size = 2 * n := by rw [bytesB_size, hexL_length]
  have q0 : ¬ 9223372036854775807 < 1 + 2 * n := by omega
  have q1 : ¬ 9223372036854775807 < 1 + (1 + 2 * n) := by omega
  go_enter Tryz.func35, Tryz.ntmps35
  go_upto_region 1 with fail
  obtain ⟨X, hX⟩ : ∃ X, w.alloc (.cells #[.int .u8 c, .string s, .int .u8 24, .int .u8 u, .int .u8 wd] 38) = X := ⟨_, rfl⟩
  have HB := Lib.hid (show Below w.heap.size w X by rw [← hX]; exact (Below.refl _ w).alloc (Nat.le_refl _) _)
  have g2 : X.cell? ⟨w.heap.size, 2, none⟩ = some (.int .u8 24) := by rw [← hX]; simp [go_sem]
  rw [hX]
  clear hX
  have HE2 := Lib.hid (show (⟨#[36]⟩ : ByteArray) ++ bytesB (hexL false x (2 * n)) = bytesB (toldL 24 n x pc) by rw [dollar, toldL_word 24 n x pc (by decide)]; rfl)
  go_wp2_with (go_at_call 49; refine (HDG.out _).mono ?_; rintro e w1 ⟨rfl, rfl⟩)
  go_ret
  exact ⟨by rw [← HE2.out]; rfl, HB.out⟩

set_option maxRecDepth 100000 in
set_option maxHeartbeats 2000000 in
theorem refTold_word (c : Int) (s : ByteArray) (u wd pc n x : Nat) (hpc : pc < 65536) (hn3 : n ≤ 3) (hx : x < 16777216) (w : World) :
    Calls Tryz.prog 35 #[.agg #[.int .u8 c, .string s, .int .u8 25, .int .u8 u, .int .u8 wd], .int .i64 x, .int .i64 n, .int .i64 pc] w fun e w' => e = .returned (.string (bytesB (toldL 25 n x pc))) ∧ Below w.heap.size w w' := by
  have HE := Lib.hid (show bytesB (numL x n) = bytesB (numL x n) from rfl)
  have a7 : IntKind.i64.wrap (2 * (n : Int)) = ((2 * n : Nat) : Int) := by rw [IntWalk.i64_in _ (by omega)]; omega
  have HDG := Lib.hid (fun W => refDigits_walk x (2 * n) (by omega) (by omega) W)
  have hz : (bytesB (hexL false x (2 * n))).size = 2 * n := by rw [bytesB_size, hexL_length]
  have q0 : ¬ 9223372036854775807 < 1 + 2 * n := by omega
  have q1 : ¬ 9223372036854775807 < 1 + (1 + 2 * n) := by omega
  go_enter Tryz.func35, Tryz.ntmps35
  go_upto_region 1 with fail
  obtain ⟨X, hX⟩ : ∃ X, w.alloc (.cells #[.int .u8 c, .string s, .int .u8 25, .int .u8 u, .int .u8 wd] 38) = X := ⟨_, rfl⟩
  have HB := Lib.hid (show Below w.heap.size w X by rw [← hX]; exact (Below.refl _ w).alloc (Nat.le_refl _) _)
  have g2 : X.cell? ⟨w.heap.size, 2, none⟩ = some (.int .u8 25) := by rw [← hX]; simp [go_sem]
  rw [hX]
  clear hX
  have HE2 := Lib.hid (show (⟨#[36]⟩ : ByteArray) ++ bytesB (hexL false x (2 * n)) = bytesB (toldL 25 n x pc) by rw [dollar, toldL_word 25 n x pc (by decide)]; rfl)
  go_wp2_with (go_at_call 49; refine (HDG.out _).mono ?_; rintro e w1 ⟨rfl, rfl⟩)
  go_ret
  exact ⟨by rw [← HE2.out]; rfl, HB.out⟩

set_option maxRecDepth 100000 in
set_option maxHeartbeats 2000000 in
theorem refTold_move (c : Int) (s : ByteArray) (u wd pc n x : Nat) (hpc : pc < 65536) (hn3 : n ≤ 3) (hx : x < 16777216) (w : World) :
    Calls Tryz.prog 35 #[.agg #[.int .u8 c, .string s, .int .u8 23, .int .u8 u, .int .u8 wd], .int .i64 x, .int .i64 n, .int .i64 pc] w fun e w' => e = .returned (.string (bytesB (toldL 23 n x pc))) ∧ Below w.heap.size w w' := by
  have HE := Lib.hid (show (⟨#[36]⟩ : ByteArray) ++ bytesB (hexL false (x % 256) 2) ++ ⟨#[44, 36]⟩ ++ bytesB (hexL false (x / 256) 2) = bytesB (toldL 23 n x pc) by
    rw [dollar, toldL_move, show (⟨#[44, 36]⟩ : ByteArray) = bytesB [44, 36] from rfl, bytesB_append, bytesB_append, List.append_assoc]; rfl)
  have HD0 := Lib.hid (fun W (y : Int) (hy : y = ((x % 256 : Nat) : Int)) => refDigits_at (x % 256) 2 y 2 hy rfl (by omega) (by omega) W)
  have HD1 := Lib.hid (fun W (y : Int) (hy : y = ((x / 256 : Nat) : Int)) => refDigits_at (x / 256) 2 y 2 hy rfl (by omega) (by omega) W)
  have z0 : (bytesB (hexL false (x % 256) 2)).size = 2 := by rw [bytesB_size, hexL_length]
  have z1 : (bytesB (hexL false (x / 256) 2)).size = 2 := by rw [bytesB_size, hexL_length]
  go_enter Tryz.func35, Tryz.ntmps35
  go_upto_region 1 with fail
  obtain ⟨X, hX⟩ : ∃ X, w.alloc (.cells #[.int .u8 c, .string s, .int .u8 23, .int .u8 u, .int .u8 wd] 38) = X := ⟨_, rfl⟩
  have HB := Lib.hid (show Below w.heap.size w X by rw [← hX]; exact (Below.refl _ w).alloc (Nat.le_refl _) _)
  have g2 : X.cell? ⟨w.heap.size, 2, none⟩ = some (.int .u8 23) := by rw [← hX]; simp [go_sem]
  rw [hX]
  clear hX
  go_wp2_with (go_at_call 49; first | (refine (HD0.out _ _ (by omega)).mono ?_; rintro e w1 ⟨rfl, rfl⟩) | (refine (HD1.out _ _ (by omega)).mono ?_; rintro e w1 ⟨rfl, rfl⟩))
  go_ret
  exact ⟨by rw [← HE.out]; rfl, HB.out⟩

set_option maxRecDepth 100000 in
set_option maxHeartbeats 2000000 in
theorem refTold_rest (c : Int) (s : ByteArray) (m u wd pc n x : Nat) (hpc : pc < 65536) (hn3 : n ≤ 3) (hx : x < 16777216) (w : World) (hm : 2 ≤ m ∧ m < 23 ∧ m ≠ 3 ∧ m ≠ 4 ∧ m ≠ 2) :
    Calls Tryz.prog 35 #[.agg #[.int .u8 c, .string s, .int .u8 m, .int .u8 u, .int .u8 wd], .int .i64 x, .int .i64 n, .int .i64 pc] w fun e w' => e = .returned (.string (bytesB (toldL m n x pc))) ∧ Below w.heap.size w w' := by
  have HE := Lib.hid (show bytesB (numL x n) = bytesB (numL x n) from rfl)
  have a7 : IntKind.i64.wrap (2 * (n : Int)) = ((2 * n : Nat) : Int) := by rw [IntWalk.i64_in _ (by omega)]; omega
  have HDG := Lib.hid (fun W => refDigits_walk x (2 * n) (by omega) (by omega) W)
  have hz : (bytesB (hexL false x (2 * n))).size = 2 * n := by rw [bytesB_size, hexL_length]
  have q0 : ¬ 9223372036854775807 < 1 + 2 * n := by omega
  have q1 : ¬ 9223372036854775807 < 1 + (1 + 2 * n) := by omega
  have HR := Lib.hid (toldL_rest m n x pc (by omega) (by omega) (by omega) (by omega))
  have HSW := Lib.hid (fun W => sign_walk m (by omega) W)
  have hzs := sign_lim m (by omega)
  have HNS := Lib.hid (show ∀ b ∈ (signB m).data.toList, b ≠ 35 by rw [show signB m = signT m from sign_ok ⟨m, by omega⟩]; exact sign_noSharp ⟨m, by omega⟩ hm.2.2.2.2)
  obtain ⟨T, hT⟩ : ∃ T, signB m = T := ⟨_, rfl⟩
  rw [hT] at HR HSW hzs HNS
  have hz7 := hzs.1
  have HBT := Lib.hid (fun i (h : i < T.size) => byteN_of T i h)
  have HON := Lib.hid (fun i (h : i < T.size) => one_cut T i h)
  have HST := Lib.hid (signAt_step (numL x n) T)
  have HAL := Lib.hid (signAt_all (numL x n) T)
  have hnl : (numL x n).length ≤ 7 := by unfold numL; rw [List.length_cons, hexL_length]; omega
  have HNM := Lib.hid (show (⟨#[36]⟩ : ByteArray) ++ bytesB (hexL false x (2 * n)) = bytesB (numL x n) from dollar _)
  have e1 : ((m : Int) == 1) = false := by rw [beq_eq_false_iff_ne]; omega
  have e2 : ((m : Int) == 2) = false := by rw [beq_eq_false_iff_ne]; omega
  have e3 : ((m : Int) == 3) = false := by rw [beq_eq_false_iff_ne]; omega
  have e4 : ((m : Int) == 4) = false := by rw [beq_eq_false_iff_ne]; omega
  have e23 : ((m : Int) == 23) = false := by rw [beq_eq_false_iff_ne]; omega
  have e24 : ¬ (24 : Int) ≤ (m : Int) := by omega
  have HM := Lib.hid hm
  clear hT hzs hm
  go_enter Tryz.func35, Tryz.ntmps35
  go_upto_region 1 with fail
  obtain ⟨X, hX⟩ : ∃ X, w.alloc (.cells #[.int .u8 c, .string s, .int .u8 m, .int .u8 u, .int .u8 wd] 38) = X := ⟨_, rfl⟩
  have HB := Lib.hid (show Below w.heap.size w X by rw [← hX]; exact (Below.refl _ w).alloc (Nat.le_refl _) _)
  have g2 : X.cell? ⟨w.heap.size, 2, none⟩ = some (.int .u8 m) := by rw [← hX]; simp [go_sem]
  rw [hX]
  clear hX
  go_upto_region 15 with (first | (go_at_call 49; refine (HDG.out _).mono ?_; rintro e w1 ⟨rfl, rfl⟩) | (go_at_call 29; refine (HSW.out _).mono ?_; rintro e w1 ⟨rfl, rfl⟩))
  rw [HNM.out]
  obtain ⟨num, hnum⟩ : ∃ num, numL x n = num := ⟨_, rfl⟩
  rw [hnum] at HR HST HAL hnl ⊢
  clear hnum HNM HE hz HDG HSW
  obtain ⟨NB, hNB⟩ : ∃ NB, bytesB num = NB := ⟨_, rfl⟩
  have hzn : NB.size = num.length := by rw [← hNB]; exact bytesB_size num
  rw [hNB]
  have HNB := Lib.hid hNB
  clear hNB
  go_loopw [11, 12] (fun s11 s12 wr => ∃ (i : Nat) (B : ByteArray), i ≤ T.size ∧ s11 = .string B ∧ s12 = .int .i64 i ∧ wr = w1 ∧ Hid (B = bytesB (signAt num T i)) ∧ B.size ≤ 8 * i) (fun _ s12 _ => T.size - (intOf s12).toNat)
  case atStart => exact ⟨0, _, Nat.zero_le _, rfl, rfl, rfl, Lib.hid (by rw [signAt_zero]; rfl), Nat.le_refl _⟩
  case round =>
    obtain ⟨i, B, hi, rfl, rfl, rfl, HA, hzB⟩ := hrel
    by_cases hlt : i < T.size
    · have b1 : (i : Int) < (T.size : Int) := by omega
      have j1 : IntKind.i64.wrap ((i : Int) + 1) = ((i + 1 : Nat) : Int) := by rw [IntWalk.i64_in _ (by omega)]; rfl
      have j2 : ((i + 1 : Nat) : Int) ≤ (T.size : Int) := by omega
      have j3 : (i : Int) ≤ ((i + 1 : Nat) : Int) := by omega
      have hby := HBT.out i hlt
      have HNSi := Lib.hid (show byteN T i ≠ 35 from HNS.out _ (by rw [← hby]; show T.data[i] ∈ T.data.toList; rw [← Array.getElem_toList]; exact List.getElem_mem _))
      obtain ⟨y, hy⟩ : ∃ y, (T[i]'hlt).toNat = y := ⟨_, rfl⟩
      have hyb : (byteN T i).toNat = y := by rw [← hby]; exact hy
      have HY := Lib.hid hyb
      have q2 : ¬ 9223372036854775807 < B.size + num.length := by omega
      have q3 : ¬ 9223372036854775807 < B.size + 1 := by omega
      have HZ1 := HON.out i hlt
      have q4 : (bytesB [byteN T i]).size = 1 := rfl
      clear hby hyb
      by_cases h100 : y = 100
      · have hx1 : (y : Int) = 100 := by omega
        have x100 : ((y : Int) == 100) = true := by rw [hx1]; rfl
        have hyv : byteN T i = 100 := UInt8.toNat_inj.1 (by rw [HY.out]; exact h100)
        have HSS := Lib.hid (show B ++ NB = bytesB (signAt num T (i + 1)) by rw [HST.out i hlt, HA.out, ← HNB.out, bytesB_append]; simp [hyv])
        clear hx1 hyv HZ1
        go_wp2_with fail
        go_roundw
        case rel => exact ⟨i + 1, _, by omega, rfl, by simp, trivial, HSS, by rw [ByteArray.size_append, hzn]; omega⟩
        case measure => simp [intOf]; omega
      by_cases h97 : y = 97
      · have hx1 : (y : Int) = 97 := by omega
        have x100 : ((y : Int) == 100) = false := by rw [beq_eq_false_iff_ne]; omega
        have x97 : ((y : Int) == 97) = true := by rw [hx1]; rfl
        have hyv : byteN T i = 97 := UInt8.toNat_inj.1 (by rw [HY.out]; exact h97)
        have HSS := Lib.hid (show B ++ NB = bytesB (signAt num T (i + 1)) by rw [HST.out i hlt, HA.out, ← HNB.out, bytesB_append]; simp [hyv])
        clear hx1 hyv HZ1
        go_wp2_with fail
        go_roundw
        case rel => exact ⟨i + 1, _, by omega, rfl, by simp, trivial, HSS, by rw [ByteArray.size_append, hzn]; omega⟩
        case measure => simp [intOf]; omega
      by_cases h108 : y = 108
      · have hx1 : (y : Int) = 108 := by omega
        have x100 : ((y : Int) == 100) = false := by rw [beq_eq_false_iff_ne]; omega
        have x97 : ((y : Int) == 97) = false := by rw [beq_eq_false_iff_ne]; omega
        have x108 : ((y : Int) == 108) = true := by rw [hx1]; rfl
        have hyv : byteN T i = 108 := UInt8.toNat_inj.1 (by rw [HY.out]; exact h108)
        have HSS := Lib.hid (show B ++ NB = bytesB (signAt num T (i + 1)) by rw [HST.out i hlt, HA.out, ← HNB.out, bytesB_append]; simp [hyv])
        clear hx1 hyv HZ1
        go_wp2_with fail
        go_roundw
        case rel => exact ⟨i + 1, _, by omega, rfl, by simp, trivial, HSS, by rw [ByteArray.size_append, hzn]; omega⟩
        case measure => simp [intOf]; omega
      · have x100 : ((y : Int) == 100) = false := by rw [beq_eq_false_iff_ne]; omega
        have x97 : ((y : Int) == 97) = false := by rw [beq_eq_false_iff_ne]; omega
        have x108 : ((y : Int) == 108) = false := by rw [beq_eq_false_iff_ne]; omega
        have hy100 : ¬ byteN T i = 100 := fun e => h100 (by rw [← HY.out, e]; rfl)
        have hy97 : ¬ byteN T i = 97 := fun e => h97 (by rw [← HY.out, e]; rfl)
        have hy108 : ¬ byteN T i = 108 := fun e => h108 (by rw [← HY.out, e]; rfl)
        have HSS := Lib.hid (show B ++ T.extract i (i + 1) = bytesB (signAt num T (i + 1)) by rw [HST.out i hlt, HA.out, HZ1, bytesB_append, if_neg (by rintro (h | h | h); exact hy100 h; exact hy97 h; exact hy108 h), if_neg HNSi.out])
        have HZS : (T.extract i (i + 1)).size = 1 := by rw [HZ1]; rfl
        clear hy100 hy97 hy108 HZ1
        go_wp2_with fail
        go_roundw
        case rel => exact ⟨i + 1, _, by omega, rfl, by simp, trivial, HSS, by rw [ByteArray.size_append, HZS]; omega⟩
        case measure => simp [intOf]; omega
    · have b1 : ¬ (i : Int) < (T.size : Int) := by omega
      have HE2 := Lib.hid (show B = bytesB (toldL m n x pc) by rw [HA.out, show i = T.size by omega, HAL.out, HR.out])
      go_wp2_with fail
      go_ret
      exact ⟨by rw [← HE2.out]; rfl, HB.out⟩
end Go.Proofs.YtpeieilbjadcfaaGreatDoor
