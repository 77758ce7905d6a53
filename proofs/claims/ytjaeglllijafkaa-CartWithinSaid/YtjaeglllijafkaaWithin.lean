/- CartWithin's walk: every branch of the law, met by the contract of Place. -/
import Derived.Test.YtjaeglllijafkaaPlace
namespace Go.Proofs.Ytjaeglllijafkaa
open Go.RowKit
set_option linter.unusedVariables false

theorem place_any (a n : Int) (a0 : 0 ≤ a) (n0 : 1 ≤ n) (n1 : n ≤ 1073741824) (a1 : a ≤ 4611686018427387904) (w : World) :
    Calls Try.prog 5 #[.int .i64 a, .int .i64 n] w fun e w' => e = .returned (.int .i64 (placeF a.toNat n.toNat)) ∧ Below w.heap.size w w' := by
  have h := place_walk a.toNat n.toNat (by omega) (by omega) (by omega) w
  rw [show ((a.toNat : Nat) : Int) = a from by omega, show ((n.toNat : Nat) : Int) = n from by omega] at h
  exact h

theorem c1 : Hid (((placeF (5 : Int).toNat (3 : Int).toNat : Nat) : Int) = 1) := congrArg Nat.cast place_52
theorem c2 : Hid (((placeF (3 : Int).toNat (3 : Int).toNat : Nat) : Int) = 2) := congrArg Nat.cast place_33

theorem within_no (a n m : Int) (wa : -9223372036854775808 ≤ a ∧ a ≤ 9223372036854775807) (wn : -9223372036854775808 ≤ n ∧ n ≤ 9223372036854775807) (wm : -9223372036854775808 ≤ m ∧ m ≤ 9223372036854775807)
    (h : a < 0 ∨ n < 1 ∨ 1073741824 < n ∨ 1099511627776 < a ∨ m < 0 ∨ 1000 < m) (w : World) :
    Calls Try.prog 3 #[.int .i64 a, .int .i64 n, .int .i64 m] w fun e w' => e = .returned (.bool true) ∧ Below w.heap.size w w' := by
  go_enter Try.func3, Try.ntmps3
  go_upto_region 3 with (go_at_call 5; refine (place_any _ _ (by omega) (by omega) (by omega) (by omega) _).mono ?_; first | (rintro e w1 ⟨rfl, hb1⟩; rw [c1.out]) | (rintro e w2 ⟨rfl, hb2⟩; rw [c2.out]))
  go_cut [36] (fun s36 wx => s36 = .bool true ∧ w2 = wx)
  case first =>
    go_wp2_with fail
    all_goals
      go_meet
      exact ⟨by simp <;> omega, rfl⟩
  case rest =>
    obtain ⟨rfl, rfl⟩ := hcut
    go_wp2_with fail
    go_ret
    exact ⟨rfl, hb1.trans (hb2.mono hb1.size)⟩

set_option maxHeartbeats 2000000 in
theorem within_low (a n m : Int) (a0 : 0 ≤ a) (a1 : a ≤ 1099511627776) (n0 : 1 ≤ n) (n1 : n ≤ 1073741824) (m0 : 0 ≤ m) (m1 : m ≤ 1000) (hl : a < n)
    (q0 : 0 ≤ a) (q1 : a < n) (HP : Hid (((placeF a.toNat n.toNat : Nat) : Int) = a)) (HA : Hid (((placeF (a).toNat n.toNat : Nat) : Int) = a)) (w : World) :
    Calls Try.prog 3 #[.int .i64 a, .int .i64 n, .int .i64 m] w fun e w' => e = .returned (.bool true) ∧ Below w.heap.size w w' := by
  have hL : bitLen (n.toNat - 1) ≤ 31 := bitLen_small (by omega)
  obtain ⟨L, hL2⟩ : ∃ L, bitLen (n.toNat - 1) = L := ⟨_, rfl⟩
  rw [hL2] at hL
  have HL := Lib.hid hL2
  clear hL2
  go_enter Try.func3, Try.ntmps3
  go_upto_region 3 with (go_at_call 5; refine (place_any _ _ (by omega) (by omega) (by omega) (by omega) _).mono ?_; first | (rintro e w1 ⟨rfl, hb1⟩; rw [c1.out]) | (rintro e w2 ⟨rfl, hb2⟩; rw [c2.out]))
  go_upto_region 6 with (go_at_call 5; refine (place_any _ _ (by omega) (by omega) (by omega) (by omega) _).mono ?_; rintro e w3 ⟨rfl, hb3⟩)
  rw [HP.out]
  have hb := (hb1.trans (hb2.mono hb1.size)).trans (hb3.mono (hb1.trans (hb2.mono hb1.size)).size)
  go_cut [63] (fun s63 wx => s63 = .bool false ∧ Below w.heap.size w wx)
  case first =>
    go_wp2_with (go_at_call 5; refine (place_any _ _ (by omega) (by omega) (by omega) (by omega) _).mono ?_; rintro e w4 ⟨rfl, hb4⟩; rw [HA.out])
    go_meet
    exact ⟨by simp <;> omega, hb.trans (hb4.mono hb.size)⟩
  case rest =>
    obtain ⟨rfl, hbc⟩ := hcut
    go_wp2_with fail
    go_loopg [8] (L + 1) (fun gk v8 wr => ∃ (j W2 : Nat), j + gk = L + 1 ∧ j ≤ L ∧ v8 = .int .i64 W2 ∧ Hid (2 ^ j = W2) ∧ W2 ≤ 2147483648 ∧ 1 ≤ W2 ∧ Below w.heap.size w wr)
    case atStart => exact ⟨0, 1, by omega, by omega, rfl, (by show _ = _; rfl), by omega, by omega, hbc⟩
    case round =>
      obtain ⟨j, W2, hj, hjL, rfl, hW, hW1, hW0, hbr⟩ := hrel
      by_cases hl : (W2 : Int) < n
      · have hj2 : j < L := by
          have := least_on (j := j) (n := n.toNat) (by rw [hW.out]; omega)
          rw [HL.out] at this; exact this
        have hW3 : Hid (2 ^ (j + 1) = 2 * W2) := by show _ = _; rw [Nat.pow_succ, hW.out, Nat.mul_comm]
        go_wp2_with fail
        go_roundg (L - j)
        case measure => omega
        case rel => exact ⟨j + 1, 2 * W2, by omega, by omega, by go_num, hW3, by omega, by omega, hbr⟩
      · have hend : j = L := by
          have := least_end (j := j) (n := n.toNat) (by rw [HL.out]; omega) (by rw [hW.out]; omega)
          rw [HL.out] at this; exact this
        obtain ⟨Z, hZ⟩ : ∃ Z : Nat, (Z : Int) = m * (W2 : Int) := ⟨(m * (W2 : Int)).toNat, by have := Int.mul_nonneg m0 (show (0 : Int) ≤ W2 by omega); omega⟩
        have hZ1 : (Z : Int) ≤ 2147483648000 := by
          rw [hZ]; exact Int.le_trans (Int.mul_le_mul m1 (show (W2 : Int) ≤ 2147483648 by omega) (by omega) (by omega)) (by omega)
        have hlast : ((placeF (a + (Z : Int)).toNat n.toNat : Nat) : Int) = a := by
          have h1 := place_period a.toNat m.toNat n.toNat (by omega)
          rw [HL.out, ← hend, hW.out] at h1
          refine Eq.trans ?_ HP.out; rw [← h1]; congr 2
          have : ((m.toNat * W2 : Nat) : Int) = m * W2 := by rw [Int.natCast_mul]; congr 1; omega
          omega
        have HZ := Lib.hid hlast
        have hZ2 := hZ.symm
        clear hlast hZ
        go_wp2_with (go_at_call 5; refine (place_any _ _ (by omega) (by omega) (by omega) (by omega) _).mono ?_; rintro e w4 ⟨rfl, hb4⟩; rw [HZ.out])
        go_ret
        exact ⟨rfl, hbr.trans (hb4.mono hbr.size)⟩
set_option maxHeartbeats 2000000 in
theorem within_high (a n m q : Int) (a0 : 0 ≤ a) (a1 : a ≤ 1099511627776) (n0 : 1 ≤ n) (n1 : n ≤ 1073741824) (m0 : 0 ≤ m) (m1 : m ≤ 1000) (hl : n ≤ a)
    (q0 : 0 ≤ q) (q1 : q < n) (HP : Hid (((placeF a.toNat n.toNat : Nat) : Int) = q)) (HA : Hid (((placeF (q).toNat n.toNat : Nat) : Int) = q)) (w : World) :
    Calls Try.prog 3 #[.int .i64 a, .int .i64 n, .int .i64 m] w fun e w' => e = .returned (.bool true) ∧ Below w.heap.size w w' := by
  have hL : bitLen (n.toNat - 1) ≤ 31 := bitLen_small (by omega)
  obtain ⟨L, hL2⟩ : ∃ L, bitLen (n.toNat - 1) = L := ⟨_, rfl⟩
  rw [hL2] at hL
  have HL := Lib.hid hL2
  clear hL2
  go_enter Try.func3, Try.ntmps3
  go_upto_region 3 with (go_at_call 5; refine (place_any _ _ (by omega) (by omega) (by omega) (by omega) _).mono ?_; first | (rintro e w1 ⟨rfl, hb1⟩; rw [c1.out]) | (rintro e w2 ⟨rfl, hb2⟩; rw [c2.out]))
  go_upto_region 6 with (go_at_call 5; refine (place_any _ _ (by omega) (by omega) (by omega) (by omega) _).mono ?_; rintro e w3 ⟨rfl, hb3⟩)
  rw [HP.out]
  have hb := (hb1.trans (hb2.mono hb1.size)).trans (hb3.mono (hb1.trans (hb2.mono hb1.size)).size)
  go_cut [63] (fun s63 wx => s63 = .bool false ∧ Below w.heap.size w wx)
  case first =>
    go_wp2_with (go_at_call 5; refine (place_any _ _ (by omega) (by omega) (by omega) (by omega) _).mono ?_; rintro e w4 ⟨rfl, hb4⟩; rw [HA.out])
    go_meet
    exact ⟨by simp <;> omega, hb.trans (hb4.mono hb.size)⟩
  case rest =>
    obtain ⟨rfl, hbc⟩ := hcut
    go_wp2_with fail
    go_loopg [8] (L + 1) (fun gk v8 wr => ∃ (j W2 : Nat), j + gk = L + 1 ∧ j ≤ L ∧ v8 = .int .i64 W2 ∧ Hid (2 ^ j = W2) ∧ W2 ≤ 2147483648 ∧ 1 ≤ W2 ∧ Below w.heap.size w wr)
    case atStart => exact ⟨0, 1, by omega, by omega, rfl, (by show _ = _; rfl), by omega, by omega, hbc⟩
    case round =>
      obtain ⟨j, W2, hj, hjL, rfl, hW, hW1, hW0, hbr⟩ := hrel
      by_cases hl : (W2 : Int) < n
      · have hj2 : j < L := by
          have := least_on (j := j) (n := n.toNat) (by rw [hW.out]; omega)
          rw [HL.out] at this; exact this
        have hW3 : Hid (2 ^ (j + 1) = 2 * W2) := by show _ = _; rw [Nat.pow_succ, hW.out, Nat.mul_comm]
        go_wp2_with fail
        go_roundg (L - j)
        case measure => omega
        case rel => exact ⟨j + 1, 2 * W2, by omega, by omega, by go_num, hW3, by omega, by omega, hbr⟩
      · have hend : j = L := by
          have := least_end (j := j) (n := n.toNat) (by rw [HL.out]; omega) (by rw [hW.out]; omega)
          rw [HL.out] at this; exact this
        obtain ⟨Z, hZ⟩ : ∃ Z : Nat, (Z : Int) = m * (W2 : Int) := ⟨(m * (W2 : Int)).toNat, by have := Int.mul_nonneg m0 (show (0 : Int) ≤ W2 by omega); omega⟩
        have hZ1 : (Z : Int) ≤ 2147483648000 := by
          rw [hZ]; exact Int.le_trans (Int.mul_le_mul m1 (show (W2 : Int) ≤ 2147483648 by omega) (by omega) (by omega)) (by omega)
        have hlast : ((placeF (a + (Z : Int)).toNat n.toNat : Nat) : Int) = q := by
          have h1 := place_period a.toNat m.toNat n.toNat (by omega)
          rw [HL.out, ← hend, hW.out] at h1
          refine Eq.trans ?_ HP.out; rw [← h1]; congr 2
          have : ((m.toNat * W2 : Nat) : Int) = m * W2 := by rw [Int.natCast_mul]; congr 1; omega
          omega
        have HZ := Lib.hid hlast
        have hZ2 := hZ.symm
        clear hlast hZ
        go_wp2_with (go_at_call 5; refine (place_any _ _ (by omega) (by omega) (by omega) (by omega) _).mono ?_; rintro e w4 ⟨rfl, hb4⟩; rw [HZ.out])
        go_ret
        exact ⟨rfl, hbr.trans (hb4.mono hbr.size)⟩

theorem within_yes (a n m : Int) (a0 : 0 ≤ a) (a1 : a ≤ 1099511627776) (n0 : 1 ≤ n) (n1 : n ≤ 1073741824) (m0 : 0 ≤ m) (m1 : m ≤ 1000) (w : World) :
    Calls Try.prog 3 #[.int .i64 a, .int .i64 n, .int .i64 m] w fun e w' => e = .returned (.bool true) ∧ Below w.heap.size w w' := by
  have hlt := place_lt n.toNat a.toNat (by omega)
  by_cases hl : a < n
  · have e : ((placeF a.toNat n.toNat : Nat) : Int) = a := by rw [place_low (by omega)]; omega
    exact within_low a n m a0 a1 n0 n1 m0 m1 hl (by omega) (by omega) e e w
  · exact within_high a n m (placeF a.toNat n.toNat : Nat) a0 a1 n0 n1 m0 m1 (by omega) (by omega) (by omega) rfl
      (by show ((placeF (placeF a.toNat n.toNat) n.toNat : Nat) : Int) = _; rw [place_again _ _ (by omega)]) w

theorem law_within (a n m : Int) (w : World) (wa : (Lit.int .i64 a).wf = true) (wn : (Lit.int .i64 n).wf = true) (wm : (Lit.int .i64 m).wf = true) :
    Calls Try.prog 3 #[.int .i64 a, .int .i64 n, .int .i64 m] w fun e w' => e = .returned (.bool true) ∧ Below w.heap.size w w' := by
  have b0 := bounds_i64 wa
  have b1 := bounds_i64 wn
  have b2 := bounds_i64 wm
  by_cases h : a < 0 ∨ n < 1 ∨ 1073741824 < n ∨ 1099511627776 < a ∨ m < 0 ∨ 1000 < m
  · exact within_no a n m ⟨by omega, by omega⟩ ⟨by omega, by omega⟩ ⟨by omega, by omega⟩ h w
  · exact within_yes a n m (by omega) (by omega) (by omega) (by omega) (by omega) (by omega) w
theorem walk_within (a n m : Int) (w : World) (wa : (Lit.int .i64 a).wf = true) (wn : (Lit.int .i64 n).wf = true) (wm : (Lit.int .i64 m).wf = true) :
    Calls Try.prog 3 #[.int .i64 a, .int .i64 n, .int .i64 m] w fun e w' => e = .returned (.bool true) ∧ Below w.heap.size w w' := law_within a n m w wa wn wm
end Go.Proofs.Ytjaeglllijafkaa
