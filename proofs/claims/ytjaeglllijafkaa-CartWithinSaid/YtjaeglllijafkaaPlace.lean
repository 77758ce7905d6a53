/- Where a place leads: plain words and laws (no program in sight), then the walk of the program's Place. -/
import Derived.Test.YtjaeglllijafkaaBits
import Derived.Test.YtjaeglllijafkaaKit
import Derived.Deep.LoopGhost
import Derived.Lib.ItoaNum
namespace Go.Proofs.Ytjaeglllijafkaa
open Go.RowKit

/-- How many bits n has. -/
def bitLen (n : Nat) : Nat := if n = 0 then 0 else n.log2 + 1
theorem bitLen_spec (n : Nat) : n < 2 ^ bitLen n ∧ (n ≠ 0 → 2 ^ (bitLen n - 1) ≤ n) := by
  unfold bitLen
  by_cases h : n = 0
  · subst h; exact ⟨by decide, fun h => absurd rfl h⟩
  · rw [if_neg h]; exact ⟨Nat.lt_log2_self, fun _ => Nat.log2_self_le h⟩
theorem bitLen_lib (n : Nat) (h : n < 2 ^ 64) : Lib.bitLen n = bitLen n := by
  by_cases h0 : n = 0
  · subst h0; rfl
  · obtain ⟨b1, b2, b3⟩ := Lib.bitLenAux_bounds 64 n h h0
    obtain ⟨c1, c2⟩ := bitLen_spec n
    have c2 := c2 h0
    show Lib.bitLenAux 64 n = _
    have c3 : 1 ≤ bitLen n := by unfold bitLen; rw [if_neg h0]; omega
    have e1 := (Nat.pow_lt_pow_iff_right (a := 2) (by omega)).1 (Nat.lt_of_le_of_lt b2 c1)
    have e2 := (Nat.pow_lt_pow_iff_right (a := 2) (by omega)).1 (Nat.lt_of_le_of_lt c2 b3)
    omega

/-- The place that place a leads to, in n bytes. -/
def placeF (a n : Nat) : Nat :=
  if a < n then a
  else if a % 2 ^ bitLen (n - 1) < n then a % 2 ^ bitLen (n - 1)
  else if _h : n = 0 then 0
  else 2 ^ (bitLen n - 1) + placeF (a % 2 ^ bitLen (n - 1) - 2 ^ (bitLen n - 1)) (n - 2 ^ (bitLen n - 1))
termination_by n
decreasing_by have := Nat.two_pow_pos (bitLen n - 1); omega

theorem place_low {a n : Nat} (h : a < n) : placeF a n = a := by rw [placeF, if_pos h]
theorem place_mod {a n : Nat} (h : ¬ a < n) (g : a % 2 ^ bitLen (n - 1) < n) : placeF a n = a % 2 ^ bitLen (n - 1) := by rw [placeF, if_neg h, if_pos g]
theorem place_rest {a n : Nat} (h : ¬ a < n) (g : ¬ a % 2 ^ bitLen (n - 1) < n) (hn : n ≠ 0) :
    placeF a n = 2 ^ (bitLen n - 1) + placeF (a % 2 ^ bitLen (n - 1) - 2 ^ (bitLen n - 1)) (n - 2 ^ (bitLen n - 1)) := by rw [placeF, if_neg h, if_neg g, dif_neg hn]
theorem pow_low {n : Nat} (h : n ≠ 0) : 2 ^ (bitLen n - 1) ≤ n := (bitLen_spec n).2 h
theorem pow_high (n : Nat) : n ≤ 2 ^ bitLen (n - 1) := by have := (bitLen_spec (n - 1)).1; omega
theorem pow_strict {a n : Nat} (hn : n ≠ 0) (g : ¬ a % 2 ^ bitLen (n - 1) < n) : 2 ^ (bitLen n - 1) < n := by
  have h1 := pow_low hn
  have h2 : a % 2 ^ bitLen (n - 1) < 2 ^ bitLen (n - 1) := Nat.mod_lt _ (Nat.two_pow_pos _)
  rcases Nat.lt_or_ge (2 ^ (bitLen n - 1)) n with h | h
  · exact h
  · exfalso
    have e : 2 ^ (bitLen n - 1) = n := by omega
    have h3 : n < 2 ^ bitLen (n - 1) := by omega
    have h4 : n - 1 ≠ 0 := by
      intro h0
      have hb : bitLen (n - 1) = 0 := by rw [h0]; rfl
      rw [hb] at h3; omega
    have h5 := pow_low h4
    have h6 : 2 ^ (bitLen (n - 1) - 1) < 2 ^ (bitLen n - 1) := by omega
    have h7 := (Nat.pow_lt_pow_iff_right (a := 2) (by omega)).1 h6
    have h8 : 2 ^ bitLen (n - 1) ≤ 2 ^ (bitLen n - 1) := Nat.pow_le_pow_right (by omega) (by omega)
    omega
theorem place_lt (n : Nat) : ∀ a, 0 < n → placeF a n < n := by
  induction n using Nat.strongRecOn with
  | ind n ih =>
    intro a hn
    by_cases h : a < n
    · rw [place_low h]; exact h
    · by_cases g : a % 2 ^ bitLen (n - 1) < n
      · rw [place_mod h g]; exact g
      · have hs := pow_strict (by omega) g
        have hp := Nat.two_pow_pos (bitLen n - 1)
        rw [place_rest h g (by omega)]
        have := ih (n - 2 ^ (bitLen n - 1)) (by omega) (a % 2 ^ bitLen (n - 1) - 2 ^ (bitLen n - 1)) (by omega)
        omega
theorem place_again (a n : Nat) (h : 0 < n) : placeF (placeF a n) n = placeF a n := place_low (place_lt n a h)
theorem place_period (a m n : Nat) (hn : 0 < n) : placeF (a + m * 2 ^ bitLen (n - 1)) n = placeF a n := by
  rcases Nat.eq_zero_or_pos m with rfl | hm
  · rw [Nat.zero_mul, Nat.add_zero]
  · have hh := pow_high n
    have hge : 2 ^ bitLen (n - 1) ≤ m * 2 ^ bitLen (n - 1) := Nat.le_mul_of_pos_left _ hm
    have he : (a + m * 2 ^ bitLen (n - 1)) % 2 ^ bitLen (n - 1) = a % 2 ^ bitLen (n - 1) := Nat.add_mul_mod_self_right _ _ _
    have hnot : ¬ a + m * 2 ^ bitLen (n - 1) < n := by omega
    by_cases h : a < n
    · rw [place_low h, place_mod hnot (by rw [he, Nat.mod_eq_of_lt (by omega)]; exact h), he, Nat.mod_eq_of_lt (by omega)]
    · by_cases g : a % 2 ^ bitLen (n - 1) < n
      · rw [place_mod h g, place_mod hnot (by rw [he]; exact g), he]
      · rw [place_rest h g (by omega), place_rest hnot (by rw [he]; exact g) (by omega), he]
/-- The least power of two that is not below n, as the law's loop finds it. -/
theorem least_end {j n : Nat} (hj : j ≤ bitLen (n - 1)) (h : n ≤ 2 ^ j) : j = bitLen (n - 1) := by
  rcases Nat.lt_or_ge j (bitLen (n - 1)) with g | g
  · exfalso
    have hb : n - 1 ≠ 0 := by intro e; rw [e] at g; exact Nat.not_lt_zero j g
    have h1 := pow_low hb
    have h2 : 2 ^ j ≤ 2 ^ (bitLen (n - 1) - 1) := Nat.pow_le_pow_right (by omega) (by omega)
    omega
  · omega
theorem least_on {j n : Nat} (h : 2 ^ j < n) : j < bitLen (n - 1) := by
  have h1 := (bitLen_spec (n - 1)).1
  exact (Nat.pow_lt_pow_iff_right (a := 2) (by omega)).1 (by omega)
theorem bitLen_small {n : Nat} (h : n ≤ 1073741824) : bitLen n ≤ 31 := by
  rcases Nat.eq_zero_or_pos n with rfl | h0
  · decide
  · have h1 := pow_low (by omega : n ≠ 0)
    have h2 : 2 ^ (bitLen n - 1) < 2 ^ 31 := by omega
    have := (Nat.pow_lt_pow_iff_right (a := 2) (by omega)).1 h2
    omega

theorem pow_fact {k b : Nat} (hk : k ≤ b) : ∃ x : Nat, 2 ^ k = x ∧ 1 ≤ x ∧ x ≤ 2 ^ b := ⟨2 ^ k, rfl, Nat.two_pow_pos _, Nat.pow_le_pow_right (by decide) hk⟩
theorem wrap_pow {k x : Nat} (hx : 2 ^ k = x) (hk : k ≤ 64) (h : x ≤ 2147483648) : wrap64 (2 ^ min k 64) = (x : Int) := by
  rw [Nat.min_eq_left hk, show (2 : Int) ^ k = ((2 ^ k : Nat) : Int) from by rw [Int.natCast_pow]; rfl, hx]
  clear hx hk
  simp [wrap64]; omega
theorem wrap_pred {k : Nat} (h : k ≤ 64) : wrap64 (((k + 1 : Nat) : Int) - 1) = (k : Int) := by simp [wrap64]; omega

theorem place_52 : placeF 5 3 = 1 := by
  rw [place_mod (by decide) (by decide)]; rfl
theorem place_33 : placeF 3 3 = 2 := by
  rw [place_rest (by decide) (by decide) (by decide), show 3 % 2 ^ bitLen (3 - 1) - 2 ^ (bitLen 3 - 1) = 1 from rfl, show 3 - 2 ^ (bitLen 3 - 1) = 1 from rfl, place_mod (by decide) (by decide)]; rfl

set_option maxHeartbeats 4000000 in
theorem place_walk (a0 n0 : Nat) (h0 : n0 ≠ 0) (h1 : n0 ≤ 1073741824) (h2 : a0 ≤ 4611686018427387904) (w : World) :
    Calls Try.prog 5 #[.int .i64 a0, .int .i64 n0] w fun e w' => e = .returned (.int .i64 (placeF a0 n0)) ∧ Below w.heap.size w w' := by
  obtain ⟨P, hP⟩ : ∃ P, placeF a0 n0 = P := ⟨_, rfl⟩
  rw [hP]
  have HP := Lib.hid hP
  clear hP
  have hPn : P < n0 := by rw [← HP.out]; exact place_lt _ _ (by omega)
  go_enter Try.func5, Try.ntmps5
  go_wp2_with fail
  go_loopg [0, 1, 5] n0 (fun gk v0 v1 v5 wr => ∃ (a n b : Nat), n = gk ∧ v0 = .int .i64 a ∧ v1 = .int .i64 n ∧ v5 = .int .i64 b ∧ n ≠ 0 ∧ b + n ≤ n0 ∧ a ≤ 4611686018427387904 ∧ Hid (b + placeF a n = P) ∧ Below w.heap.size w wr)
  case atStart => exact ⟨a0, n0, 0, rfl, rfl, rfl, rfl, h0, by omega, h2, by rw [Nat.zero_add]; exact HP, Below.refl _ _⟩
  case round =>
    obtain ⟨a, n, b, rfl, rfl, rfl, rfl, hn, hbn, ha, hc, hw⟩ := hrel
    by_cases hlt : a < n
    · have he : b + a = P := by have := hc.out; rw [place_low hlt] at this; exact this
      have HE := Lib.hid he
      clear he
      go_wp2_with fail
      go_ret
      refine ⟨ret_int ?_, hw⟩
      have := HE.out
      omega
    · have hm1 : a % 2 ^ bitLen (n - 1) < 2 ^ bitLen (n - 1) := Nat.mod_lt _ (Nat.two_pow_pos _)
      obtain ⟨k1, hk1⟩ : ∃ x, bitLen (n - 1) = x := ⟨_, rfl⟩
      obtain ⟨k2, hk2⟩ : ∃ x, bitLen n = x + 1 := ⟨bitLen n - 1, by unfold bitLen; rw [if_neg hn]; omega⟩
      have L1 : Hid (Lib.bitLen (n - 1) = k1) := by show _ = _; rw [bitLen_lib (n - 1) (by omega), hk1]
      have L2 : Hid (Lib.bitLen n = k2 + 1) := by show _ = _; rw [bitLen_lib n (by omega), hk2]
      have B1 : k1 ≤ 31 := by have := bitLen_small (n := n - 1) (by omega); omega
      have B2 : k2 ≤ 30 := by have := bitLen_small (n := n) (by omega); omega
      obtain ⟨W2, hW2, W0, W1⟩ := pow_fact B1
      obtain ⟨P2, hP2, P0, -⟩ := pow_fact B2
      have P1 : P2 ≤ n := by have := pow_low hn; rw [hk2, Nat.add_sub_cancel, hP2] at this; exact this
      have W1 : W2 ≤ 2147483648 := W1
      have HW := Lib.hid hW2
      have HP2 := Lib.hid hP2
      have HK1 := Lib.hid hk1
      have HK2 := Lib.hid hk2
      clear hW2 hP2 hk1 hk2
      obtain ⟨A, hA⟩ : ∃ x, a % W2 = x := ⟨_, rfl⟩
      have hA1 : A < W2 := hA ▸ Nat.mod_lt _ W0
      have hA2 : (a : Int) % (W2 : Int) = (A : Int) := by rw [← hA]; rfl
      have HA := Lib.hid hA
      clear hA
      have hmod : a % 2 ^ bitLen (n - 1) = A := by rw [HK1.out, HW.out, HA.out]
      have hpow : 2 ^ (bitLen n - 1) = P2 := by rw [HK2.out, Nat.add_sub_cancel, HP2.out]
      have E1 := Lib.hid (wrap_pow HW.out (by omega) (by omega))
      have E2 := Lib.hid (wrap_pow HP2.out (by omega) (by omega))
      have HM := Lib.hid hmod
      have HQ := Lib.hid hpow
      have HA2 := Lib.hid hA2
      clear hmod hpow hA2 hm1
      go_upto_region 6 with (go_at_call 12; refine (bits_Len _ _ (by omega) (by omega)).mono ?_; rintro e w1 ⟨rfl, rfl⟩)
      rw [L1.out, E1.out]
      have hA2 := HA2.out
      have w64 : ((W2 : Int) == 0) = false := by simp; omega
      by_cases hr : A < n
      · have he : b + A = P := by
          have := hc.out
          rw [place_mod hlt (by rw [HM.out]; exact hr), HM.out] at this; exact this
        have HE := Lib.hid he
        clear he
        go_wp2_with fail
        go_ret
        refine ⟨ret_int ?_, hw⟩
        have := HE.out
        omega
      · have hst := pow_strict (a := a) hn (by rw [HM.out]; exact hr)
        rw [HQ.out] at hst
        have he : (b + P2) + placeF (A - P2) (n - P2) = P := by
          have := hc.out
          rw [place_rest hlt (by rw [HM.out]; exact hr) hn, HM.out, HQ.out, ← Nat.add_assoc] at this; exact this
        have HE := Lib.hid he
        clear he
        have E3 : wrap64 (((Lib.bitLen n : Nat) : Int) - 1) = (k2 : Int) := by rw [L2.out]; exact wrap_pred (by omega)
        go_upto_region 9 with (go_at_call 12; refine (bits_Len _ _ (by omega) (by omega)).mono ?_; rintro e w1 ⟨rfl, rfl⟩)
        have E2 := E2.out
        rw [Nat.min_eq_left (by omega)] at E2
        rw [E2]
        clear E2 E3 hA2
        go_wp2_with fail
        go_roundg (n - P2)
        case measure => omega
        case rel => exact ⟨A - P2, n - P2, b + P2, rfl, by go_num, by go_num, by go_num, by omega, by omega, by omega, HE, hw⟩
end Go.Proofs.Ytjaeglllijafkaa
