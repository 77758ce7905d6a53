/- The walk of 'ShapeNoise' and of 'Noise': for every two numbers of 16 bits the law returns true; no condition. -/
import Derived.Test.YtecmebimgmmbaaaProg
import Derived.WalkKit
import Derived.Handy
namespace Go.Proofs.Ytecmebimgmmbaaa
open Go.RowKit

/-- What 'Noise' gives, in plain numbers. -/
def noiseN (x : Int) : Int := x % 32768 / 2 + 16384 * ((x % 32768 + x % 32768 / 2) % 2)

theorem noise_bits (x : Int) (h0 : 0 ≤ x) (h1 : x ≤ 65535) :
    bits BinOp.or IntKind.u16 (bits BinOp.and IntKind.u16 x 32767 / 2)
      (IntKind.u16.wrap (bits BinOp.and IntKind.u16 (bits BinOp.xor IntKind.u16 (bits BinOp.and IntKind.u16 x 32767) (bits BinOp.and IntKind.u16 x 32767 / 2)) 1 * 16384)) = noiseN x := by
  have e1 : bits BinOp.and IntKind.u16 x 32767 = x % 32768 := by
    rw [u16_and x 32767 h0 (by omega) (by decide) (by decide)]
    rw [show ((32767 : Int).toNat) = 32767 from rfl, nat_mask15]; omega
  rw [e1]
  unfold noiseN
  generalize hm : x % 32768 = m
  have hm0 : 0 ≤ m := by omega
  have hm1 : m < 32768 := by omega
  have e2 : bits BinOp.and IntKind.u16 (bits BinOp.xor IntKind.u16 m (m / 2)) 1 = (m + m / 2) % 2 := by
    rw [u16_xor m (m / 2) hm0 (by omega) (by omega) (by omega)]
    have hlt : m.toNat ^^^ (m / 2).toNat < 2 ^ 16 := Nat.xor_lt_two_pow (by omega) (by omega)
    rw [u16_and _ 1 (by omega) (by omega) (by decide) (by decide)]
    have hx := @Nat.xor_mod_two_eq_one m.toNat (m / 2).toNat
    rw [Int.toNat_natCast, show ((1 : Int).toNat) = 1 from rfl, nat_mask1]
    generalize m.toNat ^^^ (m / 2).toNat = z at *
    omega
  rw [e2, IntKind.wrap_u16]
  have e3 : (m + m / 2) % 2 * 16384 % 65536 = (m + m / 2) % 2 * 16384 := by omega
  rw [e3, u16_or _ _ (by omega) (by omega) (by omega) (by omega), Nat.or_comm, nat_join 14 _ _ (by omega) (by omega)]
  omega

theorem noise_any (x : Int) (h0 : 0 ≤ x) (h1 : x ≤ 65535) (w : World) :
    Calls Try.prog 7 #[.int .u16 x] w fun e w' => e = .returned (.int .u16 (noiseN x)) ∧ w = w' := by
  go_enter Try.func7, Try.ntmps7
  go_wp2
  go_ret
  exact ⟨by rw [← noise_bits x h0 h1]; rfl, rfl⟩

theorem eq_of_iff {p q : Bool} (h : (p = true) ↔ (q = true)) : p = q := by cases p <;> cases q <;> simp_all

theorem noise_inj (m n : Int) (h0 : 0 ≤ m) (h1 : m < 32768) (k0 : 0 ≤ n) (k1 : n < 32768)
    (h : m / 2 + 16384 * ((m + m / 2) % 2) = n / 2 + 16384 * ((n + n / 2) % 2)) : m = n := by
  have e1 : (m + m / 2) % 2 = (n + n / 2) % 2 := by omega
  have e2 : m / 2 = n / 2 := by omega
  omega

theorem law_noise (a0 a1 : Int) (p0 : 0 ≤ a0) (p1 : a0 ≤ 65535) (q0 : 0 ≤ a1) (q1 : a1 ≤ 65535) (w : World) :
    Calls Try.prog 3 #[.int .u16 a0, .int .u16 a1] w fun e w' => e = .returned (.bool true) ∧ w = w' := by
  have g1 : (noiseN 1 != 16384) = false := by decide
  have g2 : (noiseN 2 != 16385) = false := by decide
  have g3 : noiseN a0 < 32768 := by unfold noiseN; omega
  have g4 : noiseN a1 < 32768 := by unfold noiseN; omega
  have g5 : (noiseN a0 == noiseN a1) = (a0 % 32768 == a1 % 32768) := by
    refine eq_of_iff ?_; simp only [beq_iff_eq]; unfold noiseN
    exact ⟨noise_inj _ _ (by omega) (by omega) (by omega) (by omega), fun h => by rw [h]⟩
  have g6 : (noiseN a0 == 0) = (a0 % 32768 == 0) := by
    refine eq_of_iff ?_; simp only [beq_iff_eq]; unfold noiseN
    exact ⟨fun h => noise_inj _ 0 (by omega) (by omega) (by omega) (by omega) h, fun h => by rw [h]; rfl⟩
  go_enter Try.func3, Try.ntmps3
  go_wp2_with (go_at_call 7; refine (noise_any _ (by omega) (by omega) _).mono ?_; rintro e w' ⟨rfl, rfl⟩)
  go_ret
  exact ⟨rfl, rfl⟩
end Go.Proofs.Ytecmebimgmmbaaa
