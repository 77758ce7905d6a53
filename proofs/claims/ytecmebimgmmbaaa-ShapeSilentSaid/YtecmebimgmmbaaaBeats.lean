/- The walks of 'Period', 'Beats' and of the law 'ShapeBeats': for every rate and every sample's number; no condition. -/
import Derived.Test.YtecmebimgmmbaaaProg
import Derived.WalkKit
import Derived.Handy
import Derived.OpenShut
import Derived.Deep.DeepCutAuto
import Derived.Lib.Hide
namespace Go.Proofs.Ytecmebimgmmbaaa
open Go.RowKit

/-- The first period of a rate's kind. -/
def firstN (r : Int) : Int := if (r - 1) % 3 = 0 then 2048 else if (r - 1) % 3 = 1 then 1536 else 1280
/-- The period of a rate. -/
def periodN (r : Int) : Int :=
  if r ≤ 0 ∨ 31 < r then 0 else if r = 31 then 1 else firstN r / 2 ^ ((r - 1) / 3).toNat

theorem period_mid (r : Int) (h0 : 1 ≤ r) (h1 : r ≤ 30) (w : World) :
    Calls Try.prog 8 #[.int .u8 r] w fun e w' => e = .returned (.int .i64 (periodN r)) ∧ Below w.heap.size w w' := by
  have hp : periodN r = firstN r / 2 ^ ((r - 1) / 3).toNat := by
    unfold periodN; rw [if_neg (by omega), if_neg (by omega)]
  have hsel : [Value.int IntKind.i64 2048, Value.int IntKind.i64 1536, Value.int IntKind.i64 1280][((r - 1) % 3).toNat]? = some (.int .i64 (firstN r)) := by
    unfold firstN
    have : (r - 1) % 3 = 0 ∨ (r - 1) % 3 = 1 ∨ (r - 1) % 3 = 2 := by omega
    rcases this with h | h | h <;> rw [h] <;> rfl
  have g0 : (r == 0) = false := by simp; omega
  have g1 : (r == 31) = false := by simp; omega
  have Hp : Hid (periodN r = firstN r / 2 ^ ((r - 1) / 3).toNat) := hp
  clear hp
  go_enter Try.func8, Try.ntmps8
  go_wp2
  go_ret
  rw [Hp.out]
  exact ⟨rfl, (Below.refl _ _).alloc (Nat.le_refl _) _⟩
theorem period_31 (w : World) :
    Calls Try.prog 8 #[.int .u8 31] w fun e w' => e = .returned (.int .i64 (periodN 31)) ∧ Below w.heap.size w w' := by
  go_enter Try.func8, Try.ntmps8
  go_wp2
  go_ret
  exact ⟨rfl, Below.refl _ _⟩
theorem period_0 (w : World) :
    Calls Try.prog 8 #[.int .u8 0] w fun e w' => e = .returned (.int .i64 (periodN 0)) ∧ Below w.heap.size w w' := by
  go_enter Try.func8, Try.ntmps8
  go_wp2
  go_ret
  exact ⟨rfl, Below.refl _ _⟩
theorem period_any (r : Int) (h0 : 0 ≤ r) (h1 : r ≤ 31) (w : World) :
    Calls Try.prog 8 #[.int .u8 r] w fun e w' => e = .returned (.int .i64 (periodN r)) ∧ Below w.heap.size w w' := by
  by_cases e0 : r = 0
  · subst e0; exact period_0 w
  · by_cases e1 : r = 31
    · subst e1; exact period_31 w
    · exact period_mid r (by omega) (by omega) w
theorem period_facts : ∀ k : Nat, k < 32 → 0 ≤ periodN k ∧ periodN k ≤ 2048 ∧ (k = 0 ∨ 1 ≤ periodN k) ∧ (k = 0 ∨ k = 31 ∨ periodN (k + 1 : Nat) ≤ periodN k) := by decide

theorem ret_bool {a b : Bool} (h : a = b) : Ending.returned (.bool a) = .returned (.bool b) := by rw [h]

/-- Does a rate beat at a sample? -/
def beatsN (r n : Int) : Bool := decide (0 < periodN r) && (n.tmod (periodN r) == 0)

theorem beats_any (r n : Int) (h0 : 0 ≤ r) (h1 : r ≤ 31) (_n0 : -9223372036854775808 ≤ n) (_n1 : n ≤ 9223372036854775807) (w : World) :
    Calls Try.prog 9 #[.int .u8 r, .int .i64 n] w fun e w' => e = .returned (.bool (beatsN r n)) ∧ Below w.heap.size w w' := by
  have hf := period_facts r.toNat (by omega)
  rw [show ((r.toNat : Nat) : Int) = r from by omega] at hf
  obtain ⟨f0, f1, f2, -⟩ := hf
  by_cases hp : 0 < periodN r
  · go_enter Try.func9, Try.ntmps9
    go_wp2_with (go_at_call 8; refine (period_any _ (by omega) (by omega) _).mono ?_; rintro e w' ⟨rfl, hb⟩)
    go_ret
    exact ⟨ret_bool (by simp [beatsN, hp]), hb⟩
  · go_enter Try.func9, Try.ntmps9
    go_wp2_with (go_at_call 8; refine (period_any _ (by omega) (by omega) _).mono ?_; rintro e w' ⟨rfl, hb⟩)
    go_ret
    exact ⟨ret_bool (by simp [beatsN]; omega), hb⟩

/-! ### How often a rate beats: no Go in sight -/
theorem div_one (p x : Int) (hp : 0 < p) (h0 : p ≤ x) (h1 : x < 2 * p) : x / p = 1 := by
  rw [show x = (x - p) + 1 * p from by omega, Int.add_mul_ediv_right _ _ (by omega), Int.ediv_eq_zero_of_lt (by omega) (by omega)]; rfl
theorem div_step (p a : Int) (hp : 0 < p) : (a + 1 + p - 1) / p = (a + p - 1) / p + if a % p = 0 then 1 else 0 := by
  have hd := Int.mul_ediv_add_emod a p
  have hm0 := Int.emod_nonneg a (show p ≠ 0 from by omega)
  have hm1 := Int.emod_lt_of_pos a hp
  generalize a / p = q at *
  generalize a % p = r at *
  rw [show a + 1 + p - 1 = (r + p) + p * q from by omega, show a + p - 1 = (r + p - 1) + p * q from by omega,
    Int.add_mul_ediv_left _ _ (by omega), Int.add_mul_ediv_left _ _ (by omega), div_one p (r + p) hp (by omega) (by omega)]
  by_cases h : r = 0
  · rw [if_pos h, Int.ediv_eq_zero_of_lt (by omega) (by omega)]; omega
  · rw [if_neg h, div_one p (r + p - 1) hp (by omega) (by omega)]; omega
/-- How many of the k samples from m on are beats of period p. -/
def cntN (p m k : Int) : Int := (m + k + p - 1) / p - (m + p - 1) / p
theorem cnt_zero (p m : Int) : cntN p m 0 = 0 := by unfold cntN; rw [Int.add_zero]; omega
theorem cnt_step (p m k : Int) (hp : 0 < p) : cntN p m (k + 1) = cntN p m k + if (m + k) % p = 0 then 1 else 0 := by
  have := div_step p (m + k) hp
  unfold cntN
  rw [show m + (k + 1) + p - 1 = m + k + 1 + p - 1 from by omega, this]; omega
theorem cnt_all (p m : Int) (hp : 0 < p) : cntN p m p = 1 := by
  unfold cntN
  rw [show m + p + p - 1 = (m + p - 1) + 1 * p from by omega, Int.add_mul_ediv_right _ _ (by omega)]; omega
theorem cnt_bounds (p m : Int) (hp : 0 < p) (k : Nat) : 0 ≤ cntN p m k ∧ cntN p m k ≤ k := by
  induction k with
  | zero => rw [show ((0 : Nat) : Int) = 0 from rfl, cnt_zero]; omega
  | succ k ih =>
    rw [show ((k + 1 : Nat) : Int) = (k : Int) + 1 from by omega, cnt_step p m k hp]
    split <;> omega
theorem beats_yes (r n : Int) (h0 : 0 ≤ n) (hp : 0 < periodN r) : beatsN r n = decide (n % periodN r = 0) := by
  unfold beatsN
  rw [Int.tmod_eq_emod_of_nonneg h0, eq_comm]; simp [hp, Bool.beq_eq_decide_eq]

theorem cnt_yes {p m k : Int} {b : Bool} (hs : cntN p m (k + 1) = cntN p m k + if (m + k) % p = 0 then 1 else 0) (hb : b = decide ((m + k) % p = 0)) (hx : b = true) :
    cntN p m (k + 1) = cntN p m k + 1 := by
  rw [hs, if_pos (by simpa using hb.symm.trans hx)]
theorem cnt_no {p m k : Int} {b : Bool} (hs : cntN p m (k + 1) = cntN p m k + if (m + k) % p = 0 then 1 else 0) (hb : b = decide ((m + k) % p = 0)) (hx : b = false) :
    cntN p m (k + 1) = cntN p m k := by
  rw [hs, if_neg (by simpa using hb.symm.trans hx)]; omega

theorem law_beats_0 (n : Int) (_n0 : -9223372036854775808 ≤ n) (_n1 : n ≤ 9223372036854775807) (a0 : Int) (p0 : 0 ≤ a0) (p1 : a0 ≤ 255) (h : a0 % 32 = 0) (w : World) :
    Calls Try.prog 4 #[.int .u8 a0, .int .i64 n] w fun e w' => e = .returned (.bool true) ∧ Below w.heap.size w w' := by
  have e1 : periodN 0 = 0 := rfl
  have e2 : beatsN 0 n = false := rfl
  go_enter Try.func4, Try.ntmps4
  go_wp2_with (first | (go_at_call 8; refine (period_any _ (by omega) (by omega) _).mono ?_; rintro e w1 ⟨rfl, hb1⟩) | (go_at_call 9; refine (beats_any _ _ (by omega) (by omega) (by omega) (by omega) _).mono ?_; rintro e w2 ⟨rfl, hb2⟩))
  go_ret
  exact ⟨rfl, hb1.trans (hb2.mono hb1.size)⟩

set_option maxHeartbeats 1000000 in
theorem law_beats_1 (a0 n : Int) (p0 : 0 ≤ a0) (p1 : a0 ≤ 255) (_n0 : -9223372036854775808 ≤ n) (_n1 : n ≤ 9223372036854775807) (h : 1 ≤ a0 % 32) (w : World) :
    Calls Try.prog 4 #[.int .u8 a0, .int .i64 n] w fun e w' => e = .returned (.bool true) ∧ Below w.heap.size w w' := by
  obtain ⟨r, hr⟩ : ∃ r, a0 % 32 = r := ⟨_, rfl⟩
  rw [hr] at h
  have hr1 : r ≤ 31 := by omega
  have hf := period_facts r.toNat (by omega)
  rw [show ((r.toNat : Nat) : Int) = r from by omega, show ((r.toNat + 1 : Nat) : Int) = r + 1 from by omega] at hf
  have f1 := hf.2.1
  have f2 : 1 ≤ periodN r := by omega
  have hr0 : (r == 0) = false := by simp; omega
  obtain ⟨m, hm0, hm1, hm⟩ : ∃ m : Int, 0 ≤ m ∧ m ≤ 1152921504606846976 ∧ (if n < 0 ∨ 1152921504606846976 < n then 0 else n) = m := by
    refine ⟨_, ?_, ?_, rfl⟩ <;> split <;> omega
  have f3 : r < 31 → periodN (r + 1) ≤ periodN r := by intro _; omega
  have hP := cnt_bounds (periodN r) m (by omega)
  have HP := Lib.hid hP
  have HM := Lib.hid hm
  clear hf hP hm
  go_enter Try.func4, Try.ntmps4
  go_upto_region 5 with (go_at_call 8; refine (period_any _ (by omega) (by omega) _).mono ?_; rintro e w1 ⟨rfl, hb1⟩)
  go_cut [38] (fun s38 wx => s38 = .bool false ∧ Below w.heap.size w wx)
  case first =>
    by_cases h31 : r < 31
    · have f4 := f3 h31
      go_wp2_with (go_at_call 8; refine (period_any _ (by omega) (by omega) _).mono ?_; rintro e w2 ⟨rfl, hb2⟩)
      go_meet
      exact ⟨by simp; omega, hb1.trans (hb2.mono hb1.size)⟩
    · go_wp2
      go_meet
      exact ⟨by simp; omega, hb1⟩
  case rest =>
    obtain ⟨rfl, hb1⟩ := hcut
    go_upto_region 7 with fail
    go_cut [44] (fun s44 wx => s44 = .bool (decide (n < 0 ∨ 1152921504606846976 < n)) ∧ wc = wx)
    case first =>
      go_wp2
      all_goals
        go_meet
        exact ⟨by simp <;> omega, rfl⟩
    case rest =>
      obtain ⟨rfl, rfl⟩ := hcut
      go_upto_if 44 with fail
      go_cut [1] (fun s1 wx => s1 = .int .i64 m ∧ wc = wx)
      case first =>
        go_wp2
        · go_meet
          refine ⟨?_, rfl⟩
          have hm := HM.out
          rw [if_pos (by assumption)] at hm
          rw [hm]
        · go_meet
          refine ⟨?_, rfl⟩
          have hm := HM.out
          rw [if_neg (by omega)] at hm
          rw [hm]
      case rest =>
        obtain ⟨rfl, rfl⟩ := hcut
        go_wp2_with fail
        go_loopw [6, 7] (fun v i wr => ∃ k : Nat, (k : Int) ≤ periodN r ∧ i = .int .i64 k ∧ v = .int .i64 (cntN (periodN r) m k) ∧ Below w.heap.size w wr) (fun _ i _ => (periodN r - intOf i).toNat)
        case atStart => exact ⟨0, by omega, rfl, by rw [show ((0 : Nat) : Int) = 0 from rfl, cnt_zero], hb1⟩
        case round =>
          obtain ⟨k, hk, rfl, rfl, hbr⟩ := hrel
          have hc := HP.out k
          have hs := Lib.hid (cnt_step (periodN r) m k (by omega))
          by_cases hlt : (k : Int) < periodN r
          · have hb := Lib.hid (beats_yes r (m + k) (by omega) (by omega))
            go_wp2_with (go_at_call 9; refine (beats_any _ _ (by omega) (by omega) (by omega) (by omega) _).mono ?_; rintro e w2 ⟨rfl, hb2⟩)
            · have hx : beatsN r (m + (k : Int)) = true := by assumption
              go_roundw
              case rel => exact ⟨k + 1, by omega, by go_num, by show Value.int _ _ = Value.int _ (cntN (periodN r) m ((k : Int) + 1)); rw [cnt_yes hs.out hb.out hx], hbr.trans (hb2.mono hbr.size)⟩
              case measure => simp [intOf]; omega
            · have hx : beatsN r (m + (k : Int)) = false := by assumption
              go_roundw
              case rel => exact ⟨k + 1, by omega, by go_num, by show Value.int _ _ = Value.int _ (cntN (periodN r) m ((k : Int) + 1)); rw [cnt_no hs.out hb.out hx], hbr.trans (hb2.mono hbr.size)⟩
              case measure => simp [intOf]; omega
          · have hend : cntN (periodN r) m k = 1 := by rw [show (k : Int) = periodN r from by omega]; exact cnt_all (periodN r) m (by omega)
            go_wp2
            go_ret
            exact ⟨rfl, hbr⟩

theorem law_beats (a0 n : Int) (p0 : 0 ≤ a0) (p1 : a0 ≤ 255) (n0 : -9223372036854775808 ≤ n) (n1 : n ≤ 9223372036854775807) (w : World) :
    Calls Try.prog 4 #[.int .u8 a0, .int .i64 n] w fun e w' => e = .returned (.bool true) ∧ Below w.heap.size w w' := by
  by_cases h : a0 % 32 = 0
  · exact law_beats_0 n n0 n1 a0 p0 p1 h w
  · exact law_beats_1 a0 n p0 p1 n0 n1 (by omega) w

theorem walk_beats (a0 a1 : Int) (w : World) (w0 : (Lit.int .u8 a0).wf = true) (w1 : (Lit.int .i64 a1).wf = true) :
    Calls Try.prog 4 #[.int .u8 a0, .int .i64 a1] w fun e w' => e = .returned (.bool true) ∧ Below w.heap.size w w' := by
  have b0 := bounds_u8 w0
  have b1 := bounds_i64 w1
  exact law_beats a0 a1 (by omega) (by omega) (by omega) (by omega) w
end Go.Proofs.Ytecmebimgmmbaaa
