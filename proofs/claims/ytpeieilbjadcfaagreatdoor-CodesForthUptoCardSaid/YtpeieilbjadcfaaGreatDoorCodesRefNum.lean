/- The numbers that the document reads in a text: value, number, target. -/
import Derived.Test.YtpeieilbjadcfaaGreatDoorProg
import Derived.Test.YtpeieilbjadcfaaGreatDoorCodesPart
import Derived.Test.YtpeieilbjadcfaaGreatDoorCodesAdj
namespace Go.Proofs.YtpeieilbjadcfaaGreatDoor
open Go.RowKit
set_option linter.unusedVariables false
set_option linter.unusedSimpArgs false

/-- A digit's value; -1: it is none. -/
def valZ (c : UInt8) : Int := if isHex c = true then (hexVal c : Int) else -1
def hexT : ByteArray := ⟨#[48, 49, 50, 51, 52, 53, 54, 55, 56, 57, 97, 98, 99, 100, 101, 102]⟩
theorem hexT_at : ∀ k : Fin 16, byteN hexT k = hexD false k := by decide +kernel
theorem valZ_at (k : Nat) (h : k < 16) : valZ (hexD false k) = (k : Int) := by
  have := hexD_is ⟨k, h⟩
  dsimp only at this
  unfold valZ
  rw [if_pos this.1, this.2]
theorem valZ_none (c : UInt8) (h : ∀ k, k < 16 → c ≠ hexD false k) : valZ c = -1 := by
  have h2 : ∀ c : Fin 256, (∀ k : Fin 16, UInt8.ofNat c ≠ hexD false k) → isHex (UInt8.ofNat c) = false := by decide +kernel
  have h3 := h2 ⟨c.toNat, c.toNat_lt⟩
  simp only [UInt8.ofNat_toNat] at h3
  unfold valZ
  rw [h3 (fun k => h k k.2)]; rfl
set_option maxRecDepth 100000 in
set_option maxHeartbeats 4000000 in
theorem value_walk (c : UInt8) (w : World) :
    Calls Tryz.prog 36 #[.int .u8 c.toNat] w fun e w' => e = .returned (.int .i64 (valZ c)) ∧ w' = w := by
  have HBY := Lib.hid (byteN_of hexT)
  have HAT := Lib.hid hexT_at
  have HV := Lib.hid valZ_at
  have HN := Lib.hid (valZ_none c)
  go_enter Tryz.func36, Tryz.ntmps36
  go_upto_region 2 with fail
  go_loopw [3] (fun s3 wr => ∃ k : Nat, k ≤ 16 ∧ s3 = .int .i64 k ∧ wr = w ∧ Hid (∀ j, j < k → c ≠ hexD false j)) (fun s3 _ => 16 - (intOf s3).toNat)
  case atStart => exact ⟨0, Nat.zero_le _, rfl, rfl, Lib.hid (fun j hj => absurd hj (Nat.not_lt_zero _))⟩
  case round =>
    obtain ⟨k, hk, rfl, rfl, HA⟩ := hrel
    by_cases hlt : k < 16
    · have i1 : (k : Int) < 16 := by omega
      have i3 : IntKind.i64.wrap ((k : Int) + 1) = ((k + 1 : Nat) : Int) := by rw [IntWalk.i64_in _ (by omega)]; rfl
      have sI : k < hexT.size := hlt
      have sI' : k < (⟨#[48, 49, 50, 51, 52, 53, 54, 55, 56, 57, 97, 98, 99, 100, 101, 102]⟩ : ByteArray).size := hlt
      have hb : (⟨#[48, 49, 50, 51, 52, 53, 54, 55, 56, 57, 97, 98, 99, 100, 101, 102]⟩ : ByteArray)[k] = hexD false k := (HBY.out k sI).trans (HAT.out ⟨k, hlt⟩)
      by_cases hc : c = hexD false k
      · have b1 : (((⟨#[48, 49, 50, 51, 52, 53, 54, 55, 56, 57, 97, 98, 99, 100, 101, 102]⟩ : ByteArray)[k].toNat : Int) == (c.toNat : Int)) = true := by rw [hb, hc]; exact beq_self_eq_true _
        have HE := Lib.hid (show valZ c = (k : Int) by rw [hc]; exact HV.out k hlt)
        clear hc hb sI
        go_wp2
        go_returns
        exact ⟨by rw [HE.out]; rfl, rfl⟩
      · have b1 : (((⟨#[48, 49, 50, 51, 52, 53, 54, 55, 56, 57, 97, 98, 99, 100, 101, 102]⟩ : ByteArray)[k].toNat : Int) == (c.toNat : Int)) = false := by
          rw [hb, beq_eq_false_iff_ne]
          intro e
          exact hc (UInt8.toNat_inj.1 (Int.ofNat.inj e)).symm
        have HS := Lib.hid (show ∀ j, j < k + 1 → c ≠ hexD false j from fun j hj => by
          rcases Nat.lt_succ_iff_lt_or_eq.1 hj with h | rfl
          · exact HA.out j h
          · exact hc)
        clear hc hb sI
        go_wp2
        go_roundw
        case rel => exact ⟨k + 1, by omega, rfl, trivial, HS⟩
        case measure => simp [intOf]; omega
    · have i1 : ¬ (k : Int) < 16 := by omega
      have HE := Lib.hid (show valZ c = -1 from HN.out fun j hj => HA.out j (by omega))
      go_wp2
      go_returns
      exact ⟨by rw [HE.out]; rfl, rfl⟩
theorem valZ_hex (c : UInt8) (h : isHex c = true) : valZ c = (hexVal c : Int) := by unfold valZ; rw [if_pos h]
theorem valZ_no (c : UInt8) (h : isHex c = false) : valZ c = -1 := by unfold valZ; rw [h]; rfl

/-- The number that stands behind i bytes. -/
def preR (l : List UInt8) : Nat → Nat × Bool
  | 0 => (0, false)
  | i + 1 => ((if isHex (l[i]?.getD 0) = true ∧ (preR l i).2 = true then 16 * (preR l i).1 + hexVal (l[i]?.getD 0) else (preR l i).1), decide (l[i]?.getD 0 = 36) || isHex (l[i]?.getD 0))
theorem preR_end (l : List UInt8) : ∀ i, i ≤ l.length → numR (preR l i).1 (preR l i).2 (l.drop i) = numR 0 false l := by
  intro i
  induction i with
  | zero => intro _; rfl
  | succ i ih =>
    intro h
    rw [← ih (by omega), List.drop_eq_getElem_cons (by omega : i < l.length), numR, preR, List.getElem?_eq_getElem (by omega : i < l.length), Option.getD_some]
theorem preR_all (l : List UInt8) : (preR l l.length).1 = numR 0 false l := by
  have := preR_end l l.length (Nat.le_refl _)
  rw [List.drop_length] at this
  exact this
theorem preR_prev (l : List UInt8) (i : Nat) (hi : 0 < i) : (preR l i).2 = (decide (l[i - 1]?.getD 0 = 36) || isHex (l[i - 1]?.getD 0)) := by
  obtain ⟨j, rfl⟩ : ∃ j, i = j + 1 := ⟨i - 1, by omega⟩
  rfl
theorem wrap_step (a : Nat) (v : Nat) : wrap64 (wrap64 (16 * IntKind.i64.wrap (a : Int)) + (v : Int)) = IntKind.i64.wrap ((16 * a + v : Nat) : Int) := by
  simp only [IntKind.wrap_i64, wrap64]
  omega
set_option maxRecDepth 100000 in
set_option maxHeartbeats 4000000 in
theorem number_walk (s : ByteArray) (w : World) (hs : s.size < 9223372036854775806) :
    Calls Tryz.prog 32 #[.string s] w fun e w' => e = .returned (.int .i64 (IntKind.i64.wrap (numR 0 false s.data.toList : Nat))) ∧ w' = w := by
  have HBY := Lib.hid (byteN_of s)
  have HVW := Lib.hid (fun c W => value_walk c W)
  have HALL := Lib.hid (show (preR s.data.toList s.size).1 = numR 0 false s.data.toList by rw [← preR_all]; simp)
  go_enter Tryz.func32, Tryz.ntmps32
  go_upto_region 3 with fail
  go_loopw [3, 4] (fun s3 s4 wr => ∃ (i : Nat) (X : Int), i ≤ s.size ∧ s3 = .int .i64 X ∧ s4 = .int .i64 i ∧ wr = w ∧ Hid (X = IntKind.i64.wrap ((preR s.data.toList i).1 : Nat))) (fun s3 s4 _ => s.size - (intOf s4).toNat)
  case atStart => exact ⟨0, 0, Nat.zero_le _, rfl, rfl, rfl, Lib.hid (by show (0 : Int) = IntKind.i64.wrap 0; decide)⟩
  case round =>
    obtain ⟨i, X, hi, rfl, rfl, rfl, HX⟩ := hrel
    by_cases hlt : i < s.size
    · have i1 : (i : Int) < (s.size : Int) := by omega
      have i3 : IntKind.i64.wrap ((i : Int) + 1) = ((i + 1 : Nat) : Int) := by rw [IntWalk.i64_in _ (by omega)]; rfl
      have hb := HBY.out i hlt
      have HSTEP := Lib.hid (show (preR s.data.toList (i + 1)).1 = if isHex (byteN s i) = true ∧ (preR s.data.toList i).2 = true then 16 * (preR s.data.toList i).1 + hexVal (byteN s i) else (preR s.data.toList i).1 from rfl)
      cases hx : isHex (byteN s i) with
      | false =>
        have v1 : valZ s[i] = -1 := by rw [hb]; exact valZ_no _ hx
        have HX2 := Lib.hid (show X = IntKind.i64.wrap ((preR s.data.toList (i + 1)).1 : Nat) by rw [HX.out, HSTEP.out, if_neg (by rw [hx]; simp)])
        clear hb hx
        go_wp2_with (go_at_call 36; refine (HVW.out _ _).mono ?_; rintro e w1 ⟨rfl, rfl⟩; rw [v1])
        go_roundw
        case rel => exact ⟨i + 1, _, by omega, rfl, rfl, trivial, HX2⟩
        case measure => simp [intOf]; omega
      | true =>
        obtain ⟨v, hv⟩ : ∃ v : Nat, hexVal (byteN s i) = v := ⟨_, rfl⟩
        have v1 : valZ s[i] = (v : Int) := by rw [hb, valZ_hex _ hx, hv]
        have v0 : (0 : Int) ≤ (v : Int) := by omega
        rcases Nat.eq_zero_or_pos i with h0 | h0
        · subst h0
          have HX2 := Lib.hid (show X = IntKind.i64.wrap ((preR s.data.toList (0 + 1)).1 : Nat) by rw [HX.out, HSTEP.out, if_neg (fun h => by cases (show false = true from h.2))])
          clear hb hx hv
          go_wp2_with (go_at_call 36; refine (HVW.out _ _).mono ?_; rintro e w1 ⟨rfl, rfl⟩; rw [v1])
          go_roundw
          case rel => exact ⟨0 + 1, _, by omega, rfl, rfl, trivial, HX2⟩
          case measure => simp [intOf]; omega
        · obtain ⟨j, rfl⟩ : ∃ j, i = j + 1 := ⟨i - 1, by omega⟩
          have i5 : (0 : Int) < ((j + 1 : Nat) : Int) := by omega
          have i4 : IntKind.i64.wrap (((j + 1 : Nat) : Int) - 1) = (j : Int) := by rw [IntWalk.i64_in _ (by omega)]; omega
          have hj : j < s.size := by omega
          have hbj := HBY.out j hj
          have HPV := Lib.hid (show (preR s.data.toList (j + 1)).2 = (decide (byteN s j = 36) || isHex (byteN s j)) from rfl)
          have HW := Lib.hid (show wrap64 (wrap64 (16 * X) + (v : Int)) = IntKind.i64.wrap ((16 * (preR s.data.toList (j + 1)).1 + v : Nat) : Int) by rw [HX.out]; exact wrap_step _ _)
          rw [hv] at HSTEP
          by_cases hp : byteN s j = 36
          · have b1 : (((s[j].toNat : Nat) : Int) == 36) = true := by rw [hbj, hp]; rfl
            have HX2 := Lib.hid (show wrap64 (wrap64 (16 * X) + (v : Int)) = IntKind.i64.wrap ((preR s.data.toList (j + 1 + 1)).1 : Nat) by rw [HW.out, HSTEP.out, if_pos ⟨hx, by rw [HPV.out, hp]; rfl⟩])
            clear hb hx hv hp hbj HW
            go_wp2_with (go_at_call 36; refine (HVW.out _ _).mono ?_; rintro e w1 ⟨rfl, rfl⟩; rw [v1])
            go_roundw
            case rel => exact ⟨j + 1 + 1, _, by omega, rfl, rfl, trivial, HX2⟩
            case measure => simp [intOf]; omega
          · have b1 : (((s[j].toNat : Nat) : Int) == 36) = false := by
              rw [hbj, beq_eq_false_iff_ne]
              intro e
              exact hp (UInt8.toNat_inj.1 (Int.ofNat.inj e))
            cases hxj : isHex (byteN s j) with
            | false =>
              have vj : valZ s[j] = -1 := by rw [hbj]; exact valZ_no _ hxj
              have HX2 := Lib.hid (show X = IntKind.i64.wrap ((preR s.data.toList (j + 1 + 1)).1 : Nat) by rw [HX.out, HSTEP.out, if_neg (by rw [HPV.out, hxj]; simp [hp])])
              clear hb hx hv hp hbj HW hxj
              go_wp2_with (go_at_call 36; refine (HVW.out _ _).mono ?_; rintro e w1 ⟨rfl, rfl⟩; first | rw [v1] | rw [vj])
              go_roundw
              case rel => exact ⟨j + 1 + 1, _, by omega, rfl, rfl, trivial, HX2⟩
              case measure => simp [intOf]; omega
            | true =>
              obtain ⟨v2, hv2⟩ : ∃ v2 : Nat, hexVal (byteN s j) = v2 := ⟨_, rfl⟩
              have vj : valZ s[j] = (v2 : Int) := by rw [hbj, valZ_hex _ hxj, hv2]
              have v02 : (0 : Int) ≤ (v2 : Int) := by omega
              have HX2 := Lib.hid (show wrap64 (wrap64 (16 * X) + (v : Int)) = IntKind.i64.wrap ((preR s.data.toList (j + 1 + 1)).1 : Nat) by rw [HW.out, HSTEP.out, if_pos ⟨hx, by rw [HPV.out, hxj]; simp⟩])
              clear hb hx hv hp hbj HW hxj hv2
              go_wp2_with (go_at_call 36; refine (HVW.out _ _).mono ?_; rintro e w1 ⟨rfl, rfl⟩; first | rw [v1] | rw [vj])
              go_roundw
              case rel => exact ⟨j + 1 + 1, _, by omega, rfl, rfl, trivial, HX2⟩
              case measure => simp [intOf]; omega
    · have HE := Lib.hid (show X = IntKind.i64.wrap (numR 0 false s.data.toList : Nat) by rw [HX.out, show i = s.size by omega, HALL.out])
      have i1 : ¬ (i : Int) < (s.size : Int) := by omega
      go_wp2
      go_returns
      exact ⟨by rw [HE.out]; rfl, rfl⟩
end Go.Proofs.YtpeieilbjadcfaaGreatDoor
