/- The document's helpers on texts: part, row, Sign, in, width, use. -/
import Derived.Test.YtpeieilbjadcfaaGreatDoorProg
import Derived.Test.YtpeieilbjadcfaaGreatDoorCodesOf
import Derived.Lib.Bytes
namespace Go.Proofs.YtpeieilbjadcfaaGreatDoor
open Go.RowKit
set_option linter.unusedVariables false
set_option linter.unusedSimpArgs false

theorem ret_str {a b : ByteArray} (h : a = b) : Ending.returned (.string a) = .returned (.string b) := by rw [h]
theorem strEq_true {a b : ByteArray} (h : a = b) : (a.toList == b.toList) = true := by rw [h]; exact beq_self_eq_true _
theorem strEq_false {a b : ByteArray} (h : ¬ a = b) : (a.toList == b.toList) = false := by
  rw [beq_eq_false_iff_ne, Lib.toList_data, Lib.toList_data]
  intro e
  exact h (ByteArray.ext (Array.toList_inj.1 e))
theorem strEqL_true {a : ByteArray} {l : List UInt8} (h : a = ⟨l.toArray⟩) : (a.toList == l) = true := by
  have := strEq_true h
  rwa [Lib.toList_data ⟨l.toArray⟩] at this
theorem strEqL_false {a : ByteArray} {l : List UInt8} (h : ¬ a = ⟨l.toArray⟩) : (a.toList == l) = false := by
  have := strEq_false h
  rwa [Lib.toList_data ⟨l.toArray⟩] at this
def natOf (v : Value) : Nat := (intOf v).toNat
theorem partG_at (s : ByteArray) (c : UInt8) (n fr i : Nat) (h : i ≤ s.size) : partG s c (s.size + 1 - i) n fr i = if i = s.size ∨ byteN s i = c then (if n = 0 then s.extract fr i else partG s c (s.size + 1 - (i + 1)) (n - 1) (i + 1) (i + 1)) else partG s c (s.size + 1 - (i + 1)) n fr (i + 1) := by
  rw [show s.size + 1 - i = (s.size + 1 - (i + 1)) + 1 by omega, partG]
theorem partG_end (s : ByteArray) (c : UInt8) (n fr i : Nat) (h : s.size < i) : partG s c (s.size + 1 - i) n fr i = ⟨#[]⟩ := by
  rw [show s.size + 1 - i = 0 by omega, partG]

set_option maxRecDepth 100000 in
set_option maxHeartbeats 4000000 in
theorem part_walk (s : ByteArray) (n : Nat) (c : UInt8) (w : World) (hs : s.size < 9223372036854775806) (hn : n < 9223372036854775807) :
    Calls Tryz.prog 14 #[.string s, .int .i64 n, .int .u8 c.toNat] w fun e w' => e = .returned (.string (partB s n c)) ∧ w' = w := by
  have HR := Lib.hid (show partG s c (s.size + 1 - 0) n 0 0 = partB s n c from rfl)
  obtain ⟨R, hR⟩ : ∃ R, partB s n c = R := ⟨_, rfl⟩
  rw [hR] at HR ⊢
  clear hR
  have HAT := Lib.hid (partG_at s c)
  have HEND := Lib.hid (partG_end s c)
  have HBY := Lib.hid (byteN_of s)
  go_enter Tryz.func14, Tryz.ntmps14
  go_upto_region 3 with fail
  go_loopw [1, 7, 8] (fun s1 s7 s8 wr => ∃ (m fr i : Nat), i ≤ s.size + 1 ∧ fr ≤ i ∧ m < 9223372036854775807 ∧ s1 = .int .i64 m ∧ s7 = .int .i64 fr ∧ s8 = .int .i64 i ∧ wr = w ∧ Hid (partG s c (s.size + 1 - i) m fr i = R)) (fun s1 s7 s8 _ => s.size + 2 - (intOf s8).toNat)
  case atStart => exact ⟨n, 0, 0, Nat.zero_le _, Nat.le_refl _, hn, rfl, rfl, rfl, rfl, HR⟩
  case round =>
    obtain ⟨m, fr, i, hi, hf, hm, rfl, rfl, rfl, rfl, HG⟩ := hrel
    by_cases hlt : i ≤ s.size
    · have HA := Lib.hid (HG.out.symm.trans (HAT.out m fr i hlt))
      have i1 : (i : Int) ≤ (s.size : Int) := by omega
      have i2 : (fr : Int) ≤ (i : Int) := by omega
      have i3 : IntKind.i64.wrap ((i : Int) + 1) = ((i + 1 : Nat) : Int) := by rw [IntWalk.i64_in _ (by omega)]; rfl
      by_cases he : i = s.size
      · have b1 : ((i : Int) == (s.size : Int)) = true := by rw [he]; exact beq_self_eq_true _
        by_cases h0 : m = 0
        · subst h0
          have HE := Lib.hid (show R = s.extract fr i by rw [HA.out, if_pos (.inl he), if_pos rfl])
          clear he
          go_wp2
          go_returns
          exact ⟨ret_str HE.out.symm, rfl⟩
        · have b2 : ((m : Int) == 0) = false := by rw [beq_eq_false_iff_ne]; omega
          have i4 : IntKind.i64.wrap ((m : Int) - 1) = ((m - 1 : Nat) : Int) := by rw [IntWalk.i64_in _ (by omega)]; omega
          have HE := Lib.hid (show partG s c (s.size + 1 - (i + 1)) (m - 1) (i + 1) (i + 1) = R by rw [HA.out, if_pos (.inl he), if_neg h0])
          clear he h0
          go_wp2
          go_roundw
          case rel => exact ⟨m - 1, i + 1, i + 1, by omega, Nat.le_refl _, by omega, rfl, rfl, rfl, trivial, HE⟩
          case measure => simp [intOf]; omega
      · have b1 : ((i : Int) == (s.size : Int)) = false := by rw [beq_eq_false_iff_ne]; omega
        have sI : i < s.size := by omega
        have hb := HBY.out i sI
        by_cases hc : byteN s i = c
        · have b3 : (((s[i].toNat : Nat) : Int) == ((c.toNat : Nat) : Int)) = true := by rw [hb, hc]; exact beq_self_eq_true _
          by_cases h0 : m = 0
          · subst h0
            have HE := Lib.hid (show R = s.extract fr i by rw [HA.out, if_pos (.inr hc), if_pos rfl])
            clear hc hb he
            go_wp2
            go_returns
            exact ⟨ret_str HE.out.symm, rfl⟩
          · have b2 : ((m : Int) == 0) = false := by rw [beq_eq_false_iff_ne]; omega
            have i4 : IntKind.i64.wrap ((m : Int) - 1) = ((m - 1 : Nat) : Int) := by rw [IntWalk.i64_in _ (by omega)]; omega
            have HE := Lib.hid (show partG s c (s.size + 1 - (i + 1)) (m - 1) (i + 1) (i + 1) = R by rw [HA.out, if_pos (.inr hc), if_neg h0])
            clear hc hb he h0
            go_wp2
            go_roundw
            case rel => exact ⟨m - 1, i + 1, i + 1, by omega, Nat.le_refl _, by omega, rfl, rfl, rfl, trivial, HE⟩
            case measure => simp [intOf]; omega
        · have b3 : (((s[i].toNat : Nat) : Int) == ((c.toNat : Nat) : Int)) = false := by
            rw [hb, beq_eq_false_iff_ne]
            intro e
            exact hc (UInt8.toNat_inj.1 (Int.ofNat.inj e))
          have HE := Lib.hid (show partG s c (s.size + 1 - (i + 1)) m fr (i + 1) = R by rw [HA.out, if_neg (by rintro (h | h); exact he h; exact hc h)])
          clear hc hb he
          go_wp2
          go_roundw
          case rel => exact ⟨m, fr, i + 1, by omega, by omega, hm, rfl, rfl, rfl, trivial, HE⟩
          case measure => simp [intOf]; omega
    · have i1 : ¬ (i : Int) ≤ (s.size : Int) := by omega
      have HE := Lib.hid (show R = ⟨#[]⟩ from HG.out.symm.trans (HEND.out m fr i (by omega)))
      go_wp2
      go_returns
      exact ⟨ret_str HE.out.symm, rfl⟩

theorem inG_at (name t : ByteArray) (i : Nat) (h : i + 3 ≤ t.size) : inG name t (t.size + 1 - i) i = if t.extract i (i + 3) = name then true else inG name t (t.size + 1 - i - 1) (i + 4) := by
  rw [show t.size + 1 - i = (t.size + 1 - i - 1) + 1 by omega, inG, if_pos h]; rfl
theorem inG_fuel (name t : ByteArray) : ∀ f g i, t.size + 1 - i ≤ f → t.size + 1 - i ≤ g → inG name t f i = inG name t g i
  | 0, 0, _, _, _ => rfl
  | 0, g + 1, i, h, _ => by rw [inG, inG, if_neg (by omega)]
  | f + 1, 0, i, _, h => by rw [inG, inG, if_neg (by omega)]
  | f + 1, g + 1, i, hf, hg => by
    rw [inG, inG]
    split
    · split
      · rfl
      · exact inG_fuel name t f g (i + 4) (by omega) (by omega)
    · rfl
theorem inG_end (name t : ByteArray) (i : Nat) (h : ¬ i + 3 ≤ t.size) : inG name t (t.size + 1 - i) i = false := by
  rcases t.size + 1 - i with _ | f
  · rfl
  · rw [inG, if_neg h]
theorem inG_next (name t : ByteArray) (i : Nat) (h : i + 3 ≤ t.size) (hn : ¬ t.extract i (i + 3) = name) : inG name t (t.size + 1 - i) i = inG name t (t.size + 1 - (i + 4)) (i + 4) := by
  rw [inG_at name t i h, if_neg hn]
  exact inG_fuel name t _ _ _ (by omega) (by omega)

set_option maxRecDepth 100000 in
set_option maxHeartbeats 4000000 in
theorem in_walk (name t : ByteArray) (w : World) (ht : t.size < 1000) :
    Calls Tryz.prog 48 #[.string name, .string t] w fun e w' => e = .returned (.bool (inB name t)) ∧ w' = w := by
  have HR := Lib.hid (show inG name t (t.size + 1 - 0) 0 = inB name t from rfl)
  obtain ⟨R, hR⟩ : ∃ R, inB name t = R := ⟨_, rfl⟩
  rw [hR] at HR ⊢
  clear hR
  have HAT := Lib.hid (inG_at name t)
  have HEND := Lib.hid (inG_end name t)
  have HNX := Lib.hid (inG_next name t)
  go_enter Tryz.func48, Tryz.ntmps48
  go_upto_region 2 with fail
  go_loopw [5] (fun s5 wr => ∃ (i : Nat), i ≤ t.size + 4 ∧ s5 = .int .i64 i ∧ wr = w ∧ Hid (inG name t (t.size + 1 - i) i = R)) (fun s5 _ => t.size + 10 - (intOf s5).toNat)
  case atStart => exact ⟨0, Nat.zero_le _, rfl, rfl, HR⟩
  case round =>
    obtain ⟨i, hi, rfl, rfl, HG⟩ := hrel
    have i1 : IntKind.i64.wrap ((i : Int) + 3) = ((i + 3 : Nat) : Int) := by rw [IntWalk.i64_in _ (by omega)]; omega
    have i2 : IntKind.i64.wrap ((i : Int) + 4) = ((i + 4 : Nat) : Int) := by rw [IntWalk.i64_in _ (by omega)]; omega
    by_cases hlt : i + 3 ≤ t.size
    · have i3 : ((i + 3 : Nat) : Int) ≤ (t.size : Int) := by omega
      have i4 : (i : Int) ≤ ((i + 3 : Nat) : Int) := by omega
      by_cases he : t.extract i (i + 3) = name
      · have HE := Lib.hid (show R = true by rw [← HG.out, HAT.out i hlt, if_pos he])
        have b1 := strEq_true he
        clear he
        go_wp2
        go_returns
        exact ⟨ret_bool HE.out.symm, rfl⟩
      · have HE := Lib.hid (show inG name t (t.size + 1 - (i + 4)) (i + 4) = R by rw [← HNX.out i hlt he]; exact HG.out)
        have b1 := strEq_false he
        clear he
        go_wp2
        go_roundw
        case rel => exact ⟨i + 4, by omega, by go_num, trivial, HE⟩
        case measure => simp [intOf]; omega
    · have i3 : ¬ ((i + 3 : Nat) : Int) ≤ (t.size : Int) := by omega
      have HE := Lib.hid (show R = false from HG.out.symm.trans (HEND.out i hlt))
      go_wp2
      go_returns
      exact ⟨ret_bool HE.out.symm, rfl⟩
set_option maxRecDepth 100000 in
set_option maxHeartbeats 8000000 in
theorem row_walk (r : Nat) (hr : r < 16) (w : World) :
    Calls Tryz.prog 28 #[.int .i64 r] w fun e w' => e = .returned (.string (rowB r)) ∧ w' = w := by
  rcases (show r = 0 ∨ r = 1 ∨ r = 2 ∨ r = 3 ∨ r = 4 ∨ r = 5 ∨ r = 6 ∨ r = 7 ∨ r = 8 ∨ r = 9 ∨ r = 10 ∨ r = 11 ∨ r = 12 ∨ r = 13 ∨ r = 14 ∨ r = 15 by omega) with rfl | rfl | rfl | rfl | rfl | rfl | rfl | rfl | rfl | rfl | rfl | rfl | rfl | rfl | rfl | rfl
  all_goals
    clear hr
    go_enter Tryz.func28, Tryz.ntmps28
    go_wp2_with fail
    go_returns
    exact ⟨rfl, rfl⟩
set_option maxRecDepth 100000 in
set_option maxHeartbeats 4000000 in
theorem sign_walk (m : Nat) (hm : m < 256) (w : World) :
    Calls Tryz.prog 29 #[.int .u8 m] w fun e w' => e = .returned (.string (signB m)) ∧ w' = w := by
  have HP := Lib.hid (part_walk signsT m 124 w (by decide) (by omega))
  have HS := Lib.hid (show partB signsT m 124 = signB m from rfl)
  go_enter Tryz.func29, Tryz.ntmps29
  go_upto_region 1 with fail
  conv in (ByteArray.mk (List.toArray (List.append _ _))) => change signsT
  obtain ⟨S, hS⟩ : ∃ S, signsT = S := ⟨_, rfl⟩
  rw [hS] at HP HS ⊢
  go_wp2_with (go_at_call 14; refine HP.out.mono ?_; rintro e w1 ⟨rfl, rfl⟩)
  go_returns
  exact ⟨ret_str HS.out, rfl⟩
end Go.Proofs.YtpeieilbjadcfaaGreatDoor
