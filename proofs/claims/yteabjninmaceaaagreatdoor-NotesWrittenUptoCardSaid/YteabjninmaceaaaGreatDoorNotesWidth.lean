/- How many bytes a letter's operand has: the program's Width, the document's. (Numbers of chapter 10's seat D.) -/
import Derived.Test.YteabjninmaceaaaGreatDoorProg
import Derived.Test.YteabjninmaceaaaGreatDoorNotesTab
namespace Go.Proofs.YteabjninmaceaaaGreatDoor
open Go.RowKit
set_option linter.unusedVariables false
set_option linter.unusedSimpArgs false

def widthN (c : Nat) : Nat := widthC (UInt8.ofNat c)
set_option maxRecDepth 100000 in
set_option maxHeartbeats 4000000 in
theorem width_walk (c : Nat) (hc : c < 256) (w : World) :
    Calls Tryz.prog 24 #[.int .u8 c] w fun e w' => e = .returned (.int .i64 (widthN c : Nat)) ∧ w' = w := by
  by_cases h35 : c = 35
  · subst h35
    go_enter Tryz.func24, Tryz.ntmps24
    go_wp2_with fail
    go_returns
    exact ⟨rfl, rfl⟩
  by_cases h100 : c = 100
  · subst h100
    go_enter Tryz.func24, Tryz.ntmps24
    go_wp2_with fail
    go_returns
    exact ⟨rfl, rfl⟩
  by_cases h120 : c = 120
  · subst h120
    go_enter Tryz.func24, Tryz.ntmps24
    go_wp2_with fail
    go_returns
    exact ⟨rfl, rfl⟩
  by_cases h121 : c = 121
  · subst h121
    go_enter Tryz.func24, Tryz.ntmps24
    go_wp2_with fail
    go_returns
    exact ⟨rfl, rfl⟩
  by_cases h68 : c = 68
  · subst h68
    go_enter Tryz.func24, Tryz.ntmps24
    go_wp2_with fail
    go_returns
    exact ⟨rfl, rfl⟩
  by_cases h108 : c = 108
  · subst h108
    go_enter Tryz.func24, Tryz.ntmps24
    go_wp2_with fail
    go_returns
    exact ⟨rfl, rfl⟩
  by_cases h109 : c = 109
  · subst h109
    go_enter Tryz.func24, Tryz.ntmps24
    go_wp2_with fail
    go_returns
    exact ⟨rfl, rfl⟩
  by_cases h114 : c = 114
  · subst h114
    go_enter Tryz.func24, Tryz.ntmps24
    go_wp2_with fail
    go_returns
    exact ⟨rfl, rfl⟩
  by_cases h98 : c = 98
  · subst h98
    go_enter Tryz.func24, Tryz.ntmps24
    go_wp2_with fail
    go_returns
    exact ⟨rfl, rfl⟩
  by_cases h117 : c = 117
  · subst h117
    go_enter Tryz.func24, Tryz.ntmps24
    go_wp2_with fail
    go_returns
    exact ⟨rfl, rfl⟩
  by_cases h97 : c = 97
  · subst h97
    go_enter Tryz.func24, Tryz.ntmps24
    go_wp2_with fail
    go_returns
    exact ⟨rfl, rfl⟩
  by_cases h112 : c = 112
  · subst h112
    go_enter Tryz.func24, Tryz.ntmps24
    go_wp2_with fail
    go_returns
    exact ⟨rfl, rfl⟩
  by_cases h113 : c = 113
  · subst h113
    go_enter Tryz.func24, Tryz.ntmps24
    go_wp2_with fail
    go_returns
    exact ⟨rfl, rfl⟩
  by_cases h42 : c = 42
  · subst h42
    go_enter Tryz.func24, Tryz.ntmps24
    go_wp2_with fail
    go_returns
    exact ⟨rfl, rfl⟩
  by_cases h110 : c = 110
  · subst h110
    go_enter Tryz.func24, Tryz.ntmps24
    go_wp2_with fail
    go_returns
    exact ⟨rfl, rfl⟩
  by_cases h47 : c = 47
  · subst h47
    go_enter Tryz.func24, Tryz.ntmps24
    go_wp2_with fail
    go_returns
    exact ⟨rfl, rfl⟩
  have e35 : ((c : Int) == 35) = false := by rw [beq_eq_false_iff_ne]; omega
  have e100 : ((c : Int) == 100) = false := by rw [beq_eq_false_iff_ne]; omega
  have e120 : ((c : Int) == 120) = false := by rw [beq_eq_false_iff_ne]; omega
  have e121 : ((c : Int) == 121) = false := by rw [beq_eq_false_iff_ne]; omega
  have e68 : ((c : Int) == 68) = false := by rw [beq_eq_false_iff_ne]; omega
  have e108 : ((c : Int) == 108) = false := by rw [beq_eq_false_iff_ne]; omega
  have e109 : ((c : Int) == 109) = false := by rw [beq_eq_false_iff_ne]; omega
  have e114 : ((c : Int) == 114) = false := by rw [beq_eq_false_iff_ne]; omega
  have e98 : ((c : Int) == 98) = false := by rw [beq_eq_false_iff_ne]; omega
  have e117 : ((c : Int) == 117) = false := by rw [beq_eq_false_iff_ne]; omega
  have e97 : ((c : Int) == 97) = false := by rw [beq_eq_false_iff_ne]; omega
  have e112 : ((c : Int) == 112) = false := by rw [beq_eq_false_iff_ne]; omega
  have e113 : ((c : Int) == 113) = false := by rw [beq_eq_false_iff_ne]; omega
  have e42 : ((c : Int) == 42) = false := by rw [beq_eq_false_iff_ne]; omega
  have e110 : ((c : Int) == 110) = false := by rw [beq_eq_false_iff_ne]; omega
  have e47 : ((c : Int) == 47) = false := by rw [beq_eq_false_iff_ne]; omega
  have HE := Lib.hid (show widthN c = 0 by
    have h2 : ∀ c : Fin 256, [35, 100, 120, 121, 68, 108, 109, 114, 98, 117, 97, 112, 113, 42, 110, 47].contains (c : Nat) = false → widthN c = 0 := by decide +kernel
    exact h2 ⟨c, hc⟩ (by simp; omega))
  go_enter Tryz.func24, Tryz.ntmps24
  go_wp2_with fail
  go_returns
  exact ⟨by rw [HE.out]; rfl, rfl⟩
def hasC (s : ByteArray) (c : Nat) (i : Nat) : Bool := (s.data.toList.drop i).any fun b => b.toNat == c
theorem hasC_step (s : ByteArray) (c i : Nat) (h : i < s.size) : hasC s c i = ((s[i]'h).toNat == c || hasC s c (i + 1)) := by
  unfold hasC
  have h2 : i < s.data.toList.length := by simpa using h
  rw [List.drop_eq_getElem_cons h2, List.any_cons]
  rfl
theorem hasC_end (s : ByteArray) (c i : Nat) (h : s.size ≤ i) : hasC s c i = false := by
  unfold hasC
  rw [List.drop_of_length_le (by simpa using h)]; rfl
set_option maxRecDepth 100000 in
set_option maxHeartbeats 4000000 in
theorem in_walk (s : ByteArray) (c : Nat) (hs : s.size < 1000) (w : World) :
    Calls Tryz.prog 30 #[.string s, .int .u8 c] w fun e w' => e = .returned (.bool (hasC s c 0)) ∧ w' = w := by
  have HST := Lib.hid (hasC_step s c)
  have HEN := Lib.hid (hasC_end s c)
  obtain ⟨R, hR⟩ : ∃ R, hasC s c 0 = R := ⟨_, rfl⟩
  rw [hR]
  go_enter Tryz.func30, Tryz.ntmps30
  go_upto_region 2 with fail
  go_loopw [5] (fun s5 wr => ∃ i : Nat, i ≤ s.size ∧ s5 = .int .i64 i ∧ wr = w ∧ Hid (hasC s c i = R)) (fun s5 _ => s.size - (intOf s5).toNat)
  case atStart => exact ⟨0, Nat.zero_le _, rfl, rfl, Lib.hid hR⟩
  case round =>
    obtain ⟨i, hi, rfl, rfl, HG⟩ := hrel
    by_cases hlt : i < s.size
    · have b1 : (i : Int) < (s.size : Int) := by omega
      have j1 : IntKind.i64.wrap ((i : Int) + 1) = ((i + 1 : Nat) : Int) := by rw [IntWalk.i64_in _ (by omega)]; rfl
      have hst := HST.out i hlt
      obtain ⟨y, hy⟩ : ∃ y, (s[i]'hlt).toNat = y := ⟨_, rfl⟩
      rw [hy] at hst
      by_cases hyc : y = c
      · have e1 : ((y : Int) == (c : Int)) = true := by rw [hyc]; exact beq_self_eq_true _
        have HE := Lib.hid (show R = true by rw [← HG.out, hst, hyc]; simp)
        clear hst hyc
        go_wp2_with fail
        go_returns
        exact ⟨by rw [HE.out]; rfl, rfl⟩
      · have e1 : ((y : Int) == (c : Int)) = false := by rw [beq_eq_false_iff_ne]; omega
        have HE := Lib.hid (show hasC s c (i + 1) = R by rw [← HG.out, hst]; simp [hyc])
        clear hst hyc
        go_wp2_with fail
        go_roundw
        case rel => exact ⟨i + 1, by omega, by go_num, trivial, HE⟩
        case measure => simp [intOf]; omega
    · have b1 : ¬ (i : Int) < (s.size : Int) := by omega
      have HE := Lib.hid (show R = false by rw [← HG.out, HEN.out i (by omega)])
      go_wp2_with fail
      go_returns
      exact ⟨by rw [HE.out]; rfl, rfl⟩
def w1T : ByteArray := ⟨#[35, 100, 120, 121, 68, 108, 109, 114, 98, 117]⟩
def w2T : ByteArray := ⟨#[97, 112, 113, 42, 110, 47]⟩
theorem width_two : ∀ c : Fin 256, widthN c = if hasC w1T c 0 = true then 1 else if hasC w2T c 0 = true then 2 else 0 := by decide +kernel
set_option maxRecDepth 100000 in
set_option maxHeartbeats 4000000 in
theorem refWidth_walk (c : Nat) (hc : c < 256) (w : World) :
    Calls Tryz.prog 15 #[.int .u8 c] w fun e w' => e = .returned (.int .i64 (widthN c : Nat)) ∧ w' = w := by
  have hw := width_two ⟨c, hc⟩
  dsimp only at hw
  have H1 := Lib.hid (in_walk w1T c (by decide) w)
  have H2 := Lib.hid (in_walk w2T c (by decide) w)
  cases h1 : hasC w1T c 0
  · cases h2 : hasC w2T c 0
    · rw [h1, h2, if_neg (by decide), if_neg (by decide)] at hw
      have HE := Lib.hid hw
      rw [h1] at H1
      rw [h2] at H2
      clear hw h1 h2
      go_enter Tryz.func15, Tryz.ntmps15
      go_upto_region 3 with (go_at_call 30; refine H1.out.mono ?_; rintro e w1 ⟨rfl, rfl⟩)
      go_wp2_with (go_at_call 30; refine H2.out.mono ?_; rintro e w1 ⟨rfl, rfl⟩)
      go_returns
      exact ⟨by rw [HE.out]; rfl, rfl⟩
    · rw [h1, h2, if_neg (by decide), if_pos rfl] at hw
      have HE := Lib.hid hw
      rw [h1] at H1
      rw [h2] at H2
      clear hw h1 h2
      go_enter Tryz.func15, Tryz.ntmps15
      go_upto_region 3 with (go_at_call 30; refine H1.out.mono ?_; rintro e w1 ⟨rfl, rfl⟩)
      go_wp2_with (go_at_call 30; refine H2.out.mono ?_; rintro e w1 ⟨rfl, rfl⟩)
      go_returns
      exact ⟨by rw [HE.out]; rfl, rfl⟩
  · rw [h1, if_pos rfl] at hw
    have HE := Lib.hid hw
    rw [h1] at H1
    clear hw h1
    go_enter Tryz.func15, Tryz.ntmps15
    go_wp2_with (go_at_call 30; refine H1.out.mono ?_; rintro e w1 ⟨rfl, rfl⟩)
    go_returns
    exact ⟨by rw [HE.out]; rfl, rfl⟩
end Go.Proofs.YteabjninmaceaaaGreatDoor
